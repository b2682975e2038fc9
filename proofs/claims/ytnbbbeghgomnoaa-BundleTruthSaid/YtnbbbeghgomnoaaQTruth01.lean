/-
  Words and walks that the proof of BundleTruth leans on, part 1 of 2.
-/
import Derived.Test.YtnbbbeghgomnoaaQBase05
import Derived.Below
import Derived.Deep.Draws
import Derived.Deep.AppendLies
import Derived.Maps.AppendAt
import Derived.OwnWalk
import Derived.Laws.BytesArg
import Derived.Laws.MakeOwn
import Derived.Laws.OwnMore
import Derived.Deep.OwnRows
import Derived.Tactics
import Derived.Lib.ConvBytes
import Derived.Laws.Slices
import Derived.WalkKit
import Derived.KernelRfl
import Derived.RowKit3
import Derived.Deep.LoopGhost
import Derived.Deep.QuietTactic
import Derived.BigQuiet
import Derived.WideLaws
import Derived.Deep.DeepCutAuto
import Derived.Deep.CutBlock
import Derived.Deep.RegionHeld3
import Derived.Laws.Rows
import Derived.Lib.AppendStr
import Derived.ArgAppend
import Derived.Laws.IdiomCopy
import Derived.RowKit
import Derived.Test.YtnbbbeghgomnoaaProg
import Derived.OrdersHeld
import Derived.Laws.BitsLemmas
import Derived.Deep.DeepMust
import Derived.Test.YtnbbbeghgomnoaaRows
import Derived.ProofKit
import Derived.OpenShut
import Derived.ShutString
import Derived.ChangeOld
import Derived.SizedLaws
set_option linter.unusedVariables false
set_option linter.unusedSimpArgs false
set_option linter.unusedVariables false
set_option linter.unusedSimpArgs false
namespace Go.Proofs.YtnbbbeghgomnoaaW.PrintWords
open Go.RowKit
section
variable {P : Program} {ops : Array Oper} {rest : List Oper} {o : Oper} {a : Act} {Q : Exit → Act → World → Prop}
end
section
variable {P : Program}
end
section
variable {P : Program} {ops : Array Oper} {rest : List Oper} {o : Oper} {a : Act} {Q : Exit → Act → World → Prop}
end
section
variable {P : Program} {ops : Array Oper} {rest : List Oper} {o : Oper} {a : Act} {Q : Exit → Act → World → Prop}
end
theorem blk_ne {w : World} {g g' : Nat} {t t' : TypeId} {cs cs' : Array Value} (h : w.heap[g]? = some (.cells cs t (0, 0))) (h' : w.heap[g']? = some (.cells cs' t' (0, 0))) (hne : t ≠ t') : g ≠ g' := by
 rintro rfl
 rw [h] at h'
 injection h' with h'
 injection h' with _ ht
 exact hne ht
section
variable {P : Program} {ops : Array Oper} {o : Oper} {a : Act} {Q : Exit → Act → World → Prop} {K : Act → World → Prop}
end
section
variable {α : Type} {enc : α → Value} {d : α}
end
section
variable {α : Type} {P : Program} {ops : Array Oper} {rest : List Oper} {o : Oper} {a : Act} {Q : Exit → Act → World → Prop}
end
section
variable {P : Program}
end
section
variable {α : Type} {R R' : α → List Value → Prop} {e : TypeId} {size : Nat} {w w1 : World} {base : Nat} {v : Value} {ps : List α}
theorem OwnRow.lower (h : OwnRow R e size w base v ps) {base' : Nat} (hb : base' ≤ base) : OwnRow R e size w base' v ps := by
 obtain ⟨inner, ho, hr⟩ := h
 exact ⟨inner, own_weaken ho hb, hr⟩
end
section
variable {P : Program} {ops : Array Oper} {rest : List Oper} {o : Oper} {a : Act} {Q : Exit → Act → World → Prop} {α : Type} {R : α → List Value → Prop}
end
section
variable {P : Program} {ops : Array Oper} {o : Oper} {a : Act} {Q : Exit → Act → World → Prop} {K : Act → World → Prop} {α : Type} {R : α → List Value → Prop}
end
section
variable {α : Type} {P : Program}
end
section
variable {P : Program} {ops : Array Oper} {rest : List Oper} {o : Oper} {a : Act} {Q : Exit → Act → World → Prop}
end
namespace Kd
section
variable {α : Type} {d : Kd α} {e : Nat} {w w1 : World} {base : Nat} {ok ok' : Nat → Prop} {v : Value} {xs : List α}
end
section
variable {P : Program} {ops : Array Oper} {rest : List Oper} {o : Oper} {a : Act} {Q : Exit → Act → World → Prop} {α : Type}
end
section
variable {P : Program} {ops : Array Oper} {o : Oper} {a : Act} {Q : Exit → Act → World → Prop} {Kc : Act → World → Prop} {α : Type}
end
end Kd
namespace Kd
section
variable {α : Type} {F : Kd α → Kd α} {sz : Nat} {E : List Nat} {hs : ∀ n, (upto F sz E n).sz = sz} {hE : ∀ n q, q ∈ (upto F sz E n).E → q ∈ E}
end
end Kd
namespace Kd
end Kd
namespace Kd
section
variable {α β : Type} {d : Kd α} {d' : Kd β} {e e' : Nat} {w w1 W : World} {base b b' : Nat} {ok ok' okv oku : Nat → Prop} {v u : Value} {xs : List α} {ys : List β}
end
section
variable {w W : World} {A : Option Addr} {n : Nat}
variable {α : Type} {enc : α → Value} {h1 : ∀ x, (enc x).oneCell' = true} {e base g cap : Nat} {ok : Nat → Prop} {xs : List α}
end
section
variable {P : Program} {ops : Array Oper} {rest : List Oper} {o : Oper} {a : Act} {Q : Exit → Act → World → Prop}
variable {α : Type}
end
end Kd
section
variable {P : Program}
end
section
variable {w w1 : World} {base n size : Nat} {e : TypeId} {v : Value} {xs : List Value}
end
section
variable {P : Program}
end
namespace Kd
section
variable {α : Type} {d : Kd α} {e : Nat} {w w1 W : World} {base : Nat} {ok ok' : Nat → Prop} {v : Value} {xs : List α}
end
section
variable {P : Program} {ops : Array Oper} {rest : List Oper} {o : Oper} {a : Act} {Q' : Exit → Act → World → Prop} {Kc : Act → World → Prop} {α : Type}
end
end Kd
namespace Kd
section
variable {α : Type} {d : Kd α} {e e' : Nat} {w w1 W : World} {base : Nat} {ok : Nat → Prop} {u v : Value} {xs : List α}
end
end Kd
namespace Kd
section
variable {α : Type} {d : Kd α} {e base g n cap : Nat} {ok okp : Nat → Prop} {W : World} {xs : List α}
end
end Kd
namespace Kd
section
variable {α : Type} {F : Kd α → Kd α} {sz : Nat} {E : List Nat} {hs : ∀ n, (upto F sz E n).sz = sz} {hE : ∀ n q, q ∈ (upto F sz E n).E → q ∈ E}
end
end Kd
namespace Kd
section
variable {P : Program} {ops : Array Oper} {rest : List Oper} {o : Oper} {a : Act} {Q : Exit → Act → World → Prop} {α : Type}
theorem R_append_rows (d : Kd α) {Rr : α → List Value → Prop} {w0 W : World} (base : Nat) (hgd : o.guard = none) (s x : Operand) (t e : TypeId) (z : Value) (bytes : Nat)
  (ho : o.op = .call { callee := .builtin .append, args := #[s, x], argTypes := #[t, t] })
  (ht : P.underlying t = some (.slice e)) (hinfo : (P.info? e).map (fun i => (i.zero, i.size, i.bytes)) = some (some z, d.sz, bytes)) (hz : z.cells.size = d.sz) (hs0 : 0 < d.sz) (hb0 : 0 < bytes)
  (v : Value) (xs ys : List α) (A : Option Addr) (m c : Nat) (ok okp : Nat → Prop) (hs : a.eval s = v) (hx : a.eval x = .slice A m c)
  (HO : d.R e W base ok v xs) (HR : ReadsRow Rr d.sz W A m ys) (hKM : ∀ x cs, Rr x cs → d.M W base okp x cs) (hokp : ∀ k, okp k → ok k ∧ some k ≠ v.ownBlock) (hfresh : ∀ k, W.heap.size ≤ k → ok k)
  (HB : Below base w0 W) (hbase : base ≤ W.heap.size) (hl : (xs.length + m) * bytes ≤ 140737488355328)
  (h : ∀ v1 w1, d.R e w1 base ok v1 (xs ++ ys) → Below base w0 w1 → W.grownBy w1 v.ownBlock → (v1.ownBlock = v.ownBlock ∨ ∃ b, v1.ownBlock = some b ∧ W.heap.size ≤ b) → wpList P ops Q rest (a.put o.dst v1) w1) :
  wpList P ops Q (o :: rest) a W := by
 obtain ⟨i0, hi, hzz⟩ := Option.map_eq_some_iff.1 hinfo
 simp only [Prod.mk.injEq] at hzz
 obtain ⟨hz0, hz1, hz2⟩ := hzz
 have hm : ys.length = m := HR.1
 have hlen : xs.length + m ≤ 140737488355328 := Nat.le_trans (Nat.le_mul_of_pos_right _ hb0) hl
 obtain ⟨hok, inner, hown, hr⟩ := HO
 have hrun : ∃ v1 w1, (Builtin.append_ #[t, t] o.type #[v, .slice A m c]).run P W = .ok v1 w1 ∧ d.R e w1 base ok v1 (xs ++ ys) ∧ W.grownBy w1 v.ownBlock ∧ (v1.ownBlock = v.ownBlock ∨ ∃ b, v1.ownBlock = some b ∧ W.heap.size ≤ b) := by
  rcases A with _ | ad
  ·have h0 : m = 0 := by
    rcases Nat.eq_zero_or_pos m with h0 | h0
    ·exact h0
    ·obtain ⟨ad, h, _⟩ := HR.2.2 h0
     cases h
   subst h0
   obtain rfl : ys = [] := List.eq_nil_of_length_eq_zero hm
   refine ⟨v, W, ?_, by rw [List.append_nil]; exact ⟨hok, inner, hown, hr⟩, World.grownBy.refl W _, .inl rfl⟩
   rcases hown.2 with ⟨rfl, hn⟩ | ⟨g, cap, cur, rfl, _, _, hnc, _⟩
   ·simp [Builtin.append_, run_underlying ht, sizeOf, typeInfo, hi, Builtin.lenOf, Builtin.firstCells]
   ·simp [Builtin.append_, run_underlying ht, sizeOf, typeInfo, hi, Builtin.lenOf, Builtin.firstCells, hnc, storeCells]
  ·obtain ⟨news, hnr, hnc⟩ := ReadsRow.inner_ HR
   have hnM : Reps (d.M W base okp) d.sz ys news := hnr.imp_ (fun p c hp => hKM p c hp)
   have hone : ∀ u ∈ news, u.oneCell' = true := by
    intro u hu
    obtain ⟨q, hq, rfl⟩ := List.mem_iff_getElem.1 hu
    have hql : q / d.sz < ys.length := by
     rw [Nat.div_lt_iff_lt_mul hs0]
     rw [← hnM.1]
     exact hq
    have hc := hnM.2 (q / d.sz) _ (List.getElem?_eq_getElem hql)
    refine d.K_one (d.K_of_M hc) _ ?_
    rw [List.mem_iff_getElem?]
    refine ⟨q % d.sz, ?_⟩
    rw [List.getElem?_take, if_pos (Nat.mod_lt _ hs0), List.getElem?_drop, Nat.mul_comm, Nat.div_add_mod, List.getElem?_eq_getElem hq]
   obtain ⟨v1, w1, hrun, h2, hg, _, hat⟩ := run_append_own_at (P := P) W base t o.type e i0 z d.sz bytes ht hi hz0 hz1 hz2 hz hs0 v xs.length inner hown ad m c news (by rw [hnM.1, hm]) hnc hone (by simp only [maxLen]; omega) hl hbase
   have hat' : v1.ownBlock = v.ownBlock ∨ ∃ b, v1.ownBlock = some b ∧ W.heap.size ≤ b := by
    rcases hat with hat | hat
    ·exact .inl hat
    ·exact .inr ⟨_, hat, Nat.le_refl _⟩
   have hne : ∀ k, some k ≠ v.ownBlock → k < W.heap.size → some k ≠ v1.ownBlock := by
    intro k hk hlt
    rcases hat' with hat | ⟨b, hb, hle⟩
    ·rw [hat]; exact hk
    ·rw [hb]
     intro he
     injection he with he
     omega
   have step : ∀ {q : α} {c : List Value} {o : Nat → Prop}, d.M W base o q c → (∀ k, o k → ok k ∧ some k ≠ v.ownBlock) → d.M w1 base (fun k => ok k ∧ some k ≠ v1.ownBlock) q c := by
    intro q c o hq ho
    have h1 := d.M_move (w1 := w1) (fun k hk => hg.block k hk.2.2.1 (ho k hk.1).2) (d.M_bound hq)
    exact d.M_mono (fun k hk => ⟨(ho k hk.1).1, hne k (ho k hk.1).2 hk.2.2.1⟩) h1
   refine ⟨v1, w1, hrun, ⟨fun k hk => ?_, inner ++ news, by rw [List.length_append, hm]; exact h2, reps_append (hr.imp_ (fun _ _ hq => step hq (fun _ hk => hk))) (hnM.imp_ (fun _ _ hq => step hq hokp))⟩, hg, hat'⟩
   rcases hat' with hat | ⟨b, hb, hle⟩
   ·exact hok k (hat ▸ hk)
   ·rw [hb] at hk
    injection hk with hk
    exact hfresh k (by omega)
 obtain ⟨v1, w1, hr1, h1, hg, hat⟩ := hrun
 refine wpList_plain hgd fun K hK => ?_
 unfold Oper.wp execOp
 simp only [ho, resolve, invoke, builtin, Sem.run_bind, Sem.run_pure, Result.andThen_ok, List.map_toArray, List.map_cons, List.map_nil, hs, hx, hr1]
 exact hK _ _ (h v1 w1 h1 (HB.grown hg hbase (own_base hown)) hg hat)
end
end Kd
namespace Kd
section
variable {P : Program} {ops : Array Oper} {rest : List Oper} {o : Oper} {a : Act} {Q : Exit → Act → World → Prop} {α : Type}
end
end Kd
namespace Kd
section
variable {α : Type} {k : Kd α} {w : World} {A : Option Addr} {xs : List α} {m c : Nat}
end
end Kd
section
variable {P : Program}
end
namespace Kd
section
variable {α β : Type} {d : Kd α} {d' : Kd β} {e e' base base' n : Nat} {ok ok' : Nat → Prop} {w W w1 W1 : World} {v u : Value} {xs : List α} {ys : List β} {A : Option Addr} {c : Nat}
end
section
variable {α : Type} {enc : α → Value} {h1 : ∀ x, (enc x).oneCell' = true} {w W : World} {A : Option Addr} {n g : Nat} {xs : List α}
end
end Kd
namespace Kd
section
variable {α : Type} {d : Kd α} {e base g : Nat} {ok : Nat → Prop} {w w1 : World} {v : Value} {xs : List α} {o : Obj}
end
end Kd
section
variable {P : Program} {ops : Array Oper} {rest : List Oper} {o : Oper} {a : Act} {Q : Exit → Act → World → Prop}
end
namespace Kd
section
variable {α : Type} {enc : α → Value} {h1 : ∀ x, (enc x).oneCell' = true} {e base g n cap : Nat} {ok : Nat → Prop} {W : World} {xs : List α}
end
end Kd
section
variable {P : Program} {ops : Array Oper} {rest : List Oper} {o : Oper} {a : Act} {Q : Exit → Act → World → Prop}
end
namespace Kd
section
variable {α : Type} {enc : α → Value} {h1 : ∀ x, (enc x).oneCell' = true} {e base g n cap : Nat} {ok : Nat → Prop} {W : World} {xs : List α}
end
end Kd
section
variable {P : Program} {ops : Array Oper} {rest : List Oper} {o : Oper} {a : Act} {Q : Exit → Act → World → Prop} {W : World}
end
section
variable {P : Program} {ops : Array Oper} {o : Oper} {a : Act} {Q : Exit → Act → World → Prop} {Kc : Act → World → Prop}
namespace Kd
variable {α : Type}
end Kd
end
section
variable {P : Program} {tmps : Array Value} {w : World}
end
namespace Kd
section
variable {P : Program} {α : Type}
end
section
variable {P : Program} {ops : Array Oper} {rest : List Oper} {o : Oper} {a : Act} {Q : Exit → Act → World → Prop} {Kc : Act → World → Prop} {α : Type}
end
end Kd
end Go.Proofs.YtnbbbeghgomnoaaW.PrintWords
namespace Go.Proofs.YtnbbbeghgomnoaaW.PrintLast
open Go.Proofs.YtnbbbeghgomnoaaW.PrintWords (Aside0)
def freeT (T : List (List Nat × List Nat)) (l : List Bool) (i : Nat) : Bool := match T[i]? with
 | some r => r.2.all (fun j => l.getD j true)
 | none => false
def closedT (T : List (List Nat × List Nat)) (l : List Bool) : Bool := (List.range T.length).all fun j => !l.getD j false || match T[j]? with
 | some r => r.1.all (fun k => l.getD k false)
 | none => true
def reachT (T : List (List Nat × List Nat)) (i : Nat) : Nat → Nat → Bool
 | 0, _ => false
 | fuel + 1, d => match T[d]? with
  | some r => r.1.any fun j => j == i || reachT T i fuel j
  | none => false
def lastT (T : List (List Nat × List Nat)) (l : List Bool) (ds : List Nat) (i : Nat) : Bool := ds.all fun d => l.getD d true || reachT T i T.length d
section
variable {md : Region.Mode} {ops : Array Oper} {T : Bool × List (List Nat × List Nat)} {l l' li lj lk : Array Bool} {ds : List Nat} {i j k : Nat}
theorem needs_any (o : Oper) (p : Nat → Bool) : o.after.any (fun e => Region.binds md e && p e.on) = (needsOf md o).any p := by
 unfold needsOf
 rw [← Array.any_toList]
 induction o.after.toList with
 | nil => rfl
 | cons e r ih =>
  rw [List.any_cons, ih, List.filter_cons]
  cases h : Region.binds md e <;> simp
theorem free_eq : Region.free md ops l i = freeT (rtab md ops).2 l.toList i := by
 unfold Region.free freeT
 cases h : ops[i]? with
 | none => rw [rtab_none h]
 | some oi =>
  rw [rtab_some h]
  simp only [clashOf]
  rw [List.all_filter]
  congr 1
  funext j
  rw [gd]
  cases hj : ops[j]? with
  | none => cases (j == i) <;> cases (l.toList.getD j true) <;> simp
  | some oj =>
   cases (j == i) <;> cases (l.toList.getD j true) <;> cases (oj.after.any (fun e => Region.binds md e && e.on == i) || oi.apart ops oj) <;> simp_all
theorem closed_eq : Region.closedB md ops l = closedT (rtab md ops).2 l.toList := by
 unfold Region.closedB closedT
 rw [rtab_length]
 congr 1
 funext j
 rw [gd]
 cases h : ops[j]? with
 | none => rw [rtab_none h]
 | some o =>
  rw [rtab_some h]
  simp only
  rw [← needs_all]
  simp only [gd]
theorem reach_eq : ∀ (fuel d : Nat), Region.reachB md ops i fuel d = reachT (rtab md ops).2 i fuel d
 | 0, _ => rfl
 | fuel + 1, d => by
  unfold Region.reachB reachT
  cases h : ops[d]? with
  | none => rw [rtab_none h]
  | some o =>
   rw [rtab_some h]
   simp only
   rw [← needs_any]
   congr 1
   funext e
   rw [reach_eq fuel]
theorem last_eq : Region.lastB md ops l ds i = lastT (rtab md ops).2 l.toList ds i := by
 unfold Region.lastB lastT
 rw [rtab_length]
 congr 1
 funext d
 rw [gd, reach_eq]
theorem set_of (h : (l.toList.set i true == l'.toList) = true) : (l.setIfInBounds i true == l') = true := by
 rw [beq_iff_eq] at h ⊢
 apply Array.ext'
 rw [Array.toList_setIfInBounds]
 exact h
def anyT (T : Bool × List (List Nat × List Nat)) (l l' : List Bool) (i : Nat) : Bool := T.1 && freeT T.2 l i && readyAt T.2 l i && (l.set i true == l')
theorem any_of (hT : rtab md ops = T) (h : anyT T l.toList l'.toList i = true) : anyB md ops l l' i = true := by
 simp only [anyT, Bool.and_eq_true] at h
 obtain ⟨⟨⟨h1, h2⟩, h3⟩, h4⟩ := h
 have h5 := readyAt_mem h3 hT
 have h6 := set_of h4
 subst hT
 simp only [anyB, Bool.and_eq_true]
 exact ⟨⟨⟨h1, by rw [free_eq]; exact h2⟩, h5⟩, h6⟩
def takeT (T : Bool × List (List Nat × List Nat)) (ds : List Nat) (l l' : List Bool) (i : Nat) : Bool := T.1 && freeT T.2 l i && readyAt T.2 l i && closedT T.2 l && lastT T.2 l ds i && (l.set i true == l')
theorem take_of (hT : rtab md ops = T) (h : takeT T ds l.toList l'.toList i = true) : takeB md ops ds l l' i = true := by
 simp only [takeT, Bool.and_eq_true] at h
 obtain ⟨⟨⟨⟨⟨h1, h2⟩, h3⟩, h4⟩, h5⟩, h6⟩ := h
 have h7 := readyAt_mem h3 hT
 have h8 := set_of h6
 subst hT
 simp only [takeB, Bool.and_eq_true]
 exact ⟨⟨⟨⟨⟨h1, by rw [free_eq]; exact h2⟩, h7⟩, by rw [closed_eq]; exact h4⟩, by rw [last_eq]; exact h5⟩, h8⟩
theorem one_of (hT : rtab md ops = T) (h : (readyT T.2 l.toList == [i] && l.toList.set i true == l'.toList) = true) : readyB md ops l l' i = true := by
 simp only [Bool.and_eq_true] at h
 obtain ⟨h1, h2⟩ := h
 subst hT
 simp only [readyB, Bool.and_eq_true]
 exact ⟨by rw [ready_eq]; exact h1, set_of h2⟩
theorem done_of (hT : rtab md ops = T) (h : (readyT T.2 l.toList == []) = true) : (Region.ready md ops l == []) = true := by
 subst hT
 rw [ready_eq]
 exact h
def upM (B : List Nat) (d : Nat) : List Nat → Nat
 | [] => 0
 | n :: r => (2 ^ n ||| (if n < d then B.getD n 0 else 0)) ||| upM B d r
def waitsOk (T : List (List Nat × List Nat)) (B : List Nat) : Bool := (List.range T.length).all fun d => match T[d]? with
 | some r => (B.getD d 0 ||| upM B d r.1) == upM B d r.1
 | none => false
theorem upM_bit {B : List Nat} {d i : Nat} : ∀ {ns : List Nat}, (upM B d ns).testBit i = true → ∃ n ∈ ns, n = i ∨ (n < d ∧ (B.getD n 0).testBit i = true)
 | [], h => by simp [upM] at h
 | n :: r, h => by
  unfold upM at h
  rw [Nat.testBit_or, Nat.testBit_or, Bool.or_eq_true, Bool.or_eq_true] at h
  rcases h with (h | h) | h
  ·rw [Nat.testBit_two_pow] at h
   exact ⟨n, List.mem_cons_self, .inl (by simpa using h)⟩
  ·by_cases hn : n < d
   ·rw [if_pos hn] at h
    exact ⟨n, List.mem_cons_self, .inr ⟨hn, h⟩⟩
   ·rw [if_neg hn] at h
    simp at h
  ·obtain ⟨m, hm, h2⟩ := upM_bit h
   exact ⟨m, List.mem_cons_of_mem _ hm, h2⟩
theorem reach_bit {T : List (List Nat × List Nat)} {B : List Nat} (hB : waitsOk T B = true) : ∀ (fuel d : Nat), d < fuel → d < T.length → (B.getD d 0).testBit i = true → reachT T i fuel d = true
 | 0, d, h, _, _ => by omega
 | fuel + 1, d, h, hd, hb => by
  have h1 := List.all_eq_true.1 hB d (List.mem_range.2 hd)
  cases hr : T[d]? with
  | none => rw [hr] at h1; simp at h1
  | some r =>
   rw [hr] at h1
   simp only [beq_iff_eq] at h1
   have h2 : (upM B d r.1).testBit i = true := by rw [← h1, Nat.testBit_or, hb, Bool.true_or]
   obtain ⟨n, hn, h3⟩ := upM_bit h2
   unfold reachT
   rw [hr]
   simp only
   rw [List.any_eq_true]
   refine ⟨n, hn, ?_⟩
   rcases h3 with rfl | ⟨h4, h5⟩
   ·simp
   ·rw [reach_bit hB fuel n (by omega) (by omega) h5, Bool.or_true]
def lastW (T : List (List Nat × List Nat)) (B : List Nat) (l : List Bool) (ds : List Nat) (i : Nat) : Bool := ds.all fun d => l.getD d true || (decide (d < T.length) && (B.getD d 0).testBit i)
def takeW (T : Bool × List (List Nat × List Nat)) (B : List Nat) (ds : List Nat) (l l' : List Bool) (i : Nat) : Bool := T.1 && freeT T.2 l i && readyAt T.2 l i && closedT T.2 l && lastW T.2 B l ds i && (l.set i true == l')
theorem take_ofW {B : List Nat} (hT : rtab md ops = T) (hB : waitsOk T.2 B = true) (h : takeW T B ds l.toList l'.toList i = true) : takeB md ops ds l l' i = true := by
 refine take_of hT ?_
 simp only [takeW, takeT, Bool.and_eq_true] at h ⊢
 obtain ⟨⟨⟨⟨⟨h1, h2⟩, h3⟩, h4⟩, h5⟩, h6⟩ := h
 refine ⟨⟨⟨⟨⟨h1, h2⟩, h3⟩, h4⟩, ?_⟩, h6⟩
 unfold lastW at h5
 unfold lastT
 rw [List.all_eq_true] at h5 ⊢
 intro d hd
 have h7 := h5 d hd
 rw [Bool.or_eq_true, Bool.and_eq_true, decide_eq_true_eq] at h7
 rcases h7 with h7 | ⟨h8, h9⟩
 ·rw [h7, Bool.true_or]
 ·rw [reach_bit hB _ d h8 h8 h9, Bool.or_true]
theorem with_tabW {P : Program} {Q : Exit → Act → World → Prop} {S : World → Prop} {n : Nat} {a : Act} {w : World} {B : List Nat} (hT : rtab md ops = T) (hB : waitsOk T.2 B = true) (h : Aside0 (rtab md ops = T) → Aside0 (waitsOk T.2 B = true) → wpAnyLast P md ops Q S ds n l a w) : wpAnyLast P md ops Q S ds n l a w := h ⟨hT⟩ ⟨hB⟩
end
def opsIn : Code → Nat → Option (Array Oper)
 | .region id ops _, k => if id == k then some ops else none
 | .seq a b, k => match opsIn a k with
  | some o => some o
  | none => opsIn b k
 | .cond _ a b, k => match opsIn a k with
  | some o => some o
  | none => opsIn b k
 | .block _ c, k => opsIn c k
 | .loop c, k => opsIn c k
 | .scope c, k => opsIn c k
 | .rangeFunc _ _ a b, k => match opsIn a k with
  | some o => some o
  | none => opsIn b k
 | _, _ => none
def opsOf (f : Func) (k : Nat) : Array Oper := ((f.body.bind fun c => opsIn c k)).getD #[]
end Go.Proofs.YtnbbbeghgomnoaaW.PrintLast
namespace Go.Proofs.YtnbbbeghgomnoaaW.PrintWords
open Go.RowKit
namespace Kd
section
variable {α : Type} {d : Kd α} {e base n cap g : Nat} {ok ok' okp : Nat → Prop} {w w1 W : World} {v v1 : Value} {xs ys : List α}
theorem reads_raw {Rr : α → List Value → Prop} {sz m : Nat} {A : Option Addr} (h : ReadsRow Rr sz W A m ys) (hR : ∀ x c, Rr x c → c.length = sz ∧ ∀ u ∈ c, u.oneCell' = true) :
  ∃ news : List (List Value), news.length = ys.length ∧ ReadsRow (fun x cs => cs = x ∧ cs.length = sz ∧ ∀ u ∈ cs, u.oneCell' = true) sz W A m news ∧ ∀ (j : Nat) (x : α) (c : List Value), ys[j]? = some x → news[j]? = some c → Rr x c := by
 rcases Nat.eq_zero_or_pos m with h0 | hp
 ·have hy : ys = [] := List.eq_nil_of_length_eq_zero (h.1.trans h0)
  subst hy
  exact ⟨[], rfl, ⟨h0 ▸ rfl, h.2.1, fun hp => by omega⟩, fun j x c hx => by simp at hx⟩
 ·obtain ⟨ad, rfl, _⟩ := h.2.2 hp
  obtain ⟨inner, hr, hc⟩ := ReadsRow.inner_ h
  refine ⟨chunks sz ys.length inner, chunks_length _ _ _, ⟨by rw [chunks_length]; exact h.1, h.2.1, fun _ => ⟨ad, rfl, fun j p hj => ?_⟩⟩, fun j x c hx hcc => ?_⟩
  ·have hjl : j < ys.length := by have := (List.getElem?_eq_some_iff.1 hj).1; rwa [chunks_length] at this
   have hpe := chunks_get hj
   have hq := hR _ _ (hr.2 j _ (List.getElem?_eq_getElem hjl))
   rw [← hpe] at hq
   refine ⟨p, hq.1, ⟨rfl, hq⟩, fun i u hu => ?_⟩
   have hu2 : inner[j * sz + i]? = some u := by
    rw [hpe, List.getElem?_take] at hu
    split at hu
    ·rw [List.getElem?_drop] at hu
     exact hu
    ·cases hu
   exact hc _ u hu2
  ·rw [chunks_get hcc]
   exact hr.2 j x hx
end
section
variable {P : Program} {ops : Array Oper} {rest : List Oper} {o : Oper} {a : Act} {Q : Exit → Act → World → Prop} {Kc : Act → World → Prop} {α : Type}
end
end Kd
end Go.Proofs.YtnbbbeghgomnoaaW.PrintWords
namespace Go.Proofs.Ytnbbbeghgomnoaa.X
open Go.RowKit Go.Proofs.YtnbbbeghgomnoaaW.PrintWords Go.Proofs.YtnbbbeghgomnoaaW.PrintLast Go.Proofs.YtnbbbeghgomnoaaW.PrintMore
attribute [local go_sem] max2_int min2_int max_two min_two max_three min_three max_four min_four
set_option linter.unusedVariables false
set_option linter.unusedSimpArgs false
theorem info85 : (Try.prog.info? 85).map (fun i => (i.zero, i.size, i.bytes)) = some (some (.agg #[(.int .i64 0), (.int .i64 0), (.int .i64 0)]), 3, 24) := by kernel_rfl
end Go.Proofs.Ytnbbbeghgomnoaa.X
namespace Go.Proofs.Ytnbbbeghgomnoaa.X
open Go.RowKit Go.Proofs.YtnbbbeghgomnoaaW.PrintWords Go.Proofs.YtnbbbeghgomnoaaW.PrintLast Go.Proofs.YtnbbbeghgomnoaaW.PrintMore
set_option maxHeartbeats 4000000 in
set_option maxRecDepth 100000 in
theorem ProveTruth_e {A0 : Option Addr} {c0 : Nat} {l0 : List S109} {A1 : Option Addr} {c1 : Nat} {l1 : List S110} (wg : Int) {Al : Option Addr} {cl : Nat} {l : List Int} {w : World} (ht : Tab A0 c0 l0 A1 c1 l1 w) (hrl : Kd.C (Kd.int .i64) w Al l.length l) (hcl : l.length ≤ cl) (hll : l.length ≤ 1000000) (he : checkT l0 l1 wg ≠ 0) :
  Calls Try.prog 60 #[.agg #[.slice A0 l0.length c0, .slice A1 l1.length c1, .int .i64 wg], .slice Al l.length cl] w fun e w' => e = .returned (.bool false) ∧ Below w.heap.size w w' := by
 have hu35 := Try.underlying35
 have hu121 := Try.underlying121
 have HT := Aside0.mk ht
 have HRL := Aside0.mk hrl
 have HCL := Aside0.mk hcl
 have HLL := Aside0.mk hll
 clear ht hrl hcl hll
 have HB := Aside0.mk (Below.refl w.heap.size w)
 have HE := Aside0.mk he
 clear he
 go_enter Try.func60, Try.ntmps60
 go_wp2_with (first | ((with_reducible refine gate_dst (N := 2) rfl ?_); refine sbox (N := 2) #[.slice A0 l0.length c0, .slice A1 l1.length c1, .int .i64 wg] 35 ?_; intro g2 hg W_ hbox hb; have GEg2 := Aside0.mk (by rw [hg]; exact HB.out.size : w.heap.size ≤ g2); replace HB := Aside0.mk (below_step HB.out hb); have BKg2 := Aside0.mk hbox; clear hb hbox hg; have hcz0 := sc 0 BKg2; have hcz1 := sc 1 BKg2; have hcz2 := sc 2 BKg2) | (go_at_call 61; go_must (refine (check_calls wg (HT.out.below HB.out)).mono ?_; rintro e W_ ⟨rfl, hb⟩; replace BKg2 := Aside0.mk (blk_below BKg2.out hb); replace HB := Aside0.mk (below_step HB.out hb); try (clear hcz0 hcz1 hcz2); clear hb; have he := HE.out; generalize hec : checkT l0 l1 wg = ec at *; have hne : (ec == (0 : Int)) = false := (by simpa using he))))
 go_ret
 exact ⟨rfl, HB.out⟩
set_option maxHeartbeats 4000000 in
set_option maxRecDepth 100000 in
theorem ProveTruth_no {A0 : Option Addr} {c0 : Nat} {l0 : List S109} {A1 : Option Addr} {c1 : Nat} {l1 : List S110} (wg : Int) {Al : Option Addr} {cl : Nat} {l : List Int} {w : World} (ht : Tab A0 c0 l0 A1 c1 l1 w) (hrl : Kd.C (Kd.int .i64) w Al l.length l) (hcl : l.length ≤ cl) (hll : l.length ≤ 1000000) (he : checkT l0 l1 wg = 0) (ha : areB l0 l1 l = false) :
  Calls Try.prog 60 #[.agg #[.slice A0 l0.length c0, .slice A1 l1.length c1, .int .i64 wg], .slice Al l.length cl] w fun e w' => e = .returned (.bool false) ∧ Below w.heap.size w w' := by
 have hu35 := Try.underlying35
 have hu121 := Try.underlying121
 have HT := Aside0.mk ht
 have HRL := Aside0.mk hrl
 have HCL := Aside0.mk hcl
 have HLL := Aside0.mk hll
 clear ht hrl hcl hll
 have HB := Aside0.mk (Below.refl w.heap.size w)
 have HE := Aside0.mk he
 have HN0 := Aside0.mk (checkT_zero he).n0
 have HN1 := Aside0.mk (checkT_zero he).n1
 have HAB := Aside0.mk ha
 clear he ha
 go_enter Try.func60, Try.ntmps60
 go_wp2_with (first | ((with_reducible refine gate_dst (N := 2) rfl ?_); refine sbox (N := 2) #[.slice A0 l0.length c0, .slice A1 l1.length c1, .int .i64 wg] 35 ?_; intro g2 hg W_ hbox hb; have GEg2 := Aside0.mk (by rw [hg]; exact HB.out.size : w.heap.size ≤ g2); replace HB := Aside0.mk (below_step HB.out hb); have BKg2 := Aside0.mk hbox; clear hb hbox hg; have hcz0 := sc 0 BKg2; have hcz1 := sc 1 BKg2; have hcz2 := sc 2 BKg2) | (go_at_call 61; go_must (refine (check_calls wg (HT.out.below HB.out)).mono ?_; rintro e W_ ⟨rfl, hb⟩; replace BKg2 := Aside0.mk (blk_below BKg2.out hb); replace HB := Aside0.mk (below_step HB.out hb); clear hb hcz0 hcz1 hcz2; rw [HE.out]; have hcz0 := sc 0 BKg2; have hcz1 := sc 1 BKg2; have hcz2 := sc 2 BKg2)) | (go_at_call 83; go_must (refine (listed_calls A0 c0 l0 A1 c1 l1 wg Al cl l _ (HT.out.below HB.out).r0 HT.out.h0 (HT.out.below HB.out).r1 HT.out.h1 (Kd.C_below HRL.out HB.out) HCL.out HT.out.n0 HN1.out HT.out.ms (by have := HLL.out; omega)).mono ?_; rintro e W_ ⟨o, rfl, ho1, ho2, hb⟩; replace BKg2 := Aside0.mk (blk_below BKg2.out hb); replace HB := Aside0.mk (below_step HB.out hb); clear hb hcz0 hcz1 hcz2; have HO1 := Aside0.mk ho1; have HO2 := Aside0.mk ho2; clear ho1 ho2; unfold ac; rw [HAB.out])))
 have hb := below_alloc (Below.refl W_.heap.size W_) (.cells #[.int .i64 (o 0), .int .i64 (o 1), .int .i64 (o 2), .int .i64 (o 3), .int .i64 (o 4), .int .i64 (o 5), .int .i64 (o 6)] 121)
 have BKg8 := Aside0.mk (heap_alloc_new W_ (.cells #[.int .i64 (o 0), .int .i64 (o 1), .int .i64 (o 2), .int .i64 (o 3), .int .i64 (o 4), .int .i64 (o 5), .int .i64 (o 6)] 121))
 replace BKg2 := Aside0.mk (blk_below BKg2.out hb)
 replace HB := Aside0.mk (below_step HB.out hb)
 clear hb
 try (clear hcz0 hcz1 hcz2)
 generalize W_.alloc (.cells #[.int .i64 (o 0), .int .i64 (o 1), .int .i64 (o 2), .int .i64 (o 3), .int .i64 (o 4), .int .i64 (o 5), .int .i64 (o 6)] 121) = W5 at *
 generalize W_.heap.size = g8 at *
 have hcz0 := sc 0 BKg2
 have hcz1 := sc 1 BKg2
 have hcz2 := sc 2 BKg2
 have hca0 := sc 0 BKg8
 have hca1 := sc 1 BKg8
 have hca2 := sc 2 BKg8
 have hca3 := sc 3 BKg8
 have hca4 := sc 4 BKg8
 have hca5 := sc 5 BKg8
 have hca6 := sc 6 BKg8
 refine start_ (n := 11) (S := fun w' => w'.cell? ⟨g2, 0, none⟩ = some (.slice A0 l0.length c0)) (ds := []) (lm 11 0) (by kernel_rfl) rfl (by kernel_rfl) (hcz0) (fun hHeld => ?_)
 have hb := below_drew1 (Below.refl W5.heap.size W5)
 replace BKg2 := Aside0.mk (blk_below BKg2.out hb)
 replace BKg8 := Aside0.mk (blk_below BKg8.out hb)
 replace HB := Aside0.mk (below_step HB.out hb)
 replace hcz0 := (hb.cell (World.block_lt_of_cell? _ _ hcz0)).trans hcz0
 generalize W5.drew = W6 at *
 clear hb
 refine sP (i := 0) (N := some 16) (lm 11 1) ?_
 refine sP (i := 1) (N := some 17) (lm 11 3) ?_
 refine pure_ (i := 2) (N := some 18) (v := undef) (a' := ?_) (lm 11 7) rfl rfl (by kernel_rfl) (fun _ _ _ h => h) (Or.inr ⟨by rfl, rfl⟩) ?_ ?_
 rotate_left
 ·simp only [Act.put, List.setIfInBounds_toArray, List.set_cons_zero, List.set_cons_succ, i64_w, i32_w]
  rfl
 refine pure_ (i := 3) (N := some 19) (v := undef) (a' := ?_) (lm 11 15) rfl rfl (by kernel_rfl) (fun _ _ _ h => h) (Or.inr ⟨by rfl, rfl⟩) ?_ ?_
 rotate_left
 ·simp only [Act.put, List.setIfInBounds_toArray, List.set_cons_zero, List.set_cons_succ, i64_w, i32_w]
  rfl
 refine pure_ (i := 4) (N := some 20) (v := undef) (a' := ?_) (lm 11 31) rfl rfl (by kernel_rfl) (fun _ _ _ h => h) (Or.inr ⟨by rfl, rfl⟩) ?_ ?_
 rotate_left
 ·simp only [Act.put, List.setIfInBounds_toArray, List.set_cons_zero, List.set_cons_succ, i64_w, i32_w]
  rfl
 refine pure_ (i := 5) (N := some 21) (v := undef) (a' := ?_) (lm 11 63) rfl rfl (by kernel_rfl) (fun _ _ _ h => h) (Or.inr ⟨by rfl, rfl⟩) ?_ ?_
 rotate_left
 ·simp only [Act.put, List.setIfInBounds_toArray, List.set_cons_zero, List.set_cons_succ, i64_w, i32_w]
  rfl
 refine pure_ (i := 6) (N := some 22) (v := undef) (a' := ?_) (lm 11 127) rfl rfl (by kernel_rfl) (fun _ _ _ h => h) (Or.inr ⟨by rfl, rfl⟩) ?_ ?_
 rotate_left
 ·simp only [Act.put, List.setIfInBounds_toArray, List.set_cons_zero, List.set_cons_succ, i64_w, i32_w]
  rfl
 refine pure_ (i := 7) (N := some 23) (v := undef) (a' := ?_) (lm 11 255) rfl rfl (by kernel_rfl) (fun _ _ _ h => h) (Or.inr ⟨by rfl, rfl⟩) ?_ ?_
 rotate_left
 ·simp only [Act.put, List.setIfInBounds_toArray, List.set_cons_zero, List.set_cons_succ, i64_w, i32_w]
  rfl
 refine pure_ (i := 8) (N := some 24) (v := undef) (a' := ?_) (lm 11 511) rfl rfl (by kernel_rfl) (fun _ _ _ h => h) (Or.inr ⟨by rfl, rfl⟩) ?_ ?_
 rotate_left
 ·simp only [Act.put, List.setIfInBounds_toArray, List.set_cons_zero, List.set_cons_succ, i64_w, i32_w]
  rfl
 refine sP (i := 9) (N := some 25) (lm 11 1023) ?_
 refine sP (i := 10) (N := some 4) (lm 11 2047) ?_
 refine done_ (by kernel_rfl) ?_
 go_wp2
 go_ret
 exact ⟨rfl, HB.out⟩
set_option maxHeartbeats 4000000 in
set_option maxRecDepth 100000 in
theorem ProveTruth_ok {A0 : Option Addr} {c0 : Nat} {l0 : List S109} {A1 : Option Addr} {c1 : Nat} {l1 : List S110} (wg : Int) {Al : Option Addr} {cl : Nat} {l : List Int} {w : World} (ht : Tab A0 c0 l0 A1 c1 l1 w) (hrl : Kd.C (Kd.int .i64) w Al l.length l) (hcl : l.length ≤ cl) (hll : l.length ≤ 1000000) (he : checkT l0 l1 wg = 0) (ha : areB l0 l1 l = true) :
  Calls Try.prog 60 #[.agg #[.slice A0 l0.length c0, .slice A1 l1.length c1, .int .i64 wg], .slice Al l.length cl] w fun e w' => e = .returned (.bool (isT l0 l1.length wg l)) ∧ Below w.heap.size w w' := by
 have hu35 := Try.underlying35
 have hu121 := Try.underlying121
 have HT := Aside0.mk ht
 have HRL := Aside0.mk hrl
 have HCL := Aside0.mk hcl
 have HLL := Aside0.mk hll
 clear ht hrl hcl hll
 have HB := Aside0.mk (Below.refl w.heap.size w)
 have HE := Aside0.mk he
 have HN0 := Aside0.mk (checkT_zero he).n0
 have HN1 := Aside0.mk (checkT_zero he).n1
 have HAB := Aside0.mk ha
 have HOW := Aside0.mk (allL_owners l0 l1 l (areB_mem.1 ha))
 clear he ha
 go_enter Try.func60, Try.ntmps60
 go_wp2_with (first | ((with_reducible refine gate_dst (N := 2) rfl ?_); refine sbox (N := 2) #[.slice A0 l0.length c0, .slice A1 l1.length c1, .int .i64 wg] 35 ?_; intro g2 hg W_ hbox hb; have GEg2 := Aside0.mk (by rw [hg]; exact HB.out.size : w.heap.size ≤ g2); replace HB := Aside0.mk (below_step HB.out hb); have BKg2 := Aside0.mk hbox; clear hb hbox hg; have hcz0 := sc 0 BKg2; have hcz1 := sc 1 BKg2; have hcz2 := sc 2 BKg2) | (go_at_call 61; go_must (refine (check_calls wg (HT.out.below HB.out)).mono ?_; rintro e W_ ⟨rfl, hb⟩; replace BKg2 := Aside0.mk (blk_below BKg2.out hb); replace HB := Aside0.mk (below_step HB.out hb); clear hb hcz0 hcz1 hcz2; rw [HE.out]; have hcz0 := sc 0 BKg2; have hcz1 := sc 1 BKg2; have hcz2 := sc 2 BKg2)) | (go_at_call 83; go_must (refine (listed_calls A0 c0 l0 A1 c1 l1 wg Al cl l _ (HT.out.below HB.out).r0 HT.out.h0 (HT.out.below HB.out).r1 HT.out.h1 (Kd.C_below HRL.out HB.out) HCL.out HT.out.n0 HN1.out HT.out.ms (by have := HLL.out; omega)).mono ?_; rintro e W_ ⟨o, rfl, ho1, ho2, hb⟩; replace BKg2 := Aside0.mk (blk_below BKg2.out hb); replace HB := Aside0.mk (below_step HB.out hb); clear hb hcz0 hcz1 hcz2; have HO1 := Aside0.mk ho1; have HO2 := Aside0.mk ho2; clear ho1 ho2; have ho_ : o = pad l := pad_of (HO1.out HAB.out) HO2.out; subst ho_; unfold ac; rw [HAB.out])))
 have hb := below_alloc (Below.refl W_.heap.size W_) (.cells #[.int .i64 (pad l 0), .int .i64 (pad l 1), .int .i64 (pad l 2), .int .i64 (pad l 3), .int .i64 (pad l 4), .int .i64 (pad l 5), .int .i64 (pad l 6)] 121)
 have BKg8 := Aside0.mk (heap_alloc_new W_ (.cells #[.int .i64 (pad l 0), .int .i64 (pad l 1), .int .i64 (pad l 2), .int .i64 (pad l 3), .int .i64 (pad l 4), .int .i64 (pad l 5), .int .i64 (pad l 6)] 121))
 replace BKg2 := Aside0.mk (blk_below BKg2.out hb)
 replace HB := Aside0.mk (below_step HB.out hb)
 clear hb
 try (clear hcz0 hcz1 hcz2)
 generalize W_.alloc (.cells #[.int .i64 (pad l 0), .int .i64 (pad l 1), .int .i64 (pad l 2), .int .i64 (pad l 3), .int .i64 (pad l 4), .int .i64 (pad l 5), .int .i64 (pad l 6)] 121) = W5 at *
 generalize W_.heap.size = g8 at *
 have hcz0 := sc 0 BKg2
 have hcz1 := sc 1 BKg2
 have hcz2 := sc 2 BKg2
 have hca0 := sc 0 BKg8
 have hca1 := sc 1 BKg8
 have hca2 := sc 2 BKg8
 have hca3 := sc 3 BKg8
 have hca4 := sc 4 BKg8
 have hca5 := sc 5 BKg8
 have hca6 := sc 6 BKg8
 refine start_ (n := 11) (S := fun w' => w'.cell? ⟨g2, 0, none⟩ = some (.slice A0 l0.length c0) ∧ w'.cell? ⟨g2, 1, none⟩ = some (.slice A1 l1.length c1) ∧ w'.cell? ⟨g2, 2, none⟩ = some (.int .i64 wg) ∧ w'.cell? ⟨g8, 0, none⟩ = some (.int .i64 (pad l 0)) ∧ w'.cell? ⟨g8, 1, none⟩ = some (.int .i64 (pad l 1)) ∧ w'.cell? ⟨g8, 2, none⟩ = some (.int .i64 (pad l 2)) ∧ w'.cell? ⟨g8, 3, none⟩ = some (.int .i64 (pad l 3)) ∧ w'.cell? ⟨g8, 4, none⟩ = some (.int .i64 (pad l 4)) ∧ w'.cell? ⟨g8, 5, none⟩ = some (.int .i64 (pad l 5)) ∧ w'.cell? ⟨g8, 6, none⟩ = some (.int .i64 (pad l 6))) (ds := []) (lm 11 0) (by kernel_rfl) rfl (by kernel_rfl) ⟨hcz0, hcz1, hcz2, hca0, hca1, hca2, hca3, hca4, hca5, hca6⟩ (fun hHeld => ?_)
 have hb := below_drew1 (Below.refl W5.heap.size W5)
 replace BKg2 := Aside0.mk (blk_below BKg2.out hb)
 replace BKg8 := Aside0.mk (blk_below BKg8.out hb)
 replace HB := Aside0.mk (below_step HB.out hb)
 replace hcz0 := (hb.cell (World.block_lt_of_cell? _ _ hcz0)).trans hcz0
 replace hcz1 := (hb.cell (World.block_lt_of_cell? _ _ hcz1)).trans hcz1
 replace hcz2 := (hb.cell (World.block_lt_of_cell? _ _ hcz2)).trans hcz2
 replace hca0 := (hb.cell (World.block_lt_of_cell? _ _ hca0)).trans hca0
 replace hca1 := (hb.cell (World.block_lt_of_cell? _ _ hca1)).trans hca1
 replace hca2 := (hb.cell (World.block_lt_of_cell? _ _ hca2)).trans hca2
 replace hca3 := (hb.cell (World.block_lt_of_cell? _ _ hca3)).trans hca3
 replace hca4 := (hb.cell (World.block_lt_of_cell? _ _ hca4)).trans hca4
 replace hca5 := (hb.cell (World.block_lt_of_cell? _ _ hca5)).trans hca5
 replace hca6 := (hb.cell (World.block_lt_of_cell? _ _ hca6)).trans hca6
 generalize W5.drew = W6 at *
 clear hb
 refine sP (i := 0) (N := some 16) (lm 11 1) ?_
 refine sP (i := 1) (N := some 17) (lm 11 3) ?_
 refine sP (i := 6) (N := some 22) (lm 11 67) ?_
 refine take_ (i := 2) (N := some 18) (v := ?_) (a' := ?_) (lm 11 71) rfl rfl (by kernel_rfl) (fun _ _ _ h => h) (Or.inl ⟨by rfl, ?_⟩) hHeld ?_ ?_
 rotate_left
 ·rintro w' ⟨s0, s1, s2, s3, s4, s5, s6, s7, s8, s9⟩
  go_simp
  with_reducible rfl
 rotate_left
 ·simp only [Act.put, List.setIfInBounds_toArray, List.set_cons_zero, List.set_cons_succ, i64_w, i32_w]
  rfl
 refine take_ (i := 3) (N := some 19) (v := ?_) (a' := ?_) (lm 11 79) rfl rfl (by kernel_rfl) (fun _ _ _ h => h) (Or.inl ⟨by rfl, ?_⟩) hHeld ?_ ?_
 rotate_left
 ·rintro w' ⟨s0, s1, s2, s3, s4, s5, s6, s7, s8, s9⟩
  go_simp
  with_reducible rfl
 rotate_left
 ·simp only [Act.put, List.setIfInBounds_toArray, List.set_cons_zero, List.set_cons_succ, i64_w, i32_w]
  rfl
 refine take_ (i := 7) (N := some 23) (v := ?_) (a' := ?_) (lm 11 207) rfl rfl (by kernel_rfl) (fun _ _ _ h => h) (Or.inl ⟨by rfl, ?_⟩) hHeld ?_ ?_
 rotate_left
 ·rintro w' ⟨s0, s1, s2, s3, s4, s5, s6, s7, s8, s9⟩
  go_simp
  with_reducible rfl
 rotate_left
 ·simp only [Act.put, List.setIfInBounds_toArray, List.set_cons_zero, List.set_cons_succ, i64_w, i32_w]
  rfl
 refine one_ (i := 4) (N := some 20) (lm 11 223) rfl rfl (by kernel_rfl) (by decide) (fun K hK => ?_)
 refine goes_ Try.func86 (by kernel_rfl) rfl #[.agg #[.slice A0 l0.length c0, .slice A1 l1.length c1, .int .i64 wg], .agg #[.int .i64 (pad l 0), .int .i64 (pad l 1), .int .i64 (pad l 2), .int .i64 (pad l 3), .int .i64 (pad l 4), .int .i64 (pad l 5), .int .i64 (pad l 6)]] (by rfl) rfl rfl (by simp only [List.map_toArray, List.map_cons, List.map_nil]; rfl) ?_
 with_reducible refine (wrong_calls A0 c0 l0 A1 c1 l1 wg (pad l) W6 (HT.out.below HB.out).r0 HT.out.n0 HN1.out HOW.out).mono ?_
 rintro e W7 ⟨v20, rfl, ho, hb⟩
 refine ⟨_, rfl, ?_⟩
 replace hcz0 := (hb.cell (World.block_lt_of_cell? _ _ hcz0)).trans hcz0
 replace hcz1 := (hb.cell (World.block_lt_of_cell? _ _ hcz1)).trans hcz1
 replace hcz2 := (hb.cell (World.block_lt_of_cell? _ _ hcz2)).trans hcz2
 replace hca0 := (hb.cell (World.block_lt_of_cell? _ _ hca0)).trans hca0
 replace hca1 := (hb.cell (World.block_lt_of_cell? _ _ hca1)).trans hca1
 replace hca2 := (hb.cell (World.block_lt_of_cell? _ _ hca2)).trans hca2
 replace hca3 := (hb.cell (World.block_lt_of_cell? _ _ hca3)).trans hca3
 replace hca4 := (hb.cell (World.block_lt_of_cell? _ _ hca4)).trans hca4
 replace hca5 := (hb.cell (World.block_lt_of_cell? _ _ hca5)).trans hca5
 replace hca6 := (hb.cell (World.block_lt_of_cell? _ _ hca6)).trans hca6
 replace BKg2 := Aside0.mk (blk_below BKg2.out hb)
 replace BKg8 := Aside0.mk (blk_below BKg8.out hb)
 replace HB := Aside0.mk (below_step HB.out hb)
 obtain ⟨Ab, cb, eb⟩ := Kd.R_slice ho
 subst eb
 clear ho
 clear hb
 refine hK.out _ _ ⟨hcz0, hcz1, hcz2, hca0, hca1, hca2, hca3, hca4, hca5, hca6⟩ (fun hHeld => ?_)
 clear hK K
 refine sN ?_
 refine sP (i := 5) (N := some 21) (lm 11 255) ?_
 refine sP (i := 8) (N := some 24) (lm 11 511) ?_
 refine sP (i := 9) (N := some 25) (lm 11 1023) ?_
 refine sP (i := 10) (N := some 4) (lm 11 2047) ?_
 refine done_ (by kernel_rfl) ?_
 go_wp2
 go_ret
 exact ⟨rfl, HB.out⟩
def provedT (l0 : List S109) (l1 : List S110) (wg : Int) (l : List Int) : Bool := decide (checkT l0 l1 wg = 0) && (areB l0 l1 l && isT l0 l1.length wg l)
theorem ProveTruth_calls {A0 : Option Addr} {c0 : Nat} {l0 : List S109} {A1 : Option Addr} {c1 : Nat} {l1 : List S110} (wg : Int) {Al : Option Addr} {cl : Nat} {l : List Int} {w : World} (ht : Tab A0 c0 l0 A1 c1 l1 w) (hrl : Kd.C (Kd.int .i64) w Al l.length l) (hcl : l.length ≤ cl) (hll : l.length ≤ 1000000) :
  Calls Try.prog 60 #[.agg #[.slice A0 l0.length c0, .slice A1 l1.length c1, .int .i64 wg], .slice Al l.length cl] w fun e w' => e = .returned (.bool (provedT l0 l1 wg l)) ∧ Below w.heap.size w w' := by
 unfold provedT
 by_cases he : checkT l0 l1 wg = 0
 ·cases ha : areB l0 l1 l with
  | true => rw [decide_eq_true he]; exact ProveTruth_ok wg ht hrl hcl hll he ha
  | false => rw [decide_eq_true he]; exact ProveTruth_no wg ht hrl hcl hll he ha
 ·rw [decide_eq_false he]; exact ProveTruth_e wg ht hrl hcl hll he
end Go.Proofs.Ytnbbbeghgomnoaa.X
namespace Go.Proofs.Ytnbbbeghgomnoaa.X
open Go.RowKit Go.Proofs.YtnbbbeghgomnoaaW.PrintWords Go.Proofs.YtnbbbeghgomnoaaW.PrintLast Go.Proofs.YtnbbbeghgomnoaaW.PrintMore
attribute [local go_sem] max2_int min2_int max_two min_two max_three min_three max_four min_four
set_option linter.unusedVariables false
set_option linter.unusedSimpArgs false
def posserref03_Nth.T6 : Bool × List (List Nat × List Nat) := (true, [([], []), ([], []), ([], []), ([], []), ([], []), ([4], [4]), ([3, 5], [3, 5]), ([2, 6], [2, 6]), ([7], [7]), ([], []), ([], []), ([10], [10]), ([9, 11], [9, 11]), ([0, 1, 0, 1, 2, 3, 4, 5, 6, 7, 8], [0, 1]), ([13, 8, 0, 1, 2, 3, 4, 5, 6, 7, 8], [8, 13]), ([12, 14, 0, 1, 2, 3, 4, 5, 6, 7, 8, 9, 10, 11, 12, 13, 14], [3, 9, 12])])
def posserref03_Nth.B6 : List Nat := [0, 0, 0, 0, 0, 16, 56, 124, 252, 0, 0, 1024, 3584, 511, 8703, 32767]
theorem posserref03_Nth.tab6 : rtab .any (opsOf Try.f78 6) = posserref03_Nth.T6 := by kernel_rfl
theorem posserref03_Nth.bits6 : waitsOk posserref03_Nth.T6.2 posserref03_Nth.B6 = true := by kernel_rfl
set_option maxHeartbeats 8000000 in
set_option maxRecDepth 100000 in
theorem posserref03_Nth.calls (k : Nat) (A0_0 : Option Addr) (c0_0 : Nat) (l0_0 : List (S85)) (A0_1 : Option Addr) (c0_1 : Nat) (l0_1 : List (S71)) (a0_2 : Int) (a1 : Int) (r : List Int) (w : World) (hr0_0 : Kd.C k85 w A0_0 l0_0.length l0_0) (hc0_0 : l0_0.length ≤ c0_0) (hr0_1 : Kd.C k71 w A0_1 l0_1.length l0_1) (hc0_1 : l0_1.length ≤ c0_1) (h : posserref03_Nth.f k l0_0 l0_1 a0_2 a1 = some r) :
  Calls Try.prog 78 #[.agg #[.slice A0_0 l0_0.length c0_0, .slice A0_1 l0_1.length c0_1, .int .i64 a0_2], .int .i64 a1] w fun e w' => ∃ v0_ : Value, e = .returned (v0_) ∧ Kd.R (Kd.int .i64) 3 w' w.heap.size (fun _ => True) v0_ r ∧ Below w.heap.size w w' := by
 have hu25 := Try.underlying25
 have HR0_0 := Aside0.mk hr0_0
 have HC0_0 := Aside0.mk hc0_0
 clear hr0_0 hc0_0
 have HR0_1 := Aside0.mk hr0_1
 have HC0_1 := Aside0.mk hc0_1
 clear hr0_1 hc0_1
 have HB := Aside0.mk (Below.refl w.heap.size w)
 have H : (if 0 ≤ (l0_1.length : Int) then (if ((l0_1.length : Int) : Int).toNat ≤ 35184372088832 then (posserref03_Nth.l0 k a1 (List.replicate ((l0_1.length : Int) : Int).toNat 0) (wrap64 ((l0_1.length : Int) - 1)) l0_0 l0_1 a0_2) else (none)) else (none)) = some r := h
 clear h
 by_cases c3 : 0 ≤ (l0_1.length : Int)
 ·rw [if_pos c3] at H
  have c3b0 := eq_true c3
  have c3b1 : decide (0 ≤ (l0_1.length : Int)) = true := decide_eq_true c3
  clear c3
  by_cases c4 : ((l0_1.length : Int) : Int).toNat ≤ 35184372088832
  ·rw [if_pos c4] at H
   have c4b0 := eq_true c4
   have c4b1 : decide (((l0_1.length : Int) : Int).toNat ≤ 35184372088832) = true := decide_eq_true c4
   clear c4
   obtain ⟨y157, hy157⟩ : ∃ y_ : List Int, y_ = (List.replicate ((l0_1.length : Int) : Int).toNat 0) := ⟨_, rfl⟩
   replace H : (posserref03_Nth.l0 k a1 y157 (wrap64 ((l0_1.length : Int) - 1)) l0_0 l0_1 a0_2) = some r := by first | (rw [hy157]; with_reducible exact H) | (have H2_ := (Option.bind_some _ _).symm.trans H; rw [hy157]; with_reducible exact H2_) | (have H2_ := (Option.bind_some _ _).symm.trans H; with_reducible exact H2_) | with_reducible exact H | (rw [hy157]; exact H) | exact H
   have Ny157 := Aside0.mk hy157
   clear hy157
   have H' := Aside0.mk H
   clear H
   go_enter Try.func78, Try.ntmps78
   go_wp2_with (first | ((with_reducible refine gate_dst (N := 2) rfl ?_); refine sbox (N := 2) #[.slice A0_0 l0_0.length c0_0, .slice A0_1 l0_1.length c0_1, .int .i64 a0_2] 25 ?_; intro gb156 hg w5 hbox hb; have BK156 := Aside0.mk (hbox); have GW156 := Aside0.mk (sge hg HB : w.heap.size ≤ gb156); have GE156 := Aside0.mk (sge hg HB : w.heap.size ≤ gb156); replace HB := Aside0.mk (sbs HB hb); clear hb hbox hg; have hcz6_0 := sc 0 BK156; have hcz6_1 := sc 1 BK156; have hcz6_2 := sc 2 BK156; have hfz6_0 := blk_frozen BK156.out 0; have hfz6_1 := blk_frozen BK156.out 1; have hfz6_2 := blk_frozen BK156.out 2) | ((with_reducible refine gate_dst (N := 11) rfl ?_); refine Kd.R_make (Kd.int .i64) _ 3 rfl (N := 11) rfl 39 _ _ rfl (l0_1.length : Int) rfl rfl Try.underlying39 (.int .i64 0) 8 info3 rfl (by decide) (by omega) 0 (ok := fun _ => True) (okp := fun _ => True) rfl (fun _ hk => hk) trivial (of_decide_eq_true (by first | (with_reducible assumption) | assumption)) (Nat.le_trans (Nat.mul_le_mul_right _ (of_decide_eq_true (by first | (with_reducible assumption) | assumption) : (l0_1.length : Int).toNat ≤ 35184372088832)) (by omega)) (Below.refl _ _) (Nat.le_refl _) ?_; intro v158 w7 ho8 hb hg_ hnew_; clear hg_ hnew_; (first | rw [← Ny157.out] at ho8 | (simp only [Int.reduceToNat] at ho8; rw [← Ny157.out] at ho8)); have HO159 := Aside0.mk (Kd.R_lower ho8 (below_size (sbe1 HB GE156))); replace BK156 := Aside0.mk (sbb BK156 hb); replace HB := Aside0.mk (sbs1 HB GE156 hb); clear hb ho8; have hcz9_0 := sc 0 BK156; have hcz9_1 := sc 1 BK156; have hcz9_2 := sc 2 BK156; have hfz9_0 := blk_frozen BK156.out 0; have hfz9_1 := blk_frozen BK156.out 1; have hfz9_2 := blk_frozen BK156.out 2))
   go_loopg [1, 6] k (fun kq v1 v6 w' => ∃ (x1_1 : Int) (x5_1 : List Int) (x6_1 : Int), v1 = .int .i64 x1_1 ∧ v6 = .int .i64 x6_1 ∧ Aside0 (posserref03_Nth.l0 kq x1_1 x5_1 x6_1 l0_0 l0_1 a0_2 = some r) ∧ Aside0 (kq ≤ k) ∧ Aside0 (Kd.R (Kd.int .i64) 3 w' w.heap.size (fun _ => True) v158 x5_1) ∧ Aside0 (w'.heap[gb156]? = some (.cells #[(.slice A0_0 l0_0.length c0_0), (.slice A0_1 l0_1.length c0_1), .int .i64 a0_2] 25 (0, 0))) ∧ Aside0 (Below w.heap.size w w'))
   case atStart => exact ⟨(a1), (y157), (wrap64 ((l0_1.length : Int) - 1)), (by first | rfl | (simp; done) | (simp [*]; done)), (by first | rfl | (simp; done) | (simp [*]; done)), H', ⟨Nat.le_refl _⟩, ⟨by (with_reducible repeat (first | apply Kd.R_alloc | apply Kd.R_drewN | apply Kd.R_drew)); exact HO159.out⟩, ⟨by (with_reducible repeat (first | refine blk_drewN ?_ _ | refine blk_drew ?_ | refine blk_alloc ?_ _)); exact BK156.out⟩, ⟨(sbe1 HB GE156)⟩⟩
   case round =>
    clear H'
    try clear p2
    try clear c3
    try clear c3b0
    try clear c3b1
    try clear c4
    try clear c4b0
    try clear c4b1
    try clear p6
    try clear c7
    try clear hcz6_0
    try clear hcz6_1
    try clear hcz6_2
    try clear hcz9_0
    try clear hcz9_1
    try clear hcz9_2
    try clear hfz6_0
    try clear hfz6_1
    try clear hfz6_2
    try clear hfz9_0
    try clear hfz9_1
    try clear hfz9_2
    obtain ⟨x1_1, x5_1, x6_1, rfl, rfl, HA, HK1, HO_5, BK156, HB⟩ := hrel
    cases gk with
    | zero => exact absurd HA.out (by simp [posserref03_Nth.l0])
    | succ k1 =>
     have H := HA.out
     clear HA
     simp only [posserref03_Nth.l0] at H
     by_cases c10 : x6_1 ≥ 0
     ·rw [if_pos c10] at H
      have c10b0 : decide (0 ≤ x6_1) = true := decide_eq_true c10
      clear c10
      replace H := Option.bind_eq_some_iff.mp H
      obtain ⟨t160, A110, H⟩ := H
      replace H : (if (t160.length : Int) = 0 then (none) else (if 0 ≤ (Int.tmod x1_1 (t160.length : Int)) then (if (Int.tmod x1_1 (t160.length : Int)) < (t160.length : Int) then (if 0 ≤ x6_1 then (if x6_1 < (x5_1.length : Int) then (posserref03_Nth.l0 k1 (wrap64 (Int.tdiv x1_1 (t160.length : Int))) (x5_1.set (x6_1 : Int).toNat (rd t160 (Int.tmod x1_1 (t160.length : Int)))) (wrap64 (x6_1 - 1)) l0_0 l0_1 a0_2) else (none)) else (none)) else (none)) else (none))) = some r := H
      have A11 := Aside0.mk A110
      clear A110
      by_cases c12 : (t160.length : Int) = 0
      ·rw [if_pos c12] at H
       exact absurd H (by simp)
      ·rw [if_neg c12] at H
       have c12b0 : ((t160.length : Int) == 0) = false := beq_eq_false_iff_ne.mpr c12
       have c12b1 : ((t160.length : Int) != 0) = true := bne_iff_ne.mpr c12
       have c12b2 : ¬ (t160 = []) := fun h_ => c12 (by rw [h_]; rfl)
       obtain ⟨ji13, hji13⟩ : ∃ j_ : Int, (Int.tmod x1_1 (t160.length : Int)) = j_ := ⟨_, rfl⟩
       replace H : (if 0 ≤ (ji13) then (if (ji13) < (t160.length : Int) then (if 0 ≤ x6_1 then (if x6_1 < (x5_1.length : Int) then (posserref03_Nth.l0 k1 (wrap64 (Int.tdiv x1_1 (t160.length : Int))) (x5_1.set (x6_1 : Int).toNat (rd t160 (ji13))) (wrap64 (x6_1 - 1)) l0_0 l0_1 a0_2) else (none)) else (none)) else (none)) else (none)) = some r := by first | (rw [hji13] at H; exact H) | (simp only [hji13] at H ⊢; exact H)
       (try rw [hji13] at A11)
       by_cases c14 : 0 ≤ (ji13)
       ·rw [if_pos c14] at H
        have c14b0 : decide (0 ≤ (ji13)) = true := decide_eq_true c14
        clear c14
        by_cases c15 : (ji13) < (t160.length : Int)
        ·rw [if_pos c15] at H
         have c15b0 : decide ((ji13) < (t160.length : Int)) = true := decide_eq_true c15
         clear c15
         by_cases c16 : 0 ≤ x6_1
         ·rw [if_pos c16] at H
          have c16b0 : decide (0 ≤ x6_1) = true := decide_eq_true c16
          clear c16
          by_cases c17 : x6_1 < (x5_1.length : Int)
          ·rw [if_pos c17] at H
           have c17b0 : decide (x6_1 < (x5_1.length : Int)) = true := decide_eq_true c17
           clear c17
           obtain ⟨y164, hy164⟩ : ∃ y_ : List Int, y_ = (x5_1.set (x6_1 : Int).toNat (rd t160 (ji13))) := ⟨_, rfl⟩
           replace H : (posserref03_Nth.l0 k1 (wrap64 (Int.tdiv x1_1 (t160.length : Int))) y164 (wrap64 (x6_1 - 1)) l0_0 l0_1 a0_2) = some r := by first | (rw [hy164]; with_reducible exact H) | (have H2_ := (Option.bind_some _ _).symm.trans H; rw [hy164]; with_reducible exact H2_) | (have H2_ := (Option.bind_some _ _).symm.trans H; with_reducible exact H2_) | with_reducible exact H | (rw [hy164]; exact H) | exact H
           have Ny164 := Aside0.mk hy164
           clear hy164
           have H' := Aside0.mk H
           clear H
           have hcz19_0 := sc 0 BK156
           have hcz19_1 := sc 1 BK156
           have hcz19_2 := sc 2 BK156
           have hfz19_0 := blk_frozen BK156.out 0
           have hfz19_1 := blk_frozen BK156.out 1
           have hfz19_2 := blk_frozen BK156.out 2
           try go_wp2_with (first | ((with_reducible refine gate_callee (f := 94) rfl ?_); refine goesL_ (some 22) rfl rfl Try.func94 (by kernel_rfl) rfl #[.agg #[.slice A0_0 l0_0.length c0_0, .slice A0_1 l0_1.length c0_1, .int .i64 a0_2], .int .i64 x6_1] rfl (by (try simp only [List.map_toArray, List.map_cons, List.map_nil]); first | done | rfl | (simp only [List.length_drop, List.length_take]; rfl)) ?_; (with_reducible refine (posserref03_WomenOf.calls k1 _ _ l0_0 _ _ l0_1 a0_2 x6_1 t160 _ ?side1 ?side2 ?side3 ?side4 A11.out).mono ?_); (case side1 => exact sCb HR0_0 HB); (case side2 => exact HC0_0.out); (case side3 => exact sCb HR0_1 HB); (case side4 => exact HC0_1.out); rintro e w20 ⟨v161, rfl, ho0, hb⟩; refine ⟨_, rfl, ?_⟩; have HO162 := Aside0.mk (Kd.R_lower (Kd.R_new' ho0 (Kd.R_lt (sR HO_5))) (below_size (sbe1 HB GE156))); replace HO_5 := Aside0.mk (Kd.R_elder' (sR HO_5) (Kd.R_base ho0) hb); replace BK156 := Aside0.mk (sbb BK156 hb); replace HB := Aside0.mk (sbs1 HB GE156 hb); (try clear hb); (try clear hb2); (try clear hk); (try clear hi); (try clear ho0)))
           replace HO_5 := Aside0.mk (Kd.R_drew HO_5.out)
           replace HO162 := Aside0.mk (Kd.R_drew HO162.out)
           replace BK156 := Aside0.mk (blk_drew BK156.out)
           replace HB := Aside0.mk (below_drew1 HB.out)
           obtain ⟨Ao22, co22, eo22⟩ := Kd.R_slice HO162.out
           (first | subst eo22 | (injection eo22 with f1_ f2_ f3_; have f4_ := f1_.symm; have f5_ := f3_.symm; clear f1_ f2_ f3_; subst f4_; subst f5_))
           have p163 : 0 ≤ ((ji13) : Int) := of_decide_eq_true (by first | (with_reducible assumption) | assumption)
           have q163 : (ji13) < (t160.length : Int) := of_decide_eq_true (by first | (with_reducible assumption) | assumption)
           obtain ⟨ad163, e163, hx163_0⟩ := Kd.at_int (Kd.R_reads' HO162.out).2.2 (ji13) p163 q163
           cases e163
           replace p163 := eq_true p163
           replace q163 := eq_true q163
           have p18 : 0 ≤ (x6_1 : Int) := of_decide_eq_true (by first | (with_reducible assumption) | assumption)
           have q18 : (x6_1 : Int) < ((x5_1.length : Int) : Int) := of_decide_eq_true (by first | (with_reducible assumption) | assumption)
           obtain ⟨go18, co18, eo18, gb18, gl18, cl18, HG18⟩ := Kd.R_form HO_5.out (by omega)
           (first | cases eo18 | (injection eo18 with ea_ en_ ec_; (first | subst ea_ | (injection ea_ with ea_; subst ea_)); subst ec_; clear en_))
           have GB18 := Aside0.mk gb18
           have GG18 := Aside0.mk HG18
           clear gb18 gl18 HG18
           obtain ⟨hx18_0, hf18_0⟩ := Kd.R_celln 0 HO_5.out (x6_1 : Int) p18 q18
           replace p18 := eq_true p18
           replace q18 := eq_true q18
           have HP23 := Kd.R_putn HO_5.out (x6_1 : Int) (rd t160 (ji13))
           rw [← Ny164.out] at HP23
           have HQ23 := Aside0.mk HP23
           clear HP23
           refine start_ (n := 16) (S := fun w' => w'.cell? (ad163.add ((ji13)).toNat) = some (.int .i64 (rd t160 (ji13)))) (ds := [14]) (lm 16 0) (by kernel_rfl) rfl (by kernel_rfl) (hx163_0) (fun hHeld => ?_); refine with_tabW posserref03_Nth.tab6 posserref03_Nth.bits6 (fun HT_ HW_ => ?_)
           generalize w20.drew = w21 at HO_5 HO162 BK156 HB GG18 HQ23 hf18_0 hx163_0 hx18_0 hHeld ⊢
           refine sP (i := 0) (N := some 23) (lm 16 1) ?_ (hc := any_of HT_.out (by kernel_rfl))
           refine sP (i := 1) (N := some 24) (lm 16 3) ?_ (hc := any_of HT_.out (by kernel_rfl))
           refine sP (i := 2) (N := some 25) (lm 16 7) ?_ (hc := any_of HT_.out (by kernel_rfl))
           refine sP (i := 3) (N := some 26) (lm 16 15) ?_ (hc := any_of HT_.out (by kernel_rfl))
           refine sP (i := 4) (N := some 27) (lm 16 31) ?_ (hc := any_of HT_.out (by kernel_rfl))
           refine sP (i := 5) (N := some 28) (lm 16 63) ?_ (hc := any_of HT_.out (by kernel_rfl))
           refine sP (i := 6) (N := some 29) (lm 16 127) ?_ (hc := any_of HT_.out (by kernel_rfl))
           refine sP (i := 7) (N := some 30) (lm 16 255) ?_ (hc := any_of HT_.out (by kernel_rfl))
           refine sP (i := 9) (N := some 32) (lm 16 767) ?_ (hc := any_of HT_.out (by kernel_rfl))
           refine sP (i := 10) (N := some 33) (lm 16 1791) ?_ (hc := any_of HT_.out (by kernel_rfl))
           refine sP (i := 11) (N := some 34) (lm 16 3839) ?_ (hc := any_of HT_.out (by kernel_rfl))
           refine sP (i := 12) (N := some 35) (lm 16 7935) ?_ (hc := any_of HT_.out (by kernel_rfl))
           refine take_ (i := 8) (N := some 31) (v := ?_) (a' := ?_) (lm 16 8191) rfl rfl (take_ofW HT_.out HW_.out (by kernel_rfl)) (fun _ _ _ h => h) (Or.inl ⟨by rfl, ?_⟩) hHeld ?_ ?_
           rotate_left
           ·intro w' s0
            go_simp
            with_reducible rfl
           rotate_left
           ·simp only [Act.put, List.setIfInBounds_toArray, List.set_cons_zero, List.set_cons_succ, i64_w, i32_w]
            rfl
           refine sP (i := 13) (N := some 36) (lm 16 16383) ?_ (hc := any_of HT_.out (by kernel_rfl))
           refine last_ (i := 14) (N := none) (lm 16 32767) rfl rfl (one_of HT_.out (by kernel_rfl)) (by decide) (fun K hK => ?_)
           refine skip_ (w1 := ?_) (by rfl) rfl ?_ ?_
           rotate_left
           ·go_simp
            rfl
           refine hK.out _ _ ?_
           clear hK K
           refine sP (i := 15) (N := some 1) (lm 16 65535) ?_ (hc := any_of HT_.out (by kernel_rfl))
           refine done_ (done_of HT_.out (by kernel_rfl)) ?_
           try go_wp2
           go_roundg k1
           case measure => have := HK1.out; omega
           case rel => exact ⟨(wrap64 (Int.tdiv x1_1 (t160.length : Int))), (y164), (wrap64 (x6_1 - 1)), (by first | rfl | (simp; done) | (simp [*]; done)), (by first | rfl | (simp; done) | (simp [*]; done)), H', ⟨by have := HK1.out; omega⟩, ⟨by (with_reducible repeat (first | apply Kd.R_alloc | apply Kd.R_drewN | apply Kd.R_drew)); exact Kd.R_mono HQ23.out (fun _ hk => trivial)⟩, ⟨by (with_reducible repeat (first | refine blk_drewN ?_ _ | refine blk_drew ?_ | refine blk_alloc ?_ _)); refine blk_far ?_ (by have h_ := Kd.R_ne HO_5.out BK156.out (by decide); intro e_; exact h_ (by rw [e_]; rfl)) _; (with_reducible repeat (first | refine blk_drewN ?_ _ | refine blk_drew ?_ | refine blk_alloc ?_ _)); exact BK156.out⟩, ⟨(sbe2 HB GB18 GE156)⟩⟩
          ·rw [if_neg c17] at H
           exact absurd H (by simp)
         ·rw [if_neg c16] at H
          exact absurd H (by simp)
        ·rw [if_neg c15] at H
         exact absurd H (by simp)
       ·rw [if_neg c14] at H
        exact absurd H (by simp)
     ·rw [if_neg c10] at H
      have c10b0 : decide (0 ≤ x6_1) = false := decide_eq_false c10
      clear c10
      obtain rfl := Option.some.inj H
      go_wp2
      go_ret
      exact ⟨_, by first | rfl | (simp [errW_none, errW_some] <;> rfl) | (simp [*, errW_none, errW_some] <;> rfl), by (with_reducible repeat (first | apply Kd.R_alloc | apply Kd.R_drewN | apply Kd.R_drew)); exact HO_5.out, (sbe1 HB GE156)⟩
  ·rw [if_neg c4] at H
   exact absurd H (by simp)
 ·rw [if_neg c3] at H
  exact absurd H (by simp)
end Go.Proofs.Ytnbbbeghgomnoaa.X
namespace Go.Proofs.Ytnbbbeghgomnoaa.X
open Go.RowKit Go.Proofs.YtnbbbeghgomnoaaW.PrintWords Go.Proofs.YtnbbbeghgomnoaaW.PrintLast Go.Proofs.YtnbbbeghgomnoaaW.PrintMore
attribute [local go_sem] max2_int min2_int max_two min_two max_three min_three max_four min_four
set_option linter.unusedVariables false
set_option linter.unusedSimpArgs false
set_option maxHeartbeats 8000000 in
set_option maxRecDepth 100000 in
theorem posserref03_Own.calls (k : Nat) (A0 : Option Addr) (c0 : Nat) (l0 : List Int) (a1 : Int) (r : Int) (w : World) (hr0 : Kd.C (Kd.int .i64) w A0 l0.length l0) (hc0 : l0.length ≤ c0) (h : posserref03_Own.f k l0 a1 = some r) :
  Calls Try.prog 63 #[.slice A0 l0.length c0, .int .i64 a1] w fun e w' => e = .returned (.int .i64 r) ∧ Drawn0 w w' := by
 have HR0 := Aside0.mk hr0
 have HC0 := Aside0.mk hc0
 clear hr0 hc0
 have H : (posserref03_Own.l0 k l0 a1 0 0) = some r := h
 clear h
 have H' := Aside0.mk H
 clear H
 go_enter Try.func63, Try.ntmps63
 go_wp2
 go_loopg [5, 6] k (fun kq v5 v6 w' => ∃ (x5_1 : Int) (x6_1 : Int), v5 = .int .i64 x5_1 ∧ v6 = .int .i64 x6_1 ∧ Aside0 (posserref03_Own.l0 kq l0 a1 x5_1 x6_1 = some r) ∧ Aside0 (kq ≤ k) ∧ Drawn0 w w')
 case atStart => exact ⟨(0), (0), (by first | rfl | (simp; done) | (simp [*]; done)), (by first | rfl | (simp; done) | (simp [*]; done)), H', ⟨Nat.le_refl _⟩, by repeat (first | exact Drawn0.refl _ | apply Drawn0.step)⟩
 case round =>
  clear H'
  try clear p2
  obtain ⟨x5_1, x6_1, rfl, rfl, HA, HK1, ⟨m1, rfl⟩⟩ := hrel
  cases gk with
  | zero => exact absurd HA.out (by simp [posserref03_Own.l0])
  | succ k1 =>
   have H := HA.out
   clear HA
   simp only [posserref03_Own.l0] at H
   by_cases c3 : x6_1 < (l0.length : Int)
   ·rw [if_pos c3] at H
    have c3b0 : decide (x6_1 < (l0.length : Int)) = true := decide_eq_true c3
    clear c3
    by_cases c4 : 0 ≤ x6_1
    ·rw [if_pos c4] at H
     have c4b0 : decide (0 ≤ x6_1) = true := decide_eq_true c4
     clear c4
     by_cases c5 : (rd l0 x6_1) = a1
     ·rw [if_pos c5] at H
      have c5b0 : ((rd l0 x6_1) == a1) = true := beq_iff_eq.mpr c5
      have c5b1 : ((rd l0 x6_1) != a1) = false := bne_eq_false_iff_eq.mpr c5
      clear c5
      have H' := Aside0.mk H
      clear H
      have p143 : 0 ≤ (x6_1 : Int) := of_decide_eq_true (by first | (with_reducible assumption) | assumption)
      have q143 : x6_1 < (l0.length : Int) := of_decide_eq_true (by first | (with_reducible assumption) | assumption)
      obtain ⟨ad143, e143, hx143_0⟩ := Kd.at_int HR0.out x6_1 p143 q143
      cases e143
      replace p143 := eq_true p143
      replace q143 := eq_true q143
      go_wp2
      go_roundg k1
      case measure => have := HK1.out; omega
      case rel => exact ⟨(wrap64 (x5_1 + 1)), (wrap64 (x6_1 + 1)), (by first | rfl | (simp; done) | (simp [*]; done)), (by first | rfl | (simp; done) | (simp [*]; done)), H', ⟨by have := HK1.out; omega⟩, by repeat (first | exact Drawn0.refl _ | apply Drawn0.step)⟩
     ·rw [if_neg c5] at H
      have c5b0 : ((rd l0 x6_1) == a1) = false := beq_eq_false_iff_ne.mpr c5
      have c5b1 : ((rd l0 x6_1) != a1) = true := bne_iff_ne.mpr c5
      have H' := Aside0.mk H
      clear H
      have p143 : 0 ≤ (x6_1 : Int) := of_decide_eq_true (by first | (with_reducible assumption) | assumption)
      have q143 : x6_1 < (l0.length : Int) := of_decide_eq_true (by first | (with_reducible assumption) | assumption)
      obtain ⟨ad143, e143, hx143_0⟩ := Kd.at_int HR0.out x6_1 p143 q143
      cases e143
      replace p143 := eq_true p143
      replace q143 := eq_true q143
      go_wp2
      go_roundg k1
      case measure => have := HK1.out; omega
      case rel => exact ⟨(x5_1), (wrap64 (x6_1 + 1)), (by first | rfl | (simp; done) | (simp [*]; done)), (by first | rfl | (simp; done) | (simp [*]; done)), H', ⟨by have := HK1.out; omega⟩, by repeat (first | exact Drawn0.refl _ | apply Drawn0.step)⟩
    ·rw [if_neg c4] at H
     exact absurd H (by simp)
   ·rw [if_neg c3] at H
    have c3b0 : decide (x6_1 < (l0.length : Int)) = false := decide_eq_false c3
    clear c3
    obtain rfl := Option.some.inj H
    go_wp2
    go_ret
    exact ⟨by first | rfl | (simp; done) | (simp [*]; done), by repeat (first | exact Drawn0.refl _ | apply Drawn0.step)⟩
end Go.Proofs.Ytnbbbeghgomnoaa.X
namespace Go.Proofs.Ytnbbbeghgomnoaa.X
open Go.RowKit Go.Proofs.YtnbbbeghgomnoaaW.PrintWords Go.Proofs.YtnbbbeghgomnoaaW.PrintLast Go.Proofs.YtnbbbeghgomnoaaW.PrintMore
attribute [local go_sem] max2_int min2_int max_two min_two max_three min_three max_four min_four
set_option linter.unusedVariables false
set_option linter.unusedSimpArgs false
def posserref03_DoesMiss.l0 : Nat → List Int → Int → Int → List (S85) → List (S71) → Int → Option (Bool)
 | 0, _, _, _, _, _, _ => none
 | k + 1, x1, x2, x7, x213000, x213001, x213002 => if x7 < (x1.length : Int) then (if 0 ≤ x7 then (if (rd x1 x7) = x2 then (if x7 < (x213001.length : Int) then (if ((rd_T71 x213001 x7).f1) = x2 then (posserref03_DoesMiss.l0 k x1 x2 (wrap64 (x7 + 1)) x213000 x213001 x213002) else (some true)) else (none)) else (posserref03_DoesMiss.l0 k x1 x2 (wrap64 (x7 + 1)) x213000 x213001 x213002)) else (none)) else (some false)
def posserref03_DoesMiss.f (k : Nat) (l0_0 : List (S85)) (l0_1 : List (S71)) (a0_2 : Int) (l1 : List Int) (a2 : Int) : Option (Bool) := posserref03_DoesMiss.l0 k l1 a2 0 l0_0 l0_1 a0_2
set_option maxHeartbeats 8000000 in
set_option maxRecDepth 100000 in
theorem posserref03_DoesMiss.calls (k : Nat) (A0_0 : Option Addr) (c0_0 : Nat) (l0_0 : List (S85)) (A0_1 : Option Addr) (c0_1 : Nat) (l0_1 : List (S71)) (a0_2 : Int) (A1 : Option Addr) (c1 : Nat) (l1 : List Int) (a2 : Int) (r : Bool) (w : World) (hr0_0 : Kd.C k85 w A0_0 l0_0.length l0_0) (hc0_0 : l0_0.length ≤ c0_0) (hr0_1 : Kd.C k71 w A0_1 l0_1.length l0_1) (hc0_1 : l0_1.length ≤ c0_1) (hr1 : Kd.C (Kd.int .i64) w A1 l1.length l1) (hc1 : l1.length ≤ c1) (h : posserref03_DoesMiss.f k l0_0 l0_1 a0_2 l1 a2 = some r) :
  Calls Try.prog 65 #[.agg #[.slice A0_0 l0_0.length c0_0, .slice A0_1 l0_1.length c0_1, .int .i64 a0_2], .slice A1 l1.length c1, .int .i64 a2] w fun e w' => e = .returned (.bool r) ∧ Below w.heap.size w w' := by
 have hu25 := Try.underlying25
 have HR0_0 := Aside0.mk hr0_0
 have HC0_0 := Aside0.mk hc0_0
 clear hr0_0 hc0_0
 have HR0_1 := Aside0.mk hr0_1
 have HC0_1 := Aside0.mk hc0_1
 clear hr0_1 hc0_1
 have HR1 := Aside0.mk hr1
 have HC1 := Aside0.mk hc1
 clear hr1 hc1
 have HB := Aside0.mk (Below.refl w.heap.size w)
 have H : (posserref03_DoesMiss.l0 k l1 a2 0 l0_0 l0_1 a0_2) = some r := h
 clear h
 have H' := Aside0.mk H
 clear H
 go_enter Try.func65, Try.ntmps65
 go_wp2_with (first | ((with_reducible refine gate_dst (N := 3) rfl ?_); refine sbox (N := 3) #[.slice A0_0 l0_0.length c0_0, .slice A0_1 l0_1.length c0_1, .int .i64 a0_2] 25 ?_; intro gb212 hg w4 hbox hb; have BK212 := Aside0.mk (hbox); have GW212 := Aside0.mk (sge hg HB : w.heap.size ≤ gb212); have GE212 := Aside0.mk (sge hg HB : w.heap.size ≤ gb212); replace HB := Aside0.mk (sbs HB hb); clear hb hbox hg))
 go_loopg [7] k (fun kq v7 w' => ∃ (x7_1 : Int), v7 = .int .i64 x7_1 ∧ Aside0 (posserref03_DoesMiss.l0 kq l1 a2 x7_1 l0_0 l0_1 a0_2 = some r) ∧ Aside0 (kq ≤ k) ∧ Aside0 (w'.heap[gb212]? = some (.cells #[(.slice A0_0 l0_0.length c0_0), (.slice A0_1 l0_1.length c0_1), .int .i64 a0_2] 25 (0, 0))) ∧ Aside0 (Below w.heap.size w w'))
 case atStart => exact ⟨(0), (by first | rfl | (simp; done) | (simp [*]; done)), H', ⟨Nat.le_refl _⟩, ⟨by (with_reducible repeat (first | refine blk_drewN ?_ _ | refine blk_drew ?_ | refine blk_alloc ?_ _)); exact BK212.out⟩, ⟨(sbe1 HB GE212)⟩⟩
 case round =>
  clear H'
  try clear c1
  try clear p2
  obtain ⟨x7_1, rfl, HA, HK1, BK212, HB⟩ := hrel
  cases gk with
  | zero => exact absurd HA.out (by simp [posserref03_DoesMiss.l0])
  | succ k1 =>
   have H := HA.out
   clear HA
   simp only [posserref03_DoesMiss.l0] at H
   by_cases c5 : x7_1 < (l1.length : Int)
   ·rw [if_pos c5] at H
    have c5b0 : decide (x7_1 < (l1.length : Int)) = true := decide_eq_true c5
    clear c5
    by_cases c6 : 0 ≤ x7_1
    ·rw [if_pos c6] at H
     have c6b0 : decide (0 ≤ x7_1) = true := decide_eq_true c6
     clear c6
     by_cases c7 : (rd l1 x7_1) = a2
     ·rw [if_pos c7] at H
      have c7b0 : ((rd l1 x7_1) == a2) = true := beq_iff_eq.mpr c7
      have c7b1 : ((rd l1 x7_1) != a2) = false := bne_eq_false_iff_eq.mpr c7
      clear c7
      by_cases c8 : x7_1 < (l0_1.length : Int)
      ·rw [if_pos c8] at H
       have c8b0 : decide (x7_1 < (l0_1.length : Int)) = true := decide_eq_true c8
       clear c8
       by_cases c9 : ((rd_T71 l0_1 x7_1).f1) = a2
       ·rw [if_pos c9] at H
        have c9b0 : (((rd_T71 l0_1 x7_1).f1) == a2) = true := beq_iff_eq.mpr c9
        have c9b1 : (((rd_T71 l0_1 x7_1).f1) != a2) = false := bne_eq_false_iff_eq.mpr c9
        clear c9
        have H' := Aside0.mk H
        clear H
        have p213 : 0 ≤ (x7_1 : Int) := of_decide_eq_true (by first | (with_reducible assumption) | assumption)
        have q213 : x7_1 < (l1.length : Int) := of_decide_eq_true (by first | (with_reducible assumption) | assumption)
        obtain ⟨ad213, e213, hx213_0⟩ := Kd.at_int HR1.out x7_1 p213 q213
        cases e213
        replace hx213_0 := (HB.out.cell (World.block_lt_of_cell? w _ hx213_0)).trans hx213_0
        replace p213 := eq_true p213
        replace q213 := eq_true q213
        have hcz10_0 := sc 0 BK212
        have hcz10_1 := sc 1 BK212
        have hcz10_2 := sc 2 BK212
        have hfz10_0 := blk_frozen BK212.out 0
        have hfz10_1 := blk_frozen BK212.out 1
        have hfz10_2 := blk_frozen BK212.out 2
        have p214 : 0 ≤ (x7_1 : Int) := of_decide_eq_true (by first | (with_reducible assumption) | assumption)
        have q214 : x7_1 < (l0_1.length : Int) := of_decide_eq_true (by first | (with_reducible assumption) | assumption)
        obtain ⟨ad214, A214_0, c214_0, e214, hx214_0, hx214_1, hl214_0, hi214_0⟩ := at_T71 HR0_1.out x7_1 p214 q214
        cases e214
        replace hx214_0 := (HB.out.cell (World.block_lt_of_cell? w _ hx214_0)).trans hx214_0
        replace hx214_1 := (HB.out.cell (World.block_lt_of_cell? w _ hx214_1)).trans hx214_1
        have HR214_0 := Aside0.mk hi214_0
        have HC214_0 := Aside0.mk hl214_0
        clear hi214_0 hl214_0
        replace p214 := eq_true p214
        replace q214 := eq_true q214
        go_wp2
        go_roundg k1
        case measure => have := HK1.out; omega
        case rel => exact ⟨(wrap64 (x7_1 + 1)), (by first | rfl | (simp; done) | (simp [*]; done)), H', ⟨by have := HK1.out; omega⟩, ⟨by (with_reducible repeat (first | refine blk_drewN ?_ _ | refine blk_drew ?_ | refine blk_alloc ?_ _)); exact BK212.out⟩, ⟨(sbe1 HB GE212)⟩⟩
       ·rw [if_neg c9] at H
        have c9b0 : (((rd_T71 l0_1 x7_1).f1) == a2) = false := beq_eq_false_iff_ne.mpr c9
        have c9b1 : (((rd_T71 l0_1 x7_1).f1) != a2) = true := bne_iff_ne.mpr c9
        obtain rfl := Option.some.inj H
        have p213 : 0 ≤ (x7_1 : Int) := of_decide_eq_true (by first | (with_reducible assumption) | assumption)
        have q213 : x7_1 < (l1.length : Int) := of_decide_eq_true (by first | (with_reducible assumption) | assumption)
        obtain ⟨ad213, e213, hx213_0⟩ := Kd.at_int HR1.out x7_1 p213 q213
        cases e213
        replace hx213_0 := (HB.out.cell (World.block_lt_of_cell? w _ hx213_0)).trans hx213_0
        replace p213 := eq_true p213
        replace q213 := eq_true q213
        have hcz11_0 := sc 0 BK212
        have hcz11_1 := sc 1 BK212
        have hcz11_2 := sc 2 BK212
        have hfz11_0 := blk_frozen BK212.out 0
        have hfz11_1 := blk_frozen BK212.out 1
        have hfz11_2 := blk_frozen BK212.out 2
        have p214 : 0 ≤ (x7_1 : Int) := of_decide_eq_true (by first | (with_reducible assumption) | assumption)
        have q214 : x7_1 < (l0_1.length : Int) := of_decide_eq_true (by first | (with_reducible assumption) | assumption)
        obtain ⟨ad214, A214_0, c214_0, e214, hx214_0, hx214_1, hl214_0, hi214_0⟩ := at_T71 HR0_1.out x7_1 p214 q214
        cases e214
        replace hx214_0 := (HB.out.cell (World.block_lt_of_cell? w _ hx214_0)).trans hx214_0
        replace hx214_1 := (HB.out.cell (World.block_lt_of_cell? w _ hx214_1)).trans hx214_1
        have HR214_0 := Aside0.mk hi214_0
        have HC214_0 := Aside0.mk hl214_0
        clear hi214_0 hl214_0
        replace p214 := eq_true p214
        replace q214 := eq_true q214
        go_wp2
        go_ret
        exact ⟨by first | rfl | (simp [errW_none, errW_some] <;> rfl) | (simp [*, errW_none, errW_some] <;> rfl), (sbe1 HB GE212)⟩
      ·rw [if_neg c8] at H
       exact absurd H (by simp)
     ·rw [if_neg c7] at H
      have c7b0 : ((rd l1 x7_1) == a2) = false := beq_eq_false_iff_ne.mpr c7
      have c7b1 : ((rd l1 x7_1) != a2) = true := bne_iff_ne.mpr c7
      have H' := Aside0.mk H
      clear H
      have p213 : 0 ≤ (x7_1 : Int) := of_decide_eq_true (by first | (with_reducible assumption) | assumption)
      have q213 : x7_1 < (l1.length : Int) := of_decide_eq_true (by first | (with_reducible assumption) | assumption)
      obtain ⟨ad213, e213, hx213_0⟩ := Kd.at_int HR1.out x7_1 p213 q213
      cases e213
      replace hx213_0 := (HB.out.cell (World.block_lt_of_cell? w _ hx213_0)).trans hx213_0
      replace p213 := eq_true p213
      replace q213 := eq_true q213
      go_wp2
      go_roundg k1
      case measure => have := HK1.out; omega
      case rel => exact ⟨(wrap64 (x7_1 + 1)), (by first | rfl | (simp; done) | (simp [*]; done)), H', ⟨by have := HK1.out; omega⟩, ⟨by (with_reducible repeat (first | refine blk_drewN ?_ _ | refine blk_drew ?_ | refine blk_alloc ?_ _)); exact BK212.out⟩, ⟨(sbe1 HB GE212)⟩⟩
    ·rw [if_neg c6] at H
     exact absurd H (by simp)
   ·rw [if_neg c5] at H
    have c5b0 : decide (x7_1 < (l1.length : Int)) = false := decide_eq_false c5
    clear c5
    obtain rfl := Option.some.inj H
    go_wp2
    go_ret
    exact ⟨by first | rfl | (simp [errW_none, errW_some] <;> rfl) | (simp [*, errW_none, errW_some] <;> rfl), (sbe1 HB GE212)⟩
end Go.Proofs.Ytnbbbeghgomnoaa.X
namespace Go.Proofs.Ytnbbbeghgomnoaa.X
open Go.RowKit Go.Proofs.YtnbbbeghgomnoaaW.PrintWords Go.Proofs.YtnbbbeghgomnoaaW.PrintLast Go.Proofs.YtnbbbeghgomnoaaW.PrintMore
theorem mn_le (a b : Int) : mn a b ≤ a ∧ mn a b ≤ b ∧ (mn a b = a ∨ mn a b = b) := by
 unfold mn
 split
 ·exact ⟨by omega, by omega, .inr rfl⟩
 ·exact ⟨by omega, by omega, .inl rfl⟩
theorem mx_ge (a b : Int) : a ≤ mx a b ∧ b ≤ mx a b ∧ (mx a b = a ∨ mx a b = b) := by
 unfold mx
 split
 ·exact ⟨by omega, by omega, .inr rfl⟩
 ·exact ⟨by omega, by omega, .inl rfl⟩
theorem bounds_fold {α : Type} (g : α → Int) : ∀ (ts : List α) (a b : Int), (ts.foldl (fun r x => (mn r.1 (g x), mx r.2 (g x))) (a, b)).1 ≤ a ∧ (∀ x ∈ ts, (ts.foldl (fun r x => (mn r.1 (g x), mx r.2 (g x))) (a, b)).1 ≤ g x) ∧
  ((ts.foldl (fun r x => (mn r.1 (g x), mx r.2 (g x))) (a, b)).1 = a ∨ ∃ x ∈ ts, g x = (ts.foldl (fun r x => (mn r.1 (g x), mx r.2 (g x))) (a, b)).1) ∧
  b ≤ (ts.foldl (fun r x => (mn r.1 (g x), mx r.2 (g x))) (a, b)).2 ∧ (∀ x ∈ ts, g x ≤ (ts.foldl (fun r x => (mn r.1 (g x), mx r.2 (g x))) (a, b)).2) ∧
  ((ts.foldl (fun r x => (mn r.1 (g x), mx r.2 (g x))) (a, b)).2 = b ∨ ∃ x ∈ ts, g x = (ts.foldl (fun r x => (mn r.1 (g x), mx r.2 (g x))) (a, b)).2) := by
 intro ts
 induction ts with
 | nil => intro a b; exact ⟨Int.le_refl _, fun _ h => by simp at h, .inl rfl, Int.le_refl _, fun _ h => by simp at h, .inl rfl⟩
 | cons y r ih =>
  intro a b
  rw [List.foldl_cons]
  obtain ⟨h1, h2, h3, h4, h5, h6⟩ := ih (mn a (g y)) (mx b (g y))
  obtain ⟨m1, m2, m3⟩ := mn_le a (g y)
  obtain ⟨n1, n2, n3⟩ := mx_ge b (g y)
  refine ⟨Int.le_trans h1 m1, fun x hx => ?_, ?_, Int.le_trans n1 h4, fun x hx => ?_, ?_⟩
  ·rcases List.mem_cons.1 hx with rfl | hx
   ·exact Int.le_trans h1 m2
   ·exact h2 x hx
  ·rcases h3 with h3 | ⟨x, hx, h3⟩
   ·rcases m3 with m3 | m3
    ·exact .inl (h3.trans m3)
    ·exact .inr ⟨y, List.mem_cons_self, (h3.trans m3).symm⟩
   ·exact .inr ⟨x, List.mem_cons_of_mem _ hx, h3⟩
  ·rcases List.mem_cons.1 hx with rfl | hx
   ·exact Int.le_trans n2 h4
   ·exact h5 x hx
  ·rcases h6 with h6 | ⟨x, hx, h6⟩
   ·rcases n3 with n3 | n3
    ·exact .inl (h6.trans n3)
    ·exact .inr ⟨y, List.mem_cons_self, (h6.trans n3).symm⟩
   ·exact .inr ⟨x, List.mem_cons_of_mem _ hx, h6⟩
theorem boundsL_spec (g : List Int → Int) {ts : List (List Int)} (h : ts ≠ []) : (∀ x ∈ ts, (boundsL g ts).1 ≤ g x ∧ g x ≤ (boundsL g ts).2) ∧ (∃ x ∈ ts, g x = (boundsL g ts).1) ∧ (∃ x ∈ ts, g x = (boundsL g ts).2) := by
 obtain ⟨y, r, rfl⟩ : ∃ y r, ts = y :: r := List.exists_cons_of_ne_nil h
 obtain ⟨h1, h2, h3, h4, h5, h6⟩ := bounds_fold g (y :: r) (g y) (g y)
 refine ⟨fun x hx => ⟨h2 x hx, h5 x hx⟩, ?_, ?_⟩
 ·rcases h3 with h3 | h3
  ·exact ⟨y, List.mem_cons_self, h3.symm⟩
  ·exact h3
 ·rcases h6 with h6 | h6
  ·exact ⟨y, List.mem_cons_self, h6.symm⟩
  ·exact h6
def missB (l1 : List S110) (x : List Int) (w : Int) : Bool := decide (0 < missN l1 (pad x) w)
theorem missN_nonneg (l1 : List S110) (o : Nat → Int) (w : Int) : 0 ≤ missN l1 o w := by unfold missN; omega
theorem missB_any (l1 : List S110) (x : List Int) (w : Int) : missB l1 x w = (List.range l1.length).any (fun i => off l1 (pad x) i && (pad x i == w)) := by
 unfold missB missN
 rw [Bool.eq_iff_iff, decide_eq_true_eq, List.any_eq_true]
 constructor
 ·intro h
  have h2 : 0 < ((sel (off l1 (pad x)) l1.length).filter fun i => pad x i.toNat == w).length := by omega
  obtain ⟨y, hy⟩ := List.exists_mem_of_length_pos h2
  rw [List.mem_filter] at hy
  obtain ⟨k, hk1, hk2, rfl⟩ := (sel_mem _ _ _).1 hy.1
  refine ⟨k, List.mem_range.2 hk1, ?_⟩
  rw [Int.toNat_natCast] at hy
  rw [hk2, hy.2]; rfl
 ·rintro ⟨k, hk, h⟩
  rw [Bool.and_eq_true] at h
  have : 0 < ((sel (off l1 (pad x)) l1.length).filter fun i => pad x i.toNat == w).length := by
   refine List.length_pos_of_mem (a := (k : Int)) (List.mem_filter.2 ⟨(sel_mem _ _ _).2 ⟨k, List.mem_range.1 hk, h.1, rfl⟩, ?_⟩)
   rw [Int.toNat_natCast]; exact h.2
  omega
theorem DoesMiss_ev {l0 : List S85} {l1 : List S71} (wg : Int) (h1 : l1.length ≤ 30) (x : List Int) (hx : x.length = l1.length) (w : Int) : Evt (fun k => posserref03_DoesMiss.f k l0 l1 wg x w) (missB (l1.map cvP) x w) := by
 rw [missB_any, List.length_map]
 have main : ∀ (d i : Nat), i + d = l1.length → (List.range i).any (fun i => off (l1.map cvP) (pad x) i && (pad x i == w)) = false → Evt (fun k => posserref03_DoesMiss.l0 k x w (i : Int) l0 l1 wg) ((List.range l1.length).any (fun i => off (l1.map cvP) (pad x) i && (pad x i == w))) := by
  intro d
  induction d with
  | zero =>
   intro i hi hf
   obtain rfl : i = l1.length := by omega
   rw [hf]
   refine Evt.succ (Evt.const _) (fun k => ?_)
   simp only [posserref03_DoesMiss.l0]
   rw [if_neg (by omega)]
  | succ d ih =>
   intro i hi hf
   have hlt : i < l1.length := by omega
   have hoff : off (l1.map cvP) (pad x) i = !decide ((l1.getD i z71).f1 = x.getD i 0) := by
    unfold off
    rw [cvP_getD]; rfl
   have hstep : (off (l1.map cvP) (pad x) i && (pad x i == w)) = false → Evt (fun k => posserref03_DoesMiss.l0 k x w ((i + 1 : Nat) : Int) l0 l1 wg) ((List.range l1.length).any (fun i => off (l1.map cvP) (pad x) i && (pad x i == w))) := fun h =>
    ih (i + 1) (by omega) (by rw [List.range_succ, List.any_append, hf]; simp [h])
   by_cases he : x.getD i 0 = w
   ·by_cases hb : (l1.getD i z71).f1 = w
    ·refine Evt.succ (hstep (by rw [hoff, he, hb]; simp)) (fun k => ?_)
     simp only [posserref03_DoesMiss.l0]
     rw [if_pos (by omega), if_pos (by omega), rd_nat, if_pos he, if_pos (by omega), rd_T71_nat, if_pos hb, wrap_succ i _ hlt (by omega)]
    ·have ht : (List.range l1.length).any (fun i => off (l1.map cvP) (pad x) i && (pad x i == w)) = true := by
      refine List.any_eq_true.2 ⟨i, List.mem_range.2 hlt, ?_⟩
      rw [hoff, he, decide_eq_false hb]
      show (true && (x.getD i 0 == w)) = true
      rw [he]; simp
     rw [ht]
     refine Evt.succ (Evt.const true) (fun k => ?_)
     simp only [posserref03_DoesMiss.l0]
     rw [if_pos (by omega), if_pos (by omega), rd_nat, if_pos he, if_pos (by omega), rd_T71_nat, if_neg hb]
   ·refine Evt.succ (hstep ?_) (fun k => ?_)
    ·show (_ && (x.getD i 0 == w)) = false
     have : (x.getD i 0 == w) = false := by simpa using he
     rw [this, Bool.and_false]
    ·simp only [posserref03_DoesMiss.l0]
     rw [if_pos (by omega), if_pos (by omega), rd_nat, if_neg he, wrap_succ i _ hlt (by omega)]
 exact main l1.length 0 (by omega) rfl
def verdR (l1 : List S110) (ts : List (List Int)) (w : Int) : Int := if (ts.filter fun x => missB l1 x w).length = ts.length then 1 else if (ts.filter fun x => missB l1 x w).length = 0 then 2 else 3
theorem filter_all {α : Type} (p : α → Bool) (l : List α) : (l.filter p).length = l.length ↔ ∀ x ∈ l, p x = true := by
 induction l with
 | nil => simp
 | cons a r ih =>
  have h := List.length_filter_le p r
  by_cases hp : p a = true
  ·rw [List.filter_cons_of_pos hp, List.length_cons, List.length_cons]
   constructor
   ·intro e x hx
    rcases List.mem_cons.1 hx with rfl | hx
    ·exact hp
    ·exact ih.1 (by omega) x hx
   ·intro e
    have := ih.2 (fun x hx => e x (List.mem_cons_of_mem _ hx))
    omega
  ·rw [List.filter_cons_of_neg hp, List.length_cons]
   constructor
   ·intro e; omega
   ·intro e; exact absurd (e a List.mem_cons_self) hp
theorem filter_none {α : Type} (p : α → Bool) (l : List α) : (l.filter p).length = 0 ↔ ∀ x ∈ l, p x = false := by
 rw [List.length_eq_zero_iff, List.filter_eq_nil_iff]
 constructor
 ·intro h x hx; exact Bool.eq_false_iff.2 (h x hx)
 ·intro h x hx; rw [h x hx]; decide
theorem verd_eq (l1 : List S110) {ts : List (List Int)} (h : ts ≠ []) (w : Int) : verdL (boundsL (fun x => missN l1 (pad x) w) ts) = verdR l1 ts w := by
 obtain ⟨k1, ⟨x, hx, k2⟩, ⟨y, hy, k3⟩⟩ := boundsL_spec (fun x => missN l1 (pad x) w) h
 unfold verdL verdR
 have hall : (0 < (boundsL (fun x => missN l1 (pad x) w) ts).1) ↔ (ts.filter fun x => missB l1 x w).length = ts.length := by
  rw [filter_all]
  constructor
  ·intro e z hz
   have := (k1 z hz).1
   unfold missB
   exact decide_eq_true (by omega)
  ·intro e
   have h2 := of_decide_eq_true (e x hx)
   rw [← k2]; exact h2
 have hnone : ((boundsL (fun x => missN l1 (pad x) w) ts).2 = 0) ↔ (ts.filter fun x => missB l1 x w).length = 0 := by
  rw [filter_none]
  constructor
  ·intro e z hz
   have := (k1 z hz).2
   unfold missB
   exact decide_eq_false (by omega)
  ·intro e
   have h2 := of_decide_eq_false (e y hy)
   have h3 := missN_nonneg l1 (pad y) w
   omega
 by_cases e1 : 0 < (boundsL (fun x => missN l1 (pad x) w) ts).1
 ·rw [if_pos e1, if_pos (hall.1 e1)]
 ·rw [if_neg e1, if_neg (fun e => e1 (hall.2 e))]
  by_cases e2 : (boundsL (fun x => missN l1 (pad x) w) ts).2 = 0
  ·rw [if_pos e2, if_pos (hnone.1 e2)]
  ·rw [if_neg e2, if_neg (fun e => e2 (hnone.2 e))]
end Go.Proofs.Ytnbbbeghgomnoaa.X
namespace Go.Proofs.Ytnbbbeghgomnoaa.X
open Go.RowKit Go.Proofs.YtnbbbeghgomnoaaW.PrintWords Go.Proofs.YtnbbbeghgomnoaaW.PrintLast Go.Proofs.YtnbbbeghgomnoaaW.PrintMore
theorem whoP_any (n1 : Nat) (ts : List (List Int)) (i w : Nat) (hi : i < n1) : whoP n1 ts i w = ts.any (fun x => pad x i == (w : Int)) := by
  unfold whoP manyS
  rw [if_pos ⟨by omega, by omega⟩, Int.toNat_natCast, Bool.eq_iff_iff, decide_eq_true_eq, List.any_eq_true]
  constructor
  · intro h
    obtain ⟨x, hx⟩ := List.exists_mem_of_length_pos (by omega : 0 < (ts.filter fun xs => pad xs i == (w : Int)).length)
    rw [List.mem_filter] at hx
    exact ⟨x, hx.1, hx.2⟩
  · rintro ⟨x, h1, h2⟩
    have := List.length_pos_of_mem (List.mem_filter.2 ⟨h1, h2⟩ : x ∈ ts.filter fun xs => pad xs i == (w : Int))
    omega
theorem whoseL_len (n0 n1 : Nat) (ts : List (List Int)) : (whoseL n0 n1 ts).length = n1 := by simp [whoseL]
theorem whoseL_get (n0 n1 : Nat) (ts : List (List Int)) (i : Nat) (hi : i < n1) : (whoseL n0 n1 ts).getD i [] = sel (whoP n1 ts i) n0 := by
  unfold whoseL
  rw [List.getD_eq_getElem?_getD, List.getElem?_map, List.getElem?_range hi]; rfl
theorem whose_mem {n0 n1 : Nat} {ts : List (List Int)} {i : Nat} (hi : i < n1) (hts : ∀ x ∈ ts, 0 ≤ pad x i ∧ pad x i < n0) (v : Int) : v ∈ (whoseL n0 n1 ts).getD i [] ↔ ∃ x ∈ ts, pad x i = v := by
  rw [whoseL_get _ _ _ _ hi, sel_mem]
  constructor
  · rintro ⟨k, hk, hp, rfl⟩
    rw [whoP_any _ _ _ _ hi, List.any_eq_true] at hp
    obtain ⟨x, hx, he⟩ := hp
    exact ⟨x, hx, eq_of_beq he⟩
  · rintro ⟨x, hx, rfl⟩
    obtain ⟨h0, h1⟩ := hts x hx
    refine ⟨(pad x i).toNat, by omega, ?_, by omega⟩
    rw [whoP_any _ _ _ _ hi, List.any_eq_true]
    exact ⟨x, hx, beq_iff_eq.2 (by omega)⟩
theorem truths_own {l0 : List S109} {l1 : List S110} {wg : Int} {x : List Int} (h : x ∈ truthsL l0 l1 wg) (i : Nat) (hi : i < l1.length) : 0 ≤ pad x i ∧ pad x i < l0.length := allL_owners l0 l1 x (truths_mem h) i hi
theorem missL_get (l1 : List S110) (ts : List (List Int)) (n i : Nat) (hi : i < n) : rd (missL l1 ts n) (i : Int) = verdL (boundsL (fun x => missN l1 (pad x) (i : Int)) ts) := by
  rw [rd_nat]
  unfold missL
  rw [List.getD_eq_getElem?_getD, List.getElem?_map, List.getElem?_range hi]; rfl
theorem verd_one {l1 : List S110} {ts : List (List Int)} (h : ts ≠ []) (w : Int) : verdL (boundsL (fun x => missN l1 (pad x) w) ts) = 1 ↔ ∀ x ∈ ts, missB l1 x w = true := by
  rw [verd_eq l1 h]
  unfold verdR
  by_cases h1 : (ts.filter fun x => missB l1 x w).length = ts.length
  · rw [if_pos h1]
    exact ⟨fun _ => (filter_all _ _).1 h1, fun _ => rfl⟩
  · rw [if_neg h1]
    constructor
    · intro h2
      split at h2 <;> omega
    · intro h2
      exact absurd ((filter_all _ _).2 h2) h1
theorem verd_two {l1 : List S110} {ts : List (List Int)} (h : ts ≠ []) (w : Int) : verdL (boundsL (fun x => missN l1 (pad x) w) ts) = 2 ↔ ∀ x ∈ ts, missB l1 x w = false := by
  rw [verd_eq l1 h]
  unfold verdR
  by_cases h1 : (ts.filter fun x => missB l1 x w).length = ts.length
  · rw [if_pos h1]
    refine ⟨fun h2 => by omega, fun h2 => ?_⟩
    obtain ⟨x, hx⟩ := List.exists_mem_of_ne_nil _ h
    have := (filter_all _ _).1 h1 x hx
    rw [h2 x hx] at this
    cases this
  · rw [if_neg h1]
    by_cases h2 : (ts.filter fun x => missB l1 x w).length = 0
    · rw [if_pos h2]
      exact ⟨fun _ => (filter_none _ _).1 h2, fun _ => rfl⟩
    · rw [if_neg h2]
      exact ⟨fun h3 => by omega, fun h3 => absurd ((filter_none _ _).2 h3) h2⟩
theorem verd_in (r : Int × Int) : verdL r = 1 ∨ verdL r = 2 ∨ verdL r = 3 := by
  unfold verdL
  split
  · exact .inl rfl
  · split
    · exact .inr (.inl rfl)
    · exact .inr (.inr rfl)
end Go.Proofs.Ytnbbbeghgomnoaa.X
namespace Go.Proofs.Ytnbbbeghgomnoaa.X
open Go.RowKit Go.Proofs.YtnbbbeghgomnoaaW.PrintWords Go.Proofs.YtnbbbeghgomnoaaW.PrintLast Go.Proofs.YtnbbbeghgomnoaaW.PrintMore
theorem checkT_of {l0 : List S109} {l1 : List S110} {wg : Int} (h : Val l0 l1 wg) : checkT l0 l1 wg = 0 := by
  unfold checkT
  have h0 := h.n0
  have h1 := h.n1
  have hm := h.mn
  have hw : okIn wg 0 5 = true := by
    unfold okIn
    rw [decide_eq_true h.wg0, decide_eq_true h.wg1]; rfl
  rw [if_neg (by omega), hw, h.ws, h.ps, if_neg (by decide), if_neg (by omega)]
structure Same (L1 L1' : List S110) : Prop where
  len : L1'.length = L1.length
  mks : ∀ i, (L1'.getD i z110).f0 = (L1.getD i z110).f0
theorem Same.opts {L1 L1' : List S110} (h : Same L1 L1') (L0 : List S109) : optsL L0 L1' = optsL L0 L1 := by
  funext i
  unfold optsL
  rw [h.mks i]
theorem Same.all {L1 L1' : List S110} (h : Same L1 L1') (L0 : List S109) : allL L0 L1' = allL L0 L1 := by
  unfold allL
  rw [h.opts L0, h.len]
theorem Same.val {L1 L1' : List S110} (h : Same L1 L1') {L0 : List S109} {wg : Int} (hv : Val L0 L1 wg) (hb : ∀ i, i < L1'.length → okIn (L1'.getD i z110).f1 0 ((L0.length : Int) - 1) = true) : Val L0 L1' wg := by
  refine ⟨hv.n0, by rw [h.len]; exact hv.n1, hv.wg0, hv.wg1, hv.ws, ?_, ?_⟩
  · rw [List.all_eq_true]
    intro z hz
    obtain ⟨i, hi, rfl⟩ := List.mem_iff_getElem.1 hz
    have e' : L1'[i] = L1'.getD i z110 := by rw [List.getD_eq_getElem?_getD, List.getElem?_eq_getElem hi]; rfl
    have hi2 : i < L1.length := by rw [← h.len]; exact hi
    have hp := List.all_eq_true.1 hv.ps (L1.getD i z110) (getD_mem L1 i z110 hi2)
    unfold okP at hp ⊢
    rw [Bool.and_eq_true, Bool.and_eq_true] at hp ⊢
    rw [e', h.mks i]
    exact ⟨⟨hp.1.1, hb i hi⟩, hp.2⟩
  · have hm := hv.mn
    rw [manyT_eq] at hm ⊢
    rw [h.all L0]; exact hm
theorem sel_len_succ (P : Nat → Bool) (n : Nat) : (sel P (n + 1)).length = (sel P n).length + (P n).toNat := by
  cases hq : P n
  · rw [sel_no _ _ hq]; rfl
  · rw [sel_yes _ _ hq, List.length_append]; rfl
end Go.Proofs.Ytnbbbeghgomnoaa.X
namespace Go.Proofs.Ytnbbbeghgomnoaa.X
open Go.RowKit Go.Proofs.YtnbbbeghgomnoaaW.PrintWords Go.Proofs.YtnbbbeghgomnoaaW.PrintLast Go.Proofs.YtnbbbeghgomnoaaW.PrintMore
def beforeB : List Int → List Int → Bool
 | [], b => decide (0 < b.length)
 | _ :: _, [] => false
 | x :: a, y :: b => if x = y then beforeB a b else decide (x < y)
def shorterB (a b : List Int) : Bool := decide (a.length < b.length) || (decide (a.length = b.length) && beforeB a b)
theorem beforeB_trans : ∀ (a b c : List Int), beforeB a b = true → beforeB b c = true → beforeB a c = true := by
 intro a
 induction a with
 | nil =>
  intro b c h1 h2
  cases c with
  | cons z c => rfl
  | nil =>
   cases b with
   | nil => exact h1
   | cons y b => cases h2
 | cons x a ih =>
  intro b c h1 h2
  cases b with
  | nil => cases h1
  | cons y b =>
   cases c with
   | nil => cases h2
   | cons z c =>
    unfold beforeB at h1 h2 ⊢
    by_cases e1 : x = y
    ·rw [if_pos e1] at h1
     by_cases e2 : y = z
     ·rw [if_pos e2] at h2
      rw [if_pos (e1.trans e2)]; exact ih b c h1 h2
     ·rw [if_neg e2] at h2
      have := of_decide_eq_true h2
      rw [if_neg (by omega)]; exact decide_eq_true (by omega)
    ·rw [if_neg e1] at h1
     have h3 := of_decide_eq_true h1
     by_cases e2 : y = z
     ·rw [if_neg (by omega)]; exact decide_eq_true (by omega)
     ·rw [if_neg e2] at h2
      have h4 := of_decide_eq_true h2
      rw [if_neg (by omega)]; exact decide_eq_true (by omega)
theorem shorterB_trans {a b c : List Int} (h1 : shorterB a b = true) (h2 : shorterB b c = true) : shorterB a c = true := by
 unfold shorterB at h1 h2 ⊢
 simp only [Bool.or_eq_true, Bool.and_eq_true, decide_eq_true_eq] at h1 h2 ⊢
 rcases h1 with h1 | ⟨h1, k1⟩ <;> rcases h2 with h2 | ⟨h2, k2⟩
 ·left; omega
 ·left; omega
 ·left; omega
 ·right; exact ⟨by omega, beforeB_trans _ _ _ k1 k2⟩
def rightsL (l0 : List S109) (l1 : List S110) : List Nat := (allL l0 l1).map fun x => bitsN (rightP l0 l1.length x) l0.length
def canB (rs : List Nat) (W : Nat) : Bool := rs.any fun r => decide (r &&& W = W)
def setsN (n : Nat) : List (List Int) := (List.range (n + 1)).flatMap fun k => combs n k 0
def setOf (m : Nat) : List Int := sel (fun j => m.testBit j) 6
theorem sets_sorted : ∀ n, n < 6 → (setsN n).Pairwise (fun a b => shorterB a b = true) := by decide +kernel
theorem sets_bits : ∀ n, n < 6 → ∀ m, m < 2 ^ n → setOf m ∈ setsN n := by decide +kernel
theorem sets_of : ∀ n, n < 6 → ∀ s ∈ setsN n, ∃ m, m < 2 ^ n ∧ s = setOf m := by decide +kernel
theorem setOf_mem (m j : Nat) : (setOf m).contains (j : Int) = (decide (j < 6) && m.testBit j) := by
 rw [Bool.eq_iff_iff, List.contains_iff_mem]
 unfold setOf
 rw [sel_mem, Bool.and_eq_true, decide_eq_true_eq]
 constructor
 ·rintro ⟨k, h1, h2, h3⟩
  obtain rfl : j = k := by omega
  exact ⟨h1, h2⟩
 ·rintro ⟨h1, h2⟩; exact ⟨j, h1, h2, rfl⟩
theorem shorterB_irrefl : ∀ a : List Int, shorterB a a = false := by
 intro a
 have hb : ∀ a : List Int, beforeB a a = false := by
  intro a
  induction a with
  | nil => rfl
  | cons x a ih => unfold beforeB; rw [if_pos rfl]; exact ih
 unfold shorterB
 rw [hb, decide_eq_false (by omega), Bool.and_false]; rfl
theorem leaveL_find (l0 : List S109) (l1 : List S110) : leaveL l0 l1 = ((setsN l0.length).find? (possL l0 l1)).getD [] := by
 unfold leaveL setsN
 rw [List.find?_flatMap]
 refine congrArg (fun o => Option.getD o []) (congrArg (fun f => List.findSome? f _) (funext fun k => ?_))
 unfold leaveS
 simp
theorem find_least {C : List (List Int)} {P : List Int → Bool} (hC : C.Pairwise (fun a b => shorterB a b = true)) {r : List Int} (hr : r ∈ C) (hP : P r = true) (hl : ∀ t ∈ C, P t = true → shorterB t r = false) : (C.find? P).getD [] = r := by
 cases hf : C.find? P with
 | none =>
  have := List.find?_eq_none.1 hf r hr
  exact absurd hP this
 | some s =>
  show s = r
  obtain ⟨hPs, x, y, hxy, hx⟩ := List.find?_eq_some_iff_append.1 hf
  have hs := hl s (by rw [hxy]; simp) hPs
  rw [hxy] at hr hC
  rcases List.mem_append.1 hr with h | h
  ·have := hx r h
   rw [hP] at this; cases this
  ·rcases List.mem_cons.1 h with h | h
   ·exact h.symm
   ·have h2 := (List.pairwise_append.1 hC).2.1
    have h3 := (List.pairwise_cons.1 h2).1 r h
    rw [hs] at h3; cases h3
def restW (n m : Nat) : Nat := (2 ^ n - 1) ^^^ ((2 ^ n - 1) &&& m)
theorem restW_bit (n m j : Nat) : (restW n m).testBit j = (decide (j < n) && !m.testBit j) := by
 unfold restW
 rw [Nat.testBit_xor, Nat.testBit_and, Nat.testBit_two_pow_sub_one]
 cases decide (j < n) <;> cases m.testBit j <;> rfl
theorem cond_right (l0 : List S109) (n1 : Nat) (x : List Int) (m : Nat) (h : l0.length ≤ 5) : decide (bitsN (rightP l0 n1 x) l0.length &&& restW l0.length m = restW l0.length m) = condL l0 n1 (setOf m) x := by
 rw [Bool.eq_iff_iff, decide_eq_true_eq]
 unfold condL
 rw [List.all_eq_true]
 constructor
 ·intro he v hv
  obtain ⟨j, hj, hb, rfl⟩ := (sel_mem _ _ _).1 hv
  rw [setOf_mem, decide_eq_true (by omega), Bool.true_and]
  have h2 := congrArg (fun z => z.testBit j) he
  rw [Nat.testBit_and, bitsN_bit, restW_bit, decide_eq_true hj] at h2
  unfold rightP at h2
  rw [hb] at h2
  cases hm : m.testBit j
  ·rw [hm] at h2; cases h2
  ·rfl
 ·intro ha
  refine Nat.eq_of_testBit_eq fun j => ?_
  rw [Nat.testBit_and, bitsN_bit, restW_bit]
  by_cases hj : j < l0.length
  ·rw [decide_eq_true hj]
   unfold rightP
   cases hb : bad l0 n1 (pad x) j
   ·simp
   ·have := ha (j : Int) ((sel_mem _ _ _).2 ⟨j, hj, hb, rfl⟩)
    rw [setOf_mem, decide_eq_true (by omega), Bool.true_and] at this
    rw [this]; rfl
  ·rw [decide_eq_false hj]; rfl
theorem can_poss (l0 : List S109) (l1 : List S110) (m : Nat) (h : l0.length ≤ 5) : canB (rightsL l0 l1) (restW l0.length m) = possL l0 l1 (setOf m) := by
 unfold canB rightsL possL
 rw [List.any_map]
 refine congrArg (fun p => List.any (allL l0 l1) p) (funext fun x => ?_)
 exact cond_right l0 l1.length x m h
def leaveF (l0 : List S109) (l1 : List S110) (m : Nat) : List Int := (List.range m).foldl (fun b i => if shorterB (setOf i) b && canB (rightsL l0 l1) (restW l0.length i) then setOf i else b) (setOf (2 ^ l0.length - 1))
theorem leaveF_succ (l0 : List S109) (l1 : List S110) (m : Nat) : leaveF l0 l1 (m + 1) = if shorterB (setOf m) (leaveF l0 l1 m) && canB (rightsL l0 l1) (restW l0.length m) then setOf m else leaveF l0 l1 m := by
 unfold leaveF
 rw [List.range_succ, List.foldl_append]; rfl
theorem leaveF_inv (l0 : List S109) (l1 : List S110) (h : l0.length ≤ 5) (hok : l1.all (okP l0) = true) : ∀ m, m ≤ 2 ^ l0.length → leaveF l0 l1 m ∈ setsN l0.length ∧ possL l0 l1 (leaveF l0 l1 m) = true ∧ ∀ i, i < m → possL l0 l1 (setOf i) = true → shorterB (setOf i) (leaveF l0 l1 m) = false := by
 have hp := pow_small l0.length h
 have hpos : 0 < 2 ^ l0.length := Nat.two_pow_pos _
 intro m
 induction m with
 | zero =>
  intro _
  refine ⟨sets_bits _ (by omega) _ (by omega), poss_all hok (fun k hk => ?_), fun i hi => absurd hi (by omega)⟩
  have := setOf_mem (2 ^ l0.length - 1) k
  rw [Nat.testBit_two_pow_sub_one, decide_eq_true hk, decide_eq_true (by omega)] at this
  exact List.contains_iff_mem.1 this
 | succ m ih =>
  intro hm
  obtain ⟨h1, h2, h3⟩ := ih (by omega)
  rw [leaveF_succ]
  by_cases hc : (shorterB (setOf m) (leaveF l0 l1 m) && canB (rightsL l0 l1) (restW l0.length m)) = true
  ·rw [if_pos hc]
   rw [Bool.and_eq_true, can_poss _ _ _ h] at hc
   refine ⟨sets_bits _ (by omega) _ (by omega), hc.2, fun i hi hP => ?_⟩
   by_cases e : i = m
   ·subst e; exact shorterB_irrefl _
   ·have h4 := h3 i (by omega) hP
    cases h5 : shorterB (setOf i) (setOf m)
    ·rfl
    ·rw [shorterB_trans h5 hc.1] at h4; cases h4
  ·rw [if_neg hc]
   refine ⟨h1, h2, fun i hi hP => ?_⟩
   by_cases e : i = m
   ·subst e
    cases h5 : shorterB (setOf i) (leaveF l0 l1 i)
    ·rfl
    ·rw [h5, can_poss _ _ _ h, hP] at hc; exact absurd rfl hc
   ·exact h3 i (by omega) hP
theorem leaveF_eq (l0 : List S109) (l1 : List S110) (h : l0.length ≤ 5) (hok : l1.all (okP l0) = true) : leaveF l0 l1 (2 ^ l0.length) = leaveL l0 l1 := by
 obtain ⟨h1, h2, h3⟩ := leaveF_inv l0 l1 h hok _ (Nat.le_refl _)
 rw [leaveL_find]
 refine (find_least (sets_sorted _ (by omega)) h1 h2 (fun t ht hP => ?_)).symm
 obtain ⟨m, hm, rfl⟩ := sets_of _ (by omega) t ht
 exact h3 m hm hP
end Go.Proofs.Ytnbbbeghgomnoaa.X
namespace Go.Proofs.Ytnbbbeghgomnoaa.X
open Go.RowKit Go.Proofs.YtnbbbeghgomnoaaW.PrintWords Go.Proofs.YtnbbbeghgomnoaaW.PrintLast Go.Proofs.YtnbbbeghgomnoaaW.PrintMore
theorem sel_le_of {P Q : Nat → Bool} : ∀ n, (∀ i, i < n → P i = true → Q i = true) → (sel P n).length ≤ (sel Q n).length := by
  intro n
  induction n with
  | zero => intro _; simp [sel]
  | succ n ih =>
    intro h
    have h1 := ih fun i hi => h i (by omega)
    rw [sel_len_succ, sel_len_succ]
    cases hP : P n
    · have : 0 ≤ (Q n).toNat := Nat.zero_le _
      simp only [Bool.toNat_false]; omega
    · rw [h n (by omega) hP]; omega
theorem leave_least {L0 : List S109} {L1 : List S110} (h : L0.length ≤ 5) (hok : L1.all (okP L0) = true) : leaveL L0 L1 ∈ setsN L0.length ∧ possL L0 L1 (leaveL L0 L1) = true ∧ ∀ s ∈ setsN L0.length, possL L0 L1 s = true → shorterB s (leaveL L0 L1) = false := by
  obtain ⟨h1, h2, h3⟩ := leaveF_inv L0 L1 h hok _ (Nat.le_refl _)
  rw [leaveF_eq L0 L1 h hok] at h1 h2 h3
  refine ⟨h1, h2, fun s hs hP => ?_⟩
  obtain ⟨m, hm, rfl⟩ := sets_of _ (by omega) s hs
  exact h3 m hm hP
theorem leave_short {L0 : List S109} {L1 : List S110} (h : L0.length ≤ 5) (hok : L1.all (okP L0) = true) {s : List Int} (hs : s ∈ setsN L0.length) (hP : possL L0 L1 s = true) : (leaveL L0 L1).length ≤ s.length := by
  have h3 := (leave_least h hok).2.2 s hs hP
  unfold shorterB at h3
  rw [Bool.or_eq_false_iff, decide_eq_false_iff_not] at h3
  omega
structure Wdr (L0 L0' : List S109) : Prop where
  len : L0'.length = L0.length
  mks : ∀ i, (L0'.getD i z109).f0 = (L0.getD i z109).f0
  lo : ∀ i, i < L0.length → (L0'.getD i z109).f1.f0 ≤ (L0.getD i z109).f1.f0
  hi : ∀ i, i < L0.length → (L0.getD i z109).f1.f1 ≤ (L0'.getD i z109).f1.f1
theorem Wdr.of {L0 L0' : List S109} (h : Wdr L0 L0') (ms : List Int) : ofL L0' ms = ofL L0 ms := by
  unfold ofL
  rw [h.len]
  congr 1
  funext j
  rw [h.mks j]
theorem Wdr.opts {L0 L0' : List S109} (h : Wdr L0 L0') (L1 : List S110) : optsL L0' L1 = optsL L0 L1 := by
  funext i
  exact h.of _
theorem Wdr.all {L0 L0' : List S109} (h : Wdr L0 L0') (L1 : List S110) : allL L0' L1 = allL L0 L1 := by
  unfold allL
  rw [h.opts L1]
theorem Wdr.okp {L0 L0' : List S109} (h : Wdr L0 L0') : okP L0' = okP L0 := by
  funext z
  unfold okP
  rw [h.of, h.len]
theorem Wdr.bad {L0 L0' : List S109} (h : Wdr L0 L0') (n : Nat) (o : Nat → Int) (i : Nat) (hi : i < L0.length) (hb : bad L0' n o i = true) : X.bad L0 n o i = true := by
  unfold X.bad came at hb ⊢
  have h1 := h.lo i hi
  have h2 := h.hi i hi
  rw [Bool.not_eq_true', Bool.and_eq_false_iff, decide_eq_false_iff_not, decide_eq_false_iff_not] at hb ⊢
  omega
theorem Wdr.isT {L0 L0' : List S109} (h : Wdr L0 L0') {wg wx : Int} (hw : wg ≤ wx) (n : Nat) (x : List Int) (ht : isT L0 n wg x = true) : X.isT L0' n wx x = true := by
  unfold X.isT at ht ⊢
  rw [decide_eq_true_eq] at ht ⊢
  have := sel_le_of (P := X.bad L0' n (pad x)) (Q := X.bad L0 n (pad x)) L0.length (fun i hi hb => h.bad n _ i hi hb)
  rw [h.len]
  omega
theorem Wdr.val {L0 L0' : List S109} (h : Wdr L0 L0') {L1 : List S110} {wg wx : Int} (hv : Val L0 L1 wg) (hw : L0'.all okW = true) (h0 : 0 ≤ wx) (h1 : wx ≤ 5) : Val L0' L1 wx := by
  refine ⟨by rw [h.len]; exact hv.n0, hv.n1, h0, h1, hw, by rw [h.okp]; exact hv.ps, ?_⟩
  have hm := hv.mn
  rw [manyT_eq] at hm ⊢
  rw [h.all L1]; exact hm
end Go.Proofs.Ytnbbbeghgomnoaa.X
namespace Go.Proofs.Ytnbbbeghgomnoaa.X
open Go.RowKit Go.Proofs.YtnbbbeghgomnoaaW.PrintWords Go.Proofs.YtnbbbeghgomnoaaW.PrintLast Go.Proofs.YtnbbbeghgomnoaaW.PrintMore
attribute [local go_sem] max2_int min2_int max_two min_two max_three min_three max_four min_four
set_option linter.unusedVariables false
set_option linter.unusedSimpArgs false
def posserlaw03_ready.f (k : Nat) (l0_0 : List (S85)) (l0_1 : List (S71)) (a0_2 : Int) : Option (Bool) := (posserlaw03_Thin.f k l0_0 l0_1 a0_2).bind fun t444 => (if t444 = true then ((posserref03_Fault.f k l0_0 l0_1 a0_2).bind fun t445 => (some (t445 == 0))) else (some false))
set_option maxHeartbeats 8000000 in
set_option maxRecDepth 100000 in
theorem posserlaw03_ready.calls (k : Nat) (A0_0 : Option Addr) (c0_0 : Nat) (l0_0 : List (S85)) (A0_1 : Option Addr) (c0_1 : Nat) (l0_1 : List (S71)) (a0_2 : Int) (r : Bool) (w : World) (hr0_0 : Kd.C k85 w A0_0 l0_0.length l0_0) (hc0_0 : l0_0.length ≤ c0_0) (hr0_1 : Kd.C k71 w A0_1 l0_1.length l0_1) (hc0_1 : l0_1.length ≤ c0_1) (h : posserlaw03_ready.f k l0_0 l0_1 a0_2 = some r) :
  Calls Try.prog 47 #[.agg #[.slice A0_0 l0_0.length c0_0, .slice A0_1 l0_1.length c0_1, .int .i64 a0_2]] w fun e w' => e = .returned (.bool r) ∧ Below w.heap.size w w' := by
 have hu25 := Try.underlying25
 have HR0_0 := Aside0.mk hr0_0
 have HC0_0 := Aside0.mk hc0_0
 clear hr0_0 hc0_0
 have HR0_1 := Aside0.mk hr0_1
 have HC0_1 := Aside0.mk hc0_1
 clear hr0_1 hc0_1
 have HB := Aside0.mk (Below.refl w.heap.size w)
 have H : ((posserlaw03_Thin.f k l0_0 l0_1 a0_2).bind fun t444 => (if t444 = true then ((posserref03_Fault.f k l0_0 l0_1 a0_2).bind fun t445 => (some (t445 == 0))) else (some false))) = some r := h
 clear h
 replace H := Option.bind_eq_some_iff.mp H
 obtain ⟨t444, A20, H⟩ := H
 replace H : (if t444 = true then ((posserref03_Fault.f k l0_0 l0_1 a0_2).bind fun t445 => (some (t445 == 0))) else (some false)) = some r := H
 have A2 := Aside0.mk A20
 clear A20
 by_cases c3 : t444 = true
 ·subst c3
  have H1 : ((posserref03_Fault.f k l0_0 l0_1 a0_2).bind fun t445 => (some (t445 == 0))) = some r := by rw [if_pos rfl] at H; exact H
  clear H
  have H := H1
  clear H1
  replace H := Option.bind_eq_some_iff.mp H
  obtain ⟨t445, A40, H⟩ := H
  replace H : (some (t445 == 0)) = some r := H
  have A4 := Aside0.mk A40
  clear A40
  obtain rfl := Option.some.inj H
  go_enter Try.func47, Try.ntmps47
  go_wp2_with (first | ((with_reducible refine gate_dst (N := 1) rfl ?_); refine sbox (N := 1) #[.slice A0_0 l0_0.length c0_0, .slice A0_1 l0_1.length c0_1, .int .i64 a0_2] 25 ?_; intro gb443 hg w5 hbox hb; have BK443 := Aside0.mk (hbox); have GW443 := Aside0.mk (sge hg HB : w.heap.size ≤ gb443); have GE443 := Aside0.mk (sge hg HB : w.heap.size ≤ gb443); replace HB := Aside0.mk (sbs HB hb); clear hb hbox hg; have hcz6_0 := sc 0 BK443; have hcz6_1 := sc 1 BK443; have hcz6_2 := sc 2 BK443; have hfz6_0 := blk_frozen BK443.out 0; have hfz6_1 := blk_frozen BK443.out 1; have hfz6_2 := blk_frozen BK443.out 2) | ((with_reducible refine gate_callee (f := 20) rfl ?_); refine goesL_ (some 4) rfl rfl Try.func20 (by kernel_rfl) rfl #[.agg #[.slice A0_0 l0_0.length c0_0, .slice A0_1 l0_1.length c0_1, .int .i64 a0_2]] rfl (by (try simp only [List.map_toArray, List.map_cons, List.map_nil]); first | done | rfl | (simp only [List.length_drop, List.length_take]; rfl)) ?_; (with_reducible refine (posserlaw03_Thin.calls k _ _ l0_0 _ _ l0_1 a0_2 true _ ?side1 ?side2 ?side3 ?side4 A2.out).mono ?_); (case side1 => exact sCb HR0_0 HB); (case side2 => exact HC0_0.out); (case side3 => exact sCb HR0_1 HB); (case side4 => exact HC0_1.out); rintro e w7 ⟨rfl, hb⟩; refine ⟨_, rfl, ?_⟩; replace BK443 := Aside0.mk (sbb BK443 hb); replace HB := Aside0.mk (sbs1 HB GE443 hb); (try clear hb); (try clear hb2); (try clear hk); (try clear hi); have hcz8_0 := sc 0 BK443; have hcz8_1 := sc 1 BK443; have hcz8_2 := sc 2 BK443; have hfz8_0 := blk_frozen BK443.out 0; have hfz8_1 := blk_frozen BK443.out 1; have hfz8_2 := blk_frozen BK443.out 2) | (go_at_call 75; (with_reducible refine (posserref03_Fault.calls k _ _ l0_0 _ _ l0_1 a0_2 t445 _ ?side1 ?side2 ?side3 ?side4 A4.out).mono ?_); (case side1 => exact sCb HR0_0 HB); (case side2 => exact HC0_0.out); (case side3 => exact sCb HR0_1 HB); (case side4 => exact HC0_1.out); rintro e w9 ⟨rfl, hb⟩; replace BK443 := Aside0.mk (sbb BK443 hb); replace HB := Aside0.mk (sbs1 HB GE443 hb); (try clear hb); (try clear hb2); (try clear hk); (try clear hi)))
  go_ret
  exact ⟨by first | rfl | (simp [errW_none, errW_some] <;> rfl) | (simp [*, errW_none, errW_some] <;> rfl), (sbe1 HB GE443)⟩
 ·replace c3 := Bool.eq_false_iff.mpr c3
  subst c3
  have H1 : (some false) = some r := by rw [if_neg (show ¬ (false = true) by decide)] at H; exact H
  clear H
  have H := H1
  clear H1
  obtain rfl := Option.some.inj H
  go_enter Try.func47, Try.ntmps47
  go_wp2_with (first | ((with_reducible refine gate_dst (N := 1) rfl ?_); refine sbox (N := 1) #[.slice A0_0 l0_0.length c0_0, .slice A0_1 l0_1.length c0_1, .int .i64 a0_2] 25 ?_; intro gb443 hg w10 hbox hb; have BK443 := Aside0.mk (hbox); have GW443 := Aside0.mk (sge hg HB : w.heap.size ≤ gb443); have GE443 := Aside0.mk (sge hg HB : w.heap.size ≤ gb443); replace HB := Aside0.mk (sbs HB hb); clear hb hbox hg; have hcz11_0 := sc 0 BK443; have hcz11_1 := sc 1 BK443; have hcz11_2 := sc 2 BK443; have hfz11_0 := blk_frozen BK443.out 0; have hfz11_1 := blk_frozen BK443.out 1; have hfz11_2 := blk_frozen BK443.out 2) | ((with_reducible refine gate_callee (f := 20) rfl ?_); refine goesL_ (some 4) rfl rfl Try.func20 (by kernel_rfl) rfl #[.agg #[.slice A0_0 l0_0.length c0_0, .slice A0_1 l0_1.length c0_1, .int .i64 a0_2]] rfl (by (try simp only [List.map_toArray, List.map_cons, List.map_nil]); first | done | rfl | (simp only [List.length_drop, List.length_take]; rfl)) ?_; (with_reducible refine (posserlaw03_Thin.calls k _ _ l0_0 _ _ l0_1 a0_2 false _ ?side1 ?side2 ?side3 ?side4 A2.out).mono ?_); (case side1 => exact sCb HR0_0 HB); (case side2 => exact HC0_0.out); (case side3 => exact sCb HR0_1 HB); (case side4 => exact HC0_1.out); rintro e w12 ⟨rfl, hb⟩; refine ⟨_, rfl, ?_⟩; replace BK443 := Aside0.mk (sbb BK443 hb); replace HB := Aside0.mk (sbs1 HB GE443 hb); (try clear hb); (try clear hb2); (try clear hk); (try clear hi)))
  go_ret
  exact ⟨by first | rfl | (simp [errW_none, errW_some] <;> rfl) | (simp [*, errW_none, errW_some] <;> rfl), (sbe1 HB GE443)⟩
end Go.Proofs.Ytnbbbeghgomnoaa.X
namespace Go.Proofs.Ytnbbbeghgomnoaa.X
open Go.RowKit Go.Proofs.YtnbbbeghgomnoaaW.PrintWords Go.Proofs.YtnbbbeghgomnoaaW.PrintLast Go.Proofs.YtnbbbeghgomnoaaW.PrintMore
theorem rdy_ev (l0 : List S85) (l1 : List S71) (wg : Int) : Evt (fun k => posserlaw03_ready.f k l0 l1 wg) (thinR l0 l1 && decide (checkT (l0.map cvW) (l1.map cvP) wg = 0)) := by
  obtain ⟨K, hK⟩ := Thin_ev l0 l1 wg
  cases hth : thinR l0 l1 with
  | false =>
    refine ⟨K, fun k hk => ?_⟩
    have g1 := hK k hk
    dsimp only at g1 ⊢
    unfold posserlaw03_ready.f
    rw [g1, hth]; rfl
  | true =>
    obtain ⟨L, hL⟩ := Fault_ev wg (thinR_iff.1 hth)
    refine ⟨K + L, fun k hk => ?_⟩
    have g1 := hK k (by omega)
    have g2 := hL k (by omega)
    dsimp only at g1 g2 ⊢
    unfold posserlaw03_ready.f
    rw [g1, hth]
    simp only [Option.bind_some, if_true]
    rw [g2]
    simp only [Option.bind_some]
    exact congrArg some (by rw [Bool.true_and, Bool.eq_iff_iff, beq_iff_eq, decide_eq_true_eq])
theorem rdy_cases (l0 : List S85) (l1 : List S71) (wg : Int) : (∃ K, ∀ k, K ≤ k → posserlaw03_ready.f k l0 l1 wg = some false) ∨ (VR l0 l1 wg ∧ checkT (l0.map cvW) (l1.map cvP) wg = 0 ∧ ∃ K, ∀ k, K ≤ k → posserlaw03_ready.f k l0 l1 wg = some true) := by
  have h := rdy_ev l0 l1 wg
  by_cases h1 : thinR l0 l1 = true
  · by_cases h2 : checkT (l0.map cvW) (l1.map cvP) wg = 0
    · rw [h1, decide_eq_true h2] at h
      exact .inr ⟨VR.of (thinR_iff.1 h1) h2, h2, h⟩
    · rw [h1, decide_eq_false h2] at h
      exact .inl h
  · rw [Bool.eq_false_iff.2 h1] at h
    exact .inl h
theorem ask_cases {l0 : List S109} {l1 : List S110} {wg : Int} (hc : checkT l0 l1 wg = 0) : (askE l0 l1 wg = 11 ∧ truthsL l0 l1 wg = []) ∨ (askE l0 l1 wg = 0 ∧ truthsL l0 l1 wg ≠ []) := by
  unfold askE
  rw [if_neg (fun h => h hc)]
  by_cases h : truthsL l0 l1 wg = []
  · rw [if_pos h]; exact .inl ⟨rfl, h⟩
  · rw [if_neg h]; exact .inr ⟨rfl, h⟩
theorem u16_rng {a : Int} (h : (Lit.int .u16 a).wf = true) : 0 ≤ a ∧ a ≤ 65535 := by
  unfold Lit.wf at h
  rw [Bool.and_eq_true, decide_eq_true_eq, decide_eq_true_eq] at h
  exact ⟨h.1, h.2⟩
theorem tmod_nat (a n : Int) (h0 : 0 ≤ a) (h1 : a ≤ 65535) (hn : 0 < n) : Int.tmod (wrap64 a) n = ((a.toNat % n.toNat : Nat) : Int) := by
  rw [wrap64_id _ (by omega) (by omega), Int.tmod_eq_emod_of_nonneg h0]
  obtain ⟨x, rfl⟩ : ∃ x : Nat, a = (x : Int) := ⟨a.toNat, by omega⟩
  obtain ⟨y, rfl⟩ : ∃ y : Nat, n = (y : Int) := ⟨n.toNat, by omega⟩
  rw [Int.toNat_natCast, Int.toNat_natCast]; rfl
end Go.Proofs.Ytnbbbeghgomnoaa.X
namespace Go.Proofs.Ytnbbbeghgomnoaa.X
open Go.RowKit Go.Proofs.YtnbbbeghgomnoaaW.PrintWords Go.Proofs.YtnbbbeghgomnoaaW.PrintLast Go.Proofs.YtnbbbeghgomnoaaW.PrintMore
theorem Evt.all {α β : Type} {g : α → Nat → Option β} {r : α → β} : ∀ (l : List α), (∀ x ∈ l, Evt (g x) (r x)) → ∃ K, ∀ k, K ≤ k → ∀ x ∈ l, g x k = some (r x)
  | [], _ => ⟨0, fun _ _ _ h => by cases h⟩
  | a :: l, h => by
    obtain ⟨K, hK⟩ := h a (List.mem_cons_self ..)
    obtain ⟨L, hL⟩ := Evt.all l fun x hx => h x (List.mem_cons_of_mem _ hx)
    refine ⟨K + L, fun k hk x hx => ?_⟩
    rcases List.mem_cons.1 hx with rfl | hx
    · exact hK k (by omega)
    · exact hL k (by omega) x hx
end Go.Proofs.Ytnbbbeghgomnoaa.X
namespace Go.Proofs.Ytnbbbeghgomnoaa.X
open Go.RowKit Go.Proofs.YtnbbbeghgomnoaaW.PrintWords Go.Proofs.YtnbbbeghgomnoaaW.PrintLast Go.Proofs.YtnbbbeghgomnoaaW.PrintMore
abbrev RI (w : World) (b : Nat) (v : Value) (xs : List Int) : Prop := Kd.R (Kd.int .i64) 3 w b (fun _ => True) v xs
abbrev RL (w : World) (b : Nat) (v : Value) (xs : List (List Int)) : Prop := Kd.R (Kd.slice 3 (Kd.int .i64)) 39 w b (fun _ => True) v xs
section
variable {A0 : Option Addr} {c0 : Nat} {l0 : List S109} {A1 : Option Addr} {c1 : Nat} {l1 : List S110} {w : World}
theorem tab_c {A0 : Option Addr} {c0 : Nat} {l0 : List S85} {A1 : Option Addr} {c1 : Nat} {l1 : List S71} (wg : Int) {w : World} (ht : RTab A0 c0 l0 A1 c1 l1 w) {L0 : List S109} {L1 : List S110} (h0 : l0.map cvW = L0) (h1 : l1.map cvP = L1) :
    Calls Try.prog 23 #[.agg #[.slice A0 l0.length c0, .slice A1 l1.length c1, .int .i64 wg]] w fun e w' => ∃ B0 d0 B1 d1, e = .returned (.agg #[.slice B0 L0.length d0, .slice B1 L1.length d1, .int .i64 wg]) ∧ Tab B0 d0 L0 B1 d1 L1 w' ∧ Below w.heap.size w w' := by
  subst h0 h1
  refine (Table_calls wg ht).mono ?_
  rintro e w' ⟨B0, d0, B1, d1, rfl, h, _, _, hb⟩
  exact ⟨B0, d0, B1, d1, by simp only [List.length_map], h, hb⟩
theorem whose_c (wg : Int) (ht : Tab A0 c0 l0 A1 c1 l1 w) (he : askE l0 l1 wg = 0) {ws : List (List Int)} (hs : whoseL l0.length l1.length (truthsL l0 l1 wg) = ws) :
    Calls Try.prog 22 #[.agg #[.slice A0 l0.length c0, .slice A1 l1.length c1, .int .i64 wg]] w fun e w' => ∃ v, e = .returned (.tuple #[v, .int .i64 0]) ∧ RL w' w.heap.size v ws ∧ Below w.heap.size w w' := by
  subst hs
  exact Whose_ok wg ht he
theorem whose_n (wg : Int) (ht : Tab A0 c0 l0 A1 c1 l1 w) (he : askE l0 l1 wg = 11) :
    Calls Try.prog 22 #[.agg #[.slice A0 l0.length c0, .slice A1 l1.length c1, .int .i64 wg]] w fun e w' => e = .returned (.tuple #[.slice none 0 0, .int .i64 11]) ∧ Below w.heap.size w w' := by
  have h := Whose_e wg ht (by omega)
  rwa [he] at h
theorem miss_c (wg : Int) (ht : Tab A0 c0 l0 A1 c1 l1 w) (he : askE l0 l1 wg = 0) {vs : List Int} (hs : missL l1 (truthsL l0 l1 wg) l0.length = vs) :
    Calls Try.prog 27 #[.agg #[.slice A0 l0.length c0, .slice A1 l1.length c1, .int .i64 wg]] w fun e w' => ∃ v, e = .returned (.tuple #[v, .int .i64 0]) ∧ RI w' w.heap.size v vs ∧ Below w.heap.size w w' := by
  subst hs
  exact Misses_ok wg ht he
theorem ast_c (wg : Int) (ht : Tab A0 c0 l0 A1 c1 l1 w) (he : askE l0 l1 wg = 0) {lo hi : Int} (hs : boundsL (fun x => lostN l1 (pad x)) (truthsL l0 l1 wg) = (lo, hi)) :
    Calls Try.prog 37 #[.agg #[.slice A0 l0.length c0, .slice A1 l1.length c1, .int .i64 wg]] w fun e w' => e = .returned (.tuple #[.agg #[.int .i64 lo, .int .i64 hi], .int .i64 0]) ∧ Below w.heap.size w w' := by
  have h := Astray_ok wg ht he
  rwa [hs] at h
theorem leave_c (wg : Int) (ht : Tab A0 c0 l0 A1 c1 l1 w) (he : checkT l0 l1 wg = 0) {vs : List Int} (hs : leaveL l0 l1 = vs) :
    Calls Try.prog 32 #[.agg #[.slice A0 l0.length c0, .slice A1 l1.length c1, .int .i64 wg]] w fun e w' => ∃ v, e = .returned (.tuple #[v, .int .i64 0]) ∧ RI w' w.heap.size v vs ∧ Below w.heap.size w w' := by
  subst hs
  exact Leave_ok wg ht he
end
theorem list_c {A : Option Addr} {c : Nat} {l : List Int} {w : World} (hr : Kd.C (Kd.int .i64) w A l.length l) (hl : l.length ≤ 1000000) :
    Calls Try.prog 41 #[.slice A l.length c] w fun e w' => ∃ B d, e = .returned (.slice B l.length d) ∧ RI w' w.heap.size (.slice B l.length d) l ∧ Below w.heap.size w w' := by
  refine (list_calls A c l w hr hl).mono ?_
  rintro e w' ⟨v, rfl, h, hb⟩
  obtain ⟨B, d, rfl⟩ := Kd.R_slice h
  exact ⟨B, d, rfl, h, hb⟩
end Go.Proofs.Ytnbbbeghgomnoaa.X
namespace Go.Proofs.Ytnbbbeghgomnoaa.X
open Go.RowKit Go.Proofs.YtnbbbeghgomnoaaW.PrintWords Go.Proofs.YtnbbbeghgomnoaaW.PrintLast Go.Proofs.YtnbbbeghgomnoaaW.PrintMore
def PB {α : Type} (d : Kd α) (w : World) (cs : Array Value) (xs : List α) : Prop := ∀ j x, xs[j]? = some x → ∃ c : List Value, d.K w x c ∧ ∀ i u, c[i]? = some u → cs[j * d.sz + i]? = some u
structure RX {α : Type} (d : Kd α) (e : Nat) (w W : World) (b : Nat) (A : Option Addr) (c : Nat) (xs : List α) : Prop where
  le : xs.length ≤ c
  sm : xs.length ≤ 1000
  blk : xs.length = 0 ∨ ∃ g cs, A = some ⟨g, 0, none⟩ ∧ b ≤ g ∧ W.heap[g]? = some (.cells cs e (0, 0)) ∧ PB d w cs xs
section
variable {α : Type} {d : Kd α} {e : Nat} {w W W' : World} {b : Nat} {A : Option Addr} {c : Nat} {xs : List α}
theorem RX.below (h : RX d e w W b A c xs) (hb : Below W.heap.size W W') : RX d e w W' b A c xs := by
  refine ⟨h.le, h.sm, ?_⟩
  rcases h.blk with h0 | ⟨g, cs, h1, h2, h3, h4⟩
  · exact .inl h0
  · exact .inr ⟨g, cs, h1, h2, blk_below h3 hb, h4⟩
theorem RX.setRow {g' t : Nat} {cs' us : Array Value} (h : RX d e w W b A c xs) (hk : W.heap[g']? = some (.cells cs' t (0, 0))) (ht : e ≠ t) : RX d e w (W.setRow g' us) b A c xs := by
  refine ⟨h.le, h.sm, ?_⟩
  rcases h.blk with h0 | ⟨g, cs, h1, h2, h3, h4⟩
  · exact .inl h0
  · refine .inr ⟨g, cs, h1, h2, (setRow_other W g' g us (fun he => ?_)).trans h3, h4⟩
    subst he
    rw [h3] at hk
    injection hk with hk
    injection hk with _ hk
    exact ht hk
theorem RX.setCell {g' j t : Nat} {cs' : Array Value} {u : Value} (h : RX d e w W b A c xs) (hk : W.heap[g']? = some (.cells cs' t (0, 0))) (ht : e ≠ t) : RX d e w (W.setCell ⟨g', j, none⟩ u) b A c xs := by
  refine ⟨h.le, h.sm, ?_⟩
  rcases h.blk with h0 | ⟨g, cs, h1, h2, h3, h4⟩
  · exact .inl h0
  · refine .inr ⟨g, cs, h1, h2, blk_far h3 (fun he => ?_) u, h4⟩
    have he' : g = g' := he
    subst he'
    rw [h3] at hk
    injection hk with hk
    injection hk with _ hk
    exact ht hk
theorem RX.lower {b' : Nat} (h : RX d e w W b A c xs) (hb : b' ≤ b) : RX d e w W b' A c xs := by
  refine ⟨h.le, h.sm, ?_⟩
  rcases h.blk with h0 | ⟨g, cs, h1, h2, h3, h4⟩
  · exact .inl h0
  · exact .inr ⟨g, cs, h1, Nat.le_trans hb h2, h3, h4⟩
theorem addr0 (g k : Nat) : Addr.add ⟨g, 0, none⟩ k = ⟨g, k, none⟩ := by
  cases k with
  | zero => rfl
  | succ k => simp [Addr.add]
theorem RX.C (h : RX d e w W b A c xs) (hb : Below w.heap.size w W) : d.C W A xs.length xs := by
  refine ⟨rfl, by have := h.sm; omega, fun hp => ?_⟩
  rcases h.blk with h0 | ⟨g, cs, h1, h2, h3, h4⟩
  · omega
  · refine ⟨_, h1, fun j p hj => ?_⟩
    obtain ⟨q, hq, hc⟩ := h4 j p hj
    exact ⟨q, d.K_len hq, d.K_below hb hq, fun i u hu => by rw [addr0]; exact (blk_cell h3 _).trans (hc i u hu)⟩
theorem RX.of {v : Value} {rows : List (List Value)} (hR : (Kd.raw d.sz).R e W b (fun _ => True) v rows) (hl : rows.length = xs.length) (hK : ∀ (j : Nat) (x : α) (r : List Value), xs[j]? = some x → rows[j]? = some r → d.K w x r) (hs : xs.length ≤ 1000) : ∃ A c, v = .slice A xs.length c ∧ RX d e w W b A c xs := by
  obtain ⟨_, inner, ho, hr⟩ := hR
  rcases ho.2 with ⟨rfl, h0⟩ | ⟨g, cap, cur, rfl, hg, hh, hn, _, hz, ht⟩
  · have hx : xs.length = 0 := by rw [← hl]; exact h0
    exact ⟨none, 0, by rw [hx], by rw [hx]; exact Nat.le_refl _, hs, .inl hx⟩
  · refine ⟨some ⟨g, 0, none⟩, cap, by rw [hl], by rw [← hl]; exact hn, hs, .inr ⟨g, cur, rfl, hg, hh, fun j x hx => ?_⟩⟩
    have hj : j < rows.length := by rw [hl]; exact (List.getElem?_eq_some_iff.1 hx).1
    have hrj := List.getElem?_eq_getElem hj
    refine ⟨rows[j], hK j x _ hx hrj, fun i u hu => ?_⟩
    have h1 := hr.2 j _ hrj
    have h2 : (inner.drop (j * d.sz)).take d.sz = rows[j] := h1.1
    rw [← h2, List.getElem?_take] at hu
    split at hu
    · rw [List.getElem?_drop] at hu
      rw [← ht, List.getElem?_take] at hu
      split at hu
      · rw [Array.getElem?_toList] at hu; exact hu
      · cases hu
    · cases hu
end
theorem PB.came {w : World} {cs : Array Value} {xs : List S85} (h : PB k85 w cs xs) (p : Nat) (hp : p < xs.length) (u v : Int) : PB k85 w ((cs.setIfInBounds (p * 3 + 1) (.int .i64 u)).setIfInBounds (p * 3 + 2) (.int .i64 v)) (xs.set p ⟨(xs.getD p z85).f0, ⟨u, v⟩⟩) := by
  have hz : k85.sz = 3 := rfl
  intro j x hx
  rw [List.getElem?_set] at hx
  by_cases hj : p = j
  · subst hj
    rw [if_pos rfl, if_pos hp] at hx
    injection hx with hx
    subst hx
    have hg : xs[p]? = some (xs.getD p z85) := by rw [List.getD_eq_getElem?_getD, List.getElem?_eq_getElem hp]; rfl
    obtain ⟨c, hc, hcs⟩ := h p _ hg
    obtain rfl := k85_open hc
    refine ⟨[.int .i64 (xs.getD p z85).f0, .int .i64 u, .int .i64 v], k85_mk w ⟨(xs.getD p z85).f0, ⟨u, v⟩⟩, fun i y hy => ?_⟩
    have h0 := hcs 0 _ rfl
    have h1 := hcs 1 _ rfl
    have h2 := hcs 2 _ rfl
    rw [hz] at h0 h1 h2 ⊢
    have l1 : p * 3 + 1 < cs.size := (Array.getElem?_eq_some_iff.1 h1).1
    have l2 : p * 3 + 2 < cs.size := (Array.getElem?_eq_some_iff.1 h2).1
    match i, hy with
    | 0, hy =>
      rw [Array.getElem?_setIfInBounds, if_neg (by omega), Array.getElem?_setIfInBounds, if_neg (by omega)]
      injection hy with hy
      rw [← hy]; exact h0
    | 1, hy =>
      rw [Array.getElem?_setIfInBounds, if_neg (by omega), Array.getElem?_setIfInBounds, if_pos rfl, if_pos l1]
      exact hy
    | 2, hy =>
      rw [Array.getElem?_setIfInBounds, if_pos rfl, if_pos (by rw [Array.size_setIfInBounds]; exact l2)]
      exact hy
    | i + 3, hy => simp at hy
  · rw [if_neg hj] at hx
    obtain ⟨c, hc, hcs⟩ := h j x hx
    refine ⟨c, hc, fun i y hy => ?_⟩
    have hi : i < 3 := by
      have h1 := (List.getElem?_eq_some_iff.1 hy).1
      have h2 := k85.K_len hc
      omega
    have := hcs i y hy
    rw [hz] at this ⊢
    rw [Array.getElem?_setIfInBounds, if_neg (by omega), Array.getElem?_setIfInBounds, if_neg (by omega)]
    exact this
theorem RX.open_ {α : Type} {d : Kd α} {e : Nat} {w W : World} {b : Nat} {A : Option Addr} {c : Nat} {xs : List α} (h : RX d e w W b A c xs) (hn : xs.length ≠ 0) : ∃ g cs, A = some ⟨g, 0, none⟩ ∧ b ≤ g ∧ W.heap[g]? = some (.cells cs e (0, 0)) ∧ PB d w cs xs := by
  rcases h.blk with h0 | h1
  · exact absurd h0 hn
  · exact h1
theorem min2_mn (k k' : IntKind) (x y : Int) : Builtin.min2 (.int k x) (.int k' y) = pure (.int k (mn x y)) := min2_int k k' x y
theorem max2_mx (k k' : IntKind) (x y : Int) : Builtin.max2 (.int k x) (.int k' y) = pure (.int k (mx x y)) := max2_int k k' x y
theorem blk_ne {W : World} {g g' t t' : Nat} {cs cs' : Array Value} (h : W.heap[g]? = some (.cells cs t (0, 0))) (hk : W.heap[g']? = some (.cells cs' t' (0, 0))) (ht : t ≠ t') : g ≠ g' := fun he => by
  subst he
  rw [h] at hk
  injection hk with hk
  injection hk with _ hk
  exact ht hk
theorem blk_setRow {W : World} {g g' t t' : Nat} {cs cs' : Array Value} (h : W.heap[g]? = some (.cells cs t (0, 0))) (hk : W.heap[g']? = some (.cells cs' t' (0, 0))) (ht : t ≠ t') (us : Array Value) : (W.setRow g' us).heap[g]? = some (.cells cs t (0, 0)) :=
  (setRow_other W g' g us (blk_ne h hk ht)).trans h
theorem blk_setCell {W : World} {g g' t t' j : Nat} {cs cs' : Array Value} (h : W.heap[g]? = some (.cells cs t (0, 0))) (hk : W.heap[g']? = some (.cells cs' t' (0, 0))) (ht : t ≠ t') (u : Value) : (W.setCell ⟨g', j, none⟩ u).heap[g]? = some (.cells cs t (0, 0)) :=
  blk_far h (p := ⟨g', j, none⟩) (blk_ne h hk ht) u
theorem rtabW {A0 : Option Addr} {c0 : Nat} {l0 : List S85} {A1 : Option Addr} {c1 : Nat} {l1 : List S71} {w W : World} {b : Nat} {AX : Option Addr} {cX : Nat} {xs : List S85} (ht : RTab A0 c0 l0 A1 c1 l1 w) (hb : Below w.heap.size w W) (hx : RX k85 85 w W b AX cX xs) (h1 : xs.length ≤ 30) : RTab AX cX xs A1 c1 l1 W :=
  ⟨hx.C hb, hx.le, Kd.C_below ht.r1 hb, ht.h1, h1, ht.n1, ht.ms⟩
theorem rows_of {α : Type} {d : Kd α} {w : World} {A : Option Addr} {xs : List α} (h : d.C w A xs.length xs) : ∃ rows : List (List Value), rows.length = xs.length ∧ (Kd.raw d.sz).C w A xs.length rows ∧ ∀ (j : Nat) (x : α) (r : List Value), xs[j]? = some x → rows[j]? = some r → d.K w x r := by
  obtain ⟨rows, h1, h2, h3⟩ := Kd.reads_raw h (fun x c hc => ⟨d.K_len hc, d.K_one hc⟩)
  exact ⟨rows, h1, h2, h3⟩
end Go.Proofs.Ytnbbbeghgomnoaa.X
namespace Go.Proofs.Ytnbbbeghgomnoaa.X
open Go.RowKit Go.Proofs.YtnbbbeghgomnoaaW.PrintWords Go.Proofs.YtnbbbeghgomnoaaW.PrintLast Go.Proofs.YtnbbbeghgomnoaaW.PrintMore
attribute [local go_sem] max2_int min2_int max_two min_two max_three min_three max_four min_four
set_option linter.unusedVariables false
set_option linter.unusedSimpArgs false
def posserlaw03_word.f (l0 : List Int) (a1 : Int) : Option (Int) := if (l0.length : Int) = 0 then (some 0) else (if 0 ≤ (Int.tmod a1 (l0.length : Int)) then (if (Int.tmod a1 (l0.length : Int)) < (l0.length : Int) then (some (wrap64 (rd l0 (Int.tmod a1 (l0.length : Int))))) else (none)) else (none))
set_option maxHeartbeats 8000000 in
set_option maxRecDepth 100000 in
theorem posserlaw03_word.calls (A0 : Option Addr) (c0 : Nat) (l0 : List Int) (a1 : Int) (r : Int) (w : World) (hr0 : Kd.C (Kd.int .u16) w A0 l0.length l0) (hc0 : l0.length ≤ c0) (h : posserlaw03_word.f l0 a1 = some r) :
    Calls Try.prog 95 #[.slice A0 l0.length c0, .int .i64 a1] w fun e w' => e = .returned (.int .i64 r) ∧ Drawn0 w w' := by
  have HR0 := Aside0.mk hr0
  have HC0 := Aside0.mk hc0
  clear hr0 hc0
  have H : (if (l0.length : Int) = 0 then (some 0) else (if 0 ≤ (Int.tmod a1 (l0.length : Int)) then (if (Int.tmod a1 (l0.length : Int)) < (l0.length : Int) then (some (wrap64 (rd l0 (Int.tmod a1 (l0.length : Int))))) else (none)) else (none))) = some r := h
  clear h
  by_cases c3 : (l0.length : Int) = 0
  · rw [if_pos c3] at H
    have c3b0 : ((l0.length : Int) == 0) = true := beq_iff_eq.mpr c3
    have c3b1 : ((l0.length : Int) != 0) = false := bne_eq_false_iff_eq.mpr c3
    clear c3
    obtain rfl := Option.some.inj H
    go_enter Try.func95, Try.ntmps95
    go_wp2
    go_ret
    exact ⟨by first | rfl | (simp; done) | (simp [*]; done), by repeat (first | exact Drawn0.refl _ | apply Drawn0.step)⟩
  · rw [if_neg c3] at H
    have c3b0 : ((l0.length : Int) == 0) = false := beq_eq_false_iff_ne.mpr c3
    have c3b1 : ((l0.length : Int) != 0) = true := bne_iff_ne.mpr c3
    have c3b2 : ¬ (l0 = []) := fun h_ => c3 (by rw [h_]; rfl)
    obtain ⟨ji4, hji4⟩ : ∃ j_ : Int, (Int.tmod a1 (l0.length : Int)) = j_ := ⟨_, rfl⟩
    replace H : (if 0 ≤ (ji4) then (if (ji4) < (l0.length : Int) then (some (wrap64 (rd l0 (ji4)))) else (none)) else (none)) = some r := by first | (rw [hji4] at H; exact H) | (simp only [hji4] at H ⊢; exact H)
    by_cases c5 : 0 ≤ (ji4)
    · rw [if_pos c5] at H
      have c5b0 : decide (0 ≤ (ji4)) = true := decide_eq_true c5
      clear c5
      by_cases c6 : (ji4) < (l0.length : Int)
      · rw [if_pos c6] at H
        have c6b0 : decide ((ji4) < (l0.length : Int)) = true := decide_eq_true c6
        clear c6
        obtain rfl := Option.some.inj H
        have p1212 : 0 ≤ ((ji4) : Int) := of_decide_eq_true (by first | (with_reducible assumption) | assumption)
        have q1212 : (ji4) < (l0.length : Int) := of_decide_eq_true (by first | (with_reducible assumption) | assumption)
        obtain ⟨ad1212, e1212, hx1212_0⟩ := Kd.at_int HR0.out (ji4) p1212 q1212
        cases e1212
        replace p1212 := eq_true p1212
        replace q1212 := eq_true q1212
        go_enter Try.func95, Try.ntmps95
        go_wp2
        go_ret
        exact ⟨by first | rfl | (simp; done) | (simp only [← hji4] <;> (first | rfl | simp)) | (simp [*]; done), by repeat (first | exact Drawn0.refl _ | apply Drawn0.step)⟩
      · rw [if_neg c6] at H
        exact absurd H (by simp)
    · rw [if_neg c5] at H
      exact absurd H (by simp)
end Go.Proofs.Ytnbbbeghgomnoaa.X
namespace Go.Proofs.Ytnbbbeghgomnoaa.X
open Go.RowKit Go.Proofs.YtnbbbeghgomnoaaW.PrintWords Go.Proofs.YtnbbbeghgomnoaaW.PrintLast Go.Proofs.YtnbbbeghgomnoaaW.PrintMore
def cntW (n k : Int) (x : S85) : S85 := ⟨x.f0, ⟨mx 0 (wrap64 (n - Int.tmod k 2)), mn 7 (wrap64 (n + Int.tmod (wrap64 (Int.tdiv k 2)) 3))⟩⟩
def cntTo (ns ks : Nat → Int) (m : Nat) (l0 : List S85) : List S85 := l0.mapIdx fun j x => if j < m then cntW (ns j) (ks j) x else x
theorem cntTo_len (ns ks : Nat → Int) (m : Nat) (l0 : List S85) : (cntTo ns ks m l0).length = l0.length := by simp [cntTo]
theorem cntTo_zero (ns ks : Nat → Int) (l0 : List S85) : cntTo ns ks 0 l0 = l0 := by
  apply List.ext_getElem (cntTo_len ns ks 0 l0)
  intro i h1 h2
  simp [cntTo]
theorem cntTo_get (ns ks : Nat → Int) (m : Nat) (l0 : List S85) (i : Nat) (h : i < l0.length) : (cntTo ns ks m l0).getD i z85 = if i < m then cntW (ns i) (ks i) (l0.getD i z85) else l0.getD i z85 := by
  unfold cntTo
  rw [List.getD_eq_getElem?_getD, List.getD_eq_getElem?_getD, List.getElem?_mapIdx, List.getElem?_eq_getElem h]; rfl
theorem cntTo_succ (ns ks : Nat → Int) (m : Nat) (l0 : List S85) (hm : m < l0.length) : cntTo ns ks (m + 1) l0 = (cntTo ns ks m l0).set m ⟨((cntTo ns ks m l0).getD m z85).f0, ⟨mx 0 (wrap64 (ns m - Int.tmod (ks m) 2)), mn 7 (wrap64 (ns m + Int.tmod (wrap64 (Int.tdiv (ks m) 2)) 3))⟩⟩ := by
  rw [cntTo_get ns ks m l0 m hm, if_neg (Nat.lt_irrefl m)]
  apply List.ext_getElem (by rw [List.length_set, cntTo_len, cntTo_len])
  intro i h1 h2
  rw [List.getElem_set]
  have hi : i < l0.length := by rw [cntTo_len] at h1; exact h1
  have g1 := cntTo_get ns ks (m + 1) l0 i hi
  have g2 := cntTo_get ns ks m l0 i hi
  rw [List.getD_eq_getElem?_getD, List.getElem?_eq_getElem h1, Option.getD_some] at g1
  rw [List.getD_eq_getElem?_getD, List.getElem?_eq_getElem (by rw [cntTo_len]; exact hi), Option.getD_some] at g2
  by_cases e : m = i
  · subst e
    rw [if_pos rfl, g1, if_pos (by omega)]; rfl
  · rw [if_neg e, g1, g2]
    by_cases h : i < m
    · rw [if_pos h, if_pos (by omega)]
    · rw [if_neg h, if_neg (by omega)]
attribute [local go_sem] max2_mx min2_mn max_two min_two
set_option maxHeartbeats 4000000 in
set_option maxRecDepth 100000 in
theorem Counted_c (k : Nat) {A0 : Option Addr} {c0 : Nat} {l0 : List S85} {A1 : Option Addr} {c1 : Nat} {l1 : List S71} (wg : Int) (a1 : Int) {AW : Option Addr} {cW : Nat} {w : World} (r0 : Kd.C k85 w A0 l0.length l0) (g0 : l0.length ≤ c0) (r1 : Kd.C k71 w A1 l1.length l1) (g1 : l1.length ≤ c1) (ht : Thn l0 l1) {mny q : Nat} {ol lw : List Int} (hmn : posserref03_Many.f k l0 l1 wg = some (mny : Int)) (hm0 : mny ≠ 0) (hq : Int.tmod (wrap64 a1) (mny : Int) = (q : Int)) (hnt : posserref03_Nth.f k l0 l1 wg (q : Int) = some ol) {ns ks : Nat → Int} (hns : ∀ i : Nat, i < l0.length → posserref03_Own.f k ol (i : Int) = some (ns i)) (hks : ∀ i : Nat, i < l0.length → posserlaw03_word.f lw (i : Int) = some (ks i)) (rw_ : Kd.C (Kd.int .u16) w AW lw.length lw) (gw : lw.length ≤ cW) :
    Calls Try.prog 64 #[.agg #[.slice A0 l0.length c0, .slice A1 l1.length c1, .int .i64 wg], .int .u16 a1, .slice AW lw.length cW] w fun e w' => ∃ A c B d, e = .returned (.tuple #[.agg #[.slice A (cntTo ns ks l0.length l0).length c, .slice A1 l1.length c1, .int .i64 wg], .slice B ol.length d]) ∧ RX k85 85 w w' w.heap.size A c (cntTo ns ks l0.length l0) ∧ RI w' w.heap.size (.slice B ol.length d) ol ∧ Below w.heap.size w w' := by
  have hu25 := Try.underlying25
  have hu35 := Try.underlying35
  have hu55 := Try.underlying55
  have HR0 := Aside0.mk r0
  have HC0 := Aside0.mk g0
  have HR1 := Aside0.mk r1
  have HC1 := Aside0.mk g1
  clear r0 g0 r1 g1
  have HRT := Aside0.mk (show RTab A0 c0 l0 A1 c1 l1 w from ⟨HR0.out, HC0.out, HR1.out, HC1.out, ht.n0, ht.n1, ht.ms⟩)
  clear ht
  obtain ⟨rowsW, hLW, hRW, hKW⟩ := rows_of HR0.out
  have HRrowsW := Aside0.mk hRW
  have HLrowsW := Aside0.mk hLW
  have HKrowsW := Aside0.mk hKW
  have HNrowsW := Aside0.mk (show l0.length ≤ 30 from HRT.out.n0)
  clear hLW hRW hKW
  have HMN := Aside0.mk hmn
  have HQ := Aside0.mk hq
  have HNT := Aside0.mk hnt
  have HRW := Aside0.mk rw_
  have HCW := Aside0.mk gw
  have HNSA := Aside0.mk hns
  have HKSA := Aside0.mk hks
  clear hmn hq hnt rw_ gw hns hks
  have hm1 : ¬ ((mny : Int) = 0) := by omega
  have hm2 : ((mny : Int) == 0) = false := by simpa using hm0
  have HB := Aside0.mk (Below.refl w.heap.size w)
  go_enter Try.func64, Try.ntmps64
  go_wp2_with (first | ((with_reducible refine gate_dst (N := 3) rfl ?_); refine box_event ?hg (N := 3) ?hd (cs := #[.slice A0 l0.length c0, .slice A1 l1.length c1, .int .i64 wg]) (t := 25) ?hr ?_; (case hd => rfl); (case hg => rfl); (case hr => first | (go_simp; done) | (go_simp; rfl)); intro g3 hg W_ hbox hb; (try have NEg6_g3 := Aside0.mk (show g6 < g3 from by rw [hg]; exact blk_lt BKg6.out)); (try have NEg9_g3 := Aside0.mk (show g9 < g3 from by rw [hg]; exact blk_lt BKg9.out)); have GEg3 := Aside0.mk (by rw [hg]; exact HB.out.size : w.heap.size ≤ g3); (try clear hcg3_0 hcg3_1 hcg3_2); (try replace HB := Aside0.mk (below_step HB.out hb)); (try replace HT := Aside0.mk (HT.out.below hb)); (try replace BKg3 := Aside0.mk (blk_below BKg3.out hb)); (try replace BKg6 := Aside0.mk (blk_below BKg6.out hb)); (try replace HO := Aside0.mk (Kd.R_below HO.out hb)); (try replace BKg9 := Aside0.mk (blk_below BKg9.out hb)); (try replace HX := Aside0.mk (HX.out.below hb)); have BKg3 := Aside0.mk hbox; clear hb hbox hg; (try have hcg3_0 : W_.cell? ⟨g3, 0, none⟩ = some (.slice A0 l0.length c0) := (blk_cell BKg3.out 0).trans rfl); (try have hcg3_1 : W_.cell? ⟨g3, 1, none⟩ = some (.slice A1 l1.length c1) := (blk_cell BKg3.out 1).trans rfl); (try have hcg3_2 : W_.cell? ⟨g3, 2, none⟩ = some (.int .i64 wg) := (blk_cell BKg3.out 2).trans rfl)) | ((with_reducible refine gate_dst (N := 6) rfl ?_); refine box_event ?hg (N := 6) ?hd (cs := #[.slice none 0 0, .slice none 0 0, .int .i64 0]) (t := 25) ?hr ?_; (case hd => rfl); (case hg => rfl); (case hr => first | (go_simp; done) | (go_simp; rfl)); intro g6 hg W_ hbox hb; (try have NEg3_g6 := Aside0.mk (show g3 < g6 from by rw [hg]; exact blk_lt BKg3.out)); (try have NEg9_g6 := Aside0.mk (show g9 < g6 from by rw [hg]; exact blk_lt BKg9.out)); have GEg6 := Aside0.mk (by rw [hg]; exact HB.out.size : w.heap.size ≤ g6); (try clear hcg3_0 hcg3_1 hcg3_2); (try clear hcg6_0 hcg6_1 hcg6_2); (try replace HB := Aside0.mk (below_step HB.out hb)); (try replace HT := Aside0.mk (HT.out.below hb)); (try replace BKg3 := Aside0.mk (blk_below BKg3.out hb)); (try replace BKg6 := Aside0.mk (blk_below BKg6.out hb)); (try replace HO := Aside0.mk (Kd.R_below HO.out hb)); (try replace BKg9 := Aside0.mk (blk_below BKg9.out hb)); (try replace HX := Aside0.mk (HX.out.below hb)); have BKg6 := Aside0.mk hbox; clear hb hbox hg; (try have hcg3_0 : W_.cell? ⟨g3, 0, none⟩ = some (.slice A0 l0.length c0) := (blk_cell BKg3.out 0).trans rfl); (try have hcg3_1 : W_.cell? ⟨g3, 1, none⟩ = some (.slice A1 l1.length c1) := (blk_cell BKg3.out 1).trans rfl); (try have hcg3_2 : W_.cell? ⟨g3, 2, none⟩ = some (.int .i64 wg) := (blk_cell BKg3.out 2).trans rfl); (try have hcg6_0 : W_.cell? ⟨g6, 0, none⟩ = some (.slice none 0 0) := (blk_cell BKg6.out 0).trans rfl); (try have hcg6_1 : W_.cell? ⟨g6, 1, none⟩ = some (.slice none 0 0) := (blk_cell BKg6.out 1).trans rfl); (try have hcg6_2 : W_.cell? ⟨g6, 2, none⟩ = some (.int .i64 0) := (blk_cell BKg6.out 2).trans rfl)))
  have hq := HQ.out
  refine start_ (n := 8) (S := fun w' => w'.cell? ⟨g3, 0, none⟩ = some (.slice A0 l0.length c0) ∧ w'.cell? ⟨g3, 1, none⟩ = some (.slice A1 l1.length c1) ∧ w'.cell? ⟨g3, 2, none⟩ = some (.int .i64 wg)) (ds := []) #[false, false, false, false, false, false, false, false] (by kernel_rfl) rfl rfl ⟨hcg3_0, hcg3_1, hcg3_2⟩ (fun hHeld => ?_)
  have hb := below_drew1 (Below.refl W_.heap.size W_)
  have n0_ := Aside0.mk (below_step HB.out hb)
  have n1_ := Aside0.mk (blk_below BKg3.out hb)
  have n2_ := Aside0.mk (blk_below BKg6.out hb)
  clear HB
  clear BKg3
  clear BKg6
  have HB := n0_
  have BKg3 := n1_
  have BKg6 := n2_
  clear n0_ n1_ n2_
  replace hcg3_0 := (hb.cell (World.block_lt_of_cell? _ _ hcg3_0)).trans hcg3_0
  replace hcg3_1 := (hb.cell (World.block_lt_of_cell? _ _ hcg3_1)).trans hcg3_1
  replace hcg3_2 := (hb.cell (World.block_lt_of_cell? _ _ hcg3_2)).trans hcg3_2
  generalize W_.drew = W5 at *
  clear hb
  refine pure_ (i := 1) (N := some 14) (v := ?_) (a' := ?_) #[false, true, false, false, false, false, false, false] rfl rfl (by kernel_rfl) (fun _ _ _ h => h) (Or.inl ⟨by rfl, ?_⟩) ?_ ?_
  rotate_left
  · intro w'
    go_simp
    with_reducible rfl
  rotate_left
  · simp only [Act.put, List.setIfInBounds_toArray, List.set_cons_zero, List.set_cons_succ, i64_w, i32_w]
    rfl
  refine pure_ (i := 2) (N := some 15) (v := ?_) (a' := ?_) #[false, true, true, false, false, false, false, false] rfl rfl (by kernel_rfl) (fun _ _ _ h => h) (Or.inl ⟨by rfl, ?_⟩) ?_ ?_
  rotate_left
  · intro w'
    go_simp
    with_reducible rfl
  rotate_left
  · simp only [Act.put, List.setIfInBounds_toArray, List.set_cons_zero, List.set_cons_succ, i64_w, i32_w]
    rfl
  refine take_ (i := 0) (N := some 13) (v := ?_) (a' := ?_) #[true, true, true, false, false, false, false, false] rfl rfl (by kernel_rfl) (fun _ _ _ h => h) (Or.inl ⟨by rfl, ?_⟩) hHeld ?_ ?_
  rotate_left
  · rintro w' ⟨s0, s1, s2⟩
    go_simp
    with_reducible rfl
  rotate_left
  · simp only [Act.put, List.setIfInBounds_toArray, List.set_cons_zero, List.set_cons_succ, i64_w, i32_w]
    rfl
  refine take_ (i := 3) (N := some 16) (v := ?_) (a' := ?_) #[true, true, true, true, false, false, false, false] rfl rfl (by kernel_rfl) (fun _ _ _ h => h) (Or.inl ⟨by rfl, ?_⟩) hHeld ?_ ?_
  rotate_left
  · rintro w' ⟨s0, s1, s2⟩
    go_simp
    with_reducible rfl
  rotate_left
  · simp only [Act.put, List.setIfInBounds_toArray, List.set_cons_zero, List.set_cons_succ, i64_w, i32_w]
    rfl
  refine one_ (i := 4) (N := some 17) #[true, true, true, true, true, false, false, false] rfl rfl (by kernel_rfl) (by decide) (fun K hK => ?_)
  refine goes_ Try.func76 (by kernel_rfl) rfl #[.agg #[.slice A0 l0.length c0, .slice A1 l1.length c1, .int .i64 wg]] (by rfl) rfl rfl (by simp only [List.map_toArray, List.map_cons, List.map_nil]; rfl) ?_
  with_reducible refine (posserref03_Many.calls k A0 c0 l0 A1 c1 l1 wg (mny : Int) _ (HRT.out.below HB.out).r0 HC0.out (HRT.out.below HB.out).r1 HC1.out HMN.out).mono ?_
  rintro e W6 ⟨rfl, hb⟩
  refine ⟨_, rfl, ?_⟩
  replace hcg3_0 := (hb.cell (World.block_lt_of_cell? _ _ hcg3_0)).trans hcg3_0
  replace hcg3_1 := (hb.cell (World.block_lt_of_cell? _ _ hcg3_1)).trans hcg3_1
  replace hcg3_2 := (hb.cell (World.block_lt_of_cell? _ _ hcg3_2)).trans hcg3_2
  have n0_ := Aside0.mk (below_step HB.out hb)
  have n1_ := Aside0.mk (blk_below BKg3.out hb)
  have n2_ := Aside0.mk (blk_below BKg6.out hb)
  clear HB
  clear BKg3
  clear BKg6
  have HB := n0_
  have BKg3 := n1_
  have BKg6 := n2_
  clear n0_ n1_ n2_
  clear hb
  refine hK.out _ _ ⟨hcg3_0, hcg3_1, hcg3_2⟩ (fun hHeld => ?_)
  clear hK K
  refine norm_ (a' := ?_) ?_ ?_
  rotate_left
  · show Act.put _ (some 17) _ = _
    simp only [Act.put, List.setIfInBounds_toArray, List.set_cons_zero, List.set_cons_succ, i64_w, i32_w]
    rfl
  refine pure_ (i := 5) (N := some 18) (v := ?_) (a' := ?_) #[true, true, true, true, true, true, false, false] rfl rfl (by kernel_rfl) (fun _ _ _ h => h) (Or.inl ⟨by rfl, ?_⟩) ?_ ?_
  rotate_left
  · intro w'
    go_simp
    with_reducible rfl
  rotate_left
  · simp only [Act.put, List.setIfInBounds_toArray, List.set_cons_zero, List.set_cons_succ, i64_w, i32_w]
    rfl
  refine one_ (i := 6) (N := some 19) #[true, true, true, true, true, true, true, false] rfl rfl (by kernel_rfl) (by decide) (fun K hK => ?_)
  refine goes_ Try.func78 (by kernel_rfl) rfl #[.agg #[.slice A0 l0.length c0, .slice A1 l1.length c1, .int .i64 wg], .int .i64 (q : Int)] (by rfl) rfl rfl (by simp only [List.map_toArray, List.map_cons, List.map_nil]; rfl) ?_
  with_reducible refine (posserref03_Nth.calls k A0 c0 l0 A1 c1 l1 wg (q : Int) ol _ (HRT.out.below HB.out).r0 HC0.out (HRT.out.below HB.out).r1 HC1.out HNT.out).mono ?_
  rintro e W7 ⟨v_, rfl, ho, hb⟩
  refine ⟨_, rfl, ?_⟩
  replace hcg3_0 := (hb.cell (World.block_lt_of_cell? _ _ hcg3_0)).trans hcg3_0
  replace hcg3_1 := (hb.cell (World.block_lt_of_cell? _ _ hcg3_1)).trans hcg3_1
  replace hcg3_2 := (hb.cell (World.block_lt_of_cell? _ _ hcg3_2)).trans hcg3_2
  have HO := Aside0.mk (Kd.R_lower ho HB.out.size)
  have n0_ := Aside0.mk (below_step HB.out hb)
  have n1_ := Aside0.mk (blk_below BKg3.out hb)
  have n2_ := Aside0.mk (blk_below BKg6.out hb)
  clear HB
  clear BKg3
  clear BKg6
  have HB := n0_
  have BKg3 := n1_
  have BKg6 := n2_
  clear n0_ n1_ n2_
  obtain ⟨AO, cO, eO⟩ := Kd.R_slice HO.out
  subst eO
  clear ho
  clear hb
  refine hK.out _ _ ⟨hcg3_0, hcg3_1, hcg3_2⟩ (fun hHeld => ?_)
  clear hK K
  refine norm_ (a' := ?_) ?_ ?_
  rotate_left
  · show Act.put _ (some 19) _ = _
    simp only [Act.put, List.setIfInBounds_toArray, List.set_cons_zero, List.set_cons_succ, i64_w, i32_w]
    rfl
  refine pure_ (i := 7) (N := some 8) (v := ?_) (a' := ?_) #[true, true, true, true, true, true, true, true] rfl rfl (by kernel_rfl) (fun _ _ _ h => h) (Or.inl ⟨by rfl, ?_⟩) ?_ ?_
  rotate_left
  · intro w'
    go_simp
    with_reducible rfl
  rotate_left
  · simp only [Act.put, List.setIfInBounds_toArray, List.set_cons_zero, List.set_cons_succ, i64_w, i32_w]
    rfl
  refine done_ (by kernel_rfl) ?_
  try clear hq
  try clear hcg3_0 hcg3_1 hcg3_2
  generalize W7 = W_ at *
  (try have hcg3_0 : W_.cell? ⟨g3, 0, none⟩ = some (.slice A0 l0.length c0) := (blk_cell BKg3.out 0).trans rfl)
  (try have hcg3_1 : W_.cell? ⟨g3, 1, none⟩ = some (.slice A1 l1.length c1) := (blk_cell BKg3.out 1).trans rfl)
  (try have hcg3_2 : W_.cell? ⟨g3, 2, none⟩ = some (.int .i64 wg) := (blk_cell BKg3.out 2).trans rfl)
  go_wp2_with (first | ((with_reducible refine gate_dst (N := 9) rfl ?_); refine box_event ?hg (N := 9) ?hd (cs := #[.slice none 0 0, .slice none 0 0, .int .i64 0]) (t := 25) ?hr ?_; (case hd => rfl); (case hg => rfl); (case hr => first | (go_simp; done) | (go_simp; rfl)); intro g9 hg W_ hbox hb; (try have NEg3_g9 := Aside0.mk (show g3 < g9 from by rw [hg]; exact blk_lt BKg3.out)); (try have NEg6_g9 := Aside0.mk (show g6 < g9 from by rw [hg]; exact blk_lt BKg6.out)); have GEg9 := Aside0.mk (by rw [hg]; exact HB.out.size : w.heap.size ≤ g9); (try clear hcg3_0 hcg3_1 hcg3_2); (try clear hcg6_0 hcg6_1 hcg6_2); (try clear hcg9_0 hcg9_1 hcg9_2); (try replace HB := Aside0.mk (below_step HB.out hb)); (try replace HT := Aside0.mk (HT.out.below hb)); (try replace BKg3 := Aside0.mk (blk_below BKg3.out hb)); (try replace BKg6 := Aside0.mk (blk_below BKg6.out hb)); (try replace HO := Aside0.mk (Kd.R_below HO.out hb)); (try replace BKg9 := Aside0.mk (blk_below BKg9.out hb)); (try replace HX := Aside0.mk (HX.out.below hb)); have BKg9 := Aside0.mk hbox; clear hb hbox hg; (try have hcg3_0 : W_.cell? ⟨g3, 0, none⟩ = some (.slice A0 l0.length c0) := (blk_cell BKg3.out 0).trans rfl); (try have hcg3_1 : W_.cell? ⟨g3, 1, none⟩ = some (.slice A1 l1.length c1) := (blk_cell BKg3.out 1).trans rfl); (try have hcg3_2 : W_.cell? ⟨g3, 2, none⟩ = some (.int .i64 wg) := (blk_cell BKg3.out 2).trans rfl); (try have hcg6_0 : W_.cell? ⟨g6, 0, none⟩ = some (.slice none 0 0) := (blk_cell BKg6.out 0).trans rfl); (try have hcg6_1 : W_.cell? ⟨g6, 1, none⟩ = some (.slice none 0 0) := (blk_cell BKg6.out 1).trans rfl); (try have hcg6_2 : W_.cell? ⟨g6, 2, none⟩ = some (.int .i64 0) := (blk_cell BKg6.out 2).trans rfl); (try have hcg9_0 : W_.cell? ⟨g9, 0, none⟩ = some (.slice none 0 0) := (blk_cell BKg9.out 0).trans rfl); (try have hcg9_1 : W_.cell? ⟨g9, 1, none⟩ = some (.slice none 0 0) := (blk_cell BKg9.out 1).trans rfl); (try have hcg9_2 : W_.cell? ⟨g9, 2, none⟩ = some (.int .i64 0) := (blk_cell BKg9.out 2).trans rfl)) | ((with_reducible refine gate_store (t := 25) (p := 9) rfl ?_); go_must (refine wpList_store_row rfl 25 _ _ rfl g9 #[.slice A0 l0.length c0, .slice A1 l1.length c1, .int .i64 wg] rfl rfl 25 (#[.slice none 0 0, .slice none 0 0, .int .i64 0]) BKg9.out rfl rfl (by simp [Value.oneCell']) ?_; (try clear hcg3_0 hcg3_1 hcg3_2); (try clear hcg6_0 hcg6_1 hcg6_2); (try clear hcg9_0 hcg9_1 hcg9_2); (try clear HT); (try replace BKg3 := Aside0.mk ((setRow_other W_ g9 g3 (#[.slice A0 l0.length c0, .slice A1 l1.length c1, .int .i64 wg]) (by first | exact Nat.ne_of_lt NEg3_g9.out | exact Nat.ne_of_gt NEg9_g3.out)).trans BKg3.out)); (try replace BKg6 := Aside0.mk ((setRow_other W_ g9 g6 (#[.slice A0 l0.length c0, .slice A1 l1.length c1, .int .i64 wg]) (by first | exact Nat.ne_of_lt NEg6_g9.out | exact Nat.ne_of_gt NEg9_g6.out)).trans BKg6.out)); (try replace HO := Aside0.mk (row_setRow HO.out BKg9.out (by decide) (#[.slice A0 l0.length c0, .slice A1 l1.length c1, .int .i64 wg]))); (try replace HX := Aside0.mk (RX.setRow (us := #[.slice A0 l0.length c0, .slice A1 l1.length c1, .int .i64 wg]) HX.out BKg9.out (by decide))); replace HB := Aside0.mk (below_setRow HB.out GEg9.out (#[.slice A0 l0.length c0, .slice A1 l1.length c1, .int .i64 wg])); replace BKg9 := Aside0.mk (setRow_heap W_ g9 _ (#[.slice A0 l0.length c0, .slice A1 l1.length c1, .int .i64 wg]) _ _ BKg9.out); generalize W_.setRow g9 (#[.slice A0 l0.length c0, .slice A1 l1.length c1, .int .i64 wg]) = W_ at *; (try have hcg3_0 : W_.cell? ⟨g3, 0, none⟩ = some (.slice A0 l0.length c0) := (blk_cell BKg3.out 0).trans rfl); (try have hcg3_1 : W_.cell? ⟨g3, 1, none⟩ = some (.slice A1 l1.length c1) := (blk_cell BKg3.out 1).trans rfl); (try have hcg3_2 : W_.cell? ⟨g3, 2, none⟩ = some (.int .i64 wg) := (blk_cell BKg3.out 2).trans rfl); (try have hcg6_0 : W_.cell? ⟨g6, 0, none⟩ = some (.slice none 0 0) := (blk_cell BKg6.out 0).trans rfl); (try have hcg6_1 : W_.cell? ⟨g6, 1, none⟩ = some (.slice none 0 0) := (blk_cell BKg6.out 1).trans rfl); (try have hcg6_2 : W_.cell? ⟨g6, 2, none⟩ = some (.int .i64 0) := (blk_cell BKg6.out 2).trans rfl); (try have hcg9_0 : W_.cell? ⟨g9, 0, none⟩ = some (.slice A0 l0.length c0) := (blk_cell BKg9.out 0).trans rfl); (try have hcg9_1 : W_.cell? ⟨g9, 1, none⟩ = some (.slice A1 l1.length c1) := (blk_cell BKg9.out 1).trans rfl); (try have hcg9_2 : W_.cell? ⟨g9, 2, none⟩ = some (.int .i64 wg) := (blk_cell BKg9.out 2).trans rfl))) | ((with_reducible refine gate_dst (N := 21) rfl ?_); refine Kd.R_lit (Kd.raw 3) W_.heap.size 85 ?hg (N := 21) ?hd (xs := ([] : List (List Value))) (inner := []) (ok := fun _ => True) (okp := fun _ => True) ?hr ?hp (fun _ hk => hk) trivial (Below.refl _ _) (Nat.le_refl _) (by simp) ?_; (case hd => rfl); (case hg => rfl); (case hr => first | (go_simp; done) | (go_simp; rfl)); (case hp => exact (Reps.none _ _)); intro v8 Wb ho8 hb8 hg_ hnew_; clear hg_ hnew_; have HO8 := Aside0.mk ho8; have HB8 := Aside0.mk hb8; clear ho8 hb8; (try clear hcg3_0 hcg3_1 hcg3_2); (try clear hcg6_0 hcg6_1 hcg6_2); (try clear hcg9_0 hcg9_1 hcg9_2); have hcg3_0 : Wb.cell? ⟨g3, 0, none⟩ = some (.slice A0 l0.length c0) := (blk_cell (blk_below BKg3.out HB8.out) 0).trans rfl; have hcg3_1 : Wb.cell? ⟨g3, 1, none⟩ = some (.slice A1 l1.length c1) := (blk_cell (blk_below BKg3.out HB8.out) 1).trans rfl; have hcg3_2 : Wb.cell? ⟨g3, 2, none⟩ = some (.int .i64 wg) := (blk_cell (blk_below BKg3.out HB8.out) 2).trans rfl) | ((with_reducible refine gate_builtin (b := .append) (xs := #[.tmp 21, .tmp 23]) rfl ?_); go_must (at_builtin; refine Kd.R_append_rows (Kd.raw 3) (w0 := W_) W_.heap.size rfl (.tmp 21) (.tmp 23) 22 85 (.agg #[.int .i64 0, .int .i64 0, .int .i64 0]) 24 rfl Try.underlying22 info85 rfl (by decide) (by omega) _ [] rowsW _ _ _ (fun _ => True) (fun _ => False) rfl rfl HO8.out (Kd.C_below HRrowsW.out (below_step HB.out HB8.out)) (fun _ _ h => h) (fun _ h => h.elim) (fun _ _ => trivial) HB8.out HB8.out.size (by have := HNrowsW.out; simp; omega) ?_; intro v9 W_ ho hb hg hat; clear hg hat; (try clear hcg3_0 hcg3_1 hcg3_2); (try clear hcg6_0 hcg6_1 hcg6_2); (try clear hcg9_0 hcg9_1 hcg9_2); (try clear HT); have hsz_ := HB.out.size; (try replace HB := Aside0.mk (below_step HB.out hb)); (try replace HT := Aside0.mk (HT.out.below hb)); (try replace BKg3 := Aside0.mk (blk_below BKg3.out hb)); (try replace BKg6 := Aside0.mk (blk_below BKg6.out hb)); (try replace HO := Aside0.mk (Kd.R_below HO.out hb)); (try replace BKg9 := Aside0.mk (blk_below BKg9.out hb)); (try replace HX := Aside0.mk (HX.out.below hb)); rw [List.nil_append] at ho; obtain ⟨AX, cX, eX_, hX_⟩ := RX.of (d := k85) (w := w) (xs := l0) ho HLrowsW.out HKrowsW.out (by have := HNrowsW.out; omega); subst eX_; have HX := Aside0.mk (hX_.lower hsz_); clear HO8 HB8 ho hb hX_ hsz_; (try have hcg3_0 : W_.cell? ⟨g3, 0, none⟩ = some (.slice A0 l0.length c0) := (blk_cell BKg3.out 0).trans rfl); (try have hcg3_1 : W_.cell? ⟨g3, 1, none⟩ = some (.slice A1 l1.length c1) := (blk_cell BKg3.out 1).trans rfl); (try have hcg3_2 : W_.cell? ⟨g3, 2, none⟩ = some (.int .i64 wg) := (blk_cell BKg3.out 2).trans rfl); (try have hcg6_0 : W_.cell? ⟨g6, 0, none⟩ = some (.slice none 0 0) := (blk_cell BKg6.out 0).trans rfl); (try have hcg6_1 : W_.cell? ⟨g6, 1, none⟩ = some (.slice none 0 0) := (blk_cell BKg6.out 1).trans rfl); (try have hcg6_2 : W_.cell? ⟨g6, 2, none⟩ = some (.int .i64 0) := (blk_cell BKg6.out 2).trans rfl); (try have hcg9_0 : W_.cell? ⟨g9, 0, none⟩ = some (.slice A0 l0.length c0) := (blk_cell BKg9.out 0).trans rfl); (try have hcg9_1 : W_.cell? ⟨g9, 1, none⟩ = some (.slice A1 l1.length c1) := (blk_cell BKg9.out 1).trans rfl); (try have hcg9_2 : W_.cell? ⟨g9, 2, none⟩ = some (.int .i64 wg) := (blk_cell BKg9.out 2).trans rfl); have hfg9_0 := blk_frozen BKg9.out 0; have hfg9_1 := blk_frozen BKg9.out 1; have hfg9_2 := blk_frozen BKg9.out 2)))
  (try clear hfg9_0 hfg9_1 hfg9_2)
  (try clear hcg3_0 hcg3_1 hcg3_2); (try clear hcg6_0 hcg6_1 hcg6_2); (try clear hcg9_0 hcg9_1 hcg9_2)
  (try replace BKg3 := Aside0.mk (blk_far BKg3.out (p := ⟨g9, 0, none⟩) (by show g3 ≠ g9; first | exact Nat.ne_of_lt NEg3_g9.out | exact Nat.ne_of_gt NEg9_g3.out) (.slice AX l0.length cX)))
  (try replace BKg6 := Aside0.mk (blk_far BKg6.out (p := ⟨g9, 0, none⟩) (by show g6 ≠ g9; first | exact Nat.ne_of_lt NEg6_g9.out | exact Nat.ne_of_gt NEg9_g6.out) (.slice AX l0.length cX)))
  (try replace HO := Aside0.mk (row_set (j := 0) HO.out BKg9.out (by decide) (.slice AX l0.length cX)))
  (try replace HX := Aside0.mk (RX.setCell (j := 0) (u := .slice AX l0.length cX) HX.out BKg9.out (by decide)))
  replace HB := Aside0.mk (HB.out.setCell (p := ⟨g9, 0, none⟩) GEg9.out (.slice AX l0.length cX))
  replace BKg9 := Aside0.mk (blk_put BKg9.out 0 (.slice AX l0.length cX) rfl)
  generalize W_.setCell ⟨g9, 0, none⟩ (.slice AX l0.length cX) = W_ at *
  go_loopg [10] l0.length (fun kq v10 w' => ∃ m : Nat, v10 = .int .i64 (m : Int) ∧ Aside0 (m + kq = l0.length) ∧ Aside0 (Below w.heap.size w w') ∧ Aside0 (w'.heap[g3]? = some (.cells #[.slice A0 l0.length c0, .slice A1 l1.length c1, .int .i64 wg] 25 (0, 0))) ∧ Aside0 (w'.heap[g6]? = some (.cells #[.slice none 0 0, .slice none 0 0, .int .i64 0] 25 (0, 0))) ∧ Aside0 (w'.heap[g9]? = some (.cells #[.slice AX l0.length cX, .slice A1 l1.length c1, .int .i64 wg] 25 (0, 0))) ∧ Aside0 (RI w' w.heap.size (.slice AO ol.length cO) ol) ∧ Aside0 (RX k85 85 w w' w.heap.size AX cX (cntTo ns ks m l0)))
  case atStart => exact ⟨0, rfl, ⟨Nat.zero_add _⟩, HB, BKg3, BKg6, BKg9, HO, ⟨by rw [cntTo_zero]; exact HX.out⟩⟩
  case round =>
    clear HB BKg3 BKg6 BKg9 HO HX
    obtain ⟨m, rfl, HM, HB, BKg3, BKg6, BKg9, HO, HX⟩ := hrel
    by_cases hlt : m < l0.length
    · cases gk with
      | zero => have := HM.out; omega
      | succ k1 =>
      have hwm := wrap_succ m _ hlt (by have := HRT.out.n0; omega)
      have HNS := Aside0.mk (HNSA.out m hlt)
      have HKS := Aside0.mk (HKSA.out m hlt)
      obtain ⟨n1, hn1⟩ : ∃ n1, ns m = n1 := ⟨_, rfl⟩
      obtain ⟨k1_, hk1⟩ : ∃ k1, ks m = k1 := ⟨_, rfl⟩
      rw [hn1] at HNS
      rw [hk1] at HKS
      have HST := Aside0.mk (cntTo_succ ns ks m l0 hlt)
      rw [hn1, hk1] at HST
      clear hn1 hk1
      have hne : (cntTo ns ks m l0).length ≠ 0 := by rw [cntTo_len]; omega
      have HXLE := Aside0.mk HX.out.le
      have HXSM := Aside0.mk HX.out.sm
      obtain ⟨go, csx, eA, hgo, hbk, hpb⟩ := HX.out.open_ hne
      subst eA
      have BKgo := Aside0.mk hbk
      have GEgo := Aside0.mk hgo
      have HPC := Aside0.mk (hpb.came m (by rw [cntTo_len]; exact hlt) (mx 0 (wrap64 (n1 - Int.tmod k1_ 2))) (mn 7 (wrap64 (n1 + Int.tmod (wrap64 (Int.tdiv k1_ 2)) 3))))
      obtain ⟨f1, f2, hq1, hq2⟩ : ∃ f1 f2, csx[m * 3 + 1]? = some (.int .i64 f1) ∧ csx[m * 3 + 2]? = some (.int .i64 f2) := by
        obtain ⟨c, hc, hcs⟩ := hpb m _ (List.getElem?_eq_getElem (by rw [cntTo_len]; exact hlt))
        obtain rfl := k85_open hc
        exact ⟨_, _, hcs 1 _ rfl, hcs 2 _ rfl⟩
      clear hbk hgo hpb hne HX
      have hcg9_0 : wr.cell? ⟨g9, 0, none⟩ = some (.slice (some ⟨go, 0, none⟩) l0.length cX) := (blk_cell BKg9.out 0).trans rfl
      go_wp2_with (first | (go_at_call 63; go_must (refine (posserref03_Own.calls k AO cO ol (m : Int) n1 _ (Kd.C_below (Kd.R_reads' HO.out).2.2 (Below.refl _ _)) (Kd.R_reads' HO.out).2.1 HNS.out).mono ?_; rintro e Wq ⟨rfl, ⟨nd, rfl⟩⟩; have hb := pw_below_drewN (Below.refl wr.heap.size wr) nd; (try clear hcg9_0 hfr_); (try replace HB := Aside0.mk (below_step HB.out hb)); (try replace BKg3 := Aside0.mk (blk_below BKg3.out hb)); (try replace BKg6 := Aside0.mk (blk_below BKg6.out hb)); (try replace HO := Aside0.mk (Kd.R_below HO.out hb)); (try replace BKg9 := Aside0.mk (blk_below BKg9.out hb)); (try replace BKgo := Aside0.mk (blk_below BKgo.out hb)); clear hb; generalize wr.drewN nd = W_ at *)) | (go_at_call 95; go_must (refine (posserlaw03_word.calls AW cW lw (m : Int) k1_ _ (Kd.C_below HRW.out HB.out) HCW.out HKS.out).mono ?_; rintro e Wq ⟨rfl, ⟨nd, rfl⟩⟩; have hb := pw_below_drewN (Below.refl W_.heap.size W_) nd; (try replace HB := Aside0.mk (below_step HB.out hb)); (try replace BKg3 := Aside0.mk (blk_below BKg3.out hb)); (try replace BKg6 := Aside0.mk (blk_below BKg6.out hb)); (try replace HO := Aside0.mk (Kd.R_below HO.out hb)); (try replace BKg9 := Aside0.mk (blk_below BKg9.out hb)); (try replace BKgo := Aside0.mk (blk_below BKgo.out hb)); clear hb; generalize W_.drewN nd = W_ at *; have hcg9_0 : W_.cell? ⟨g9, 0, none⟩ = some (.slice (some ⟨go, 0, none⟩) l0.length cX) := (blk_cell BKg9.out 0).trans rfl; have hcq1 : W_.cell? ⟨go, m * 3 + 1, none⟩ = some (.int .i64 f1) := (blk_cell BKgo.out (m * 3 + 1)).trans hq1; have hcq2 : W_.cell? ⟨go, m * 3 + 2, none⟩ = some (.int .i64 f2) := (blk_cell BKgo.out (m * 3 + 2)).trans hq2; have hfq1 := blk_frozen BKgo.out (m * 3 + 1); have hfq2 := blk_frozen BKgo.out (m * 3 + 2))))
      try clear hcg9_0
      try clear hcq1 hcq2 hfq1 hfq2
      (try replace BKg3 := Aside0.mk (blk_setCell (j := m * 3 + 1) BKg3.out BKgo.out (by decide) (.int .i64 (mx 0 (wrap64 (n1 - Int.tmod k1_ 2))))))
      (try replace BKg6 := Aside0.mk (blk_setCell (j := m * 3 + 1) BKg6.out BKgo.out (by decide) (.int .i64 (mx 0 (wrap64 (n1 - Int.tmod k1_ 2))))))
      (try replace HO := Aside0.mk (row_set (j := m * 3 + 1) HO.out BKgo.out (by decide) (.int .i64 (mx 0 (wrap64 (n1 - Int.tmod k1_ 2))))))
      (try replace BKg9 := Aside0.mk (blk_setCell (j := m * 3 + 1) BKg9.out BKgo.out (by decide) (.int .i64 (mx 0 (wrap64 (n1 - Int.tmod k1_ 2))))))
      replace HB := Aside0.mk (HB.out.setCell (p := ⟨go, m * 3 + 1, none⟩) GEgo.out (.int .i64 (mx 0 (wrap64 (n1 - Int.tmod k1_ 2)))))
      replace BKgo := Aside0.mk (blk_put BKgo.out (m * 3 + 1) (.int .i64 (mx 0 (wrap64 (n1 - Int.tmod k1_ 2)))) rfl)
      generalize W_.setCell ⟨go, m * 3 + 1, none⟩ (.int .i64 (mx 0 (wrap64 (n1 - Int.tmod k1_ 2)))) = W_ at *
      (try replace BKg3 := Aside0.mk (blk_setCell (j := m * 3 + 2) BKg3.out BKgo.out (by decide) (.int .i64 (mn 7 (wrap64 (n1 + Int.tmod (wrap64 (Int.tdiv k1_ 2)) 3))))))
      (try replace BKg6 := Aside0.mk (blk_setCell (j := m * 3 + 2) BKg6.out BKgo.out (by decide) (.int .i64 (mn 7 (wrap64 (n1 + Int.tmod (wrap64 (Int.tdiv k1_ 2)) 3))))))
      (try replace HO := Aside0.mk (row_set (j := m * 3 + 2) HO.out BKgo.out (by decide) (.int .i64 (mn 7 (wrap64 (n1 + Int.tmod (wrap64 (Int.tdiv k1_ 2)) 3))))))
      (try replace BKg9 := Aside0.mk (blk_setCell (j := m * 3 + 2) BKg9.out BKgo.out (by decide) (.int .i64 (mn 7 (wrap64 (n1 + Int.tmod (wrap64 (Int.tdiv k1_ 2)) 3))))))
      replace HB := Aside0.mk (HB.out.setCell (p := ⟨go, m * 3 + 2, none⟩) GEgo.out (.int .i64 (mn 7 (wrap64 (n1 + Int.tmod (wrap64 (Int.tdiv k1_ 2)) 3)))))
      replace BKgo := Aside0.mk (blk_put BKgo.out (m * 3 + 2) (.int .i64 (mn 7 (wrap64 (n1 + Int.tmod (wrap64 (Int.tdiv k1_ 2)) 3)))) rfl)
      generalize W_.setCell ⟨go, m * 3 + 2, none⟩ (.int .i64 (mn 7 (wrap64 (n1 + Int.tmod (wrap64 (Int.tdiv k1_ 2)) 3)))) = W_ at *
      have HX := Aside0.mk (show RX k85 85 w W_ w.heap.size (some ⟨go, 0, none⟩) cX (cntTo ns ks (m + 1) l0) from ⟨by have := HXLE.out; rw [cntTo_len] at this ⊢; exact this, by have := HXSM.out; rw [cntTo_len] at this ⊢; exact this, .inr ⟨go, _, rfl, GEgo.out, BKgo.out, by rw [HST.out]; exact HPC.out⟩⟩)
      go_roundg k1
      case measure => omega
      case rel => exact ⟨m + 1, by go_num, ⟨by have := HM.out; omega⟩, HB, BKg3, BKg6, BKg9, HO, HX⟩
    · obtain rfl : m = l0.length := by have := HM.out; omega
      have hcg9_0 : wr.cell? ⟨g9, 0, none⟩ = some (.slice AX l0.length cX) := (blk_cell BKg9.out 0).trans rfl
      have hcg9_1 : wr.cell? ⟨g9, 1, none⟩ = some (.slice A1 l1.length c1) := (blk_cell BKg9.out 1).trans rfl
      have hcg9_2 : wr.cell? ⟨g9, 2, none⟩ = some (.int .i64 wg) := (blk_cell BKg9.out 2).trans rfl
      have hcf6 := blk_frozen BKg6.out 0
      obtain ⟨W_, hWW⟩ : ∃ W_ : World, W_ = wr := ⟨_, rfl⟩
      subst hWW
      go_wp2_with (first | ((with_reducible refine gate_store (t := 25) (p := 6) rfl ?_); go_must (refine wpList_store_row rfl 25 _ _ rfl g6 #[.slice AX l0.length cX, .slice A1 l1.length c1, .int .i64 wg] rfl rfl 25 (#[.slice none 0 0, .slice none 0 0, .int .i64 0]) BKg6.out rfl rfl (by simp [Value.oneCell']) ?_; (try clear hcg6_0 hcg6_1 hcg6_2); (try clear HT); (try replace BKg3 := Aside0.mk ((setRow_other W_ g6 g3 (#[.slice AX l0.length cX, .slice A1 l1.length c1, .int .i64 wg]) (by first | exact Nat.ne_of_lt NEg3_g6.out | exact Nat.ne_of_gt NEg6_g3.out)).trans BKg3.out)); (try replace HO := Aside0.mk (row_setRow HO.out BKg6.out (by decide) (#[.slice AX l0.length cX, .slice A1 l1.length c1, .int .i64 wg]))); (try replace BKg9 := Aside0.mk ((setRow_other W_ g6 g9 (#[.slice AX l0.length cX, .slice A1 l1.length c1, .int .i64 wg]) (by first | exact Nat.ne_of_lt NEg9_g6.out | exact Nat.ne_of_gt NEg6_g9.out)).trans BKg9.out)); (try replace HX := Aside0.mk (RX.setRow (us := #[.slice AX l0.length cX, .slice A1 l1.length c1, .int .i64 wg]) HX.out BKg6.out (by decide))); replace HB := Aside0.mk (below_setRow HB.out GEg6.out (#[.slice AX l0.length cX, .slice A1 l1.length c1, .int .i64 wg])); replace BKg6 := Aside0.mk (setRow_heap W_ g6 _ (#[.slice AX l0.length cX, .slice A1 l1.length c1, .int .i64 wg]) _ _ BKg6.out); generalize W_.setRow g6 (#[.slice AX l0.length cX, .slice A1 l1.length c1, .int .i64 wg]) = W_ at *; (try have hcg6_0 : W_.cell? ⟨g6, 0, none⟩ = some (.slice AX l0.length cX) := (blk_cell BKg6.out 0).trans rfl); (try have hcg6_1 : W_.cell? ⟨g6, 1, none⟩ = some (.slice A1 l1.length c1) := (blk_cell BKg6.out 1).trans rfl); (try have hcg6_2 : W_.cell? ⟨g6, 2, none⟩ = some (.int .i64 wg) := (blk_cell BKg6.out 2).trans rfl))))
      refine bodyPost_ret (results_ct rfl _ _ g6 25 #[.slice AX l0.length cX, .slice A1 l1.length c1, .int .i64 wg] (0, 0) _ rfl BKg6.out Try.underlying25 rfl (by kernel_rfl)) rfl ?_
      exact ⟨AX, cX, AO, cO, by rw [cntTo_len]; rfl, HX.out, HO.out, HB.out⟩
end Go.Proofs.Ytnbbbeghgomnoaa.X
namespace Go.Proofs.Ytnbbbeghgomnoaa.X
open Go.RowKit Go.Proofs.YtnbbbeghgomnoaaW.PrintWords Go.Proofs.YtnbbbeghgomnoaaW.PrintLast Go.Proofs.YtnbbbeghgomnoaaW.PrintMore
section
variable {A0 : Option Addr} {c0 : Nat} {l0 : List S109} {A1 : Option Addr} {c1 : Nat} {l1 : List S110} {Al : Option Addr} {cl : Nat} {l : List Int} {w : World} {b : Nat}
theorem play_c (wg : Int) (ht : Tab A0 c0 l0 A1 c1 l1 w) (hr : RI w b (.slice Al l.length cl) l) (hll : l.length ≤ 1000000) (he : checkT l0 l1 wg = 0) (ha : areB l0 l1 l = true) {os xs : List Int} (ho : ownL l0.length l1.length (pad l) = os) (hx : sel (off l1 (pad l)) l1.length = xs) :
    Calls Try.prog 50 #[.agg #[.slice A0 l0.length c0, .slice A1 l1.length c1, .int .i64 wg], .slice Al l.length cl] w fun e w' => ∃ v1 v2, e = .returned (.tuple #[v1, v2, .int .i64 0]) ∧ RI w' w.heap.size v1 os ∧ RI w' w.heap.size v2 xs ∧ Below w.heap.size w w' := by
  subst ho hx
  refine (Play_ok wg ht (Kd.R_reads' hr).2.2 (Kd.R_reads' hr).2.1 hll he ha).mono ?_
  rintro e w' ⟨v1, v2, h1, h2, h3, _, h4⟩
  exact ⟨v1, v2, h1, h2, h3, h4⟩
theorem prove_c (wg : Int) (ht : Tab A0 c0 l0 A1 c1 l1 w) (hr : RI w b (.slice Al l.length cl) l) (hll : l.length ≤ 1000000) {t : Bool} (hp : provedT l0 l1 wg l = t) :
    Calls Try.prog 60 #[.agg #[.slice A0 l0.length c0, .slice A1 l1.length c1, .int .i64 wg], .slice Al l.length cl] w fun e w' => e = .returned (.bool t) ∧ Below w.heap.size w w' := by
  subst hp
  exact ProveTruth_calls wg ht (Kd.R_reads' hr).2.2 (Kd.R_reads' hr).2.1 hll
end
end Go.Proofs.Ytnbbbeghgomnoaa.X
namespace Go.Proofs.Ytnbbbeghgomnoaa.X
open Go.RowKit Go.Proofs.YtnbbbeghgomnoaaW.PrintWords Go.Proofs.YtnbbbeghgomnoaaW.PrintLast Go.Proofs.YtnbbbeghgomnoaaW.PrintMore
theorem RX.at_ {w1 W : World} {b : Nat} {A : Option Addr} {c : Nat} {xs : List S85} (w : World) (h : RX k85 85 w1 W b A c xs) : RX k85 85 w W b A c xs := by
  refine ⟨h.le, h.sm, ?_⟩
  rcases h.blk with h0 | ⟨g, cs, h1, h2, h3, h4⟩
  · exact .inl h0
  · refine .inr ⟨g, cs, h1, h2, h3, fun j x hx => ?_⟩
    obtain ⟨q, hq, hc⟩ := h4 j x hx
    obtain rfl := k85_open hq
    exact ⟨_, k85_mk w x, hc⟩
theorem Counted_x (k : Nat) {A0 : Option Addr} {c0 : Nat} {l0 : List S85} {A1 : Option Addr} {c1 : Nat} {l1 : List S71} (wg a1 : Int) {AW : Option Addr} {cW : Nat} {w : World} (r0 : Kd.C k85 w A0 l0.length l0) (g0 : l0.length ≤ c0) (r1 : Kd.C k71 w A1 l1.length l1) (g1 : l1.length ≤ c1) (ht : Thn l0 l1) {mny q : Nat} {ol lw : List Int} (hmn : posserref03_Many.f k l0 l1 wg = some (mny : Int)) (hm0 : mny ≠ 0) (hq : Int.tmod (wrap64 a1) (mny : Int) = (q : Int)) (hnt : posserref03_Nth.f k l0 l1 wg (q : Int) = some ol) {ns ks : Nat → Int} (hns : ∀ i : Nat, i < l0.length → posserref03_Own.f k ol (i : Int) = some (ns i)) (hks : ∀ i : Nat, i < l0.length → posserlaw03_word.f lw (i : Int) = some (ks i)) (rw_ : Kd.C (Kd.int .u16) w AW lw.length lw) (gw : lw.length ≤ cW) {xs : List S85} (hxs : cntTo ns ks l0.length l0 = xs) :
    Calls Try.prog 64 #[.agg #[.slice A0 l0.length c0, .slice A1 l1.length c1, .int .i64 wg], .int .u16 a1, .slice AW lw.length cW] w fun e w' => ∃ A c B d, e = .returned (.tuple #[.agg #[.slice A xs.length c, .slice A1 l1.length c1, .int .i64 wg], .slice B ol.length d]) ∧ RX k85 85 w w' w.heap.size A c xs ∧ RI w' w.heap.size (.slice B ol.length d) ol ∧ Below w.heap.size w w' := by
  subst hxs
  exact Counted_c k wg a1 r0 g0 r1 g1 ht hmn hm0 hq hnt hns hks rw_ gw
theorem in13 {y : Int} (h : y = 1 ∨ y = 2 ∨ y = 3) : posserref03_In.f y 1 3 = some true := by
  rw [In_f]
  rcases h with rfl | rfl | rfl <;> rfl
set_option maxHeartbeats 4000000 in
set_option maxRecDepth 100000 in
theorem Truth_no (k : Nat) {A0 : Option Addr} {c0 : Nat} {l0 : List S85} {A1 : Option Addr} {c1 : Nat} {l1 : List S71} (wg : Int) (a1 : Int) {AW : Option Addr} {cW : Nat} {lw : List Int} {w : World} (r0 : Kd.C k85 w A0 l0.length l0) (g0 : l0.length ≤ c0) (r1 : Kd.C k71 w A1 l1.length l1) (g1 : l1.length ≤ c1) (rw_ : Kd.C (Kd.int .u16) w AW lw.length lw) (gw : lw.length ≤ cW) (hrd : posserlaw03_ready.f k l0 l1 wg = some false) :
    Calls Try.prog 19 #[.agg #[.slice A0 l0.length c0, .slice A1 l1.length c1, .int .i64 wg], .int .u16 a1, .slice AW lw.length cW] w fun e w' => e = .returned (.bool true) ∧ Below w.heap.size w w' := by
  have hu25 := Try.underlying25
  have hu35 := Try.underlying35
  have hu55 := Try.underlying55
  have HR0 := Aside0.mk r0
  have HC0 := Aside0.mk g0
  have HR1 := Aside0.mk r1
  have HC1 := Aside0.mk g1
  clear r0 g0 r1 g1
  have HRW := Aside0.mk rw_
  have HCW := Aside0.mk gw
  clear rw_ gw
  have HRD := Aside0.mk hrd
  clear hrd
  have HB := Aside0.mk (Below.refl w.heap.size w)
  go_enter Try.func19, Try.ntmps19
  go_wp2_with (first | ((with_reducible refine gate_dst (N := 3) rfl ?_); refine box_event ?hg (N := 3) ?hd (cs := #[.slice A0 l0.length c0, .slice A1 l1.length c1, .int .i64 wg]) (t := 25) ?hr ?_; (case hd => rfl); (case hg => rfl); (case hr => first | (go_simp; done) | (go_simp; rfl)); intro g3 hg W_ hbox hb; (try have NEg7_g3 := Aside0.mk (show g7 < g3 from by rw [hg]; exact blk_lt BKg7.out)); have GEg3 := Aside0.mk (by rw [hg]; exact HB.out.size : w.heap.size ≤ g3); (try clear hcg3_0 hcg3_1 hcg3_2); (try replace HB := Aside0.mk (below_step HB.out hb)); (try replace HT := Aside0.mk (HT.out.below hb)); (try replace BKg3 := Aside0.mk (blk_below BKg3.out hb)); (try replace BKg7 := Aside0.mk (blk_below BKg7.out hb)); (try replace HX := Aside0.mk (HX.out.below hb)); (try replace HOL := Aside0.mk (Kd.R_below HOL.out hb)); (try replace HW := Aside0.mk (Kd.R_below HW.out hb)); (try replace BKg11 := Aside0.mk (blk_below BKg11.out hb)); (try replace HV := Aside0.mk (Kd.R_below HV.out hb)); (try replace HN := Aside0.mk (Kd.R_below HN.out hb)); (try replace HS := Aside0.mk (Kd.R_below HS.out hb)); (try replace HJ := Aside0.mk (Kd.R_below HJ.out hb)); (try replace HQ := Aside0.mk (Kd.R_below HQ.out hb)); (try replace HPO := Aside0.mk (Kd.R_below HPO.out hb)); (try replace HPA := Aside0.mk (Kd.R_below HPA.out hb)); have BKg3 := Aside0.mk hbox; clear hb hbox hg; (try have hcg3_0 : W_.cell? ⟨g3, 0, none⟩ = some (.slice A0 l0.length c0) := (blk_cell BKg3.out 0).trans rfl); (try have hcg3_1 : W_.cell? ⟨g3, 1, none⟩ = some (.slice A1 l1.length c1) := (blk_cell BKg3.out 1).trans rfl); (try have hcg3_2 : W_.cell? ⟨g3, 2, none⟩ = some (.int .i64 wg) := (blk_cell BKg3.out 2).trans rfl)) | (go_at_call 47; go_must (refine (posserlaw03_ready.calls k A0 c0 l0 A1 c1 l1 wg false _ (Kd.C_below HR0.out HB.out) HC0.out (Kd.C_below HR1.out HB.out) HC1.out HRD.out).mono ?_; rintro e W_ ⟨rfl, hb⟩; (try clear hcg3_0 hcg3_1 hcg3_2); (try replace HB := Aside0.mk (below_step HB.out hb)); (try replace HT := Aside0.mk (HT.out.below hb)); (try replace BKg3 := Aside0.mk (blk_below BKg3.out hb)); (try replace BKg7 := Aside0.mk (blk_below BKg7.out hb)); (try replace HX := Aside0.mk (HX.out.below hb)); (try replace HOL := Aside0.mk (Kd.R_below HOL.out hb)); (try replace HW := Aside0.mk (Kd.R_below HW.out hb)); (try replace BKg11 := Aside0.mk (blk_below BKg11.out hb)); (try replace HV := Aside0.mk (Kd.R_below HV.out hb)); (try replace HN := Aside0.mk (Kd.R_below HN.out hb)); (try replace HS := Aside0.mk (Kd.R_below HS.out hb)); (try replace HJ := Aside0.mk (Kd.R_below HJ.out hb)); (try replace HQ := Aside0.mk (Kd.R_below HQ.out hb)); (try replace HPO := Aside0.mk (Kd.R_below HPO.out hb)); (try replace HPA := Aside0.mk (Kd.R_below HPA.out hb)); skip; clear hb; (try have hcg3_0 : W_.cell? ⟨g3, 0, none⟩ = some (.slice A0 l0.length c0) := (blk_cell BKg3.out 0).trans rfl); (try have hcg3_1 : W_.cell? ⟨g3, 1, none⟩ = some (.slice A1 l1.length c1) := (blk_cell BKg3.out 1).trans rfl); (try have hcg3_2 : W_.cell? ⟨g3, 2, none⟩ = some (.int .i64 wg) := (blk_cell BKg3.out 2).trans rfl))) | (go_at_call 21; go_must (refine (awake_calls _).mono ?_; rintro e W_ ⟨rfl, hb⟩; (try clear hcg3_0 hcg3_1 hcg3_2); (try replace HB := Aside0.mk (below_step HB.out hb)); (try replace HT := Aside0.mk (HT.out.below hb)); (try replace BKg3 := Aside0.mk (blk_below BKg3.out hb)); (try replace BKg7 := Aside0.mk (blk_below BKg7.out hb)); (try replace HX := Aside0.mk (HX.out.below hb)); (try replace HOL := Aside0.mk (Kd.R_below HOL.out hb)); (try replace HW := Aside0.mk (Kd.R_below HW.out hb)); (try replace BKg11 := Aside0.mk (blk_below BKg11.out hb)); (try replace HV := Aside0.mk (Kd.R_below HV.out hb)); (try replace HN := Aside0.mk (Kd.R_below HN.out hb)); (try replace HS := Aside0.mk (Kd.R_below HS.out hb)); (try replace HJ := Aside0.mk (Kd.R_below HJ.out hb)); (try replace HQ := Aside0.mk (Kd.R_below HQ.out hb)); (try replace HPO := Aside0.mk (Kd.R_below HPO.out hb)); (try replace HPA := Aside0.mk (Kd.R_below HPA.out hb)); skip; clear hb; (try have hcg3_0 : W_.cell? ⟨g3, 0, none⟩ = some (.slice A0 l0.length c0) := (blk_cell BKg3.out 0).trans rfl); (try have hcg3_1 : W_.cell? ⟨g3, 1, none⟩ = some (.slice A1 l1.length c1) := (blk_cell BKg3.out 1).trans rfl); (try have hcg3_2 : W_.cell? ⟨g3, 2, none⟩ = some (.int .i64 wg) := (blk_cell BKg3.out 2).trans rfl))))
  go_ret
  exact ⟨rfl, HB.out⟩
set_option maxHeartbeats 40000000 in
set_option maxRecDepth 100000 in
theorem Truth_ok (k : Nat) {A0 : Option Addr} {c0 : Nat} {l0 : List S85} {A1 : Option Addr} {c1 : Nat} {l1 : List S71} (wg : Int) (a1 : Int) {AW : Option Addr} {cW : Nat} {lw : List Int} {w : World} (r0 : Kd.C k85 w A0 l0.length l0) (g0 : l0.length ≤ c0) (r1 : Kd.C k71 w A1 l1.length l1) (g1 : l1.length ≤ c1) (ht : Thn l0 l1) {L0 : List S109} {L1 : List S110} (h0 : l0.map cvW = L0) (h1 : l1.map cvP = L1) (rw_ : Kd.C (Kd.int .u16) w AW lw.length lw) (gw : lw.length ≤ cW) (hrd : posserlaw03_ready.f k l0 l1 wg = some true) {mny q : Nat} {ol : List Int} {xs : List S85} {ns ks : Nat → Int} (hmn : posserref03_Many.f k l0 l1 wg = some (mny : Int)) (hm0 : mny ≠ 0) (hq : Int.tmod (wrap64 a1) (mny : Int) = (q : Int)) (hnt : posserref03_Nth.f k l0 l1 wg (q : Int) = some ol) (hns : ∀ i : Nat, i < l0.length → posserref03_Own.f k ol (i : Int) = some (ns i)) (hks : ∀ i : Nat, i < l0.length → posserlaw03_word.f lw (i : Int) = some (ks i)) (hxs : cntTo ns ks l0.length l0 = xs) (h30 : xs.length ≤ 30) {L0' : List S109} (hlx : xs.map cvW = L0') (hck : checkT L0 L1 wg = 0) (hcx : checkT L0' L1 wg = 0) (hex : askE L0' L1 wg = 0) {ws : List (List Int)} {vs ls as_ : List Int} {lo hi : Int} (hw : whoseL L0'.length L1.length (truthsL L0' L1 wg) = ws) (hv : missL L1 (truthsL L0' L1 wg) L0'.length = vs) (hd : boundsL (fun x => lostN L1 (pad x)) (truthsL L0' L1 wg) = (lo, hi)) (hsn : leaveL L0' L1 = []) (hss : leaveL L0 L1 = ls) (hab : areB L0' L1 ol = true) (hsa : sel (off L1 (pad ol)) L1.length = as_) (hll : ol.length ≤ 1000000) (hpr : provedT L0' L1 wg ol = true) (lwl : ws.length = ol.length) (lvl : vs.length = l0.length) (i1 : ¬ ((as_.length : Int) < lo)) (i2 : ¬ ((as_.length : Int) > hi)) (hcs : (askE L0 L1 wg = 0 ∧ (ls.length : Int) ≤ wg) ∨ (askE L0 L1 wg = 11 ∧ ¬ ((ls.length : Int) ≤ wg))) (hhs : ∀ m : Nat, m < ws.length → posserref03_Has.f k (ws.getD m []) (rd ol (m : Int)) = some true) (hdm : ∀ m : Nat, m < vs.length → ∃ bb, posserref03_DoesMiss.f k xs l1 wg ol (m : Int) = some bb ∧ ((rd vs (m : Int) = 1 ∧ bb = true) ∨ (rd vs (m : Int) = 2 ∧ bb = false) ∨ rd vs (m : Int) = 3)) :
    Calls Try.prog 19 #[.agg #[.slice A0 l0.length c0, .slice A1 l1.length c1, .int .i64 wg], .int .u16 a1, .slice AW lw.length cW] w fun e w' => e = .returned (.bool true) ∧ Below w.heap.size w w' := by
  have hu25 := Try.underlying25
  have hu35 := Try.underlying35
  have hu55 := Try.underlying55
  have HR0 := Aside0.mk r0
  have HC0 := Aside0.mk g0
  have HR1 := Aside0.mk r1
  have HC1 := Aside0.mk g1
  clear r0 g0 r1 g1
  have HRT := Aside0.mk (show RTab A0 c0 l0 A1 c1 l1 w from ⟨HR0.out, HC0.out, HR1.out, HC1.out, ht.n0, ht.n1, ht.ms⟩)
  have HTHN := Aside0.mk ht
  clear ht
  have HRW := Aside0.mk rw_
  have HCW := Aside0.mk gw
  clear rw_ gw
  have HL0 := Aside0.mk h0
  have HL1 := Aside0.mk h1
  have HRD := Aside0.mk hrd
  have HMN := Aside0.mk hmn
  have HM0 := Aside0.mk hm0
  have HQN := Aside0.mk hq
  have HNT := Aside0.mk hnt
  have HNS := Aside0.mk hns
  have HKS := Aside0.mk hks
  have HXS := Aside0.mk hxs
  have HX30 := Aside0.mk h30
  have HLX := Aside0.mk hlx
  have HCK := Aside0.mk hck
  have HCX := Aside0.mk hcx
  have HEX := Aside0.mk hex
  have HSW := Aside0.mk hw
  have HSV := Aside0.mk hv
  have HSD := Aside0.mk hd
  have HSN := Aside0.mk hsn
  have HSS := Aside0.mk hss
  have HAB := Aside0.mk hab
  have HSA := Aside0.mk hsa
  have HLL := Aside0.mk hll
  have HPR := Aside0.mk hpr
  have HHSA := Aside0.mk hhs
  have HDMA := Aside0.mk hdm
  clear h0 h1 hrd hmn hm0 hq hnt hns hks hxs h30 hlx hck hcx hex hw hv hd hsn hss hab hsa hll hpr hhs hdm
  have hlw : ((ws.length : Int) != (ol.length : Int)) = false := by rw [lwl]; simp
  have hlv : ((vs.length : Int) != (l0.length : Int)) = false := by rw [lvl]; simp
  have HLW := Aside0.mk lwl
  have HLV := Aside0.mk lvl
  have j1 : decide ((as_.length : Int) < lo) = false := decide_eq_false i1
  have j2 : decide ((as_.length : Int) > hi) = false := decide_eq_false i2
  clear lwl lvl
  have HB := Aside0.mk (Below.refl w.heap.size w)
  rcases hcs with ⟨he, hj⟩ | ⟨he, hj⟩
  focus
    have HE := Aside0.mk he
    have hjd := decide_eq_true hj
    clear he
  rotate_left
  focus
    have HE := Aside0.mk he
    have hjd := decide_eq_false hj
    clear he
  rotate_left
  all_goals (go_enter Try.func19, Try.ntmps19)
  all_goals (go_wp2_with (first | ((with_reducible refine gate_dst (N := 3) rfl ?_); refine box_event ?hg (N := 3) ?hd (cs := #[.slice A0 l0.length c0, .slice A1 l1.length c1, .int .i64 wg]) (t := 25) ?hr ?_; (case hd => rfl); (case hg => rfl); (case hr => first | (go_simp; done) | (go_simp; rfl)); intro g3 hg W_ hbox hb; (try have NEg7_g3 := Aside0.mk (show g7 < g3 from by rw [hg]; exact blk_lt BKg7.out)); have GEg3 := Aside0.mk (by rw [hg]; exact HB.out.size : w.heap.size ≤ g3); (try clear hcg3_0 hcg3_1 hcg3_2); (try replace HB := Aside0.mk (below_step HB.out hb)); (try replace HT := Aside0.mk (HT.out.below hb)); (try replace BKg3 := Aside0.mk (blk_below BKg3.out hb)); (try replace BKg7 := Aside0.mk (blk_below BKg7.out hb)); (try replace HX := Aside0.mk (HX.out.below hb)); (try replace HOL := Aside0.mk (Kd.R_below HOL.out hb)); (try replace HW := Aside0.mk (Kd.R_below HW.out hb)); (try replace BKg11 := Aside0.mk (blk_below BKg11.out hb)); (try replace HV := Aside0.mk (Kd.R_below HV.out hb)); (try replace HN := Aside0.mk (Kd.R_below HN.out hb)); (try replace HS := Aside0.mk (Kd.R_below HS.out hb)); (try replace HJ := Aside0.mk (Kd.R_below HJ.out hb)); (try replace HQ := Aside0.mk (Kd.R_below HQ.out hb)); (try replace HPO := Aside0.mk (Kd.R_below HPO.out hb)); (try replace HPA := Aside0.mk (Kd.R_below HPA.out hb)); have BKg3 := Aside0.mk hbox; clear hb hbox hg; (try have hcg3_0 : W_.cell? ⟨g3, 0, none⟩ = some (.slice A0 l0.length c0) := (blk_cell BKg3.out 0).trans rfl); (try have hcg3_1 : W_.cell? ⟨g3, 1, none⟩ = some (.slice A1 l1.length c1) := (blk_cell BKg3.out 1).trans rfl); (try have hcg3_2 : W_.cell? ⟨g3, 2, none⟩ = some (.int .i64 wg) := (blk_cell BKg3.out 2).trans rfl)) | (go_at_call 47; go_must (refine (posserlaw03_ready.calls k A0 c0 l0 A1 c1 l1 wg true _ (Kd.C_below HR0.out HB.out) HC0.out (Kd.C_below HR1.out HB.out) HC1.out HRD.out).mono ?_; rintro e W_ ⟨rfl, hb⟩; (try clear hcg3_0 hcg3_1 hcg3_2); (try clear hcg7_0 hcg7_1 hcg7_2); (try clear hcg11_0 hcg11_1); (try replace HB := Aside0.mk (below_step HB.out hb)); (try replace HT := Aside0.mk (HT.out.below hb)); (try replace BKg3 := Aside0.mk (blk_below BKg3.out hb)); (try replace BKg7 := Aside0.mk (blk_below BKg7.out hb)); (try replace HX := Aside0.mk (HX.out.below hb)); (try replace HOL := Aside0.mk (Kd.R_below HOL.out hb)); (try replace HW := Aside0.mk (Kd.R_below HW.out hb)); (try replace BKg11 := Aside0.mk (blk_below BKg11.out hb)); (try replace HV := Aside0.mk (Kd.R_below HV.out hb)); (try replace HN := Aside0.mk (Kd.R_below HN.out hb)); (try replace HS := Aside0.mk (Kd.R_below HS.out hb)); (try replace HJ := Aside0.mk (Kd.R_below HJ.out hb)); (try replace HQ := Aside0.mk (Kd.R_below HQ.out hb)); (try replace HPO := Aside0.mk (Kd.R_below HPO.out hb)); (try replace HPA := Aside0.mk (Kd.R_below HPA.out hb)); skip; clear hb; (try have hcg3_0 : W_.cell? ⟨g3, 0, none⟩ = some (.slice A0 l0.length c0) := (blk_cell BKg3.out 0).trans rfl); (try have hcg3_1 : W_.cell? ⟨g3, 1, none⟩ = some (.slice A1 l1.length c1) := (blk_cell BKg3.out 1).trans rfl); (try have hcg3_2 : W_.cell? ⟨g3, 2, none⟩ = some (.int .i64 wg) := (blk_cell BKg3.out 2).trans rfl); (try have hcg7_0 : W_.cell? ⟨g7, 0, none⟩ = some (.slice AX xs.length cX) := (blk_cell BKg7.out 0).trans rfl); (try have hcg7_1 : W_.cell? ⟨g7, 1, none⟩ = some (.slice A1 l1.length c1) := (blk_cell BKg7.out 1).trans rfl); (try have hcg7_2 : W_.cell? ⟨g7, 2, none⟩ = some (.int .i64 wg) := (blk_cell BKg7.out 2).trans rfl); (try have hcg11_0 : W_.cell? ⟨g11, 0, none⟩ = some (.int .i64 lo) := (blk_cell BKg11.out 0).trans rfl); (try have hcg11_1 : W_.cell? ⟨g11, 1, none⟩ = some (.int .i64 hi) := (blk_cell BKg11.out 1).trans rfl))) | (go_at_call 64; go_must (refine (Counted_x k wg a1 (Kd.C_below HR0.out HB.out) HC0.out (Kd.C_below HR1.out HB.out) HC1.out HTHN.out HMN.out HM0.out HQN.out HNT.out HNS.out HKS.out (Kd.C_below HRW.out HB.out) HCW.out HXS.out).mono ?_; rintro e W_ ⟨AX, cX, AO, cO, rfl, hx, ho, hb⟩; (try clear hcg3_0 hcg3_1 hcg3_2); (try replace HB := Aside0.mk (below_step HB.out hb)); (try replace HT := Aside0.mk (HT.out.below hb)); (try replace BKg3 := Aside0.mk (blk_below BKg3.out hb)); (try replace BKg7 := Aside0.mk (blk_below BKg7.out hb)); (try replace HX := Aside0.mk (HX.out.below hb)); (try replace HOL := Aside0.mk (Kd.R_below HOL.out hb)); (try replace HW := Aside0.mk (Kd.R_below HW.out hb)); (try replace BKg11 := Aside0.mk (blk_below BKg11.out hb)); (try replace HV := Aside0.mk (Kd.R_below HV.out hb)); (try replace HN := Aside0.mk (Kd.R_below HN.out hb)); (try replace HS := Aside0.mk (Kd.R_below HS.out hb)); (try replace HJ := Aside0.mk (Kd.R_below HJ.out hb)); (try replace HQ := Aside0.mk (Kd.R_below HQ.out hb)); (try replace HPO := Aside0.mk (Kd.R_below HPO.out hb)); (try replace HPA := Aside0.mk (Kd.R_below HPA.out hb)); have HX := Aside0.mk (hx.at_ w); have HOL := Aside0.mk ho; clear hx ho; clear hb; (try have hcg3_0 : W_.cell? ⟨g3, 0, none⟩ = some (.slice A0 l0.length c0) := (blk_cell BKg3.out 0).trans rfl); (try have hcg3_1 : W_.cell? ⟨g3, 1, none⟩ = some (.slice A1 l1.length c1) := (blk_cell BKg3.out 1).trans rfl); (try have hcg3_2 : W_.cell? ⟨g3, 2, none⟩ = some (.int .i64 wg) := (blk_cell BKg3.out 2).trans rfl))) | ((with_reducible refine gate_dst (N := 7) rfl ?_); refine box_event ?hg (N := 7) ?hd (cs := #[.slice none 0 0, .slice none 0 0, .int .i64 0]) (t := 25) ?hr ?_; (case hd => rfl); (case hg => rfl); (case hr => first | (go_simp; done) | (go_simp; rfl)); intro g7 hg W_ hbox hb; (try have NEg3_g7 := Aside0.mk (show g3 < g7 from by rw [hg]; exact blk_lt BKg3.out)); have GEg7 := Aside0.mk (by rw [hg]; exact HB.out.size : w.heap.size ≤ g7); (try clear hcg3_0 hcg3_1 hcg3_2); (try clear hcg7_0 hcg7_1 hcg7_2); (try replace HB := Aside0.mk (below_step HB.out hb)); (try replace HT := Aside0.mk (HT.out.below hb)); (try replace BKg3 := Aside0.mk (blk_below BKg3.out hb)); (try replace BKg7 := Aside0.mk (blk_below BKg7.out hb)); (try replace HX := Aside0.mk (HX.out.below hb)); (try replace HOL := Aside0.mk (Kd.R_below HOL.out hb)); (try replace HW := Aside0.mk (Kd.R_below HW.out hb)); (try replace BKg11 := Aside0.mk (blk_below BKg11.out hb)); (try replace HV := Aside0.mk (Kd.R_below HV.out hb)); (try replace HN := Aside0.mk (Kd.R_below HN.out hb)); (try replace HS := Aside0.mk (Kd.R_below HS.out hb)); (try replace HJ := Aside0.mk (Kd.R_below HJ.out hb)); (try replace HQ := Aside0.mk (Kd.R_below HQ.out hb)); (try replace HPO := Aside0.mk (Kd.R_below HPO.out hb)); (try replace HPA := Aside0.mk (Kd.R_below HPA.out hb)); have BKg7 := Aside0.mk hbox; clear hb hbox hg; (try have hcg3_0 : W_.cell? ⟨g3, 0, none⟩ = some (.slice A0 l0.length c0) := (blk_cell BKg3.out 0).trans rfl); (try have hcg3_1 : W_.cell? ⟨g3, 1, none⟩ = some (.slice A1 l1.length c1) := (blk_cell BKg3.out 1).trans rfl); (try have hcg3_2 : W_.cell? ⟨g3, 2, none⟩ = some (.int .i64 wg) := (blk_cell BKg3.out 2).trans rfl); (try have hcg7_0 : W_.cell? ⟨g7, 0, none⟩ = some (.slice none 0 0) := (blk_cell BKg7.out 0).trans rfl); (try have hcg7_1 : W_.cell? ⟨g7, 1, none⟩ = some (.slice none 0 0) := (blk_cell BKg7.out 1).trans rfl); (try have hcg7_2 : W_.cell? ⟨g7, 2, none⟩ = some (.int .i64 0) := (blk_cell BKg7.out 2).trans rfl)) | ((with_reducible refine gate_store (t := 25) (p := 7) rfl ?_); go_must (refine wpList_store_row rfl 25 _ _ rfl g7 #[.slice AX xs.length cX, .slice A1 l1.length c1, .int .i64 wg] rfl rfl 25 (#[.slice none 0 0, .slice none 0 0, .int .i64 0]) BKg7.out rfl rfl (by simp [Value.oneCell']) ?_; (try clear hcg3_0 hcg3_1 hcg3_2); (try clear hcg7_0 hcg7_1 hcg7_2); (try clear HT); (try replace BKg3 := Aside0.mk ((setRow_other W_ g7 g3 (#[.slice AX xs.length cX, .slice A1 l1.length c1, .int .i64 wg]) (by first | exact Nat.ne_of_lt NEg3_g7.out | exact Nat.ne_of_gt NEg7_g3.out)).trans BKg3.out)); (try replace HX := Aside0.mk (RX.setRow (us := #[.slice AX xs.length cX, .slice A1 l1.length c1, .int .i64 wg]) HX.out BKg7.out (by decide))); (try replace HOL := Aside0.mk (row_setRow HOL.out BKg7.out (by decide) (#[.slice AX xs.length cX, .slice A1 l1.length c1, .int .i64 wg]))); (try replace HW := Aside0.mk (row_setRow HW.out BKg7.out (by decide) (#[.slice AX xs.length cX, .slice A1 l1.length c1, .int .i64 wg]))); (try replace BKg11 := Aside0.mk (blk_setRow BKg11.out BKg7.out (by decide) (#[.slice AX xs.length cX, .slice A1 l1.length c1, .int .i64 wg]))); (try replace HV := Aside0.mk (row_setRow HV.out BKg7.out (by decide) (#[.slice AX xs.length cX, .slice A1 l1.length c1, .int .i64 wg]))); (try replace HN := Aside0.mk (row_setRow HN.out BKg7.out (by decide) (#[.slice AX xs.length cX, .slice A1 l1.length c1, .int .i64 wg]))); (try replace HS := Aside0.mk (row_setRow HS.out BKg7.out (by decide) (#[.slice AX xs.length cX, .slice A1 l1.length c1, .int .i64 wg]))); (try replace HJ := Aside0.mk (row_setRow HJ.out BKg7.out (by decide) (#[.slice AX xs.length cX, .slice A1 l1.length c1, .int .i64 wg]))); (try replace HQ := Aside0.mk (row_setRow HQ.out BKg7.out (by decide) (#[.slice AX xs.length cX, .slice A1 l1.length c1, .int .i64 wg]))); (try replace HPO := Aside0.mk (row_setRow HPO.out BKg7.out (by decide) (#[.slice AX xs.length cX, .slice A1 l1.length c1, .int .i64 wg]))); (try replace HPA := Aside0.mk (row_setRow HPA.out BKg7.out (by decide) (#[.slice AX xs.length cX, .slice A1 l1.length c1, .int .i64 wg]))); replace HB := Aside0.mk (below_setRow HB.out GEg7.out (#[.slice AX xs.length cX, .slice A1 l1.length c1, .int .i64 wg])); replace BKg7 := Aside0.mk (setRow_heap W_ g7 _ (#[.slice AX xs.length cX, .slice A1 l1.length c1, .int .i64 wg]) _ _ BKg7.out); generalize W_.setRow g7 (#[.slice AX xs.length cX, .slice A1 l1.length c1, .int .i64 wg]) = W_ at *; (try have hcg3_0 : W_.cell? ⟨g3, 0, none⟩ = some (.slice A0 l0.length c0) := (blk_cell BKg3.out 0).trans rfl); (try have hcg3_1 : W_.cell? ⟨g3, 1, none⟩ = some (.slice A1 l1.length c1) := (blk_cell BKg3.out 1).trans rfl); (try have hcg3_2 : W_.cell? ⟨g3, 2, none⟩ = some (.int .i64 wg) := (blk_cell BKg3.out 2).trans rfl); (try have hcg7_0 : W_.cell? ⟨g7, 0, none⟩ = some (.slice AX xs.length cX) := (blk_cell BKg7.out 0).trans rfl); (try have hcg7_1 : W_.cell? ⟨g7, 1, none⟩ = some (.slice A1 l1.length c1) := (blk_cell BKg7.out 1).trans rfl); (try have hcg7_2 : W_.cell? ⟨g7, 2, none⟩ = some (.int .i64 wg) := (blk_cell BKg7.out 2).trans rfl))) | (go_at_call 23; go_must (first | ((with_reducible refine (tab_c _ (HRT.out.below HB.out) HL0.out HL1.out).mono ?_); rintro e W_ ⟨B0, d0, B1, d1, rfl, ht, hb⟩; (try clear hcg3_0 hcg3_1 hcg3_2); (try clear hcg7_0 hcg7_1 hcg7_2); (try clear hcg11_0 hcg11_1); (try replace HB := Aside0.mk (below_step HB.out hb)); (try replace HT := Aside0.mk (HT.out.below hb)); (try replace BKg3 := Aside0.mk (blk_below BKg3.out hb)); (try replace BKg7 := Aside0.mk (blk_below BKg7.out hb)); (try replace HX := Aside0.mk (HX.out.below hb)); (try replace HOL := Aside0.mk (Kd.R_below HOL.out hb)); (try replace HW := Aside0.mk (Kd.R_below HW.out hb)); (try replace BKg11 := Aside0.mk (blk_below BKg11.out hb)); (try replace HV := Aside0.mk (Kd.R_below HV.out hb)); (try replace HN := Aside0.mk (Kd.R_below HN.out hb)); (try replace HS := Aside0.mk (Kd.R_below HS.out hb)); (try replace HJ := Aside0.mk (Kd.R_below HJ.out hb)); (try replace HQ := Aside0.mk (Kd.R_below HQ.out hb)); (try replace HPO := Aside0.mk (Kd.R_below HPO.out hb)); (try replace HPA := Aside0.mk (Kd.R_below HPA.out hb)); (try clear HT); have HT := Aside0.mk ht; clear ht; clear hb; (try have hcg3_0 : W_.cell? ⟨g3, 0, none⟩ = some (.slice A0 l0.length c0) := (blk_cell BKg3.out 0).trans rfl); (try have hcg3_1 : W_.cell? ⟨g3, 1, none⟩ = some (.slice A1 l1.length c1) := (blk_cell BKg3.out 1).trans rfl); (try have hcg3_2 : W_.cell? ⟨g3, 2, none⟩ = some (.int .i64 wg) := (blk_cell BKg3.out 2).trans rfl); (try have hcg7_0 : W_.cell? ⟨g7, 0, none⟩ = some (.slice AX xs.length cX) := (blk_cell BKg7.out 0).trans rfl); (try have hcg7_1 : W_.cell? ⟨g7, 1, none⟩ = some (.slice A1 l1.length c1) := (blk_cell BKg7.out 1).trans rfl); (try have hcg7_2 : W_.cell? ⟨g7, 2, none⟩ = some (.int .i64 wg) := (blk_cell BKg7.out 2).trans rfl); (try have hcg11_0 : W_.cell? ⟨g11, 0, none⟩ = some (.int .i64 lo) := (blk_cell BKg11.out 0).trans rfl); (try have hcg11_1 : W_.cell? ⟨g11, 1, none⟩ = some (.int .i64 hi) := (blk_cell BKg11.out 1).trans rfl)) | ((with_reducible refine (tab_c _ (rtabW HRT.out HB.out HX.out HX30.out) HLX.out HL1.out).mono ?_); rintro e W_ ⟨B0, d0, B1, d1, rfl, ht, hb⟩; (try clear hcg3_0 hcg3_1 hcg3_2); (try clear hcg7_0 hcg7_1 hcg7_2); (try clear hcg11_0 hcg11_1); (try replace HB := Aside0.mk (below_step HB.out hb)); (try replace HT := Aside0.mk (HT.out.below hb)); (try replace BKg3 := Aside0.mk (blk_below BKg3.out hb)); (try replace BKg7 := Aside0.mk (blk_below BKg7.out hb)); (try replace HX := Aside0.mk (HX.out.below hb)); (try replace HOL := Aside0.mk (Kd.R_below HOL.out hb)); (try replace HW := Aside0.mk (Kd.R_below HW.out hb)); (try replace BKg11 := Aside0.mk (blk_below BKg11.out hb)); (try replace HV := Aside0.mk (Kd.R_below HV.out hb)); (try replace HN := Aside0.mk (Kd.R_below HN.out hb)); (try replace HS := Aside0.mk (Kd.R_below HS.out hb)); (try replace HJ := Aside0.mk (Kd.R_below HJ.out hb)); (try replace HQ := Aside0.mk (Kd.R_below HQ.out hb)); (try replace HPO := Aside0.mk (Kd.R_below HPO.out hb)); (try replace HPA := Aside0.mk (Kd.R_below HPA.out hb)); (try clear HT); have HT := Aside0.mk ht; clear ht; clear hb; (try have hcg3_0 : W_.cell? ⟨g3, 0, none⟩ = some (.slice A0 l0.length c0) := (blk_cell BKg3.out 0).trans rfl); (try have hcg3_1 : W_.cell? ⟨g3, 1, none⟩ = some (.slice A1 l1.length c1) := (blk_cell BKg3.out 1).trans rfl); (try have hcg3_2 : W_.cell? ⟨g3, 2, none⟩ = some (.int .i64 wg) := (blk_cell BKg3.out 2).trans rfl); (try have hcg7_0 : W_.cell? ⟨g7, 0, none⟩ = some (.slice AX xs.length cX) := (blk_cell BKg7.out 0).trans rfl); (try have hcg7_1 : W_.cell? ⟨g7, 1, none⟩ = some (.slice A1 l1.length c1) := (blk_cell BKg7.out 1).trans rfl); (try have hcg7_2 : W_.cell? ⟨g7, 2, none⟩ = some (.int .i64 wg) := (blk_cell BKg7.out 2).trans rfl); (try have hcg11_0 : W_.cell? ⟨g11, 0, none⟩ = some (.int .i64 lo) := (blk_cell BKg11.out 0).trans rfl); (try have hcg11_1 : W_.cell? ⟨g11, 1, none⟩ = some (.int .i64 hi) := (blk_cell BKg11.out 1).trans rfl)))) | ((with_reducible refine gate_dst (N := 11) rfl ?_); refine box_event ?hg (N := 11) ?hd (cs := #[.int .i64 0, .int .i64 0]) (t := 55) ?hr ?_; (case hd => rfl); (case hg => rfl); (case hr => first | (go_simp; done) | (go_simp; rfl)); intro g11 hg W_ hbox hb; have GEg11 := Aside0.mk (by rw [hg]; exact HB.out.size : w.heap.size ≤ g11); (try clear hcg3_0 hcg3_1 hcg3_2); (try clear hcg7_0 hcg7_1 hcg7_2); (try clear hcg11_0 hcg11_1); (try replace HB := Aside0.mk (below_step HB.out hb)); (try replace HT := Aside0.mk (HT.out.below hb)); (try replace BKg3 := Aside0.mk (blk_below BKg3.out hb)); (try replace BKg7 := Aside0.mk (blk_below BKg7.out hb)); (try replace HX := Aside0.mk (HX.out.below hb)); (try replace HOL := Aside0.mk (Kd.R_below HOL.out hb)); (try replace HW := Aside0.mk (Kd.R_below HW.out hb)); (try replace BKg11 := Aside0.mk (blk_below BKg11.out hb)); (try replace HV := Aside0.mk (Kd.R_below HV.out hb)); (try replace HN := Aside0.mk (Kd.R_below HN.out hb)); (try replace HS := Aside0.mk (Kd.R_below HS.out hb)); (try replace HJ := Aside0.mk (Kd.R_below HJ.out hb)); (try replace HQ := Aside0.mk (Kd.R_below HQ.out hb)); (try replace HPO := Aside0.mk (Kd.R_below HPO.out hb)); (try replace HPA := Aside0.mk (Kd.R_below HPA.out hb)); have BKg11 := Aside0.mk hbox; clear hb hbox hg; (try have hcg3_0 : W_.cell? ⟨g3, 0, none⟩ = some (.slice A0 l0.length c0) := (blk_cell BKg3.out 0).trans rfl); (try have hcg3_1 : W_.cell? ⟨g3, 1, none⟩ = some (.slice A1 l1.length c1) := (blk_cell BKg3.out 1).trans rfl); (try have hcg3_2 : W_.cell? ⟨g3, 2, none⟩ = some (.int .i64 wg) := (blk_cell BKg3.out 2).trans rfl); (try have hcg7_0 : W_.cell? ⟨g7, 0, none⟩ = some (.slice AX xs.length cX) := (blk_cell BKg7.out 0).trans rfl); (try have hcg7_1 : W_.cell? ⟨g7, 1, none⟩ = some (.slice A1 l1.length c1) := (blk_cell BKg7.out 1).trans rfl); (try have hcg7_2 : W_.cell? ⟨g7, 2, none⟩ = some (.int .i64 wg) := (blk_cell BKg7.out 2).trans rfl); (try have hcg11_0 : W_.cell? ⟨g11, 0, none⟩ = some (.int .i64 0) := (blk_cell BKg11.out 0).trans rfl); (try have hcg11_1 : W_.cell? ⟨g11, 1, none⟩ = some (.int .i64 0) := (blk_cell BKg11.out 1).trans rfl)) | ((with_reducible refine gate_store (t := 55) (p := 11) rfl ?_); go_must (refine wpList_store_row rfl 55 _ _ rfl g11 #[.int .i64 lo, .int .i64 hi] rfl rfl 55 (#[.int .i64 0, .int .i64 0]) BKg11.out rfl rfl (by simp [Value.oneCell']) ?_; (try clear hcg3_0 hcg3_1 hcg3_2); (try clear hcg7_0 hcg7_1 hcg7_2); (try clear hcg11_0 hcg11_1); (try clear HT); (try replace BKg3 := Aside0.mk (blk_setRow BKg3.out BKg11.out (by decide) (#[.int .i64 lo, .int .i64 hi]))); (try replace BKg7 := Aside0.mk (blk_setRow BKg7.out BKg11.out (by decide) (#[.int .i64 lo, .int .i64 hi]))); (try replace HX := Aside0.mk (RX.setRow (us := #[.int .i64 lo, .int .i64 hi]) HX.out BKg11.out (by decide))); (try replace HOL := Aside0.mk (row_setRow HOL.out BKg11.out (by decide) (#[.int .i64 lo, .int .i64 hi]))); (try replace HW := Aside0.mk (row_setRow HW.out BKg11.out (by decide) (#[.int .i64 lo, .int .i64 hi]))); (try replace HV := Aside0.mk (row_setRow HV.out BKg11.out (by decide) (#[.int .i64 lo, .int .i64 hi]))); (try replace HN := Aside0.mk (row_setRow HN.out BKg11.out (by decide) (#[.int .i64 lo, .int .i64 hi]))); (try replace HS := Aside0.mk (row_setRow HS.out BKg11.out (by decide) (#[.int .i64 lo, .int .i64 hi]))); (try replace HJ := Aside0.mk (row_setRow HJ.out BKg11.out (by decide) (#[.int .i64 lo, .int .i64 hi]))); (try replace HQ := Aside0.mk (row_setRow HQ.out BKg11.out (by decide) (#[.int .i64 lo, .int .i64 hi]))); (try replace HPO := Aside0.mk (row_setRow HPO.out BKg11.out (by decide) (#[.int .i64 lo, .int .i64 hi]))); (try replace HPA := Aside0.mk (row_setRow HPA.out BKg11.out (by decide) (#[.int .i64 lo, .int .i64 hi]))); replace HB := Aside0.mk (below_setRow HB.out GEg11.out (#[.int .i64 lo, .int .i64 hi])); replace BKg11 := Aside0.mk (setRow_heap W_ g11 _ (#[.int .i64 lo, .int .i64 hi]) _ _ BKg11.out); generalize W_.setRow g11 (#[.int .i64 lo, .int .i64 hi]) = W_ at *; (try have hcg3_0 : W_.cell? ⟨g3, 0, none⟩ = some (.slice A0 l0.length c0) := (blk_cell BKg3.out 0).trans rfl); (try have hcg3_1 : W_.cell? ⟨g3, 1, none⟩ = some (.slice A1 l1.length c1) := (blk_cell BKg3.out 1).trans rfl); (try have hcg3_2 : W_.cell? ⟨g3, 2, none⟩ = some (.int .i64 wg) := (blk_cell BKg3.out 2).trans rfl); (try have hcg7_0 : W_.cell? ⟨g7, 0, none⟩ = some (.slice AX xs.length cX) := (blk_cell BKg7.out 0).trans rfl); (try have hcg7_1 : W_.cell? ⟨g7, 1, none⟩ = some (.slice A1 l1.length c1) := (blk_cell BKg7.out 1).trans rfl); (try have hcg7_2 : W_.cell? ⟨g7, 2, none⟩ = some (.int .i64 wg) := (blk_cell BKg7.out 2).trans rfl); (try have hcg11_0 : W_.cell? ⟨g11, 0, none⟩ = some (.int .i64 lo) := (blk_cell BKg11.out 0).trans rfl); (try have hcg11_1 : W_.cell? ⟨g11, 1, none⟩ = some (.int .i64 hi) := (blk_cell BKg11.out 1).trans rfl))) | (go_at_call 22; go_must (first | ((with_reducible refine (whose_c _ HT.out HEX.out HSW.out).mono ?_); rintro e W_ ⟨v_, rfl, ho, hb⟩; (try clear hcg3_0 hcg3_1 hcg3_2); (try clear hcg7_0 hcg7_1 hcg7_2); (try clear hcg11_0 hcg11_1); (try replace HB := Aside0.mk (below_step HB.out hb)); (try replace HT := Aside0.mk (HT.out.below hb)); (try replace BKg3 := Aside0.mk (blk_below BKg3.out hb)); (try replace BKg7 := Aside0.mk (blk_below BKg7.out hb)); (try replace HX := Aside0.mk (HX.out.below hb)); (try replace HOL := Aside0.mk (Kd.R_below HOL.out hb)); (try replace HW := Aside0.mk (Kd.R_below HW.out hb)); (try replace BKg11 := Aside0.mk (blk_below BKg11.out hb)); (try replace HV := Aside0.mk (Kd.R_below HV.out hb)); (try replace HN := Aside0.mk (Kd.R_below HN.out hb)); (try replace HS := Aside0.mk (Kd.R_below HS.out hb)); (try replace HJ := Aside0.mk (Kd.R_below HJ.out hb)); (try replace HQ := Aside0.mk (Kd.R_below HQ.out hb)); (try replace HPO := Aside0.mk (Kd.R_below HPO.out hb)); (try replace HPA := Aside0.mk (Kd.R_below HPA.out hb)); have HW := Aside0.mk ho; obtain ⟨AHW, cHW, eHW⟩ := Kd.R_slice HW.out; subst eHW; clear ho; clear hb; (try have hcg3_0 : W_.cell? ⟨g3, 0, none⟩ = some (.slice A0 l0.length c0) := (blk_cell BKg3.out 0).trans rfl); (try have hcg3_1 : W_.cell? ⟨g3, 1, none⟩ = some (.slice A1 l1.length c1) := (blk_cell BKg3.out 1).trans rfl); (try have hcg3_2 : W_.cell? ⟨g3, 2, none⟩ = some (.int .i64 wg) := (blk_cell BKg3.out 2).trans rfl); (try have hcg7_0 : W_.cell? ⟨g7, 0, none⟩ = some (.slice AX xs.length cX) := (blk_cell BKg7.out 0).trans rfl); (try have hcg7_1 : W_.cell? ⟨g7, 1, none⟩ = some (.slice A1 l1.length c1) := (blk_cell BKg7.out 1).trans rfl); (try have hcg7_2 : W_.cell? ⟨g7, 2, none⟩ = some (.int .i64 wg) := (blk_cell BKg7.out 2).trans rfl); (try have hcg11_0 : W_.cell? ⟨g11, 0, none⟩ = some (.int .i64 lo) := (blk_cell BKg11.out 0).trans rfl); (try have hcg11_1 : W_.cell? ⟨g11, 1, none⟩ = some (.int .i64 hi) := (blk_cell BKg11.out 1).trans rfl)) | ((with_reducible refine (whose_c _ HT.out HE.out rfl).mono ?_); rintro e W_ ⟨v_, rfl, ho, hb⟩; (try clear hcg3_0 hcg3_1 hcg3_2); (try clear hcg7_0 hcg7_1 hcg7_2); (try clear hcg11_0 hcg11_1); (try replace HB := Aside0.mk (below_step HB.out hb)); (try replace HT := Aside0.mk (HT.out.below hb)); (try replace BKg3 := Aside0.mk (blk_below BKg3.out hb)); (try replace BKg7 := Aside0.mk (blk_below BKg7.out hb)); (try replace HX := Aside0.mk (HX.out.below hb)); (try replace HOL := Aside0.mk (Kd.R_below HOL.out hb)); (try replace HW := Aside0.mk (Kd.R_below HW.out hb)); (try replace BKg11 := Aside0.mk (blk_below BKg11.out hb)); (try replace HV := Aside0.mk (Kd.R_below HV.out hb)); (try replace HN := Aside0.mk (Kd.R_below HN.out hb)); (try replace HS := Aside0.mk (Kd.R_below HS.out hb)); (try replace HJ := Aside0.mk (Kd.R_below HJ.out hb)); (try replace HQ := Aside0.mk (Kd.R_below HQ.out hb)); (try replace HPO := Aside0.mk (Kd.R_below HPO.out hb)); (try replace HPA := Aside0.mk (Kd.R_below HPA.out hb)); have HJ := Aside0.mk ho; obtain ⟨AHJ, cHJ, eHJ⟩ := Kd.R_slice HJ.out; subst eHJ; clear ho; clear hb; (try have hcg3_0 : W_.cell? ⟨g3, 0, none⟩ = some (.slice A0 l0.length c0) := (blk_cell BKg3.out 0).trans rfl); (try have hcg3_1 : W_.cell? ⟨g3, 1, none⟩ = some (.slice A1 l1.length c1) := (blk_cell BKg3.out 1).trans rfl); (try have hcg3_2 : W_.cell? ⟨g3, 2, none⟩ = some (.int .i64 wg) := (blk_cell BKg3.out 2).trans rfl); (try have hcg7_0 : W_.cell? ⟨g7, 0, none⟩ = some (.slice AX xs.length cX) := (blk_cell BKg7.out 0).trans rfl); (try have hcg7_1 : W_.cell? ⟨g7, 1, none⟩ = some (.slice A1 l1.length c1) := (blk_cell BKg7.out 1).trans rfl); (try have hcg7_2 : W_.cell? ⟨g7, 2, none⟩ = some (.int .i64 wg) := (blk_cell BKg7.out 2).trans rfl); (try have hcg11_0 : W_.cell? ⟨g11, 0, none⟩ = some (.int .i64 lo) := (blk_cell BKg11.out 0).trans rfl); (try have hcg11_1 : W_.cell? ⟨g11, 1, none⟩ = some (.int .i64 hi) := (blk_cell BKg11.out 1).trans rfl)) | ((with_reducible refine (whose_n _ HT.out HE.out).mono ?_); rintro e W_ ⟨rfl, hb⟩; (try clear hcg3_0 hcg3_1 hcg3_2); (try clear hcg7_0 hcg7_1 hcg7_2); (try clear hcg11_0 hcg11_1); (try replace HB := Aside0.mk (below_step HB.out hb)); (try replace HT := Aside0.mk (HT.out.below hb)); (try replace BKg3 := Aside0.mk (blk_below BKg3.out hb)); (try replace BKg7 := Aside0.mk (blk_below BKg7.out hb)); (try replace HX := Aside0.mk (HX.out.below hb)); (try replace HOL := Aside0.mk (Kd.R_below HOL.out hb)); (try replace HW := Aside0.mk (Kd.R_below HW.out hb)); (try replace BKg11 := Aside0.mk (blk_below BKg11.out hb)); (try replace HV := Aside0.mk (Kd.R_below HV.out hb)); (try replace HN := Aside0.mk (Kd.R_below HN.out hb)); (try replace HS := Aside0.mk (Kd.R_below HS.out hb)); (try replace HJ := Aside0.mk (Kd.R_below HJ.out hb)); (try replace HQ := Aside0.mk (Kd.R_below HQ.out hb)); (try replace HPO := Aside0.mk (Kd.R_below HPO.out hb)); (try replace HPA := Aside0.mk (Kd.R_below HPA.out hb)); skip; clear hb; (try have hcg3_0 : W_.cell? ⟨g3, 0, none⟩ = some (.slice A0 l0.length c0) := (blk_cell BKg3.out 0).trans rfl); (try have hcg3_1 : W_.cell? ⟨g3, 1, none⟩ = some (.slice A1 l1.length c1) := (blk_cell BKg3.out 1).trans rfl); (try have hcg3_2 : W_.cell? ⟨g3, 2, none⟩ = some (.int .i64 wg) := (blk_cell BKg3.out 2).trans rfl); (try have hcg7_0 : W_.cell? ⟨g7, 0, none⟩ = some (.slice AX xs.length cX) := (blk_cell BKg7.out 0).trans rfl); (try have hcg7_1 : W_.cell? ⟨g7, 1, none⟩ = some (.slice A1 l1.length c1) := (blk_cell BKg7.out 1).trans rfl); (try have hcg7_2 : W_.cell? ⟨g7, 2, none⟩ = some (.int .i64 wg) := (blk_cell BKg7.out 2).trans rfl); (try have hcg11_0 : W_.cell? ⟨g11, 0, none⟩ = some (.int .i64 lo) := (blk_cell BKg11.out 0).trans rfl); (try have hcg11_1 : W_.cell? ⟨g11, 1, none⟩ = some (.int .i64 hi) := (blk_cell BKg11.out 1).trans rfl)))) | (go_at_call 37; go_must (refine (ast_c _ HT.out HEX.out HSD.out).mono ?_; rintro e W_ ⟨rfl, hb⟩; (try clear hcg3_0 hcg3_1 hcg3_2); (try clear hcg7_0 hcg7_1 hcg7_2); (try clear hcg11_0 hcg11_1); (try replace HB := Aside0.mk (below_step HB.out hb)); (try replace HT := Aside0.mk (HT.out.below hb)); (try replace BKg3 := Aside0.mk (blk_below BKg3.out hb)); (try replace BKg7 := Aside0.mk (blk_below BKg7.out hb)); (try replace HX := Aside0.mk (HX.out.below hb)); (try replace HOL := Aside0.mk (Kd.R_below HOL.out hb)); (try replace HW := Aside0.mk (Kd.R_below HW.out hb)); (try replace BKg11 := Aside0.mk (blk_below BKg11.out hb)); (try replace HV := Aside0.mk (Kd.R_below HV.out hb)); (try replace HN := Aside0.mk (Kd.R_below HN.out hb)); (try replace HS := Aside0.mk (Kd.R_below HS.out hb)); (try replace HJ := Aside0.mk (Kd.R_below HJ.out hb)); (try replace HQ := Aside0.mk (Kd.R_below HQ.out hb)); (try replace HPO := Aside0.mk (Kd.R_below HPO.out hb)); (try replace HPA := Aside0.mk (Kd.R_below HPA.out hb)); skip; clear hb; (try have hcg3_0 : W_.cell? ⟨g3, 0, none⟩ = some (.slice A0 l0.length c0) := (blk_cell BKg3.out 0).trans rfl); (try have hcg3_1 : W_.cell? ⟨g3, 1, none⟩ = some (.slice A1 l1.length c1) := (blk_cell BKg3.out 1).trans rfl); (try have hcg3_2 : W_.cell? ⟨g3, 2, none⟩ = some (.int .i64 wg) := (blk_cell BKg3.out 2).trans rfl); (try have hcg7_0 : W_.cell? ⟨g7, 0, none⟩ = some (.slice AX xs.length cX) := (blk_cell BKg7.out 0).trans rfl); (try have hcg7_1 : W_.cell? ⟨g7, 1, none⟩ = some (.slice A1 l1.length c1) := (blk_cell BKg7.out 1).trans rfl); (try have hcg7_2 : W_.cell? ⟨g7, 2, none⟩ = some (.int .i64 wg) := (blk_cell BKg7.out 2).trans rfl); (try have hcg11_0 : W_.cell? ⟨g11, 0, none⟩ = some (.int .i64 lo) := (blk_cell BKg11.out 0).trans rfl); (try have hcg11_1 : W_.cell? ⟨g11, 1, none⟩ = some (.int .i64 hi) := (blk_cell BKg11.out 1).trans rfl))) | (go_at_call 27; go_must (refine (miss_c _ HT.out HEX.out HSV.out).mono ?_; rintro e W_ ⟨v_, rfl, ho, hb⟩; (try clear hcg3_0 hcg3_1 hcg3_2); (try clear hcg7_0 hcg7_1 hcg7_2); (try clear hcg11_0 hcg11_1); (try replace HB := Aside0.mk (below_step HB.out hb)); (try replace HT := Aside0.mk (HT.out.below hb)); (try replace BKg3 := Aside0.mk (blk_below BKg3.out hb)); (try replace BKg7 := Aside0.mk (blk_below BKg7.out hb)); (try replace HX := Aside0.mk (HX.out.below hb)); (try replace HOL := Aside0.mk (Kd.R_below HOL.out hb)); (try replace HW := Aside0.mk (Kd.R_below HW.out hb)); (try replace BKg11 := Aside0.mk (blk_below BKg11.out hb)); (try replace HV := Aside0.mk (Kd.R_below HV.out hb)); (try replace HN := Aside0.mk (Kd.R_below HN.out hb)); (try replace HS := Aside0.mk (Kd.R_below HS.out hb)); (try replace HJ := Aside0.mk (Kd.R_below HJ.out hb)); (try replace HQ := Aside0.mk (Kd.R_below HQ.out hb)); (try replace HPO := Aside0.mk (Kd.R_below HPO.out hb)); (try replace HPA := Aside0.mk (Kd.R_below HPA.out hb)); have HV := Aside0.mk ho; obtain ⟨AHV, cHV, eHV⟩ := Kd.R_slice HV.out; subst eHV; clear ho; clear hb; (try have hcg3_0 : W_.cell? ⟨g3, 0, none⟩ = some (.slice A0 l0.length c0) := (blk_cell BKg3.out 0).trans rfl); (try have hcg3_1 : W_.cell? ⟨g3, 1, none⟩ = some (.slice A1 l1.length c1) := (blk_cell BKg3.out 1).trans rfl); (try have hcg3_2 : W_.cell? ⟨g3, 2, none⟩ = some (.int .i64 wg) := (blk_cell BKg3.out 2).trans rfl); (try have hcg7_0 : W_.cell? ⟨g7, 0, none⟩ = some (.slice AX xs.length cX) := (blk_cell BKg7.out 0).trans rfl); (try have hcg7_1 : W_.cell? ⟨g7, 1, none⟩ = some (.slice A1 l1.length c1) := (blk_cell BKg7.out 1).trans rfl); (try have hcg7_2 : W_.cell? ⟨g7, 2, none⟩ = some (.int .i64 wg) := (blk_cell BKg7.out 2).trans rfl); (try have hcg11_0 : W_.cell? ⟨g11, 0, none⟩ = some (.int .i64 lo) := (blk_cell BKg11.out 0).trans rfl); (try have hcg11_1 : W_.cell? ⟨g11, 1, none⟩ = some (.int .i64 hi) := (blk_cell BKg11.out 1).trans rfl))) | (go_at_call 32; go_must (first | ((with_reducible refine (leave_c _ HT.out HCX.out HSN.out).mono ?_); rintro e W_ ⟨v_, rfl, ho, hb⟩; (try clear hcg3_0 hcg3_1 hcg3_2); (try clear hcg7_0 hcg7_1 hcg7_2); (try clear hcg11_0 hcg11_1); (try replace HB := Aside0.mk (below_step HB.out hb)); (try replace HT := Aside0.mk (HT.out.below hb)); (try replace BKg3 := Aside0.mk (blk_below BKg3.out hb)); (try replace BKg7 := Aside0.mk (blk_below BKg7.out hb)); (try replace HX := Aside0.mk (HX.out.below hb)); (try replace HOL := Aside0.mk (Kd.R_below HOL.out hb)); (try replace HW := Aside0.mk (Kd.R_below HW.out hb)); (try replace BKg11 := Aside0.mk (blk_below BKg11.out hb)); (try replace HV := Aside0.mk (Kd.R_below HV.out hb)); (try replace HN := Aside0.mk (Kd.R_below HN.out hb)); (try replace HS := Aside0.mk (Kd.R_below HS.out hb)); (try replace HJ := Aside0.mk (Kd.R_below HJ.out hb)); (try replace HQ := Aside0.mk (Kd.R_below HQ.out hb)); (try replace HPO := Aside0.mk (Kd.R_below HPO.out hb)); (try replace HPA := Aside0.mk (Kd.R_below HPA.out hb)); have HN := Aside0.mk ho; obtain ⟨AHN, cHN, eHN⟩ := Kd.R_slice HN.out; subst eHN; clear ho; clear hb; (try have hcg3_0 : W_.cell? ⟨g3, 0, none⟩ = some (.slice A0 l0.length c0) := (blk_cell BKg3.out 0).trans rfl); (try have hcg3_1 : W_.cell? ⟨g3, 1, none⟩ = some (.slice A1 l1.length c1) := (blk_cell BKg3.out 1).trans rfl); (try have hcg3_2 : W_.cell? ⟨g3, 2, none⟩ = some (.int .i64 wg) := (blk_cell BKg3.out 2).trans rfl); (try have hcg7_0 : W_.cell? ⟨g7, 0, none⟩ = some (.slice AX xs.length cX) := (blk_cell BKg7.out 0).trans rfl); (try have hcg7_1 : W_.cell? ⟨g7, 1, none⟩ = some (.slice A1 l1.length c1) := (blk_cell BKg7.out 1).trans rfl); (try have hcg7_2 : W_.cell? ⟨g7, 2, none⟩ = some (.int .i64 wg) := (blk_cell BKg7.out 2).trans rfl); (try have hcg11_0 : W_.cell? ⟨g11, 0, none⟩ = some (.int .i64 lo) := (blk_cell BKg11.out 0).trans rfl); (try have hcg11_1 : W_.cell? ⟨g11, 1, none⟩ = some (.int .i64 hi) := (blk_cell BKg11.out 1).trans rfl)) | ((with_reducible refine (leave_c _ HT.out HCK.out HSS.out).mono ?_); rintro e W_ ⟨v_, rfl, ho, hb⟩; (try clear hcg3_0 hcg3_1 hcg3_2); (try clear hcg7_0 hcg7_1 hcg7_2); (try clear hcg11_0 hcg11_1); (try replace HB := Aside0.mk (below_step HB.out hb)); (try replace HT := Aside0.mk (HT.out.below hb)); (try replace BKg3 := Aside0.mk (blk_below BKg3.out hb)); (try replace BKg7 := Aside0.mk (blk_below BKg7.out hb)); (try replace HX := Aside0.mk (HX.out.below hb)); (try replace HOL := Aside0.mk (Kd.R_below HOL.out hb)); (try replace HW := Aside0.mk (Kd.R_below HW.out hb)); (try replace BKg11 := Aside0.mk (blk_below BKg11.out hb)); (try replace HV := Aside0.mk (Kd.R_below HV.out hb)); (try replace HN := Aside0.mk (Kd.R_below HN.out hb)); (try replace HS := Aside0.mk (Kd.R_below HS.out hb)); (try replace HJ := Aside0.mk (Kd.R_below HJ.out hb)); (try replace HQ := Aside0.mk (Kd.R_below HQ.out hb)); (try replace HPO := Aside0.mk (Kd.R_below HPO.out hb)); (try replace HPA := Aside0.mk (Kd.R_below HPA.out hb)); have HS := Aside0.mk ho; obtain ⟨AHS, cHS, eHS⟩ := Kd.R_slice HS.out; subst eHS; clear ho; clear hb; (try have hcg3_0 : W_.cell? ⟨g3, 0, none⟩ = some (.slice A0 l0.length c0) := (blk_cell BKg3.out 0).trans rfl); (try have hcg3_1 : W_.cell? ⟨g3, 1, none⟩ = some (.slice A1 l1.length c1) := (blk_cell BKg3.out 1).trans rfl); (try have hcg3_2 : W_.cell? ⟨g3, 2, none⟩ = some (.int .i64 wg) := (blk_cell BKg3.out 2).trans rfl); (try have hcg7_0 : W_.cell? ⟨g7, 0, none⟩ = some (.slice AX xs.length cX) := (blk_cell BKg7.out 0).trans rfl); (try have hcg7_1 : W_.cell? ⟨g7, 1, none⟩ = some (.slice A1 l1.length c1) := (blk_cell BKg7.out 1).trans rfl); (try have hcg7_2 : W_.cell? ⟨g7, 2, none⟩ = some (.int .i64 wg) := (blk_cell BKg7.out 2).trans rfl); (try have hcg11_0 : W_.cell? ⟨g11, 0, none⟩ = some (.int .i64 lo) := (blk_cell BKg11.out 0).trans rfl); (try have hcg11_1 : W_.cell? ⟨g11, 1, none⟩ = some (.int .i64 hi) := (blk_cell BKg11.out 1).trans rfl)))) | (go_at_call 41; go_must (refine (list_c (Kd.R_reads' HOL.out).2.2 HLL.out).mono ?_; rintro e W_ ⟨AQ, cQ, rfl, ho, hb⟩; (try clear hcg3_0 hcg3_1 hcg3_2); (try clear hcg7_0 hcg7_1 hcg7_2); (try clear hcg11_0 hcg11_1); (try replace HB := Aside0.mk (below_step HB.out hb)); (try replace HT := Aside0.mk (HT.out.below hb)); (try replace BKg3 := Aside0.mk (blk_below BKg3.out hb)); (try replace BKg7 := Aside0.mk (blk_below BKg7.out hb)); (try replace HX := Aside0.mk (HX.out.below hb)); (try replace HOL := Aside0.mk (Kd.R_below HOL.out hb)); (try replace HW := Aside0.mk (Kd.R_below HW.out hb)); (try replace BKg11 := Aside0.mk (blk_below BKg11.out hb)); (try replace HV := Aside0.mk (Kd.R_below HV.out hb)); (try replace HN := Aside0.mk (Kd.R_below HN.out hb)); (try replace HS := Aside0.mk (Kd.R_below HS.out hb)); (try replace HJ := Aside0.mk (Kd.R_below HJ.out hb)); (try replace HQ := Aside0.mk (Kd.R_below HQ.out hb)); (try replace HPO := Aside0.mk (Kd.R_below HPO.out hb)); (try replace HPA := Aside0.mk (Kd.R_below HPA.out hb)); (try clear HQ); have HQ := Aside0.mk ho; clear ho; clear hb; (try have hcg3_0 : W_.cell? ⟨g3, 0, none⟩ = some (.slice A0 l0.length c0) := (blk_cell BKg3.out 0).trans rfl); (try have hcg3_1 : W_.cell? ⟨g3, 1, none⟩ = some (.slice A1 l1.length c1) := (blk_cell BKg3.out 1).trans rfl); (try have hcg3_2 : W_.cell? ⟨g3, 2, none⟩ = some (.int .i64 wg) := (blk_cell BKg3.out 2).trans rfl); (try have hcg7_0 : W_.cell? ⟨g7, 0, none⟩ = some (.slice AX xs.length cX) := (blk_cell BKg7.out 0).trans rfl); (try have hcg7_1 : W_.cell? ⟨g7, 1, none⟩ = some (.slice A1 l1.length c1) := (blk_cell BKg7.out 1).trans rfl); (try have hcg7_2 : W_.cell? ⟨g7, 2, none⟩ = some (.int .i64 wg) := (blk_cell BKg7.out 2).trans rfl); (try have hcg11_0 : W_.cell? ⟨g11, 0, none⟩ = some (.int .i64 lo) := (blk_cell BKg11.out 0).trans rfl); (try have hcg11_1 : W_.cell? ⟨g11, 1, none⟩ = some (.int .i64 hi) := (blk_cell BKg11.out 1).trans rfl))) | (go_at_call 50; go_must (refine (play_c _ HT.out HQ.out HLL.out HCX.out HAB.out rfl HSA.out).mono ?_; rintro e W_ ⟨v1, v2, rfl, ho1, ho2, hb⟩; (try clear hcg3_0 hcg3_1 hcg3_2); (try clear hcg7_0 hcg7_1 hcg7_2); (try clear hcg11_0 hcg11_1); (try replace HB := Aside0.mk (below_step HB.out hb)); (try replace HT := Aside0.mk (HT.out.below hb)); (try replace BKg3 := Aside0.mk (blk_below BKg3.out hb)); (try replace BKg7 := Aside0.mk (blk_below BKg7.out hb)); (try replace HX := Aside0.mk (HX.out.below hb)); (try replace HOL := Aside0.mk (Kd.R_below HOL.out hb)); (try replace HW := Aside0.mk (Kd.R_below HW.out hb)); (try replace BKg11 := Aside0.mk (blk_below BKg11.out hb)); (try replace HV := Aside0.mk (Kd.R_below HV.out hb)); (try replace HN := Aside0.mk (Kd.R_below HN.out hb)); (try replace HS := Aside0.mk (Kd.R_below HS.out hb)); (try replace HJ := Aside0.mk (Kd.R_below HJ.out hb)); (try replace HQ := Aside0.mk (Kd.R_below HQ.out hb)); (try replace HPO := Aside0.mk (Kd.R_below HPO.out hb)); (try replace HPA := Aside0.mk (Kd.R_below HPA.out hb)); have HPO := Aside0.mk ho1; obtain ⟨AHPO, cHPO, eHPO⟩ := Kd.R_slice HPO.out; subst eHPO; clear ho1; have HPA := Aside0.mk ho2; obtain ⟨AHPA, cHPA, eHPA⟩ := Kd.R_slice HPA.out; subst eHPA; clear ho2; clear hb; (try have hcg3_0 : W_.cell? ⟨g3, 0, none⟩ = some (.slice A0 l0.length c0) := (blk_cell BKg3.out 0).trans rfl); (try have hcg3_1 : W_.cell? ⟨g3, 1, none⟩ = some (.slice A1 l1.length c1) := (blk_cell BKg3.out 1).trans rfl); (try have hcg3_2 : W_.cell? ⟨g3, 2, none⟩ = some (.int .i64 wg) := (blk_cell BKg3.out 2).trans rfl); (try have hcg7_0 : W_.cell? ⟨g7, 0, none⟩ = some (.slice AX xs.length cX) := (blk_cell BKg7.out 0).trans rfl); (try have hcg7_1 : W_.cell? ⟨g7, 1, none⟩ = some (.slice A1 l1.length c1) := (blk_cell BKg7.out 1).trans rfl); (try have hcg7_2 : W_.cell? ⟨g7, 2, none⟩ = some (.int .i64 wg) := (blk_cell BKg7.out 2).trans rfl); (try have hcg11_0 : W_.cell? ⟨g11, 0, none⟩ = some (.int .i64 lo) := (blk_cell BKg11.out 0).trans rfl); (try have hcg11_1 : W_.cell? ⟨g11, 1, none⟩ = some (.int .i64 hi) := (blk_cell BKg11.out 1).trans rfl))) | (go_at_call 60; go_must (refine (prove_c _ HT.out HQ.out HLL.out HPR.out).mono ?_; rintro e W_ ⟨rfl, hb⟩; (try clear hcg3_0 hcg3_1 hcg3_2); (try clear hcg7_0 hcg7_1 hcg7_2); (try clear hcg11_0 hcg11_1); (try replace HB := Aside0.mk (below_step HB.out hb)); (try replace HT := Aside0.mk (HT.out.below hb)); (try replace BKg3 := Aside0.mk (blk_below BKg3.out hb)); (try replace BKg7 := Aside0.mk (blk_below BKg7.out hb)); (try replace HX := Aside0.mk (HX.out.below hb)); (try replace HOL := Aside0.mk (Kd.R_below HOL.out hb)); (try replace HW := Aside0.mk (Kd.R_below HW.out hb)); (try replace BKg11 := Aside0.mk (blk_below BKg11.out hb)); (try replace HV := Aside0.mk (Kd.R_below HV.out hb)); (try replace HN := Aside0.mk (Kd.R_below HN.out hb)); (try replace HS := Aside0.mk (Kd.R_below HS.out hb)); (try replace HJ := Aside0.mk (Kd.R_below HJ.out hb)); (try replace HQ := Aside0.mk (Kd.R_below HQ.out hb)); (try replace HPO := Aside0.mk (Kd.R_below HPO.out hb)); (try replace HPA := Aside0.mk (Kd.R_below HPA.out hb)); skip; clear hb; (try have hcg3_0 : W_.cell? ⟨g3, 0, none⟩ = some (.slice A0 l0.length c0) := (blk_cell BKg3.out 0).trans rfl); (try have hcg3_1 : W_.cell? ⟨g3, 1, none⟩ = some (.slice A1 l1.length c1) := (blk_cell BKg3.out 1).trans rfl); (try have hcg3_2 : W_.cell? ⟨g3, 2, none⟩ = some (.int .i64 wg) := (blk_cell BKg3.out 2).trans rfl); (try have hcg7_0 : W_.cell? ⟨g7, 0, none⟩ = some (.slice AX xs.length cX) := (blk_cell BKg7.out 0).trans rfl); (try have hcg7_1 : W_.cell? ⟨g7, 1, none⟩ = some (.slice A1 l1.length c1) := (blk_cell BKg7.out 1).trans rfl); (try have hcg7_2 : W_.cell? ⟨g7, 2, none⟩ = some (.int .i64 wg) := (blk_cell BKg7.out 2).trans rfl); (try have hcg11_0 : W_.cell? ⟨g11, 0, none⟩ = some (.int .i64 lo) := (blk_cell BKg11.out 0).trans rfl); (try have hcg11_1 : W_.cell? ⟨g11, 1, none⟩ = some (.int .i64 hi) := (blk_cell BKg11.out 1).trans rfl)))))
  all_goals (
    obtain ⟨W1, hW1⟩ : ∃ W1 : World, W1 = W_ := ⟨_, rfl⟩
    subst hW1
    (try clear hcg3_0 hcg3_1 hcg3_2); (try clear hcg7_0 hcg7_1 hcg7_2); (try clear hcg11_0 hcg11_1)
    go_loopg [24] ws.length (fun kq v24 w' => ∃ m : Nat, v24 = .int .i64 (m : Int) ∧ Aside0 (m + kq = ws.length) ∧ Aside0 (Below W1.heap.size W1 w'))
    case atStart => exact ⟨0, rfl, ⟨Nat.zero_add _⟩, ⟨Below.refl _ _⟩⟩
    case round =>
      obtain ⟨m, rfl, HM, HB1⟩ := hrel
      by_cases hlt : m < ws.length
      · cases gk with
        | zero => have := HM.out; omega
        | succ k1 =>
        have hwm := wrap_succ m _ hlt (by have := HLW.out; have := HLL.out; omega)
        have hml : m < ol.length := by have := HLW.out; omega
        obtain ⟨adw, Ax, cx, ew, hcw0, lx, cx_⟩ := at_LL (Kd.C_below (Kd.R_reads' HW.out).2.2 HB1.out) m (by omega)
        subst ew
        have LX := Aside0.mk lx
        have CX := Aside0.mk cx_
        have HHS := Aside0.mk (HHSA.out m hlt)
        obtain ⟨ado, eo, hco0⟩ := Kd.at_int (Kd.C_below (Kd.R_reads' HOL.out).2.2 HB1.out) (m : Int) (by omega) (by omega)
        subst eo
        simp only [Int.toNat_natCast] at hco0
        generalize ws.getD m [] = x at *
        generalize rd ol (m : Int) = y at *
        have hml2 : (m : Int) < ol.length := by omega
        clear lx cx_
        go_wp2
        refine start_ (n := 10) (S := fun w' => w'.cell? (adw.add m) = some (.slice Ax x.length cx) ∧ w'.cell? (ado.add m) = some (.int .i64 y)) (ds := []) #[false, false, false, false, false, false, false, false, false, false] (by kernel_rfl) rfl rfl ⟨hcw0, hco0⟩ (fun hHeld => ?_)
        have hb := below_drew1 (Below.refl wr.heap.size wr)
        have n0_ := Aside0.mk (below_step HB1.out hb)
        have n1_ := Aside0.mk (Kd.C_below CX.out hb)
        clear HB1
        clear CX
        have HB1 := n0_
        have CX := n1_
        clear n0_ n1_
        replace hcw0 := (hb.cell (World.block_lt_of_cell? _ _ hcw0)).trans hcw0
        replace hco0 := (hb.cell (World.block_lt_of_cell? _ _ hco0)).trans hco0
        generalize wr.drew = W7 at *
        clear hb
        refine pure_ (i := 0) (N := some 163) (v := ?_) (a' := ?_) #[true, false, false, false, false, false, false, false, false, false] rfl rfl (by kernel_rfl) (fun _ _ _ h => h) (Or.inl ⟨by rfl, ?_⟩) ?_ ?_
        rotate_left
        · intro w'
          go_simp
          with_reducible rfl
        rotate_left
        · simp only [Act.put, List.setIfInBounds_toArray, List.set_cons_zero, List.set_cons_succ, i64_w, i32_w]
          rfl
        refine pure_ (i := 1) (N := some 164) (v := ?_) (a' := ?_) #[true, true, false, false, false, false, false, false, false, false] rfl rfl (by kernel_rfl) (fun _ _ _ h => h) (Or.inl ⟨by rfl, ?_⟩) ?_ ?_
        rotate_left
        · intro w'
          go_simp
          with_reducible rfl
        rotate_left
        · simp only [Act.put, List.setIfInBounds_toArray, List.set_cons_zero, List.set_cons_succ, i64_w, i32_w]
          rfl
        refine pure_ (i := 2) (N := some 165) (v := ?_) (a' := ?_) #[true, true, true, false, false, false, false, false, false, false] rfl rfl (by kernel_rfl) (fun _ _ _ h => h) (Or.inl ⟨by rfl, ?_⟩) ?_ ?_
        rotate_left
        · intro w'
          go_simp
          with_reducible rfl
        rotate_left
        · simp only [Act.put, List.setIfInBounds_toArray, List.set_cons_zero, List.set_cons_succ, i64_w, i32_w]
          rfl
        refine pure_ (i := 4) (N := some 167) (v := ?_) (a' := ?_) #[true, true, true, false, true, false, false, false, false, false] rfl rfl (by kernel_rfl) (fun _ _ _ h => h) (Or.inl ⟨by rfl, ?_⟩) ?_ ?_
        rotate_left
        · intro w'
          go_simp
          with_reducible rfl
        rotate_left
        · simp only [Act.put, List.setIfInBounds_toArray, List.set_cons_zero, List.set_cons_succ, i64_w, i32_w]
          rfl
        refine pure_ (i := 5) (N := some 168) (v := ?_) (a' := ?_) #[true, true, true, false, true, true, false, false, false, false] rfl rfl (by kernel_rfl) (fun _ _ _ h => h) (Or.inl ⟨by rfl, ?_⟩) ?_ ?_
        rotate_left
        · intro w'
          go_simp
          with_reducible rfl
        rotate_left
        · simp only [Act.put, List.setIfInBounds_toArray, List.set_cons_zero, List.set_cons_succ, i64_w, i32_w]
          rfl
        refine pure_ (i := 6) (N := some 169) (v := ?_) (a' := ?_) #[true, true, true, false, true, true, true, false, false, false] rfl rfl (by kernel_rfl) (fun _ _ _ h => h) (Or.inl ⟨by rfl, ?_⟩) ?_ ?_
        rotate_left
        · intro w'
          go_simp
          with_reducible rfl
        rotate_left
        · simp only [Act.put, List.setIfInBounds_toArray, List.set_cons_zero, List.set_cons_succ, i64_w, i32_w]
          rfl
        refine take_ (i := 3) (N := some 166) (v := ?_) (a' := ?_) #[true, true, true, true, true, true, true, false, false, false] rfl rfl (by kernel_rfl) (fun _ _ _ h => h) (Or.inl ⟨by rfl, ?_⟩) hHeld ?_ ?_
        rotate_left
        · rintro w' ⟨s0, s1⟩
          go_simp
          with_reducible rfl
        rotate_left
        · simp only [Act.put, List.setIfInBounds_toArray, List.set_cons_zero, List.set_cons_succ, i64_w, i32_w]
          rfl
        refine take_ (i := 7) (N := some 170) (v := ?_) (a' := ?_) #[true, true, true, true, true, true, true, true, false, false] rfl rfl (by kernel_rfl) (fun _ _ _ h => h) (Or.inl ⟨by rfl, ?_⟩) hHeld ?_ ?_
        rotate_left
        · rintro w' ⟨s0, s1⟩
          go_simp
          with_reducible rfl
        rotate_left
        · simp only [Act.put, List.setIfInBounds_toArray, List.set_cons_zero, List.set_cons_succ, i64_w, i32_w]
          rfl
        refine one_ (i := 8) (N := some 171) #[true, true, true, true, true, true, true, true, true, false] rfl rfl (by kernel_rfl) (by decide) (fun K hK => ?_)
        refine goes_ Try.func56 (by kernel_rfl) rfl #[.slice Ax x.length cx, .int .i64 y] (by rfl) rfl rfl (by simp only [List.map_toArray, List.map_cons, List.map_nil]; rfl) ?_
        with_reducible refine (posserref03_Has.calls k Ax cx x y true _ CX.out LX.out HHS.out).mono ?_
        rintro e Wx ⟨rfl, ⟨nd, rfl⟩⟩
        have hb := pw_below_drewN (Below.refl W7.heap.size W7) nd
        replace hcw0 := (hb.cell (World.block_lt_of_cell? _ _ hcw0)).trans hcw0
        replace hco0 := (hb.cell (World.block_lt_of_cell? _ _ hco0)).trans hco0
        have n0_ := Aside0.mk (below_step HB1.out hb)
        have n1_ := Aside0.mk (Kd.C_below CX.out hb)
        clear HB1
        clear CX
        have HB1 := n0_
        have CX := n1_
        clear n0_ n1_
        clear hb
        generalize W7.drewN nd = W8 at *
        refine ⟨_, rfl, ?_⟩
        refine hK.out _ _ ⟨hcw0, hco0⟩ (fun hHeld => ?_)
        clear hK K
        refine norm_ (a' := ?_) ?_ ?_
        rotate_left
        · show Act.put _ (some 171) _ = _
          simp only [Act.put, List.setIfInBounds_toArray, List.set_cons_zero, List.set_cons_succ, i64_w, i32_w]
          rfl
        refine pure_ (i := 9) (N := some 172) (v := ?_) (a' := ?_) #[true, true, true, true, true, true, true, true, true, true] rfl rfl (by kernel_rfl) (fun _ _ _ h => h) (Or.inl ⟨by rfl, ?_⟩) ?_ ?_
        rotate_left
        · intro w'
          go_simp
          with_reducible rfl
        rotate_left
        · simp only [Act.put, List.setIfInBounds_toArray, List.set_cons_zero, List.set_cons_succ, i64_w, i32_w]
          rfl
        refine done_ (by kernel_rfl) ?_
        go_wp2
        go_roundg k1
        case measure => omega
        case rel => exact ⟨m + 1, by go_num, ⟨by have := HM.out; omega⟩, HB1⟩
      · go_wp2
        clear HM hlt
        have HB9 := HB1
        clear HB1
        go_loopg [25] vs.length (fun kq v25 w' => ∃ m : Nat, v25 = .int .i64 (m : Int) ∧ Aside0 (m + kq = vs.length) ∧ Aside0 (Below W1.heap.size W1 w'))
        case atStart => exact ⟨0, rfl, ⟨Nat.zero_add _⟩, HB9⟩
        case round =>
          obtain ⟨m, rfl, HM, HB1⟩ := hrel
          by_cases hlt : m < vs.length
          · cases gk with
            | zero => have := HM.out; omega
            | succ k1 =>
            have hwm := wrap_succ m _ hlt (by have := HLV.out; have := HRT.out.n0; omega)
            obtain ⟨adv, ev, hcv0⟩ := Kd.at_int (Kd.C_below (Kd.R_reads' HV.out).2.2 HB1.out) (m : Int) (by omega) (by omega)
            subst ev
            simp only [Int.toNat_natCast] at hcv0
            obtain ⟨bb, hdm, hcs⟩ := HDMA.out m hlt
            have HDM := Aside0.mk hdm
            generalize rd vs (m : Int) = y at *
            have hcg7_0 : wr.cell? ⟨g7, 0, none⟩ = some (.slice AX xs.length cX) := (blk_cell (blk_below BKg7.out HB1.out) 0).trans rfl
            have hcg7_1 : wr.cell? ⟨g7, 1, none⟩ = some (.slice A1 l1.length c1) := (blk_cell (blk_below BKg7.out HB1.out) 1).trans rfl
            have hcg7_2 : wr.cell? ⟨g7, 2, none⟩ = some (.int .i64 wg) := (blk_cell (blk_below BKg7.out HB1.out) 2).trans rfl
            clear hdm
            have HIN := Aside0.mk (in13 (y := y) (by rcases hcs with ⟨h, _⟩ | ⟨h, _⟩ | h; exact .inl h; exact .inr (.inl h); exact .inr (.inr h)))
            rcases hcs with ⟨rfl, rfl⟩ | ⟨rfl, rfl⟩ | rfl
            all_goals (go_wp2_with (first | (go_at_call 65; go_must (refine (posserref03_DoesMiss.calls k AX cX xs A1 c1 l1 wg AO cO ol (m : Int) _ _ (rtabW HRT.out (below_step HB.out HB1.out) (HX.out.below HB1.out) HX30.out).r0 (rtabW HRT.out (below_step HB.out HB1.out) (HX.out.below HB1.out) HX30.out).h0 (HRT.out.below (below_step HB.out HB1.out)).r1 HC1.out (Kd.C_below (Kd.R_reads' HOL.out).2.2 HB1.out) (Kd.R_reads' HOL.out).2.1 HDM.out).mono ?_; rintro e W_ ⟨rfl, hb⟩; replace HB1 := Aside0.mk (below_step HB1.out hb); replace hcv0 := (hb.cell (World.block_lt_of_cell? _ _ hcv0)).trans hcv0; clear hb)) | (go_at_call 49; go_must (refine (posserref03_In.calls _ 1 3 true _ HIN.out).mono ?_; rintro e Wq ⟨rfl, ⟨nd, rfl⟩⟩; have hb := pw_below_drewN (Below.refl W_.heap.size W_) nd; replace HB1 := Aside0.mk (below_step HB1.out hb); replace hcv0 := (hb.cell (World.block_lt_of_cell? _ _ hcv0)).trans hcv0; clear hb; generalize W_.drewN nd = W_ at *))))
            all_goals (go_roundg k1)
            case measure => omega
            case rel => exact ⟨m + 1, by go_num, ⟨by have := HM.out; omega⟩, HB1⟩
            case measure => omega
            case rel => exact ⟨m + 1, by go_num, ⟨by have := HM.out; omega⟩, HB1⟩
            case measure => omega
            case rel => exact ⟨m + 1, by go_num, ⟨by have := HM.out; omega⟩, HB1⟩
          · go_wp2_with (first | (go_at_call 21; go_must (have hb0 := Aside0.mk (below_step HB.out HB1.out); refine (awake_calls _).mono ?_; rintro e W_ ⟨rfl, hb⟩; replace HB := Aside0.mk (below_step hb0.out hb))))
            go_ret
            exact ⟨rfl, HB.out⟩
  )
end Go.Proofs.Ytnbbbeghgomnoaa.X
namespace Go.Proofs.Ytnbbbeghgomnoaa.X
open Go.RowKit Go.Proofs.YtnbbbeghgomnoaaW.PrintWords Go.Proofs.YtnbbbeghgomnoaaW.PrintLast Go.Proofs.YtnbbbeghgomnoaaW.PrintMore
structure SameW (L0 L0' : List S109) : Prop where
  len : L0'.length = L0.length
  mks : ∀ i, (L0'.getD i z109).f0 = (L0.getD i z109).f0
theorem SameW.of {L0 L0' : List S109} (h : SameW L0 L0') (ms : List Int) : ofL L0' ms = ofL L0 ms := by
  unfold ofL
  rw [h.len]
  congr 1
  funext j
  rw [h.mks j]
theorem SameW.all {L0 L0' : List S109} (h : SameW L0 L0') (L1 : List S110) : allL L0' L1 = allL L0 L1 := by
  unfold allL
  rw [show optsL L0' L1 = optsL L0 L1 from funext fun i => h.of _]
theorem SameW.val {L0 L0' : List S109} (h : SameW L0 L0') {L1 : List S110} {wg : Int} (hv : Val L0 L1 wg) (hw : L0'.all okW = true) : Val L0' L1 wg := by
  have hp : okP L0' = okP L0 := funext fun z => by unfold okP; rw [h.of, h.len]
  refine ⟨by rw [h.len]; exact hv.n0, hv.n1, hv.wg0, hv.wg1, hw, by rw [hp]; exact hv.ps, ?_⟩
  have hm := hv.mn
  rw [manyT_eq] at hm ⊢
  rw [h.all L1]; exact hm
theorem are_mem {L0 : List S109} {L1 : List S110} {x : List Int} (h : x ∈ allL L0 L1) : areB L0 L1 x = true := by
  obtain ⟨h1, h2⟩ := (allL_mem L0 L1 x).1 h
  unfold areB ownB
  rw [Bool.and_eq_true, decide_eq_true_eq, List.all_eq_true]
  refine ⟨h1, fun i hi => ?_⟩
  have hi' : i < L1.length := by rw [← h1]; exact List.mem_range.1 hi
  exact List.contains_iff_mem.2 (h2 i hi')
theorem sel_mono_n (P : Nat → Bool) : ∀ m n, n ≤ m → (sel P n).length ≤ (sel P m).length := by
  intro m
  induction m with
  | zero =>
    intro n h
    obtain rfl : n = 0 := by omega
    exact Nat.le_refl _
  | succ m ih =>
    intro n h
    by_cases e : n = m + 1
    · rw [e]; exact Nat.le_refl _
    · have := ih n (by omega)
      rw [sel_len_succ]; omega
theorem bits_set (P : Nat → Bool) (n : Nat) (h : n ≤ 5) : setOf (bitsN P n) = sel P n := by
  unfold setOf
  refine sel_cut (fun j hj => ?_) (fun j hj => ?_) (by omega)
  · rw [bitsN_bit, decide_eq_true hj, Bool.true_and]
  · rw [bitsN_bit, decide_eq_false (by omega), Bool.false_and]
theorem truth_leave {L0 : List S109} {L1 : List S110} {wg : Int} (hv : Val L0 L1 wg) : truthsL L0 L1 wg ≠ [] ↔ ((leaveL L0 L1).length : Int) ≤ wg := by
  have h5 := hv.n0
  constructor
  · intro h
    obtain ⟨x, hx⟩ := List.exists_mem_of_ne_nil _ h
    obtain ⟨hx1, hx2⟩ := List.mem_filter.1 hx
    unfold isT at hx2
    rw [decide_eq_true_eq] at hx2
    have hs : sel (bad L0 L1.length (pad x)) L0.length ∈ setsN L0.length := by
      rw [← bits_set _ _ h5]
      exact sets_bits _ (by omega) _ (bitsN_lt _ _)
    have hP : possL L0 L1 (sel (bad L0 L1.length (pad x)) L0.length) = true := by
      unfold possL
      rw [List.any_eq_true]
      refine ⟨x, hx1, ?_⟩
      unfold condL
      rw [List.all_eq_true]
      exact fun v hv => List.contains_iff_mem.2 hv
    have := leave_short h5 hv.ps hs hP
    omega
  · intro h
    obtain ⟨h1, h2, _⟩ := leave_least h5 hv.ps
    obtain ⟨m, hm, e⟩ := sets_of _ (by omega) _ h1
    unfold possL at h2
    rw [List.any_eq_true] at h2
    obtain ⟨x, hx, hc⟩ := h2
    refine List.ne_nil_of_mem (a := x) (List.mem_filter.2 ⟨hx, ?_⟩)
    unfold isT
    rw [decide_eq_true_eq]
    unfold condL at hc
    rw [List.all_eq_true] at hc
    have l1 := sel_le_of (P := bad L0 L1.length (pad x)) (Q := fun j => m.testBit j) L0.length (fun i hi hb => by
      have := hc _ ((sel_mem _ _ _).2 ⟨i, hi, hb, rfl⟩)
      rw [e, setOf_mem, Bool.and_eq_true] at this
      exact this.2)
    have l2 := sel_mono_n (fun j => m.testBit j) 6 L0.length (by omega)
    rw [e] at h
    unfold setOf at h
    omega
theorem word_val {lw : List Int} (h : ∀ v ∈ lw, 0 ≤ v ∧ v ≤ 65535) (i : Nat) (hi : i ≤ 1000) : ∃ v, posserlaw03_word.f lw (i : Int) = some v ∧ 0 ≤ v ∧ v ≤ 65535 := by
  unfold posserlaw03_word.f
  by_cases h0 : (lw.length : Int) = 0
  · rw [if_pos h0]; exact ⟨0, rfl, by omega, by omega⟩
  · rw [if_neg h0]
    have e : Int.tmod (i : Int) (lw.length : Int) = ((i % lw.length : Nat) : Int) := by
      rw [Int.tmod_eq_emod_of_nonneg (by omega)]; rfl
    have hlt : i % lw.length < lw.length := Nat.mod_lt _ (by omega)
    rw [e, if_pos (by omega), if_pos (by omega), rd_nat]
    have hv := h _ (getD_mem lw (i % lw.length) 0 hlt)
    rw [wrap64_id _ (by omega) (by omega)]
    exact ⟨_, rfl, hv⟩
theorem cnt_vals {n k : Int} (hn0 : 0 ≤ n) (hn7 : n ≤ 7) (hk0 : 0 ≤ k) (hk1 : k ≤ 65535) : 0 ≤ mx 0 (wrap64 (n - Int.tmod k 2)) ∧ mx 0 (wrap64 (n - Int.tmod k 2)) ≤ n ∧ n ≤ mn 7 (wrap64 (n + Int.tmod (wrap64 (Int.tdiv k 2)) 3)) ∧ mn 7 (wrap64 (n + Int.tmod (wrap64 (Int.tdiv k 2)) 3)) ≤ 7 := by
  have t1 : 0 ≤ Int.tmod k 2 ∧ Int.tmod k 2 ≤ 1 := by rw [Int.tmod_eq_emod_of_nonneg hk0]; omega
  have t2 : 0 ≤ Int.tmod (wrap64 (Int.tdiv k 2)) 3 ∧ Int.tmod (wrap64 (Int.tdiv k 2)) 3 ≤ 2 := by
    rw [Int.tdiv_eq_ediv_of_nonneg hk0, wrap64_id _ (by omega) (by omega), Int.tmod_eq_emod_of_nonneg (by omega)]; omega
  rw [wrap64_id _ (by omega) (by omega), wrap64_id _ (by omega) (by omega)]
  have h1 := mx_ge 0 (n - Int.tmod k 2)
  have h2 := mn_le 7 (n + Int.tmod (wrap64 (Int.tdiv k 2)) 3)
  omega
theorem BundleTruth_walk (A0 : Option Addr) (c0 : Nat) (l0 : List S85) (A1 : Option Addr) (c1 : Nat) (l1 : List S71) (wg a1 : Int) (AW : Option Addr) (cW : Nat) (lw : List Int) (W : World) (C0 : Kd.C k85 W A0 l0.length l0) (g0 : l0.length ≤ c0) (C1 : Kd.C k71 W A1 l1.length l1) (g1 : l1.length ≤ c1) (w1 : (Lit.int .u16 a1).wf = true) (CL : Kd.C (Kd.int .u16) W AW lw.length lw) (gL : lw.length ≤ cW ∧ ∀ v ∈ lw, 0 ≤ v ∧ v ≤ 65535) :
    Calls Try.prog 19 #[.agg #[.slice A0 l0.length c0, .slice A1 l1.length c1, .int .i64 wg], .int .u16 a1, .slice AW lw.length cW] W fun e w' => e = .returned (.bool true) ∧ Below W.heap.size W w' := by
  obtain ⟨b0, b1⟩ := u16_rng w1
  rcases rdy_cases l0 l1 wg with ⟨K, hK⟩ | ⟨hv, hc, K, hK⟩
  · exact Truth_no K wg a1 C0 g0 C1 g1 CL gL.1 (hK K (Nat.le_refl _))
  · have hn0 := hv.n0
    have hn1 := hv.n1
    have hval := checkT_zero hc
    obtain ⟨many, hmany⟩ : ∃ n, (allL (l0.map cvW) (l1.map cvP)).length = n := ⟨_, rfl⟩
    have hmp : many ≠ 0 := by
      intro h0
      have h1 := allL_prodN (l0.map cvW) (l1.map cvP)
      have hne : allL (l0.map cvW) (l1.map cvP) ≠ [] := by
        have hx : ((List.range l1.length).map fun i => ((optsL (l0.map cvW) (l1.map cvP) i).getD 0 0)) ∈ allL (l0.map cvW) (l1.map cvP) := by
          rw [allL_mem]
          refine ⟨by simp, fun j hj => ?_⟩
          rw [List.length_map] at hj
          rw [List.getD_eq_getElem?_getD, List.getElem?_map, List.getElem?_range hj]
          exact getD_mem _ _ _ (hv.pos j hj)
        exact List.ne_nil_of_mem hx
      exact hne (List.length_eq_zero_iff.1 (hmany.trans h0))
    have hql : a1.toNat % many < many := Nat.mod_lt _ (by omega)
    have eq := tmod_nat a1 (many : Int) b0 b1 (by omega)
    rw [Int.toNat_natCast] at eq
    generalize a1.toNat % many = q at hql eq
    obtain ⟨M, hM⟩ := Many_val hv
    rw [hmany] at hM
    obtain ⟨N, hN⟩ := Nth_val hv q (by omega)
    have hom := List.getElem_mem (l := allL (l0.map cvW) (l1.map cvP)) (n := q) (by omega)
    generalize (allL (l0.map cvW) (l1.map cvP))[q] = ol at hN hom
    obtain ⟨hol, hoo⟩ := (allL_mem _ _ _).1 hom
    rw [List.length_map] at hol
    obtain ⟨ns, hns⟩ : ∃ ns : Nat → Int, ∀ i, ns i = ((cnt (pad ol) l1.length (i : Int) : Nat) : Int) := ⟨_, fun _ => rfl⟩
    obtain ⟨H, hH⟩ := Evt.all (List.range l0.length) (g := fun i k => posserref03_Own.f k ol ((i : Nat) : Int)) (r := fun i => ns i) (fun i hi => by
      have h := Own_ev ol ((i : Nat) : Int) (by omega)
      show Evt (fun k => posserref03_Own.f k ol ((i : Nat) : Int)) (ns i)
      rw [hns, ← hol]; exact h)
    have hks := fun (i : Nat) (hi : i ≤ 1000) => word_val gL.2 i hi
    obtain ⟨ks, hks⟩ : ∃ ks : Nat → Int, ∀ i : Nat, i ≤ 1000 → posserlaw03_word.f lw ((i : Nat) : Int) = some (ks i) ∧ 0 ≤ ks i ∧ ks i ≤ 65535 := by
      refine ⟨fun i => if h : i ≤ 1000 then (hks i h).choose else 0, fun i hi => ?_⟩
      show posserlaw03_word.f lw (i : Int) = some (if h : i ≤ 1000 then (hks i h).choose else 0) ∧ _ ≤ (if h : i ≤ 1000 then (hks i h).choose else 0) ∧ (if h : i ≤ 1000 then (hks i h).choose else 0) ≤ _
      rw [dif_pos hi]
      exact (hks i hi).choose_spec
    obtain ⟨xs, hxs⟩ : ∃ xs, cntTo ns ks l0.length l0 = xs := ⟨_, rfl⟩
    have hxl : xs.length = l0.length := by rw [← hxs, cntTo_len]
    have hxg : ∀ i, i < l0.length → xs.getD i z85 = cntW (ns i) (ks i) (l0.getD i z85) := fun i hi => by rw [← hxs, cntTo_get _ _ _ _ _ hi, if_pos hi]
    have hnr : ∀ i, 0 ≤ ns i ∧ ns i ≤ 7 := fun i => by
      have := cnt_le (pad ol) l1.length (i : Int)
      rw [hns]; omega
    have hS : SameW (l0.map cvW) (xs.map cvW) := by
      refine ⟨by rw [List.length_map, List.length_map, hxl], fun i => ?_⟩
      rw [cvW_getD, cvW_getD]
      by_cases hi : i < l0.length
      · rw [hxg i hi]; rfl
      · rw [List.getD_eq_getElem?_getD, List.getD_eq_getElem?_getD, List.getElem?_eq_none (by omega), List.getElem?_eq_none (by omega)]
    have hval' : Val (xs.map cvW) (l1.map cvP) wg := by
      refine hS.val hval ?_
      rw [List.all_eq_true]
      intro z hz
      obtain ⟨i, hi, rfl⟩ := List.mem_iff_getElem.1 hz
      rw [List.length_map, hxl] at hi
      have e : (xs.map cvW)[i] = cvW (xs.getD i z85) := by
        rw [List.getElem_map, List.getD_eq_getElem?_getD, List.getElem?_eq_getElem (by omega)]; rfl
      rw [e, hxg i hi]
      obtain ⟨o0, o1, o2, o3⟩ := cnt_vals (hnr i).1 (hnr i).2 (hks i (by omega)).2.1 (hks i (by omega)).2.2
      have ow := List.all_eq_true.1 hval.ws (cvW (l0.getD i z85)) (List.mem_map.2 ⟨_, getD_mem l0 i z85 hi, rfl⟩)
      unfold okW at ow ⊢
      simp only [Bool.and_eq_true, decide_eq_true_eq] at ow
      have om : okIn (cvW (cntW (ns i) (ks i) (l0.getD i z85))).f0 0 9 = true := ow.1.1.1
      rw [om]
      show (true && decide (0 ≤ mx 0 (wrap64 (ns i - Int.tmod (ks i) 2))) && decide (mx 0 (wrap64 (ns i - Int.tmod (ks i) 2)) ≤ mn 7 (wrap64 (ns i + Int.tmod (wrap64 (Int.tdiv (ks i) 2)) 3))) && decide (mn 7 (wrap64 (ns i + Int.tmod (wrap64 (Int.tdiv (ks i) 2)) 3)) ≤ 7)) = true
      rw [decide_eq_true o0, decide_eq_true (by omega), decide_eq_true o3]; rfl
    have hcx := checkT_of hval'
    have hgood : ∀ i, i < (xs.map cvW).length → bad (xs.map cvW) (l1.map cvP).length (pad ol) i = false := fun i hi => by
      rw [List.length_map, hxl] at hi
      unfold bad came
      rw [cvW_getD, hxg i hi, List.length_map, ← hns]
      obtain ⟨o0, o1, o2, o3⟩ := cnt_vals (hnr i).1 (hnr i).2 (hks i (by omega)).2.1 (hks i (by omega)).2.2
      show (!(decide (mx 0 (wrap64 (ns i - Int.tmod (ks i) 2)) ≤ ns i) && decide (ns i ≤ mn 7 (wrap64 (ns i + Int.tmod (wrap64 (Int.tdiv (ks i) 2)) 3))))) = false
      rw [decide_eq_true o1, decide_eq_true o2]; rfl
    have hnil : sel (bad (xs.map cvW) (l1.map cvP).length (pad ol)) (xs.map cvW).length = [] := by
      apply List.eq_nil_iff_forall_not_mem.2
      intro v hvm
      obtain ⟨j, hj, hb, _⟩ := (sel_mem _ _ _).1 hvm
      rw [hgood j hj] at hb
      cases hb
    have hisT : isT (xs.map cvW) (l1.map cvP).length wg ol = true := by
      unfold isT
      rw [hnil, decide_eq_true_eq]
      exact hval.wg0
    have hom' : ol ∈ allL (xs.map cvW) (l1.map cvP) := by rw [hS.all]; exact hom
    have hot : ol ∈ truthsL (xs.map cvW) (l1.map cvP) wg := List.mem_filter.2 ⟨hom', hisT⟩
    have hts := List.ne_nil_of_mem hot
    have hex : askE (xs.map cvW) (l1.map cvP) wg = 0 := by
      rcases ask_cases hcx with ⟨_, h⟩ | ⟨h, _⟩
      · exact absurd h hts
      · exact h
    have hx5 : (xs.map cvW).length ≤ 5 := by rw [List.length_map, hxl]; exact hn0
    have hlv : leaveL (xs.map cvW) (l1.map cvP) = [] := by
      have hP : possL (xs.map cvW) (l1.map cvP) [] = true := by
        unfold possL
        rw [List.any_eq_true]
        refine ⟨ol, hom', ?_⟩
        unfold condL
        rw [hnil]; rfl
      have hs : ([] : List Int) ∈ setsN (xs.map cvW).length := by
        have h := sets_bits (xs.map cvW).length (by omega) 0 (Nat.two_pow_pos _)
        exact h
      have := leave_short hx5 hval'.ps hs hP
      exact List.length_eq_zero_iff.1 (by simpa using this)
    have hown : ∀ i, i < (l1.map cvP).length → ∀ x ∈ truthsL (xs.map cvW) (l1.map cvP) wg, 0 ≤ pad x i ∧ pad x i < (xs.map cvW).length := fun i hi x hx => truths_own hx i hi
    obtain ⟨ws, hws⟩ : ∃ ws, whoseL (xs.map cvW).length (l1.map cvP).length (truthsL (xs.map cvW) (l1.map cvP) wg) = ws := ⟨_, rfl⟩
    have hwl : ws.length = l1.length := by rw [← hws, whoseL_len, List.length_map]
    obtain ⟨J, hJ⟩ := Evt.all (List.range ws.length) (g := fun m k => posserref03_Has.f k (ws.getD m []) (rd ol ((m : Nat) : Int))) (r := fun _ => true) (fun m hm => by
      have hm' : m < (l1.map cvP).length := by rw [List.length_map, ← hwl]; exact List.mem_range.1 hm
      have hr : (ws.getD m []).length ≤ (xs.map cvW).length := by rw [← hws, whoseL_get _ _ _ _ hm']; exact sel_le _ _
      have h := Has_ev (ws.getD m []) (rd ol ((m : Nat) : Int)) (by omega)
      have hc2 : (ws.getD m []).contains (rd ol ((m : Nat) : Int)) = true := by
        refine List.contains_iff_mem.2 ?_
        rw [← hws]
        exact (whose_mem hm' (hown m hm') _).2 ⟨ol, hot, (rd_nat ol m).symm⟩
      show Evt (fun k => posserref03_Has.f k (ws.getD m []) (rd ol ((m : Nat) : Int))) true
      rw [← hc2]; exact h)
    obtain ⟨vs, hvs⟩ : ∃ vs, missL (l1.map cvP) (truthsL (xs.map cvW) (l1.map cvP) wg) (xs.map cvW).length = vs := ⟨_, rfl⟩
    have hvl : vs.length = l0.length := by rw [← hvs, missL_len, List.length_map, hxl]
    obtain ⟨I, hI⟩ := Evt.all (List.range vs.length) (g := fun m k => posserref03_DoesMiss.f k xs l1 wg ol ((m : Nat) : Int)) (r := fun m => missB (l1.map cvP) ol ((m : Nat) : Int)) (fun m _ => DoesMiss_ev (l0 := xs) (l1 := l1) wg hv.thn.n1 ol hol ((m : Nat) : Int))
    have sp := boundsL_spec (fun x => lostN (l1.map cvP) (pad x)) hts
    obtain ⟨⟨lo, hi⟩, hbd⟩ : ∃ r, boundsL (fun x => lostN (l1.map cvP) (pad x)) (truthsL (xs.map cvW) (l1.map cvP) wg) = r := ⟨_, rfl⟩
    rw [hbd] at sp
    have spo := sp.1 ol hot
    obtain ⟨k, hk⟩ : ∃ k, k = K + M + N + H + J + I := ⟨_, rfl⟩
    have e1 := hK k (by omega)
    have e2 := hM k (by omega)
    have e3 := hN k (by omega)
    have e4 := hH k (by omega)
    have e5 := hJ k (by omega)
    have e6 := hI k (by omega)
    dsimp only at e2 e3 e4 e5 e6
    refine Truth_ok (lo := lo) (hi := hi) k wg a1 C0 g0 C1 g1 hv.thn rfl rfl CL gL.1 e1 e2 hmp eq e3 (fun i hi => e4 i (List.mem_range.2 hi)) (fun i hi => (hks i (by omega)).1) hxs (by omega) rfl hc hcx hex hws hvs hbd hlv rfl (are_mem hom') rfl (by omega) ?_ (by rw [hwl, hol]) hvl ?_ ?_ ?_ (fun m hm => e5 m (List.mem_range.2 hm)) ?_
    · unfold provedT
      rw [hcx, are_mem hom', hisT]; rfl
    · have := spo.1
      unfold lostN at this
      omega
    · have := spo.2
      unfold lostN at this
      omega
    · have ht := truth_leave hval
      rcases ask_cases hc with ⟨h1, h2⟩ | ⟨h1, h2⟩
      · exact .inr ⟨h1, fun h => ht.2 h h2⟩
      · exact .inl ⟨h1, ht.1 h2⟩
    · intro m hm
      refine ⟨_, e6 m (List.mem_range.2 hm), ?_⟩
      have e : rd vs (m : Int) = verdL (boundsL (fun x => missN (l1.map cvP) (pad x) (m : Int)) (truthsL (xs.map cvW) (l1.map cvP) wg)) := by
        rw [← hvs, missL_get _ _ _ _ (by rw [List.length_map, hxl, ← hvl]; exact hm)]
      rcases verd_in (boundsL (fun x => missN (l1.map cvP) (pad x) (m : Int)) (truthsL (xs.map cvW) (l1.map cvP) wg)) with h | h | h
      · exact .inl ⟨e.trans h, (verd_one hts _).1 h ol hot⟩
      · exact .inr (.inl ⟨e.trans h, (verd_two hts _).1 h ol hot⟩)
      · exact .inr (.inr (e.trans h))
end Go.Proofs.Ytnbbbeghgomnoaa.X
namespace Go.Proofs.Ytnbbbeghgomnoaa.X
open Go.RowKit Go.ChangeShapes Go.WideShapes Go.Deep Go.Joins
open Go.Proofs.YtnbbbeghgomnoaaW.PrintWords
section
variable {H : Type} {enc : TypeId × Value → H} {W : World} {spare : Nat → Bool} {held : Bool}
theorem cOf76 : Try.prog.cellsOf 76 = 1 := by kernel_rfl
theorem open_list16 {n : Nat} {cs : List Value} {x : DataW H × List MemPlace} (h : DataW.trod enc Try.prog W 0 spare held n 93 cs = some x) : ∃ (A : Option Addr) (c : Nat) (l : List Int), cs = [.slice A l.length c] ∧ (l.length ≤ c ∧ ∀ v ∈ l, 0 ≤ v ∧ v ≤ 65535) ∧ Kd.C (Kd.int .u16) W A l.length l := by
  rcases open_slice Try.underlying93 h with ⟨rfl, _⟩ | ⟨a, len, cap, m, k, D, Pl, rfl, _, hl, hm, hmm, _, hi⟩
  · exact ⟨none, 0, [], rfl, ⟨Nat.le_refl _, by simp⟩, rfl, by simp, fun h => absurd h (by simp)⟩
  · have hlm : len ≤ m := by rw [hmm]; split <;> omega
    have each : ∀ i, i < len → ∃ v : Int, W.cell? (a.add i) = some (.int .u16 v) ∧ 0 ≤ v ∧ v ≤ 65535 := fun i hlt => by
      obtain ⟨cs', hc, ht⟩ := hi i (by omega)
      rw [cOf76] at hc
      obtain ⟨v, rfl, _, hw⟩ := DataW.trod_int Try.underlying76 ht
      obtain ⟨_, _, hat⟩ := World.cells?_some hc
      have := hat 0 (by omega)
      rw [Go.Deep.add_add] at this
      unfold Lit.wf at hw
      rw [Bool.and_eq_true, decide_eq_true_eq, decide_eq_true_eq] at hw
      exact ⟨v, by simpa using this, hw.1, hw.2⟩
    obtain ⟨q, hq⟩ := choose_lt each
    have hml : maxLen ≤ 9223372036854775807 := by unfold maxLen; omega
    refine ⟨some a, cap, (List.range len).map q, by simp, ⟨by simpa using hl, fun v hv => ?_⟩, rfl, ?_, fun _ => ⟨a, rfl, fun j p hj => ?_⟩⟩
    · obtain ⟨j, hj, rfl⟩ := List.mem_map.1 hv
      exact (hq j (List.mem_range.1 hj)).2
    · simp only [List.length_map, List.length_range]
      omega
    · have hjl : j < len := by
        have := (List.getElem?_eq_some_iff.1 hj).1
        simpa using this
      rw [List.getElem?_map, List.getElem?_range hjl] at hj
      obtain rfl := Option.some.inj hj
      refine ⟨[.int .u16 (q j)], rfl, rfl, fun i u hu => ?_⟩
      have hi0 : i = 0 := by
        have := (List.getElem?_eq_some_iff.1 hu).1
        simp at this; exact this
      subst hi0
      have hu' : Value.int .u16 (q j) = u := by simpa using hu
      subst hu'
      have := (hq j hjl).1
      show W.cell? (a.add (j * 1 + 0)) = _
      rw [Nat.mul_one, Nat.add_zero]; exact this
end
end Go.Proofs.Ytnbbbeghgomnoaa.X
