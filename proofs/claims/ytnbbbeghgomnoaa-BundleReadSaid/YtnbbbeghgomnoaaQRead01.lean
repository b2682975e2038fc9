/-
  For every table, piece and mark that the statement lets in: if a mark of a piece can be read in fewer ways, as long as there is a truth, nobody else can own any piece, the best truth has no fewer pieces astray, and a verdict other than Perhaps stays.
-/
import Derived.Test.YtnbbbeghgomnoaaQBase05
import Derived.Below
import Derived.Deep.Draws
import Derived.Deep.AppendLies
import Derived.Maps.AppendAt
import Derived.OwnWalk
import Derived.Laws.BytesArg
import Derived.Laws.MakeOwn
import Derived.Laws.OwnMore
import Derived.Deep.OwnRows
import Derived.Tactics
import Derived.Lib.ConvBytes
import Derived.Laws.Slices
import Derived.WalkKit
import Derived.KernelRfl
import Derived.RowKit3
import Derived.Deep.LoopGhost
import Derived.Deep.QuietTactic
import Derived.BigQuiet
import Derived.WideLaws
import Derived.Deep.DeepCutAuto
import Derived.Deep.CutBlock
import Derived.Deep.RegionHeld3
import Derived.Laws.Rows
import Derived.Lib.AppendStr
import Derived.ArgAppend
import Derived.Laws.IdiomCopy
import Derived.RowKit
import Derived.Test.YtnbbbeghgomnoaaProg
import Derived.OrdersHeld
import Derived.Laws.BitsLemmas
import Derived.Deep.DeepMust
import Derived.Test.YtnbbbeghgomnoaaRows
import Derived.ProofKit
import Derived.OpenShut
import Derived.ShutString
import Derived.ChangeOld
import Derived.SizedLaws
set_option linter.unusedVariables false
set_option linter.unusedSimpArgs false
set_option linter.unusedVariables false
set_option linter.unusedSimpArgs false
namespace Go.Proofs.YtnbbbeghgomnoaaW.PrintWords
open Go.RowKit
section
variable {P : Program} {ops : Array Oper} {rest : List Oper} {o : Oper} {a : Act} {Q : Exit → Act → World → Prop}
end
section
variable {P : Program}
end
section
variable {P : Program} {ops : Array Oper} {rest : List Oper} {o : Oper} {a : Act} {Q : Exit → Act → World → Prop}
end
section
variable {P : Program} {ops : Array Oper} {rest : List Oper} {o : Oper} {a : Act} {Q : Exit → Act → World → Prop}
end
theorem blk_ne {w : World} {g g' : Nat} {t t' : TypeId} {cs cs' : Array Value} (h : w.heap[g]? = some (.cells cs t (0, 0))) (h' : w.heap[g']? = some (.cells cs' t' (0, 0))) (hne : t ≠ t') : g ≠ g' := by
 rintro rfl
 rw [h] at h'
 injection h' with h'
 injection h' with _ ht
 exact hne ht
section
variable {P : Program} {ops : Array Oper} {o : Oper} {a : Act} {Q : Exit → Act → World → Prop} {K : Act → World → Prop}
end
section
variable {α : Type} {enc : α → Value} {d : α}
end
section
variable {α : Type} {P : Program} {ops : Array Oper} {rest : List Oper} {o : Oper} {a : Act} {Q : Exit → Act → World → Prop}
end
section
variable {P : Program}
end
section
variable {α : Type} {R R' : α → List Value → Prop} {e : TypeId} {size : Nat} {w w1 : World} {base : Nat} {v : Value} {ps : List α}
theorem OwnRow.lower (h : OwnRow R e size w base v ps) {base' : Nat} (hb : base' ≤ base) : OwnRow R e size w base' v ps := by
 obtain ⟨inner, ho, hr⟩ := h
 exact ⟨inner, own_weaken ho hb, hr⟩
end
section
variable {P : Program} {ops : Array Oper} {rest : List Oper} {o : Oper} {a : Act} {Q : Exit → Act → World → Prop} {α : Type} {R : α → List Value → Prop}
end
section
variable {P : Program} {ops : Array Oper} {o : Oper} {a : Act} {Q : Exit → Act → World → Prop} {K : Act → World → Prop} {α : Type} {R : α → List Value → Prop}
end
section
variable {α : Type} {P : Program}
end
section
variable {P : Program} {ops : Array Oper} {rest : List Oper} {o : Oper} {a : Act} {Q : Exit → Act → World → Prop}
end
namespace Kd
section
variable {α : Type} {d : Kd α} {e : Nat} {w w1 : World} {base : Nat} {ok ok' : Nat → Prop} {v : Value} {xs : List α}
end
section
variable {P : Program} {ops : Array Oper} {rest : List Oper} {o : Oper} {a : Act} {Q : Exit → Act → World → Prop} {α : Type}
end
section
variable {P : Program} {ops : Array Oper} {o : Oper} {a : Act} {Q : Exit → Act → World → Prop} {Kc : Act → World → Prop} {α : Type}
end
end Kd
namespace Kd
section
variable {α : Type} {F : Kd α → Kd α} {sz : Nat} {E : List Nat} {hs : ∀ n, (upto F sz E n).sz = sz} {hE : ∀ n q, q ∈ (upto F sz E n).E → q ∈ E}
end
end Kd
namespace Kd
end Kd
namespace Kd
section
variable {α β : Type} {d : Kd α} {d' : Kd β} {e e' : Nat} {w w1 W : World} {base b b' : Nat} {ok ok' okv oku : Nat → Prop} {v u : Value} {xs : List α} {ys : List β}
end
section
variable {w W : World} {A : Option Addr} {n : Nat}
variable {α : Type} {enc : α → Value} {h1 : ∀ x, (enc x).oneCell' = true} {e base g cap : Nat} {ok : Nat → Prop} {xs : List α}
end
section
variable {P : Program} {ops : Array Oper} {rest : List Oper} {o : Oper} {a : Act} {Q : Exit → Act → World → Prop}
variable {α : Type}
end
end Kd
section
variable {P : Program}
theorem cut_to (t e : TypeId) (kh : IntKind) {i : TypeInfo} (ht : P.underlying t = some (.slice e)) (hi : P.info? e = some i) (A : Option Addr) (n c : Nat) (j : Int) (h0 : 0 ≤ j) (hm : j ≤ n) (hc : n ≤ c) :
  ∀ W : World, (Instr.slice t (.slice A n c) none (some (.int kh j)) none).run P W = .ok (.slice A j.toNat c) W := by
 intro W
 have hel : P.elem t = e := by simp [Program.elem, ht]
 have hu : P.underlying t = some (.slice (P.elem t)) := by rw [hel]; exact ht
 have ha : (A.map fun x => x.add 0) = A := by cases A <;> simp [Addr.add]
 rw [run_slice_h W t A n c hu kh j h0 (by omega), hel]
 simp [sizeOf, typeInfo, hi, sliced, Result.andThen, ha]
end
section
variable {w w1 : World} {base n size : Nat} {e : TypeId} {v : Value} {xs : List Value}
end
section
variable {P : Program}
end
namespace Kd
section
variable {α : Type} {d : Kd α} {e : Nat} {w w1 W : World} {base : Nat} {ok ok' : Nat → Prop} {v : Value} {xs : List α}
end
section
variable {P : Program} {ops : Array Oper} {rest : List Oper} {o : Oper} {a : Act} {Q' : Exit → Act → World → Prop} {Kc : Act → World → Prop} {α : Type}
end
end Kd
namespace Kd
section
variable {α : Type} {d : Kd α} {e e' : Nat} {w w1 W : World} {base : Nat} {ok : Nat → Prop} {u v : Value} {xs : List α}
end
end Kd
namespace Kd
section
variable {α : Type} {d : Kd α} {e base g n cap : Nat} {ok okp : Nat → Prop} {W : World} {xs : List α}
end
end Kd
namespace Kd
section
variable {α : Type} {F : Kd α → Kd α} {sz : Nat} {E : List Nat} {hs : ∀ n, (upto F sz E n).sz = sz} {hE : ∀ n q, q ∈ (upto F sz E n).E → q ∈ E}
end
end Kd
namespace Kd
section
variable {P : Program} {ops : Array Oper} {rest : List Oper} {o : Oper} {a : Act} {Q : Exit → Act → World → Prop} {α : Type}
theorem R_append_rows (d : Kd α) {Rr : α → List Value → Prop} {w0 W : World} (base : Nat) (hgd : o.guard = none) (s x : Operand) (t e : TypeId) (z : Value) (bytes : Nat)
  (ho : o.op = .call { callee := .builtin .append, args := #[s, x], argTypes := #[t, t] })
  (ht : P.underlying t = some (.slice e)) (hinfo : (P.info? e).map (fun i => (i.zero, i.size, i.bytes)) = some (some z, d.sz, bytes)) (hz : z.cells.size = d.sz) (hs0 : 0 < d.sz) (hb0 : 0 < bytes)
  (v : Value) (xs ys : List α) (A : Option Addr) (m c : Nat) (ok okp : Nat → Prop) (hs : a.eval s = v) (hx : a.eval x = .slice A m c)
  (HO : d.R e W base ok v xs) (HR : ReadsRow Rr d.sz W A m ys) (hKM : ∀ x cs, Rr x cs → d.M W base okp x cs) (hokp : ∀ k, okp k → ok k ∧ some k ≠ v.ownBlock) (hfresh : ∀ k, W.heap.size ≤ k → ok k)
  (HB : Below base w0 W) (hbase : base ≤ W.heap.size) (hl : (xs.length + m) * bytes ≤ 140737488355328)
  (h : ∀ v1 w1, d.R e w1 base ok v1 (xs ++ ys) → Below base w0 w1 → W.grownBy w1 v.ownBlock → (v1.ownBlock = v.ownBlock ∨ ∃ b, v1.ownBlock = some b ∧ W.heap.size ≤ b) → wpList P ops Q rest (a.put o.dst v1) w1) :
  wpList P ops Q (o :: rest) a W := by
 obtain ⟨i0, hi, hzz⟩ := Option.map_eq_some_iff.1 hinfo
 simp only [Prod.mk.injEq] at hzz
 obtain ⟨hz0, hz1, hz2⟩ := hzz
 have hm : ys.length = m := HR.1
 have hlen : xs.length + m ≤ 140737488355328 := Nat.le_trans (Nat.le_mul_of_pos_right _ hb0) hl
 obtain ⟨hok, inner, hown, hr⟩ := HO
 have hrun : ∃ v1 w1, (Builtin.append_ #[t, t] o.type #[v, .slice A m c]).run P W = .ok v1 w1 ∧ d.R e w1 base ok v1 (xs ++ ys) ∧ W.grownBy w1 v.ownBlock ∧ (v1.ownBlock = v.ownBlock ∨ ∃ b, v1.ownBlock = some b ∧ W.heap.size ≤ b) := by
  rcases A with _ | ad
  ·have h0 : m = 0 := by
    rcases Nat.eq_zero_or_pos m with h0 | h0
    ·exact h0
    ·obtain ⟨ad, h, _⟩ := HR.2.2 h0
     cases h
   subst h0
   obtain rfl : ys = [] := List.eq_nil_of_length_eq_zero hm
   refine ⟨v, W, ?_, by rw [List.append_nil]; exact ⟨hok, inner, hown, hr⟩, World.grownBy.refl W _, .inl rfl⟩
   rcases hown.2 with ⟨rfl, hn⟩ | ⟨g, cap, cur, rfl, _, _, hnc, _⟩
   ·simp [Builtin.append_, run_underlying ht, sizeOf, typeInfo, hi, Builtin.lenOf, Builtin.firstCells]
   ·simp [Builtin.append_, run_underlying ht, sizeOf, typeInfo, hi, Builtin.lenOf, Builtin.firstCells, hnc, storeCells]
  ·obtain ⟨news, hnr, hnc⟩ := ReadsRow.inner_ HR
   have hnM : Reps (d.M W base okp) d.sz ys news := hnr.imp_ (fun p c hp => hKM p c hp)
   have hone : ∀ u ∈ news, u.oneCell' = true := by
    intro u hu
    obtain ⟨q, hq, rfl⟩ := List.mem_iff_getElem.1 hu
    have hql : q / d.sz < ys.length := by
     rw [Nat.div_lt_iff_lt_mul hs0]
     rw [← hnM.1]
     exact hq
    have hc := hnM.2 (q / d.sz) _ (List.getElem?_eq_getElem hql)
    refine d.K_one (d.K_of_M hc) _ ?_
    rw [List.mem_iff_getElem?]
    refine ⟨q % d.sz, ?_⟩
    rw [List.getElem?_take, if_pos (Nat.mod_lt _ hs0), List.getElem?_drop, Nat.mul_comm, Nat.div_add_mod, List.getElem?_eq_getElem hq]
   obtain ⟨v1, w1, hrun, h2, hg, _, hat⟩ := run_append_own_at (P := P) W base t o.type e i0 z d.sz bytes ht hi hz0 hz1 hz2 hz hs0 v xs.length inner hown ad m c news (by rw [hnM.1, hm]) hnc hone (by simp only [maxLen]; omega) hl hbase
   have hat' : v1.ownBlock = v.ownBlock ∨ ∃ b, v1.ownBlock = some b ∧ W.heap.size ≤ b := by
    rcases hat with hat | hat
    ·exact .inl hat
    ·exact .inr ⟨_, hat, Nat.le_refl _⟩
   have hne : ∀ k, some k ≠ v.ownBlock → k < W.heap.size → some k ≠ v1.ownBlock := by
    intro k hk hlt
    rcases hat' with hat | ⟨b, hb, hle⟩
    ·rw [hat]; exact hk
    ·rw [hb]
     intro he
     injection he with he
     omega
   have step : ∀ {q : α} {c : List Value} {o : Nat → Prop}, d.M W base o q c → (∀ k, o k → ok k ∧ some k ≠ v.ownBlock) → d.M w1 base (fun k => ok k ∧ some k ≠ v1.ownBlock) q c := by
    intro q c o hq ho
    have h1 := d.M_move (w1 := w1) (fun k hk => hg.block k hk.2.2.1 (ho k hk.1).2) (d.M_bound hq)
    exact d.M_mono (fun k hk => ⟨(ho k hk.1).1, hne k (ho k hk.1).2 hk.2.2.1⟩) h1
   refine ⟨v1, w1, hrun, ⟨fun k hk => ?_, inner ++ news, by rw [List.length_append, hm]; exact h2, reps_append (hr.imp_ (fun _ _ hq => step hq (fun _ hk => hk))) (hnM.imp_ (fun _ _ hq => step hq hokp))⟩, hg, hat'⟩
   rcases hat' with hat | ⟨b, hb, hle⟩
   ·exact hok k (hat ▸ hk)
   ·rw [hb] at hk
    injection hk with hk
    exact hfresh k (by omega)
 obtain ⟨v1, w1, hr1, h1, hg, hat⟩ := hrun
 refine wpList_plain hgd fun K hK => ?_
 unfold Oper.wp execOp
 simp only [ho, resolve, invoke, builtin, Sem.run_bind, Sem.run_pure, Result.andThen_ok, List.map_toArray, List.map_cons, List.map_nil, hs, hx, hr1]
 exact hK _ _ (h v1 w1 h1 (HB.grown hg hbase (own_base hown)) hg hat)
end
end Kd
namespace Kd
section
variable {P : Program} {ops : Array Oper} {rest : List Oper} {o : Oper} {a : Act} {Q : Exit → Act → World → Prop} {α : Type}
end
end Kd
namespace Kd
section
variable {α : Type} {k : Kd α} {w : World} {A : Option Addr} {xs : List α} {m c : Nat}
theorem C_take (h : k.C w A xs.length xs) (hm : m ≤ xs.length) : k.C w A (xs.take m).length (xs.take m) := by
 have hl : (xs.take m).length = m := by rw [List.length_take]; omega
 refine ⟨rfl, by rw [hl]; have := h.2.1; omega, fun hp => ?_⟩
 obtain ⟨ad, e, hc⟩ := h.2.2 (by omega)
 refine ⟨ad, e, fun j p hj => hc j p ?_⟩
 rw [List.getElem?_take] at hj
 split at hj
 ·exact hj
 ·cases hj
end
end Kd
section
variable {P : Program}
end
namespace Kd
section
variable {α β : Type} {d : Kd α} {d' : Kd β} {e e' base base' n : Nat} {ok ok' : Nat → Prop} {w W w1 W1 : World} {v u : Value} {xs : List α} {ys : List β} {A : Option Addr} {c : Nat}
end
section
variable {α : Type} {enc : α → Value} {h1 : ∀ x, (enc x).oneCell' = true} {w W : World} {A : Option Addr} {n g : Nat} {xs : List α}
end
end Kd
namespace Kd
section
variable {α : Type} {d : Kd α} {e base g : Nat} {ok : Nat → Prop} {w w1 : World} {v : Value} {xs : List α} {o : Obj}
end
end Kd
section
variable {P : Program} {ops : Array Oper} {rest : List Oper} {o : Oper} {a : Act} {Q : Exit → Act → World → Prop}
end
namespace Kd
section
variable {α : Type} {enc : α → Value} {h1 : ∀ x, (enc x).oneCell' = true} {e base g n cap : Nat} {ok : Nat → Prop} {W : World} {xs : List α}
end
end Kd
section
variable {P : Program} {ops : Array Oper} {rest : List Oper} {o : Oper} {a : Act} {Q : Exit → Act → World → Prop}
end
namespace Kd
section
variable {α : Type} {enc : α → Value} {h1 : ∀ x, (enc x).oneCell' = true} {e base g n cap : Nat} {ok : Nat → Prop} {W : World} {xs : List α}
end
end Kd
section
variable {P : Program} {ops : Array Oper} {rest : List Oper} {o : Oper} {a : Act} {Q : Exit → Act → World → Prop} {W : World}
end
section
variable {P : Program} {ops : Array Oper} {o : Oper} {a : Act} {Q : Exit → Act → World → Prop} {Kc : Act → World → Prop}
theorem event_step {W w1 : World} {v : Value} (hw : Region.wanted o (yielded ops a.tmps) = true) (hrun : (execOp a.eval o).run P W = .ok (.value v) w1) (h : Kc (a.put o.dst v) w1) : if Region.wanted o (yielded ops a.tmps) = true then Oper.wp P o a W Kc Q else Kc (a.put o.dst undef) W := by
 rw [if_pos hw]
 unfold Oper.wp
 rw [hrun]
 exact h
namespace Kd
variable {α : Type}
theorem R_lit_step (d : Kd α) {w0 W : World} (base e : Nat) (hw : Region.wanted o (yielded ops a.tmps) = true) {N : Tmp} (_hd : o.dst = some N) {xs : List α} {inner : List Value} {ok okp : Nat → Prop}
  (hrun : (execOp a.eval o).run P W = .ok (.value (.slice (some ⟨W.heap.size, 0, none⟩) xs.length xs.length)) (W.alloc (.cells inner.toArray e)))
  (hrep : Reps (d.M W base okp) d.sz xs inner) (hok : ∀ k, okp k → ok k) (hfresh : ok W.heap.size) (HB : Below base w0 W) (hbase : base ≤ W.heap.size) (hm : xs.length ≤ 9223372036854775807)
  (h : ∀ v1 w1, d.R e w1 base ok v1 xs → Below base w0 w1 → W.grownBy w1 none → (∃ b, v1.ownBlock = some b ∧ W.heap.size ≤ b) → Kc (a.put o.dst v1) w1) : if Region.wanted o (yielded ops a.tmps) = true then Oper.wp P o a W Kc Q else Kc (a.put o.dst undef) W := by
 refine event_step hw hrun (h _ _ ⟨fun k hk => ?_, inner, ?_, ?_⟩ (HB.alloc hbase _) (World.grownBy_alloc W _ none) ⟨W.heap.size, by simp [Value.ownBlock], Nat.le_refl _⟩)
 ·have : W.heap.size = k := by simpa [Value.ownBlock] using hk
  subst this
  exact hfresh
 ·have h2 := World.ownsRow_lit (base := base) (e := e) (size := d.sz) W inner.toArray xs.length hbase (by simpa [maxLen] using hm) (by simpa using hrep.1)
  simpa using h2
 ·refine hrep.imp_ (fun p c hp => d.M_mono (fun k hk => ⟨hok k hk.1, fun he => ?_⟩) (M_below (d.M_bound hp) (below_alloc (Below.refl _ _) _)))
  have h3 : k = W.heap.size := by simpa [Value.ownBlock] using he
  have := hk.2.2.1
  omega
end Kd
end
section
variable {P : Program} {tmps : Array Value} {w : World}
end
namespace Kd
section
variable {P : Program} {α : Type}
end
section
variable {P : Program} {ops : Array Oper} {rest : List Oper} {o : Oper} {a : Act} {Q : Exit → Act → World → Prop} {Kc : Act → World → Prop} {α : Type}
end
end Kd
end Go.Proofs.YtnbbbeghgomnoaaW.PrintWords
namespace Go.Proofs.YtnbbbeghgomnoaaW.PrintWords
open Go.RowKit
namespace Kd
section
variable {α : Type} {d : Kd α} {e base n cap g : Nat} {ok ok' okp : Nat → Prop} {w w1 W : World} {v v1 : Value} {xs ys : List α}
theorem reads_raw {Rr : α → List Value → Prop} {sz m : Nat} {A : Option Addr} (h : ReadsRow Rr sz W A m ys) (hR : ∀ x c, Rr x c → c.length = sz ∧ ∀ u ∈ c, u.oneCell' = true) :
  ∃ news : List (List Value), news.length = ys.length ∧ ReadsRow (fun x cs => cs = x ∧ cs.length = sz ∧ ∀ u ∈ cs, u.oneCell' = true) sz W A m news ∧ ∀ (j : Nat) (x : α) (c : List Value), ys[j]? = some x → news[j]? = some c → Rr x c := by
 rcases Nat.eq_zero_or_pos m with h0 | hp
 ·have hy : ys = [] := List.eq_nil_of_length_eq_zero (h.1.trans h0)
  subst hy
  exact ⟨[], rfl, ⟨h0 ▸ rfl, h.2.1, fun hp => by omega⟩, fun j x c hx => by simp at hx⟩
 ·obtain ⟨ad, rfl, _⟩ := h.2.2 hp
  obtain ⟨inner, hr, hc⟩ := ReadsRow.inner_ h
  refine ⟨chunks sz ys.length inner, chunks_length _ _ _, ⟨by rw [chunks_length]; exact h.1, h.2.1, fun _ => ⟨ad, rfl, fun j p hj => ?_⟩⟩, fun j x c hx hcc => ?_⟩
  ·have hjl : j < ys.length := by have := (List.getElem?_eq_some_iff.1 hj).1; rwa [chunks_length] at this
   have hpe := chunks_get hj
   have hq := hR _ _ (hr.2 j _ (List.getElem?_eq_getElem hjl))
   rw [← hpe] at hq
   refine ⟨p, hq.1, ⟨rfl, hq⟩, fun i u hu => ?_⟩
   have hu2 : inner[j * sz + i]? = some u := by
    rw [hpe, List.getElem?_take] at hu
    split at hu
    ·rw [List.getElem?_drop] at hu
     exact hu
    ·cases hu
   exact hc _ u hu2
  ·rw [chunks_get hcc]
   exact hr.2 j x hx
end
section
variable {P : Program} {ops : Array Oper} {rest : List Oper} {o : Oper} {a : Act} {Q : Exit → Act → World → Prop} {Kc : Act → World → Prop} {α : Type}
end
end Kd
end Go.Proofs.YtnbbbeghgomnoaaW.PrintWords
namespace Go.Proofs.Ytnbbbeghgomnoaa.X
open Go.RowKit Go.Proofs.YtnbbbeghgomnoaaW.PrintWords Go.Proofs.YtnbbbeghgomnoaaW.PrintLast Go.Proofs.YtnbbbeghgomnoaaW.PrintMore
attribute [local go_sem] max2_int min2_int max_two min_two max_three min_three max_four min_four
set_option linter.unusedVariables false
set_option linter.unusedSimpArgs false
theorem info71 : (Try.prog.info? 71).map (fun i => (i.zero, i.size, i.bytes)) = some (some (.agg #[(.slice none 0 0), (.int .i64 0)]), 2, 32) := by kernel_rfl
def rd_L1 (xs : List (List Int)) (i : Int) : (List Int) := xs.getD i.toNat ([] : List Int)
theorem at_L1 {w : World} {A : Option Addr} {n : Nat} {xs : List (List Int)} (h : Kd.C (Kd.slice 3 (Kd.int .i64)) w A n xs) (i : Int) (h0 : 0 ≤ i) (h1 : i < n) : ∃ ad A0 c0, A = some ad ∧ w.cell? (ad.add i.toNat) = some (.slice A0 (rd_L1 xs i).length c0) ∧ (rd_L1 xs i).length ≤ c0 ∧ (Kd.int .i64).C w A0 (rd_L1 xs i).length (rd_L1 xs i) := by
 obtain ⟨ad, c, e, _, hK, hc0⟩ := Kd.C_get h ([] : List Int) i h0 h1
 have hc : ∀ j u, c[j]? = some u → w.cell? (ad.add (i.toNat * 1 + j)) = some u := hc0
 obtain ⟨A0, c0, rfl, l0, g0⟩ := hK
 exact ⟨ad, A0, c0, e, by have hq := hc 0 _ rfl; rwa [Nat.mul_one, Nat.add_zero] at hq, l0, g0⟩
end Go.Proofs.Ytnbbbeghgomnoaa.X
namespace Go.Proofs.Ytnbbbeghgomnoaa.X
open Go.RowKit Go.Proofs.YtnbbbeghgomnoaaW.PrintWords Go.Proofs.YtnbbbeghgomnoaaW.PrintLast Go.Proofs.YtnbbbeghgomnoaaW.PrintMore
theorem mn_le (a b : Int) : mn a b ≤ a ∧ mn a b ≤ b ∧ (mn a b = a ∨ mn a b = b) := by
 unfold mn
 split
 ·exact ⟨by omega, by omega, .inr rfl⟩
 ·exact ⟨by omega, by omega, .inl rfl⟩
theorem mx_ge (a b : Int) : a ≤ mx a b ∧ b ≤ mx a b ∧ (mx a b = a ∨ mx a b = b) := by
 unfold mx
 split
 ·exact ⟨by omega, by omega, .inr rfl⟩
 ·exact ⟨by omega, by omega, .inl rfl⟩
theorem bounds_fold {α : Type} (g : α → Int) : ∀ (ts : List α) (a b : Int), (ts.foldl (fun r x => (mn r.1 (g x), mx r.2 (g x))) (a, b)).1 ≤ a ∧ (∀ x ∈ ts, (ts.foldl (fun r x => (mn r.1 (g x), mx r.2 (g x))) (a, b)).1 ≤ g x) ∧
  ((ts.foldl (fun r x => (mn r.1 (g x), mx r.2 (g x))) (a, b)).1 = a ∨ ∃ x ∈ ts, g x = (ts.foldl (fun r x => (mn r.1 (g x), mx r.2 (g x))) (a, b)).1) ∧
  b ≤ (ts.foldl (fun r x => (mn r.1 (g x), mx r.2 (g x))) (a, b)).2 ∧ (∀ x ∈ ts, g x ≤ (ts.foldl (fun r x => (mn r.1 (g x), mx r.2 (g x))) (a, b)).2) ∧
  ((ts.foldl (fun r x => (mn r.1 (g x), mx r.2 (g x))) (a, b)).2 = b ∨ ∃ x ∈ ts, g x = (ts.foldl (fun r x => (mn r.1 (g x), mx r.2 (g x))) (a, b)).2) := by
 intro ts
 induction ts with
 | nil => intro a b; exact ⟨Int.le_refl _, fun _ h => by simp at h, .inl rfl, Int.le_refl _, fun _ h => by simp at h, .inl rfl⟩
 | cons y r ih =>
  intro a b
  rw [List.foldl_cons]
  obtain ⟨h1, h2, h3, h4, h5, h6⟩ := ih (mn a (g y)) (mx b (g y))
  obtain ⟨m1, m2, m3⟩ := mn_le a (g y)
  obtain ⟨n1, n2, n3⟩ := mx_ge b (g y)
  refine ⟨Int.le_trans h1 m1, fun x hx => ?_, ?_, Int.le_trans n1 h4, fun x hx => ?_, ?_⟩
  ·rcases List.mem_cons.1 hx with rfl | hx
   ·exact Int.le_trans h1 m2
   ·exact h2 x hx
  ·rcases h3 with h3 | ⟨x, hx, h3⟩
   ·rcases m3 with m3 | m3
    ·exact .inl (h3.trans m3)
    ·exact .inr ⟨y, List.mem_cons_self, (h3.trans m3).symm⟩
   ·exact .inr ⟨x, List.mem_cons_of_mem _ hx, h3⟩
  ·rcases List.mem_cons.1 hx with rfl | hx
   ·exact Int.le_trans n2 h4
   ·exact h5 x hx
  ·rcases h6 with h6 | ⟨x, hx, h6⟩
   ·rcases n3 with n3 | n3
    ·exact .inl (h6.trans n3)
    ·exact .inr ⟨y, List.mem_cons_self, (h6.trans n3).symm⟩
   ·exact .inr ⟨x, List.mem_cons_of_mem _ hx, h6⟩
theorem boundsL_spec (g : List Int → Int) {ts : List (List Int)} (h : ts ≠ []) : (∀ x ∈ ts, (boundsL g ts).1 ≤ g x ∧ g x ≤ (boundsL g ts).2) ∧ (∃ x ∈ ts, g x = (boundsL g ts).1) ∧ (∃ x ∈ ts, g x = (boundsL g ts).2) := by
 obtain ⟨y, r, rfl⟩ : ∃ y r, ts = y :: r := List.exists_cons_of_ne_nil h
 obtain ⟨h1, h2, h3, h4, h5, h6⟩ := bounds_fold g (y :: r) (g y) (g y)
 refine ⟨fun x hx => ⟨h2 x hx, h5 x hx⟩, ?_, ?_⟩
 ·rcases h3 with h3 | h3
  ·exact ⟨y, List.mem_cons_self, h3.symm⟩
  ·exact h3
 ·rcases h6 with h6 | h6
  ·exact ⟨y, List.mem_cons_self, h6.symm⟩
  ·exact h6
def missB (l1 : List S110) (x : List Int) (w : Int) : Bool := decide (0 < missN l1 (pad x) w)
theorem missN_nonneg (l1 : List S110) (o : Nat → Int) (w : Int) : 0 ≤ missN l1 o w := by unfold missN; omega
def verdR (l1 : List S110) (ts : List (List Int)) (w : Int) : Int := if (ts.filter fun x => missB l1 x w).length = ts.length then 1 else if (ts.filter fun x => missB l1 x w).length = 0 then 2 else 3
theorem filter_all {α : Type} (p : α → Bool) (l : List α) : (l.filter p).length = l.length ↔ ∀ x ∈ l, p x = true := by
 induction l with
 | nil => simp
 | cons a r ih =>
  have h := List.length_filter_le p r
  by_cases hp : p a = true
  ·rw [List.filter_cons_of_pos hp, List.length_cons, List.length_cons]
   constructor
   ·intro e x hx
    rcases List.mem_cons.1 hx with rfl | hx
    ·exact hp
    ·exact ih.1 (by omega) x hx
   ·intro e
    have := ih.2 (fun x hx => e x (List.mem_cons_of_mem _ hx))
    omega
  ·rw [List.filter_cons_of_neg hp, List.length_cons]
   constructor
   ·intro e; omega
   ·intro e; exact absurd (e a List.mem_cons_self) hp
theorem filter_none {α : Type} (p : α → Bool) (l : List α) : (l.filter p).length = 0 ↔ ∀ x ∈ l, p x = false := by
 rw [List.length_eq_zero_iff, List.filter_eq_nil_iff]
 constructor
 ·intro h x hx; exact Bool.eq_false_iff.2 (h x hx)
 ·intro h x hx; rw [h x hx]; decide
theorem verd_eq (l1 : List S110) {ts : List (List Int)} (h : ts ≠ []) (w : Int) : verdL (boundsL (fun x => missN l1 (pad x) w) ts) = verdR l1 ts w := by
 obtain ⟨k1, ⟨x, hx, k2⟩, ⟨y, hy, k3⟩⟩ := boundsL_spec (fun x => missN l1 (pad x) w) h
 unfold verdL verdR
 have hall : (0 < (boundsL (fun x => missN l1 (pad x) w) ts).1) ↔ (ts.filter fun x => missB l1 x w).length = ts.length := by
  rw [filter_all]
  constructor
  ·intro e z hz
   have := (k1 z hz).1
   unfold missB
   exact decide_eq_true (by omega)
  ·intro e
   have h2 := of_decide_eq_true (e x hx)
   rw [← k2]; exact h2
 have hnone : ((boundsL (fun x => missN l1 (pad x) w) ts).2 = 0) ↔ (ts.filter fun x => missB l1 x w).length = 0 := by
  rw [filter_none]
  constructor
  ·intro e z hz
   have := (k1 z hz).2
   unfold missB
   exact decide_eq_false (by omega)
  ·intro e
   have h2 := of_decide_eq_false (e y hy)
   have h3 := missN_nonneg l1 (pad y) w
   omega
 by_cases e1 : 0 < (boundsL (fun x => missN l1 (pad x) w) ts).1
 ·rw [if_pos e1, if_pos (hall.1 e1)]
 ·rw [if_neg e1, if_neg (fun e => e1 (hall.2 e))]
  by_cases e2 : (boundsL (fun x => missN l1 (pad x) w) ts).2 = 0
  ·rw [if_pos e2, if_pos (hnone.1 e2)]
  ·rw [if_neg e2, if_neg (fun e => e2 (hnone.2 e))]
end Go.Proofs.Ytnbbbeghgomnoaa.X
namespace Go.Proofs.Ytnbbbeghgomnoaa.X
open Go.RowKit Go.Proofs.YtnbbbeghgomnoaaW.PrintWords Go.Proofs.YtnbbbeghgomnoaaW.PrintLast Go.Proofs.YtnbbbeghgomnoaaW.PrintMore
theorem whoP_any (n1 : Nat) (ts : List (List Int)) (i w : Nat) (hi : i < n1) : whoP n1 ts i w = ts.any (fun x => pad x i == (w : Int)) := by
  unfold whoP manyS
  rw [if_pos ⟨by omega, by omega⟩, Int.toNat_natCast, Bool.eq_iff_iff, decide_eq_true_eq, List.any_eq_true]
  constructor
  · intro h
    obtain ⟨x, hx⟩ := List.exists_mem_of_length_pos (by omega : 0 < (ts.filter fun xs => pad xs i == (w : Int)).length)
    rw [List.mem_filter] at hx
    exact ⟨x, hx.1, hx.2⟩
  · rintro ⟨x, h1, h2⟩
    have := List.length_pos_of_mem (List.mem_filter.2 ⟨h1, h2⟩ : x ∈ ts.filter fun xs => pad xs i == (w : Int))
    omega
theorem whoseL_len (n0 n1 : Nat) (ts : List (List Int)) : (whoseL n0 n1 ts).length = n1 := by simp [whoseL]
theorem whoseL_get (n0 n1 : Nat) (ts : List (List Int)) (i : Nat) (hi : i < n1) : (whoseL n0 n1 ts).getD i [] = sel (whoP n1 ts i) n0 := by
  unfold whoseL
  rw [List.getD_eq_getElem?_getD, List.getElem?_map, List.getElem?_range hi]; rfl
theorem whose_mem {n0 n1 : Nat} {ts : List (List Int)} {i : Nat} (hi : i < n1) (hts : ∀ x ∈ ts, 0 ≤ pad x i ∧ pad x i < n0) (v : Int) : v ∈ (whoseL n0 n1 ts).getD i [] ↔ ∃ x ∈ ts, pad x i = v := by
  rw [whoseL_get _ _ _ _ hi, sel_mem]
  constructor
  · rintro ⟨k, hk, hp, rfl⟩
    rw [whoP_any _ _ _ _ hi, List.any_eq_true] at hp
    obtain ⟨x, hx, he⟩ := hp
    exact ⟨x, hx, eq_of_beq he⟩
  · rintro ⟨x, hx, rfl⟩
    obtain ⟨h0, h1⟩ := hts x hx
    refine ⟨(pad x i).toNat, by omega, ?_, by omega⟩
    rw [whoP_any _ _ _ _ hi, List.any_eq_true]
    exact ⟨x, hx, beq_iff_eq.2 (by omega)⟩
theorem truths_own {l0 : List S109} {l1 : List S110} {wg : Int} {x : List Int} (h : x ∈ truthsL l0 l1 wg) (i : Nat) (hi : i < l1.length) : 0 ≤ pad x i ∧ pad x i < l0.length := allL_owners l0 l1 x (truths_mem h) i hi
theorem missL_get (l1 : List S110) (ts : List (List Int)) (n i : Nat) (hi : i < n) : rd (missL l1 ts n) (i : Int) = verdL (boundsL (fun x => missN l1 (pad x) (i : Int)) ts) := by
  rw [rd_nat]
  unfold missL
  rw [List.getD_eq_getElem?_getD, List.getElem?_map, List.getElem?_range hi]; rfl
theorem verd_one {l1 : List S110} {ts : List (List Int)} (h : ts ≠ []) (w : Int) : verdL (boundsL (fun x => missN l1 (pad x) w) ts) = 1 ↔ ∀ x ∈ ts, missB l1 x w = true := by
  rw [verd_eq l1 h]
  unfold verdR
  by_cases h1 : (ts.filter fun x => missB l1 x w).length = ts.length
  · rw [if_pos h1]
    exact ⟨fun _ => (filter_all _ _).1 h1, fun _ => rfl⟩
  · rw [if_neg h1]
    constructor
    · intro h2
      split at h2 <;> omega
    · intro h2
      exact absurd ((filter_all _ _).2 h2) h1
theorem verd_two {l1 : List S110} {ts : List (List Int)} (h : ts ≠ []) (w : Int) : verdL (boundsL (fun x => missN l1 (pad x) w) ts) = 2 ↔ ∀ x ∈ ts, missB l1 x w = false := by
  rw [verd_eq l1 h]
  unfold verdR
  by_cases h1 : (ts.filter fun x => missB l1 x w).length = ts.length
  · rw [if_pos h1]
    refine ⟨fun h2 => by omega, fun h2 => ?_⟩
    obtain ⟨x, hx⟩ := List.exists_mem_of_ne_nil _ h
    have := (filter_all _ _).1 h1 x hx
    rw [h2 x hx] at this
    cases this
  · rw [if_neg h1]
    by_cases h2 : (ts.filter fun x => missB l1 x w).length = 0
    · rw [if_pos h2]
      exact ⟨fun _ => (filter_none _ _).1 h2, fun _ => rfl⟩
    · rw [if_neg h2]
      exact ⟨fun h3 => by omega, fun h3 => absurd ((filter_none _ _).2 h3) h2⟩
theorem verd_in (r : Int × Int) : verdL r = 1 ∨ verdL r = 2 ∨ verdL r = 3 := by
  unfold verdL
  split
  · exact .inl rfl
  · split
    · exact .inr (.inl rfl)
    · exact .inr (.inr rfl)
end Go.Proofs.Ytnbbbeghgomnoaa.X
namespace Go.Proofs.Ytnbbbeghgomnoaa.X
open Go.RowKit Go.Proofs.YtnbbbeghgomnoaaW.PrintWords Go.Proofs.YtnbbbeghgomnoaaW.PrintLast Go.Proofs.YtnbbbeghgomnoaaW.PrintMore
structure Same (L1 L1' : List S110) : Prop where
  len : L1'.length = L1.length
  mks : ∀ i, (L1'.getD i z110).f0 = (L1.getD i z110).f0
theorem Same.opts {L1 L1' : List S110} (h : Same L1 L1') (L0 : List S109) : optsL L0 L1' = optsL L0 L1 := by
  funext i
  unfold optsL
  rw [h.mks i]
theorem Same.all {L1 L1' : List S110} (h : Same L1 L1') (L0 : List S109) : allL L0 L1' = allL L0 L1 := by
  unfold allL
  rw [h.opts L0, h.len]
theorem Same.truths {L1 L1' : List S110} (h : Same L1 L1') (L0 : List S109) (wg : Int) : truthsL L0 L1' wg = truthsL L0 L1 wg := by
  unfold truthsL
  rw [h.all L0, h.len]
theorem Same.val {L1 L1' : List S110} (h : Same L1 L1') {L0 : List S109} {wg : Int} (hv : Val L0 L1 wg) (hb : ∀ i, i < L1'.length → okIn (L1'.getD i z110).f1 0 ((L0.length : Int) - 1) = true) : Val L0 L1' wg := by
  refine ⟨hv.n0, by rw [h.len]; exact hv.n1, hv.wg0, hv.wg1, hv.ws, ?_, ?_⟩
  · rw [List.all_eq_true]
    intro z hz
    obtain ⟨i, hi, rfl⟩ := List.mem_iff_getElem.1 hz
    have e' : L1'[i] = L1'.getD i z110 := by rw [List.getD_eq_getElem?_getD, List.getElem?_eq_getElem hi]; rfl
    have hi2 : i < L1.length := by rw [← h.len]; exact hi
    have hp := List.all_eq_true.1 hv.ps (L1.getD i z110) (getD_mem L1 i z110 hi2)
    unfold okP at hp ⊢
    rw [Bool.and_eq_true, Bool.and_eq_true] at hp ⊢
    rw [e', h.mks i]
    exact ⟨⟨hp.1.1, hb i hi⟩, hp.2⟩
  · have hm := hv.mn
    rw [manyT_eq] at hm ⊢
    rw [h.all L0]; exact hm
end Go.Proofs.Ytnbbbeghgomnoaa.X
namespace Go.Proofs.Ytnbbbeghgomnoaa.X
open Go.RowKit Go.Proofs.YtnbbbeghgomnoaaW.PrintWords Go.Proofs.YtnbbbeghgomnoaaW.PrintLast Go.Proofs.YtnbbbeghgomnoaaW.PrintMore
attribute [local go_sem] max2_int min2_int max_two min_two max_three min_three max_four min_four
set_option linter.unusedVariables false
set_option linter.unusedSimpArgs false
def posserlaw03_ready.f (k : Nat) (l0_0 : List (S85)) (l0_1 : List (S71)) (a0_2 : Int) : Option (Bool) := (posserlaw03_Thin.f k l0_0 l0_1 a0_2).bind fun t444 => (if t444 = true then ((posserref03_Fault.f k l0_0 l0_1 a0_2).bind fun t445 => (some (t445 == 0))) else (some false))
set_option maxHeartbeats 8000000 in
set_option maxRecDepth 100000 in
theorem posserlaw03_ready.calls (k : Nat) (A0_0 : Option Addr) (c0_0 : Nat) (l0_0 : List (S85)) (A0_1 : Option Addr) (c0_1 : Nat) (l0_1 : List (S71)) (a0_2 : Int) (r : Bool) (w : World) (hr0_0 : Kd.C k85 w A0_0 l0_0.length l0_0) (hc0_0 : l0_0.length ≤ c0_0) (hr0_1 : Kd.C k71 w A0_1 l0_1.length l0_1) (hc0_1 : l0_1.length ≤ c0_1) (h : posserlaw03_ready.f k l0_0 l0_1 a0_2 = some r) :
  Calls Try.prog 47 #[.agg #[.slice A0_0 l0_0.length c0_0, .slice A0_1 l0_1.length c0_1, .int .i64 a0_2]] w fun e w' => e = .returned (.bool r) ∧ Below w.heap.size w w' := by
 have hu25 := Try.underlying25
 have HR0_0 := Aside0.mk hr0_0
 have HC0_0 := Aside0.mk hc0_0
 clear hr0_0 hc0_0
 have HR0_1 := Aside0.mk hr0_1
 have HC0_1 := Aside0.mk hc0_1
 clear hr0_1 hc0_1
 have HB := Aside0.mk (Below.refl w.heap.size w)
 have H : ((posserlaw03_Thin.f k l0_0 l0_1 a0_2).bind fun t444 => (if t444 = true then ((posserref03_Fault.f k l0_0 l0_1 a0_2).bind fun t445 => (some (t445 == 0))) else (some false))) = some r := h
 clear h
 replace H := Option.bind_eq_some_iff.mp H
 obtain ⟨t444, A20, H⟩ := H
 replace H : (if t444 = true then ((posserref03_Fault.f k l0_0 l0_1 a0_2).bind fun t445 => (some (t445 == 0))) else (some false)) = some r := H
 have A2 := Aside0.mk A20
 clear A20
 by_cases c3 : t444 = true
 ·subst c3
  have H1 : ((posserref03_Fault.f k l0_0 l0_1 a0_2).bind fun t445 => (some (t445 == 0))) = some r := by rw [if_pos rfl] at H; exact H
  clear H
  have H := H1
  clear H1
  replace H := Option.bind_eq_some_iff.mp H
  obtain ⟨t445, A40, H⟩ := H
  replace H : (some (t445 == 0)) = some r := H
  have A4 := Aside0.mk A40
  clear A40
  obtain rfl := Option.some.inj H
  go_enter Try.func47, Try.ntmps47
  go_wp2_with (first | ((with_reducible refine gate_dst (N := 1) rfl ?_); refine sbox (N := 1) #[.slice A0_0 l0_0.length c0_0, .slice A0_1 l0_1.length c0_1, .int .i64 a0_2] 25 ?_; intro gb443 hg w5 hbox hb; have BK443 := Aside0.mk (hbox); have GW443 := Aside0.mk (sge hg HB : w.heap.size ≤ gb443); have GE443 := Aside0.mk (sge hg HB : w.heap.size ≤ gb443); replace HB := Aside0.mk (sbs HB hb); clear hb hbox hg; have hcz6_0 := sc 0 BK443; have hcz6_1 := sc 1 BK443; have hcz6_2 := sc 2 BK443; have hfz6_0 := blk_frozen BK443.out 0; have hfz6_1 := blk_frozen BK443.out 1; have hfz6_2 := blk_frozen BK443.out 2) | ((with_reducible refine gate_callee (f := 20) rfl ?_); refine goesL_ (some 4) rfl rfl Try.func20 (by kernel_rfl) rfl #[.agg #[.slice A0_0 l0_0.length c0_0, .slice A0_1 l0_1.length c0_1, .int .i64 a0_2]] rfl (by (try simp only [List.map_toArray, List.map_cons, List.map_nil]); first | done | rfl | (simp only [List.length_drop, List.length_take]; rfl)) ?_; (with_reducible refine (posserlaw03_Thin.calls k _ _ l0_0 _ _ l0_1 a0_2 true _ ?side1 ?side2 ?side3 ?side4 A2.out).mono ?_); (case side1 => exact sCb HR0_0 HB); (case side2 => exact HC0_0.out); (case side3 => exact sCb HR0_1 HB); (case side4 => exact HC0_1.out); rintro e w7 ⟨rfl, hb⟩; refine ⟨_, rfl, ?_⟩; replace BK443 := Aside0.mk (sbb BK443 hb); replace HB := Aside0.mk (sbs1 HB GE443 hb); (try clear hb); (try clear hb2); (try clear hk); (try clear hi); have hcz8_0 := sc 0 BK443; have hcz8_1 := sc 1 BK443; have hcz8_2 := sc 2 BK443; have hfz8_0 := blk_frozen BK443.out 0; have hfz8_1 := blk_frozen BK443.out 1; have hfz8_2 := blk_frozen BK443.out 2) | (go_at_call 75; (with_reducible refine (posserref03_Fault.calls k _ _ l0_0 _ _ l0_1 a0_2 t445 _ ?side1 ?side2 ?side3 ?side4 A4.out).mono ?_); (case side1 => exact sCb HR0_0 HB); (case side2 => exact HC0_0.out); (case side3 => exact sCb HR0_1 HB); (case side4 => exact HC0_1.out); rintro e w9 ⟨rfl, hb⟩; replace BK443 := Aside0.mk (sbb BK443 hb); replace HB := Aside0.mk (sbs1 HB GE443 hb); (try clear hb); (try clear hb2); (try clear hk); (try clear hi)))
  go_ret
  exact ⟨by first | rfl | (simp [errW_none, errW_some] <;> rfl) | (simp [*, errW_none, errW_some] <;> rfl), (sbe1 HB GE443)⟩
 ·replace c3 := Bool.eq_false_iff.mpr c3
  subst c3
  have H1 : (some false) = some r := by rw [if_neg (show ¬ (false = true) by decide)] at H; exact H
  clear H
  have H := H1
  clear H1
  obtain rfl := Option.some.inj H
  go_enter Try.func47, Try.ntmps47
  go_wp2_with (first | ((with_reducible refine gate_dst (N := 1) rfl ?_); refine sbox (N := 1) #[.slice A0_0 l0_0.length c0_0, .slice A0_1 l0_1.length c0_1, .int .i64 a0_2] 25 ?_; intro gb443 hg w10 hbox hb; have BK443 := Aside0.mk (hbox); have GW443 := Aside0.mk (sge hg HB : w.heap.size ≤ gb443); have GE443 := Aside0.mk (sge hg HB : w.heap.size ≤ gb443); replace HB := Aside0.mk (sbs HB hb); clear hb hbox hg; have hcz11_0 := sc 0 BK443; have hcz11_1 := sc 1 BK443; have hcz11_2 := sc 2 BK443; have hfz11_0 := blk_frozen BK443.out 0; have hfz11_1 := blk_frozen BK443.out 1; have hfz11_2 := blk_frozen BK443.out 2) | ((with_reducible refine gate_callee (f := 20) rfl ?_); refine goesL_ (some 4) rfl rfl Try.func20 (by kernel_rfl) rfl #[.agg #[.slice A0_0 l0_0.length c0_0, .slice A0_1 l0_1.length c0_1, .int .i64 a0_2]] rfl (by (try simp only [List.map_toArray, List.map_cons, List.map_nil]); first | done | rfl | (simp only [List.length_drop, List.length_take]; rfl)) ?_; (with_reducible refine (posserlaw03_Thin.calls k _ _ l0_0 _ _ l0_1 a0_2 false _ ?side1 ?side2 ?side3 ?side4 A2.out).mono ?_); (case side1 => exact sCb HR0_0 HB); (case side2 => exact HC0_0.out); (case side3 => exact sCb HR0_1 HB); (case side4 => exact HC0_1.out); rintro e w12 ⟨rfl, hb⟩; refine ⟨_, rfl, ?_⟩; replace BK443 := Aside0.mk (sbb BK443 hb); replace HB := Aside0.mk (sbs1 HB GE443 hb); (try clear hb); (try clear hb2); (try clear hk); (try clear hi)))
  go_ret
  exact ⟨by first | rfl | (simp [errW_none, errW_some] <;> rfl) | (simp [*, errW_none, errW_some] <;> rfl), (sbe1 HB GE443)⟩
end Go.Proofs.Ytnbbbeghgomnoaa.X
namespace Go.Proofs.Ytnbbbeghgomnoaa.X
open Go.RowKit Go.Proofs.YtnbbbeghgomnoaaW.PrintWords Go.Proofs.YtnbbbeghgomnoaaW.PrintLast Go.Proofs.YtnbbbeghgomnoaaW.PrintMore
theorem rdy_ev (l0 : List S85) (l1 : List S71) (wg : Int) : Evt (fun k => posserlaw03_ready.f k l0 l1 wg) (thinR l0 l1 && decide (checkT (l0.map cvW) (l1.map cvP) wg = 0)) := by
  obtain ⟨K, hK⟩ := Thin_ev l0 l1 wg
  cases hth : thinR l0 l1 with
  | false =>
    refine ⟨K, fun k hk => ?_⟩
    have g1 := hK k hk
    dsimp only at g1 ⊢
    unfold posserlaw03_ready.f
    rw [g1, hth]; rfl
  | true =>
    obtain ⟨L, hL⟩ := Fault_ev wg (thinR_iff.1 hth)
    refine ⟨K + L, fun k hk => ?_⟩
    have g1 := hK k (by omega)
    have g2 := hL k (by omega)
    dsimp only at g1 g2 ⊢
    unfold posserlaw03_ready.f
    rw [g1, hth]
    simp only [Option.bind_some, if_true]
    rw [g2]
    simp only [Option.bind_some]
    exact congrArg some (by rw [Bool.true_and, Bool.eq_iff_iff, beq_iff_eq, decide_eq_true_eq])
theorem rdy_cases (l0 : List S85) (l1 : List S71) (wg : Int) : (∃ K, ∀ k, K ≤ k → posserlaw03_ready.f k l0 l1 wg = some false) ∨ (VR l0 l1 wg ∧ checkT (l0.map cvW) (l1.map cvP) wg = 0 ∧ ∃ K, ∀ k, K ≤ k → posserlaw03_ready.f k l0 l1 wg = some true) := by
  have h := rdy_ev l0 l1 wg
  by_cases h1 : thinR l0 l1 = true
  · by_cases h2 : checkT (l0.map cvW) (l1.map cvP) wg = 0
    · rw [h1, decide_eq_true h2] at h
      exact .inr ⟨VR.of (thinR_iff.1 h1) h2, h2, h⟩
    · rw [h1, decide_eq_false h2] at h
      exact .inl h
  · rw [Bool.eq_false_iff.2 h1] at h
    exact .inl h
theorem ask_cases {l0 : List S109} {l1 : List S110} {wg : Int} (hc : checkT l0 l1 wg = 0) : (askE l0 l1 wg = 11 ∧ truthsL l0 l1 wg = []) ∨ (askE l0 l1 wg = 0 ∧ truthsL l0 l1 wg ≠ []) := by
  unfold askE
  rw [if_neg (fun h => h hc)]
  by_cases h : truthsL l0 l1 wg = []
  · rw [if_pos h]; exact .inl ⟨rfl, h⟩
  · rw [if_neg h]; exact .inr ⟨rfl, h⟩
theorem u8_rng {a : Int} (h : (Lit.int .u8 a).wf = true) : 0 ≤ a ∧ a ≤ 255 := by
  unfold Lit.wf at h
  rw [Bool.and_eq_true, decide_eq_true_eq, decide_eq_true_eq] at h
  exact ⟨h.1, h.2⟩
theorem tmod_nat (a n : Int) (h0 : 0 ≤ a) (h1 : a ≤ 65535) (hn : 0 < n) : Int.tmod (wrap64 a) n = ((a.toNat % n.toNat : Nat) : Int) := by
  rw [wrap64_id _ (by omega) (by omega), Int.tmod_eq_emod_of_nonneg h0]
  obtain ⟨x, rfl⟩ : ∃ x : Nat, a = (x : Int) := ⟨a.toNat, by omega⟩
  obtain ⟨y, rfl⟩ : ∃ y : Nat, n = (y : Int) := ⟨n.toNat, by omega⟩
  rw [Int.toNat_natCast, Int.toNat_natCast]; rfl
end Go.Proofs.Ytnbbbeghgomnoaa.X
namespace Go.Proofs.Ytnbbbeghgomnoaa.X
open Go.RowKit Go.Proofs.YtnbbbeghgomnoaaW.PrintWords Go.Proofs.YtnbbbeghgomnoaaW.PrintLast Go.Proofs.YtnbbbeghgomnoaaW.PrintMore
attribute [local go_sem] max2_int min2_int max_two min_two max_three min_three max_four min_four
set_option linter.unusedVariables false
set_option linter.unusedSimpArgs false
def posserlaw03_subset.l0 : Nat → List Int → List Int → Int → Option (Bool)
  | 0, _, _, _ => none
  | k + 1, x0, x1, x5 => if x5 < (x0.length : Int) then (if 0 ≤ x5 then ((posserref03_Has.f k x1 (rd x0 x5)).bind fun t636 => (if t636 = true then (posserlaw03_subset.l0 k x0 x1 (wrap64 (x5 + 1))) else (some false))) else (none)) else (some true)
def posserlaw03_subset.f (k : Nat) (l0 : List Int) (l1 : List Int) : Option (Bool) := posserlaw03_subset.l0 k l0 l1 0
set_option maxHeartbeats 8000000 in
set_option maxRecDepth 100000 in
theorem posserlaw03_subset.calls (k : Nat) (A0 : Option Addr) (c0 : Nat) (l0 : List Int) (A1 : Option Addr) (c1 : Nat) (l1 : List Int) (r : Bool) (w : World) (hr0 : Kd.C (Kd.int .i64) w A0 l0.length l0) (hc0 : l0.length ≤ c0) (hr1 : Kd.C (Kd.int .i64) w A1 l1.length l1) (hc1 : l1.length ≤ c1) (h : posserlaw03_subset.f k l0 l1 = some r) :
    Calls Try.prog 85 #[.slice A0 l0.length c0, .slice A1 l1.length c1] w fun e w' => e = .returned (.bool r) ∧ Drawn0 w w' := by
  have HR0 := Aside0.mk hr0
  have HC0 := Aside0.mk hc0
  clear hr0 hc0
  have HR1 := Aside0.mk hr1
  have HC1 := Aside0.mk hc1
  clear hr1 hc1
  have H : (posserlaw03_subset.l0 k l0 l1 0) = some r := h
  clear h
  have H' := Aside0.mk H
  clear H
  go_enter Try.func85, Try.ntmps85
  go_wp2
  go_loopg [5] k (fun kq v5 w' => ∃ (x5_1 : Int), v5 = .int .i64 x5_1 ∧ Aside0 (posserlaw03_subset.l0 kq l0 l1 x5_1 = some r) ∧ Aside0 (kq ≤ k) ∧ Drawn0 w w')
  case atStart => exact ⟨(0), (by first | rfl | (simp; done) | (simp [*]; done)), H', ⟨Nat.le_refl _⟩, by repeat (first | exact Drawn0.refl _ | apply Drawn0.step)⟩
  case round =>
    clear H'
    try clear c1
    try clear p2
    obtain ⟨x5_1, rfl, HA, HK1, ⟨m1, rfl⟩⟩ := hrel
    cases gk with
    | zero => exact absurd HA.out (by simp [posserlaw03_subset.l0])
    | succ k1 =>
      have H := HA.out
      clear HA
      simp only [posserlaw03_subset.l0] at H
      by_cases c3 : x5_1 < (l0.length : Int)
      · rw [if_pos c3] at H
        have c3b0 : decide (x5_1 < (l0.length : Int)) = true := decide_eq_true c3
        clear c3
        by_cases c4 : 0 ≤ x5_1
        · rw [if_pos c4] at H
          have c4b0 : decide (0 ≤ x5_1) = true := decide_eq_true c4
          clear c4
          replace H := Option.bind_eq_some_iff.mp H
          obtain ⟨t636, A50, H⟩ := H
          replace H : (if t636 = true then (posserlaw03_subset.l0 k1 l0 l1 (wrap64 (x5_1 + 1))) else (some false)) = some r := H
          have A5 := Aside0.mk A50
          clear A50
          by_cases c6 : t636 = true
          · subst c6
            have H1 : (posserlaw03_subset.l0 k1 l0 l1 (wrap64 (x5_1 + 1))) = some r := by rw [if_pos rfl] at H; exact H
            clear H
            have H := H1
            clear H1
            have H' := Aside0.mk H
            clear H
            have p635 : 0 ≤ (x5_1 : Int) := of_decide_eq_true (by first | (with_reducible assumption) | assumption)
            have q635 : x5_1 < (l0.length : Int) := of_decide_eq_true (by first | (with_reducible assumption) | assumption)
            obtain ⟨ad635, e635, hx635_0⟩ := Kd.at_int HR0.out x5_1 p635 q635
            cases e635
            replace p635 := eq_true p635
            replace q635 := eq_true q635
            go_wp2_with (first | ((with_reducible refine gate_callee (f := 56) rfl ?_); refine goesL_ (some 17) rfl rfl Try.func56 (by kernel_rfl) rfl #[.slice A1 l1.length c1, .int .i64 (rd l0 x5_1)] rfl (by (try simp only [List.map_toArray, List.map_cons, List.map_nil]); first | done | rfl | (simp only [List.length_drop, List.length_take]; rfl)) ?_; (with_reducible refine (posserref03_Has.calls k1 _ _ l1 (rd l0 x5_1) true _ ?side1 ?side2 A5.out).mono ?_); (case side1 => repeat (first | exact HR1.out | (with_reducible refine Kd.C_alloc ?_ _) | (with_reducible refine Kd.C_drewN ?_ _) | (with_reducible refine Kd.C_drew ?_))); (case side2 => exact HC1.out); rintro e w' ⟨rfl, ⟨nd, rfl⟩⟩; refine ⟨_, rfl, ?_⟩))
            go_roundg k1
            case measure => have := HK1.out; omega
            case rel => exact ⟨(wrap64 (x5_1 + 1)), (by first | rfl | (simp; done) | (simp [*]; done)), H', ⟨by have := HK1.out; omega⟩, by repeat (first | exact Drawn0.refl _ | apply Drawn0.step)⟩
          · replace c6 := Bool.eq_false_iff.mpr c6
            subst c6
            have H1 : (some false) = some r := by rw [if_neg (show ¬ (false = true) by decide)] at H; exact H
            clear H
            have H := H1
            clear H1
            obtain rfl := Option.some.inj H
            have p635 : 0 ≤ (x5_1 : Int) := of_decide_eq_true (by first | (with_reducible assumption) | assumption)
            have q635 : x5_1 < (l0.length : Int) := of_decide_eq_true (by first | (with_reducible assumption) | assumption)
            obtain ⟨ad635, e635, hx635_0⟩ := Kd.at_int HR0.out x5_1 p635 q635
            cases e635
            replace p635 := eq_true p635
            replace q635 := eq_true q635
            go_wp2_with (first | ((with_reducible refine gate_callee (f := 56) rfl ?_); refine goesL_ (some 17) rfl rfl Try.func56 (by kernel_rfl) rfl #[.slice A1 l1.length c1, .int .i64 (rd l0 x5_1)] rfl (by (try simp only [List.map_toArray, List.map_cons, List.map_nil]); first | done | rfl | (simp only [List.length_drop, List.length_take]; rfl)) ?_; (with_reducible refine (posserref03_Has.calls k1 _ _ l1 (rd l0 x5_1) false _ ?side1 ?side2 A5.out).mono ?_); (case side1 => repeat (first | exact HR1.out | (with_reducible refine Kd.C_alloc ?_ _) | (with_reducible refine Kd.C_drewN ?_ _) | (with_reducible refine Kd.C_drew ?_))); (case side2 => exact HC1.out); rintro e w' ⟨rfl, ⟨nd, rfl⟩⟩; refine ⟨_, rfl, ?_⟩))
            go_ret
            exact ⟨by first | rfl | (simp; done) | (simp [*]; done), by repeat (first | exact Drawn0.refl _ | apply Drawn0.step)⟩
        · rw [if_neg c4] at H
          exact absurd H (by simp)
      · rw [if_neg c3] at H
        have c3b0 : decide (x5_1 < (l0.length : Int)) = false := decide_eq_false c3
        clear c3
        obtain rfl := Option.some.inj H
        go_wp2
        go_ret
        exact ⟨by first | rfl | (simp; done) | (simp [*]; done), by repeat (first | exact Drawn0.refl _ | apply Drawn0.step)⟩
end Go.Proofs.Ytnbbbeghgomnoaa.X
namespace Go.Proofs.Ytnbbbeghgomnoaa.X
open Go.RowKit Go.Proofs.YtnbbbeghgomnoaaW.PrintWords Go.Proofs.YtnbbbeghgomnoaaW.PrintLast Go.Proofs.YtnbbbeghgomnoaaW.PrintMore
attribute [local go_sem] max2_int min2_int max_two min_two max_three min_three max_four min_four
set_option linter.unusedVariables false
set_option linter.unusedSimpArgs false
def posserlaw03_subsets.l0 : Nat → List (List Int) → List (List Int) → Int → Option (Bool)
  | 0, _, _, _ => none
  | k + 1, x0, x1, x5 => if x5 < (x0.length : Int) then (if 0 ≤ x5 then (if x5 < (x1.length : Int) then ((posserlaw03_subset.f k (rd_L1 x0 x5) (rd_L1 x1 x5)).bind fun t639 => (if t639 = true then (posserlaw03_subsets.l0 k x0 x1 (wrap64 (x5 + 1))) else (some false))) else (none)) else (none)) else (some true)
def posserlaw03_subsets.f (k : Nat) (l0 : List (List Int)) (l1 : List (List Int)) : Option (Bool) := if (l0.length : Int) = (l1.length : Int) then (posserlaw03_subsets.l0 k l0 l1 0) else (some false)
set_option maxHeartbeats 8000000 in
set_option maxRecDepth 100000 in
theorem posserlaw03_subsets.calls (k : Nat) (A0 : Option Addr) (c0 : Nat) (l0 : List (List Int)) (A1 : Option Addr) (c1 : Nat) (l1 : List (List Int)) (r : Bool) (w : World) (hr0 : Kd.C (Kd.slice 3 (Kd.int .i64)) w A0 l0.length l0) (hc0 : l0.length ≤ c0) (hr1 : Kd.C (Kd.slice 3 (Kd.int .i64)) w A1 l1.length l1) (hc1 : l1.length ≤ c1) (h : posserlaw03_subsets.f k l0 l1 = some r) :
    Calls Try.prog 52 #[.slice A0 l0.length c0, .slice A1 l1.length c1] w fun e w' => e = .returned (.bool r) ∧ Drawn0 w w' := by
  have HR0 := Aside0.mk hr0
  have HC0 := Aside0.mk hc0
  clear hr0 hc0
  have HR1 := Aside0.mk hr1
  have HC1 := Aside0.mk hc1
  clear hr1 hc1
  have H : (if (l0.length : Int) = (l1.length : Int) then (posserlaw03_subsets.l0 k l0 l1 0) else (some false)) = some r := h
  clear h
  by_cases c3 : (l0.length : Int) = (l1.length : Int)
  · rw [if_pos c3] at H
    have c3b0 : ((l0.length : Int) == (l1.length : Int)) = true := beq_iff_eq.mpr c3
    have c3b1 : ((l0.length : Int) != (l1.length : Int)) = false := bne_eq_false_iff_eq.mpr c3
    have c3b2 : (l0.length == l1.length) = true := by first | simpa using c3 | (simp at c3 ⊢; omega)
    clear c3
    have H' := Aside0.mk H
    clear H
    go_enter Try.func52, Try.ntmps52
    go_wp2
    repeat (go_quiet (fail); try go_wp2)
    go_loopg [5] k (fun kq v5 w' => ∃ (x5_1 : Int), v5 = .int .i64 x5_1 ∧ Aside0 (posserlaw03_subsets.l0 kq l0 l1 x5_1 = some r) ∧ Aside0 (kq ≤ k) ∧ Drawn0 w w')
    case atStart => exact ⟨(0), (by first | rfl | (simp; done) | (simp [*]; done)), H', ⟨Nat.le_refl _⟩, by repeat (first | exact Drawn0.refl _ | apply Drawn0.step)⟩
    case round =>
      clear H'
      try clear c1
      try clear p2
      try clear c3
      try clear c3b0
      try clear c3b1
      try clear c3b2
      obtain ⟨x5_1, rfl, HA, HK1, ⟨m1, rfl⟩⟩ := hrel
      cases gk with
      | zero => exact absurd HA.out (by simp [posserlaw03_subsets.l0])
      | succ k1 =>
        have H := HA.out
        clear HA
        simp only [posserlaw03_subsets.l0] at H
        by_cases c4 : x5_1 < (l0.length : Int)
        · rw [if_pos c4] at H
          have c4b0 : decide (x5_1 < (l0.length : Int)) = true := decide_eq_true c4
          clear c4
          by_cases c5 : 0 ≤ x5_1
          · rw [if_pos c5] at H
            have c5b0 : decide (0 ≤ x5_1) = true := decide_eq_true c5
            clear c5
            by_cases c6 : x5_1 < (l1.length : Int)
            · rw [if_pos c6] at H
              have c6b0 : decide (x5_1 < (l1.length : Int)) = true := decide_eq_true c6
              clear c6
              replace H := Option.bind_eq_some_iff.mp H
              obtain ⟨t639, A70, H⟩ := H
              replace H : (if t639 = true then (posserlaw03_subsets.l0 k1 l0 l1 (wrap64 (x5_1 + 1))) else (some false)) = some r := H
              have A7 := Aside0.mk A70
              clear A70
              by_cases c8 : t639 = true
              · subst c8
                have H1 : (posserlaw03_subsets.l0 k1 l0 l1 (wrap64 (x5_1 + 1))) = some r := by rw [if_pos rfl] at H; exact H
                clear H
                have H := H1
                clear H1
                have H' := Aside0.mk H
                clear H
                have p637 : 0 ≤ (x5_1 : Int) := of_decide_eq_true (by first | (with_reducible assumption) | assumption)
                have q637 : x5_1 < (l0.length : Int) := of_decide_eq_true (by first | (with_reducible assumption) | assumption)
                obtain ⟨ad637, A637_0, c637_0, e637, hx637_0, hl637_0, hi637_0⟩ := at_L1 HR0.out x5_1 p637 q637
                cases e637
                have HR637_0 := Aside0.mk hi637_0
                have HC637_0 := Aside0.mk hl637_0
                clear hi637_0 hl637_0
                replace p637 := eq_true p637
                replace q637 := eq_true q637
                have p638 : 0 ≤ (x5_1 : Int) := of_decide_eq_true (by first | (with_reducible assumption) | assumption)
                have q638 : x5_1 < (l1.length : Int) := of_decide_eq_true (by first | (with_reducible assumption) | assumption)
                obtain ⟨ad638, A638_0, c638_0, e638, hx638_0, hl638_0, hi638_0⟩ := at_L1 HR1.out x5_1 p638 q638
                cases e638
                have HR638_0 := Aside0.mk hi638_0
                have HC638_0 := Aside0.mk hl638_0
                clear hi638_0 hl638_0
                replace p638 := eq_true p638
                replace q638 := eq_true q638
                go_wp2_with (first | (go_at_call 85; (with_reducible refine (posserlaw03_subset.calls k1 _ _ (rd_L1 l0 x5_1) _ _ (rd_L1 l1 x5_1) true _ ?side1 ?side2 ?side3 ?side4 A7.out).mono ?_); (case side1 => repeat (first | exact HR637_0.out | (with_reducible refine Kd.C_alloc ?_ _) | (with_reducible refine Kd.C_drewN ?_ _) | (with_reducible refine Kd.C_drew ?_))); (case side2 => exact HC637_0.out); (case side3 => repeat (first | exact HR638_0.out | (with_reducible refine Kd.C_alloc ?_ _) | (with_reducible refine Kd.C_drewN ?_ _) | (with_reducible refine Kd.C_drew ?_))); (case side4 => exact HC638_0.out); rintro e w' ⟨rfl, ⟨nd, rfl⟩⟩; (try first | exact ⟨rfl, _, World.drewN_drewN _ _ _⟩ | exact ⟨rfl, _, Eq.trans (World.drewN_drewN _ _ _) (congrArg (World.drewN _) (Nat.add_assoc _ _ _))⟩)))
                repeat (go_quiet (first | (go_at_call 85; (with_reducible refine (posserlaw03_subset.calls k1 _ _ (rd_L1 l0 x5_1) _ _ (rd_L1 l1 x5_1) true _ ?side1 ?side2 ?side3 ?side4 A7.out).mono ?_); (case side1 => repeat (first | exact HR637_0.out | (with_reducible refine Kd.C_alloc ?_ _) | (with_reducible refine Kd.C_drewN ?_ _) | (with_reducible refine Kd.C_drew ?_))); (case side2 => exact HC637_0.out); (case side3 => repeat (first | exact HR638_0.out | (with_reducible refine Kd.C_alloc ?_ _) | (with_reducible refine Kd.C_drewN ?_ _) | (with_reducible refine Kd.C_drew ?_))); (case side4 => exact HC638_0.out); rintro e w' ⟨rfl, ⟨nd, rfl⟩⟩; (try first | exact ⟨rfl, _, World.drewN_drewN _ _ _⟩ | exact ⟨rfl, _, Eq.trans (World.drewN_drewN _ _ _) (congrArg (World.drewN _) (Nat.add_assoc _ _ _))⟩))); try go_wp2_with (first | (go_at_call 85; (with_reducible refine (posserlaw03_subset.calls k1 _ _ (rd_L1 l0 x5_1) _ _ (rd_L1 l1 x5_1) true _ ?side1 ?side2 ?side3 ?side4 A7.out).mono ?_); (case side1 => repeat (first | exact HR637_0.out | (with_reducible refine Kd.C_alloc ?_ _) | (with_reducible refine Kd.C_drewN ?_ _) | (with_reducible refine Kd.C_drew ?_))); (case side2 => exact HC637_0.out); (case side3 => repeat (first | exact HR638_0.out | (with_reducible refine Kd.C_alloc ?_ _) | (with_reducible refine Kd.C_drewN ?_ _) | (with_reducible refine Kd.C_drew ?_))); (case side4 => exact HC638_0.out); rintro e w' ⟨rfl, ⟨nd, rfl⟩⟩; (try first | exact ⟨rfl, _, World.drewN_drewN _ _ _⟩ | exact ⟨rfl, _, Eq.trans (World.drewN_drewN _ _ _) (congrArg (World.drewN _) (Nat.add_assoc _ _ _))⟩))))
                go_roundg k1
                case measure => have := HK1.out; omega
                case rel => exact ⟨(wrap64 (x5_1 + 1)), (by first | rfl | (simp; done) | (simp [*]; done)), H', ⟨by have := HK1.out; omega⟩, by repeat (first | exact Drawn0.refl _ | apply Drawn0.step)⟩
              · replace c8 := Bool.eq_false_iff.mpr c8
                subst c8
                have H1 : (some false) = some r := by rw [if_neg (show ¬ (false = true) by decide)] at H; exact H
                clear H
                have H := H1
                clear H1
                obtain rfl := Option.some.inj H
                have p637 : 0 ≤ (x5_1 : Int) := of_decide_eq_true (by first | (with_reducible assumption) | assumption)
                have q637 : x5_1 < (l0.length : Int) := of_decide_eq_true (by first | (with_reducible assumption) | assumption)
                obtain ⟨ad637, A637_0, c637_0, e637, hx637_0, hl637_0, hi637_0⟩ := at_L1 HR0.out x5_1 p637 q637
                cases e637
                have HR637_0 := Aside0.mk hi637_0
                have HC637_0 := Aside0.mk hl637_0
                clear hi637_0 hl637_0
                replace p637 := eq_true p637
                replace q637 := eq_true q637
                have p638 : 0 ≤ (x5_1 : Int) := of_decide_eq_true (by first | (with_reducible assumption) | assumption)
                have q638 : x5_1 < (l1.length : Int) := of_decide_eq_true (by first | (with_reducible assumption) | assumption)
                obtain ⟨ad638, A638_0, c638_0, e638, hx638_0, hl638_0, hi638_0⟩ := at_L1 HR1.out x5_1 p638 q638
                cases e638
                have HR638_0 := Aside0.mk hi638_0
                have HC638_0 := Aside0.mk hl638_0
                clear hi638_0 hl638_0
                replace p638 := eq_true p638
                replace q638 := eq_true q638
                go_wp2_with (first | (go_at_call 85; (with_reducible refine (posserlaw03_subset.calls k1 _ _ (rd_L1 l0 x5_1) _ _ (rd_L1 l1 x5_1) false _ ?side1 ?side2 ?side3 ?side4 A7.out).mono ?_); (case side1 => repeat (first | exact HR637_0.out | (with_reducible refine Kd.C_alloc ?_ _) | (with_reducible refine Kd.C_drewN ?_ _) | (with_reducible refine Kd.C_drew ?_))); (case side2 => exact HC637_0.out); (case side3 => repeat (first | exact HR638_0.out | (with_reducible refine Kd.C_alloc ?_ _) | (with_reducible refine Kd.C_drewN ?_ _) | (with_reducible refine Kd.C_drew ?_))); (case side4 => exact HC638_0.out); rintro e w' ⟨rfl, ⟨nd, rfl⟩⟩; (try first | exact ⟨rfl, _, World.drewN_drewN _ _ _⟩ | exact ⟨rfl, _, Eq.trans (World.drewN_drewN _ _ _) (congrArg (World.drewN _) (Nat.add_assoc _ _ _))⟩)))
                repeat (go_quiet (first | (go_at_call 85; (with_reducible refine (posserlaw03_subset.calls k1 _ _ (rd_L1 l0 x5_1) _ _ (rd_L1 l1 x5_1) false _ ?side1 ?side2 ?side3 ?side4 A7.out).mono ?_); (case side1 => repeat (first | exact HR637_0.out | (with_reducible refine Kd.C_alloc ?_ _) | (with_reducible refine Kd.C_drewN ?_ _) | (with_reducible refine Kd.C_drew ?_))); (case side2 => exact HC637_0.out); (case side3 => repeat (first | exact HR638_0.out | (with_reducible refine Kd.C_alloc ?_ _) | (with_reducible refine Kd.C_drewN ?_ _) | (with_reducible refine Kd.C_drew ?_))); (case side4 => exact HC638_0.out); rintro e w' ⟨rfl, ⟨nd, rfl⟩⟩; (try first | exact ⟨rfl, _, World.drewN_drewN _ _ _⟩ | exact ⟨rfl, _, Eq.trans (World.drewN_drewN _ _ _) (congrArg (World.drewN _) (Nat.add_assoc _ _ _))⟩))); try go_wp2_with (first | (go_at_call 85; (with_reducible refine (posserlaw03_subset.calls k1 _ _ (rd_L1 l0 x5_1) _ _ (rd_L1 l1 x5_1) false _ ?side1 ?side2 ?side3 ?side4 A7.out).mono ?_); (case side1 => repeat (first | exact HR637_0.out | (with_reducible refine Kd.C_alloc ?_ _) | (with_reducible refine Kd.C_drewN ?_ _) | (with_reducible refine Kd.C_drew ?_))); (case side2 => exact HC637_0.out); (case side3 => repeat (first | exact HR638_0.out | (with_reducible refine Kd.C_alloc ?_ _) | (with_reducible refine Kd.C_drewN ?_ _) | (with_reducible refine Kd.C_drew ?_))); (case side4 => exact HC638_0.out); rintro e w' ⟨rfl, ⟨nd, rfl⟩⟩; (try first | exact ⟨rfl, _, World.drewN_drewN _ _ _⟩ | exact ⟨rfl, _, Eq.trans (World.drewN_drewN _ _ _) (congrArg (World.drewN _) (Nat.add_assoc _ _ _))⟩))))
                go_ret
                exact ⟨by first | rfl | (simp; done) | (simp [*]; done), by repeat (first | exact Drawn0.refl _ | apply Drawn0.step)⟩
            · rw [if_neg c6] at H
              exact absurd H (by simp)
          · rw [if_neg c5] at H
            exact absurd H (by simp)
        · rw [if_neg c4] at H
          have c4b0 : decide (x5_1 < (l0.length : Int)) = false := decide_eq_false c4
          clear c4
          obtain rfl := Option.some.inj H
          go_wp2
          repeat (go_quiet (fail); try go_wp2)
          go_ret
          exact ⟨by first | rfl | (simp; done) | (simp [*]; done), by repeat (first | exact Drawn0.refl _ | apply Drawn0.step)⟩
  · rw [if_neg c3] at H
    have c3b0 : ((l0.length : Int) == (l1.length : Int)) = false := beq_eq_false_iff_ne.mpr c3
    have c3b1 : ((l0.length : Int) != (l1.length : Int)) = true := bne_iff_ne.mpr c3
    have c3b2 : (l0.length == l1.length) = false := by first | simpa using c3 | (simp at c3 ⊢; omega)
    obtain rfl := Option.some.inj H
    go_enter Try.func52, Try.ntmps52
    go_wp2
    repeat (go_quiet (fail); try go_wp2)
    go_ret
    exact ⟨by first | rfl | (simp; done) | (simp [*]; done), by repeat (first | exact Drawn0.refl _ | apply Drawn0.step)⟩
end Go.Proofs.Ytnbbbeghgomnoaa.X
namespace Go.Proofs.Ytnbbbeghgomnoaa.X
open Go.RowKit Go.Proofs.YtnbbbeghgomnoaaW.PrintWords Go.Proofs.YtnbbbeghgomnoaaW.PrintLast Go.Proofs.YtnbbbeghgomnoaaW.PrintMore
attribute [local go_sem] max2_int min2_int max_two min_two max_three min_three max_four min_four
set_option linter.unusedVariables false
set_option linter.unusedSimpArgs false
mutual
def posserlaw03_kept.l0 : Nat → List Int → List Int → Int → Option (Bool)
  | 0, _, _, _ => none
  | k + 1, x0, x1, x5 => if x5 < (x0.length : Int) then (posserlaw03_kept.j1 k x0 x1 x5 (decide (x5 < (x1.length : Int)))) else (posserlaw03_kept.j1 k x0 x1 x5 false)
def posserlaw03_kept.j1 : Nat → List Int → List Int → Int → Bool → Option (Bool)
  | 0, _, _, _, _ => none
  | k + 1, x0, x1, x5, x15 => if x15 = true then (if 0 ≤ x5 then (if x5 < (x0.length : Int) then (if (rd x0 x5) = 3 then (posserlaw03_kept.l0 k x0 x1 (wrap64 (x5 + 1))) else (if x5 < (x1.length : Int) then (if (rd x0 x5) = (rd x1 x5) then (posserlaw03_kept.l0 k x0 x1 (wrap64 (x5 + 1))) else (some false)) else (none))) else (none)) else (none)) else (some ((x0.length : Int) == (x1.length : Int)))
end
def posserlaw03_kept.f (k : Nat) (l0 : List Int) (l1 : List Int) : Option (Bool) := posserlaw03_kept.l0 k l0 l1 0
set_option maxHeartbeats 8000000 in
set_option maxRecDepth 100000 in
theorem posserlaw03_kept.calls (k : Nat) (A0 : Option Addr) (c0 : Nat) (l0 : List Int) (A1 : Option Addr) (c1 : Nat) (l1 : List Int) (r : Bool) (w : World) (hr0 : Kd.C (Kd.int .i64) w A0 l0.length l0) (hc0 : l0.length ≤ c0) (hr1 : Kd.C (Kd.int .i64) w A1 l1.length l1) (hc1 : l1.length ≤ c1) (h : posserlaw03_kept.f k l0 l1 = some r) :
    Calls Try.prog 53 #[.slice A0 l0.length c0, .slice A1 l1.length c1] w fun e w' => e = .returned (.bool r) ∧ Drawn0 w w' := by
  have HR0 := Aside0.mk hr0
  have HC0 := Aside0.mk hc0
  clear hr0 hc0
  have HR1 := Aside0.mk hr1
  have HC1 := Aside0.mk hc1
  clear hr1 hc1
  have H : (posserlaw03_kept.l0 k l0 l1 0) = some r := h
  clear h
  have H' := Aside0.mk H
  clear H
  go_enter Try.func53, Try.ntmps53
  go_wp2
  repeat (go_quiet (fail); try go_wp2)
  go_loopg [5] k (fun kq v5 w' => ∃ (x5_1 : Int), v5 = .int .i64 x5_1 ∧ Aside0 (posserlaw03_kept.l0 kq l0 l1 x5_1 = some r) ∧ Aside0 (kq ≤ k) ∧ Drawn0 w w')
  case atStart => exact ⟨(0), (by first | rfl | (simp; done) | (simp [*]; done)), H', ⟨Nat.le_refl _⟩, by repeat (first | exact Drawn0.refl _ | apply Drawn0.step)⟩
  case round =>
    clear H'
    try clear c1
    try clear p2
    obtain ⟨x5_1, rfl, HA, HK1, ⟨m1, rfl⟩⟩ := hrel
    cases gk with
    | zero => exact absurd HA.out (by simp [posserlaw03_kept.l0])
    | succ k1 =>
      have H := HA.out
      clear HA
      simp only [posserlaw03_kept.l0] at H
      have HC3 := Aside0.mk H
      clear H
      go_upto_region 2 with (fail)
      repeat (go_quiet (fail); go_upto_region 2 with (fail))
      go_cut [15] (fun v15 wc => ∃ (kq : Nat) (x15_2 : Bool), v15 = .bool x15_2 ∧ Aside0 (posserlaw03_kept.j1 kq l0 l1 x5_1 x15_2 = some r) ∧ Aside0 (kq ≤ k1) ∧ Drawn0 w wc)
      case first =>
        have H := HC3.out
        clear HC3
        by_cases c4 : x5_1 < (l0.length : Int)
        · rw [if_pos c4] at H
          have c4b0 : decide (x5_1 < (l0.length : Int)) = true := decide_eq_true c4
          clear c4
          (first | rw [c4b0] | (simp only [i64_w, i32_w]; rw [c4b0]) | skip)
          have H' := Aside0.mk H
          clear H
          go_wp2
          repeat (go_quiet (fail); try go_wp2)
          go_meet
          case rel => exact ⟨_, (decide (x5_1 < (l1.length : Int))), (by first | rfl | (simp; done) | (simp [*]; done)), H', ⟨by have := HK1.out; first | omega | exact Nat.le_refl _⟩, by repeat (first | exact Drawn0.refl _ | apply Drawn0.step)⟩
        · rw [if_neg c4] at H
          have c4b0 : decide (x5_1 < (l0.length : Int)) = false := decide_eq_false c4
          clear c4
          (first | rw [c4b0] | (simp only [i64_w, i32_w]; rw [c4b0]) | skip)
          have H' := Aside0.mk H
          clear H
          go_wp2
          repeat (go_quiet (fail); try go_wp2)
          go_meet
          case rel => exact ⟨_, (false), (by first | rfl | (simp; done) | (simp [*]; done)), H', ⟨by have := HK1.out; first | omega | exact Nat.le_refl _⟩, by repeat (first | exact Drawn0.refl _ | apply Drawn0.step)⟩
      case rest =>
        clear HC3
        try clear c1
        try clear p2
        try clear c4
        try clear c4b0
        try clear p2
        obtain ⟨kq, x15_2, rfl, HA, HJ2, ⟨mc2, rfl⟩⟩ := hcut
        cases kq with
        | zero => exact absurd HA.out (by simp [posserlaw03_kept.j1])
        | succ kj2 =>
          have H := HA.out
          clear HA
          simp only [posserlaw03_kept.j1] at H
          by_cases c5 : x15_2 = true
          · subst c5
            have H1 : (if 0 ≤ x5_1 then (if x5_1 < (l0.length : Int) then (if (rd l0 x5_1) = 3 then (posserlaw03_kept.l0 kj2 l0 l1 (wrap64 (x5_1 + 1))) else (if x5_1 < (l1.length : Int) then (if (rd l0 x5_1) = (rd l1 x5_1) then (posserlaw03_kept.l0 kj2 l0 l1 (wrap64 (x5_1 + 1))) else (some false)) else (none))) else (none)) else (none)) = some r := by rw [if_pos rfl] at H; exact H
            clear H
            have H := H1
            clear H1
            by_cases c6 : 0 ≤ x5_1
            · rw [if_pos c6] at H
              have c6b0 : decide (0 ≤ x5_1) = true := decide_eq_true c6
              clear c6
              by_cases c7 : x5_1 < (l0.length : Int)
              · rw [if_pos c7] at H
                have c7b0 : decide (x5_1 < (l0.length : Int)) = true := decide_eq_true c7
                clear c7
                by_cases c8 : (rd l0 x5_1) = 3
                · rw [if_pos c8] at H
                  have c8b0 : ((rd l0 x5_1) == 3) = true := beq_iff_eq.mpr c8
                  have c8b1 : ((rd l0 x5_1) != 3) = false := bne_eq_false_iff_eq.mpr c8
                  clear c8
                  have H' := Aside0.mk H
                  clear H
                  have p640 : 0 ≤ (x5_1 : Int) := of_decide_eq_true (by first | (with_reducible assumption) | assumption)
                  have q640 : x5_1 < (l0.length : Int) := of_decide_eq_true (by first | (with_reducible assumption) | assumption)
                  obtain ⟨ad640, e640, hx640_0⟩ := Kd.at_int HR0.out x5_1 p640 q640
                  cases e640
                  replace p640 := eq_true p640
                  replace q640 := eq_true q640
                  go_wp2
                  repeat (go_quiet (fail); try go_wp2)
                  go_roundg kj2
                  case measure => have := HK1.out; have := HJ2.out; omega
                  case rel => exact ⟨(wrap64 (x5_1 + 1)), (by first | rfl | (simp; done) | (simp [*]; done)), H', ⟨by have := HK1.out; have := HJ2.out; omega⟩, by repeat (first | exact Drawn0.refl _ | apply Drawn0.step)⟩
                · rw [if_neg c8] at H
                  have c8b0 : ((rd l0 x5_1) == 3) = false := beq_eq_false_iff_ne.mpr c8
                  have c8b1 : ((rd l0 x5_1) != 3) = true := bne_iff_ne.mpr c8
                  by_cases c9 : x5_1 < (l1.length : Int)
                  · rw [if_pos c9] at H
                    have c9b0 : decide (x5_1 < (l1.length : Int)) = true := decide_eq_true c9
                    clear c9
                    by_cases c10 : (rd l0 x5_1) = (rd l1 x5_1)
                    · rw [if_pos c10] at H
                      have c10b0 : ((rd l0 x5_1) == (rd l1 x5_1)) = true := beq_iff_eq.mpr c10
                      have c10b1 : ((rd l0 x5_1) != (rd l1 x5_1)) = false := bne_eq_false_iff_eq.mpr c10
                      clear c10
                      have H' := Aside0.mk H
                      clear H
                      have p640 : 0 ≤ (x5_1 : Int) := of_decide_eq_true (by first | (with_reducible assumption) | assumption)
                      have q640 : x5_1 < (l0.length : Int) := of_decide_eq_true (by first | (with_reducible assumption) | assumption)
                      obtain ⟨ad640, e640, hx640_0⟩ := Kd.at_int HR0.out x5_1 p640 q640
                      cases e640
                      replace p640 := eq_true p640
                      replace q640 := eq_true q640
                      have p641 : 0 ≤ (x5_1 : Int) := of_decide_eq_true (by first | (with_reducible assumption) | assumption)
                      have q641 : x5_1 < (l0.length : Int) := of_decide_eq_true (by first | (with_reducible assumption) | assumption)
                      obtain ⟨ad641, e641, hx641_0⟩ := Kd.at_int HR0.out x5_1 p641 q641
                      obtain rfl : ad640 = ad641 := (by injection e641)
                      replace p641 := eq_true p641
                      replace q641 := eq_true q641
                      have p642 : 0 ≤ (x5_1 : Int) := of_decide_eq_true (by first | (with_reducible assumption) | assumption)
                      have q642 : x5_1 < (l1.length : Int) := of_decide_eq_true (by first | (with_reducible assumption) | assumption)
                      obtain ⟨ad642, e642, hx642_0⟩ := Kd.at_int HR1.out x5_1 p642 q642
                      cases e642
                      replace p642 := eq_true p642
                      replace q642 := eq_true q642
                      go_wp2
                      repeat (go_quiet (fail); try go_wp2)
                      go_roundg kj2
                      case measure => have := HK1.out; have := HJ2.out; omega
                      case rel => exact ⟨(wrap64 (x5_1 + 1)), (by first | rfl | (simp; done) | (simp [*]; done)), H', ⟨by have := HK1.out; have := HJ2.out; omega⟩, by repeat (first | exact Drawn0.refl _ | apply Drawn0.step)⟩
                    · rw [if_neg c10] at H
                      have c10b0 : ((rd l0 x5_1) == (rd l1 x5_1)) = false := beq_eq_false_iff_ne.mpr c10
                      have c10b1 : ((rd l0 x5_1) != (rd l1 x5_1)) = true := bne_iff_ne.mpr c10
                      obtain rfl := Option.some.inj H
                      have p640 : 0 ≤ (x5_1 : Int) := of_decide_eq_true (by first | (with_reducible assumption) | assumption)
                      have q640 : x5_1 < (l0.length : Int) := of_decide_eq_true (by first | (with_reducible assumption) | assumption)
                      obtain ⟨ad640, e640, hx640_0⟩ := Kd.at_int HR0.out x5_1 p640 q640
                      cases e640
                      replace p640 := eq_true p640
                      replace q640 := eq_true q640
                      have p641 : 0 ≤ (x5_1 : Int) := of_decide_eq_true (by first | (with_reducible assumption) | assumption)
                      have q641 : x5_1 < (l0.length : Int) := of_decide_eq_true (by first | (with_reducible assumption) | assumption)
                      obtain ⟨ad641, e641, hx641_0⟩ := Kd.at_int HR0.out x5_1 p641 q641
                      obtain rfl : ad640 = ad641 := (by injection e641)
                      replace p641 := eq_true p641
                      replace q641 := eq_true q641
                      have p642 : 0 ≤ (x5_1 : Int) := of_decide_eq_true (by first | (with_reducible assumption) | assumption)
                      have q642 : x5_1 < (l1.length : Int) := of_decide_eq_true (by first | (with_reducible assumption) | assumption)
                      obtain ⟨ad642, e642, hx642_0⟩ := Kd.at_int HR1.out x5_1 p642 q642
                      cases e642
                      replace p642 := eq_true p642
                      replace q642 := eq_true q642
                      go_wp2
                      repeat (go_quiet (fail); try go_wp2)
                      go_ret
                      exact ⟨by first | rfl | (simp; done) | (simp [*]; done), by repeat (first | exact Drawn0.refl _ | apply Drawn0.step)⟩
                  · rw [if_neg c9] at H
                    exact absurd H (by simp)
              · rw [if_neg c7] at H
                exact absurd H (by simp)
            · rw [if_neg c6] at H
              exact absurd H (by simp)
          · replace c5 := Bool.eq_false_iff.mpr c5
            subst c5
            have H1 : (some ((l0.length : Int) == (l1.length : Int))) = some r := by rw [if_neg (show ¬ (false = true) by decide)] at H; exact H
            clear H
            have H := H1
            clear H1
            obtain rfl := Option.some.inj H
            go_wp2
            repeat (go_quiet (fail); try go_wp2)
            go_ret
            exact ⟨by first | rfl | (simp; done) | (simp [*]; done), by repeat (first | exact Drawn0.refl _ | apply Drawn0.step)⟩
end Go.Proofs.Ytnbbbeghgomnoaa.X
namespace Go.Proofs.Ytnbbbeghgomnoaa.X
open Go.RowKit Go.Proofs.YtnbbbeghgomnoaaW.PrintWords Go.Proofs.YtnbbbeghgomnoaaW.PrintLast Go.Proofs.YtnbbbeghgomnoaaW.PrintMore
theorem subset_yes (a b : List Int) (ha : a.length ≤ 1000000) (hb : b.length ≤ 1000000) (h : ∀ v ∈ a, v ∈ b) : Evt (fun k => posserlaw03_subset.f k a b) true := by
  have main : ∀ (d i : Nat), i + d = a.length → Evt (fun k => posserlaw03_subset.l0 k a b (i : Int)) true := by
    intro d
    induction d with
    | zero =>
      intro i hi
      refine Evt.succ (Evt.const true) (fun k => ?_)
      simp only [posserlaw03_subset.l0]
      rw [if_neg (by omega)]
    | succ d ih =>
      intro i hi
      have hlt : i < a.length := by omega
      have hm : b.contains a[i] = true := List.contains_iff_mem.2 (h _ (List.getElem_mem hlt))
      have h1 := Has_ev b a[i] (by omega)
      rw [hm] at h1
      refine Evt.succ (Evt.bind (g := fun t k => if t = true then posserlaw03_subset.l0 k a b ((i + 1 : Nat) : Int) else some false) h1 (ih (i + 1) (by omega))) (fun k => ?_)
      simp only [posserlaw03_subset.l0]
      rw [if_pos (by omega), if_pos (by omega), rd_get a i hlt, wrap_succ i _ hlt (by omega)]
  exact main a.length 0 (by omega)
theorem subsets_yes (a b : List (List Int)) (hl : a.length = b.length) (h30 : a.length ≤ 1000000) (ha : ∀ i, i < a.length → (a.getD i []).length ≤ 1000000) (hb : ∀ i, i < a.length → (b.getD i []).length ≤ 1000000) (h : ∀ i, i < a.length → ∀ v ∈ a.getD i [], v ∈ b.getD i []) : Evt (fun k => posserlaw03_subsets.f k a b) true := by
  have main : ∀ (d i : Nat), i + d = a.length → Evt (fun k => posserlaw03_subsets.l0 k a b (i : Int)) true := by
    intro d
    induction d with
    | zero =>
      intro i hi
      refine Evt.succ (Evt.const true) (fun k => ?_)
      simp only [posserlaw03_subsets.l0]
      rw [if_neg (by omega)]
    | succ d ih =>
      intro i hi
      have hlt : i < a.length := by omega
      have h1 := subset_yes (a.getD i []) (b.getD i []) (ha i hlt) (hb i hlt) (h i hlt)
      refine Evt.succ (Evt.bind (g := fun t k => if t = true then posserlaw03_subsets.l0 k a b ((i + 1 : Nat) : Int) else some false) h1 (ih (i + 1) (by omega))) (fun k => ?_)
      simp only [posserlaw03_subsets.l0]
      rw [if_pos (by omega), if_pos (by omega), if_pos (by omega), wrap_succ i _ hlt (by omega)]; rfl
  have h0 := main a.length 0 (by omega)
  refine h0.congr (fun k => ?_)
  unfold posserlaw03_subsets.f
  rw [if_pos (by omega)]; rfl
theorem kept_yes (a b : List Int) (hl : a.length = b.length) (h30 : a.length ≤ 1000000) (h : ∀ i : Nat, i < a.length → rd a (i : Int) = 3 ∨ rd a (i : Int) = rd b (i : Int)) : Evt (fun k => posserlaw03_kept.f k a b) true := by
  have main : ∀ (d i : Nat), i + d = a.length → Evt (fun k => posserlaw03_kept.l0 k a b (i : Int)) true := by
    intro d
    induction d with
    | zero =>
      intro i hi
      refine Evt.succ (h := fun k => posserlaw03_kept.j1 k a b (i : Int) false) ?_ (fun k => ?_)
      · refine Evt.succ (Evt.const true) (fun k => ?_)
        simp only [posserlaw03_kept.j1]
        rw [if_neg (by decide)]
        exact congrArg some (by rw [beq_iff_eq]; omega)
      · simp only [posserlaw03_kept.l0]
        rw [if_neg (by omega)]
    | succ d ih =>
      intro i hi
      have hlt : i < a.length := by omega
      have hn := ih (i + 1) (by omega)
      refine Evt.succ (h := fun k => posserlaw03_kept.j1 k a b (i : Int) true) ?_ (fun k => ?_)
      · refine Evt.succ hn (fun k => ?_)
        simp only [posserlaw03_kept.j1]
        rw [if_pos trivial, if_pos (by omega), if_pos (by omega)]
        by_cases h3 : rd a (i : Int) = 3
        · rw [if_pos h3, wrap_succ i _ hlt (by omega)]
        · have h4 := (h i hlt).resolve_left h3
          rw [if_neg h3, if_pos (by omega), if_pos h4, wrap_succ i _ hlt (by omega)]
      · simp only [posserlaw03_kept.l0]
        rw [if_pos (by omega), decide_eq_true (by omega)]
  exact main a.length 0 (by omega)
end Go.Proofs.Ytnbbbeghgomnoaa.X
namespace Go.Proofs.Ytnbbbeghgomnoaa.X
open Go.RowKit Go.Proofs.YtnbbbeghgomnoaaW.PrintWords Go.Proofs.YtnbbbeghgomnoaaW.PrintLast Go.Proofs.YtnbbbeghgomnoaaW.PrintMore
abbrev RI (w : World) (b : Nat) (v : Value) (xs : List Int) : Prop := Kd.R (Kd.int .i64) 3 w b (fun _ => True) v xs
abbrev RL (w : World) (b : Nat) (v : Value) (xs : List (List Int)) : Prop := Kd.R (Kd.slice 3 (Kd.int .i64)) 39 w b (fun _ => True) v xs
section
variable {A0 : Option Addr} {c0 : Nat} {l0 : List S109} {A1 : Option Addr} {c1 : Nat} {l1 : List S110} {w : World}
theorem tab_c {A0 : Option Addr} {c0 : Nat} {l0 : List S85} {A1 : Option Addr} {c1 : Nat} {l1 : List S71} (wg : Int) {w : World} (ht : RTab A0 c0 l0 A1 c1 l1 w) {L0 : List S109} {L1 : List S110} (h0 : l0.map cvW = L0) (h1 : l1.map cvP = L1) :
    Calls Try.prog 23 #[.agg #[.slice A0 l0.length c0, .slice A1 l1.length c1, .int .i64 wg]] w fun e w' => ∃ B0 d0 B1 d1, e = .returned (.agg #[.slice B0 L0.length d0, .slice B1 L1.length d1, .int .i64 wg]) ∧ Tab B0 d0 L0 B1 d1 L1 w' ∧ Below w.heap.size w w' := by
  subst h0 h1
  refine (Table_calls wg ht).mono ?_
  rintro e w' ⟨B0, d0, B1, d1, rfl, h, _, _, hb⟩
  exact ⟨B0, d0, B1, d1, by simp only [List.length_map], h, hb⟩
theorem whose_c (wg : Int) (ht : Tab A0 c0 l0 A1 c1 l1 w) (he : askE l0 l1 wg = 0) {ws : List (List Int)} (hs : whoseL l0.length l1.length (truthsL l0 l1 wg) = ws) :
    Calls Try.prog 22 #[.agg #[.slice A0 l0.length c0, .slice A1 l1.length c1, .int .i64 wg]] w fun e w' => ∃ v, e = .returned (.tuple #[v, .int .i64 0]) ∧ RL w' w.heap.size v ws ∧ Below w.heap.size w w' := by
  subst hs
  exact Whose_ok wg ht he
theorem whose_n (wg : Int) (ht : Tab A0 c0 l0 A1 c1 l1 w) (he : askE l0 l1 wg = 11) :
    Calls Try.prog 22 #[.agg #[.slice A0 l0.length c0, .slice A1 l1.length c1, .int .i64 wg]] w fun e w' => e = .returned (.tuple #[.slice none 0 0, .int .i64 11]) ∧ Below w.heap.size w w' := by
  have h := Whose_e wg ht (by omega)
  rwa [he] at h
theorem miss_c (wg : Int) (ht : Tab A0 c0 l0 A1 c1 l1 w) (he : askE l0 l1 wg = 0) {vs : List Int} (hs : missL l1 (truthsL l0 l1 wg) l0.length = vs) :
    Calls Try.prog 27 #[.agg #[.slice A0 l0.length c0, .slice A1 l1.length c1, .int .i64 wg]] w fun e w' => ∃ v, e = .returned (.tuple #[v, .int .i64 0]) ∧ RI w' w.heap.size v vs ∧ Below w.heap.size w w' := by
  subst hs
  exact Misses_ok wg ht he
theorem ast_c (wg : Int) (ht : Tab A0 c0 l0 A1 c1 l1 w) (he : askE l0 l1 wg = 0) {lo hi : Int} (hs : boundsL (fun x => lostN l1 (pad x)) (truthsL l0 l1 wg) = (lo, hi)) :
    Calls Try.prog 37 #[.agg #[.slice A0 l0.length c0, .slice A1 l1.length c1, .int .i64 wg]] w fun e w' => e = .returned (.tuple #[.agg #[.int .i64 lo, .int .i64 hi], .int .i64 0]) ∧ Below w.heap.size w w' := by
  have h := Astray_ok wg ht he
  rwa [hs] at h
end
end Go.Proofs.Ytnbbbeghgomnoaa.X
namespace Go.Proofs.Ytnbbbeghgomnoaa.X
open Go.RowKit Go.Proofs.YtnbbbeghgomnoaaW.PrintWords Go.Proofs.YtnbbbeghgomnoaaW.PrintLast Go.Proofs.YtnbbbeghgomnoaaW.PrintMore
def PB {α : Type} (d : Kd α) (w : World) (cs : Array Value) (xs : List α) : Prop := ∀ j x, xs[j]? = some x → ∃ c : List Value, d.K w x c ∧ ∀ i u, c[i]? = some u → cs[j * d.sz + i]? = some u
structure RX {α : Type} (d : Kd α) (e : Nat) (w W : World) (b : Nat) (A : Option Addr) (c : Nat) (xs : List α) : Prop where
  le : xs.length ≤ c
  sm : xs.length ≤ 1000
  blk : xs.length = 0 ∨ ∃ g cs, A = some ⟨g, 0, none⟩ ∧ b ≤ g ∧ W.heap[g]? = some (.cells cs e (0, 0)) ∧ PB d w cs xs
section
variable {α : Type} {d : Kd α} {e : Nat} {w W W' : World} {b : Nat} {A : Option Addr} {c : Nat} {xs : List α}
theorem RX.below (h : RX d e w W b A c xs) (hb : Below W.heap.size W W') : RX d e w W' b A c xs := by
  refine ⟨h.le, h.sm, ?_⟩
  rcases h.blk with h0 | ⟨g, cs, h1, h2, h3, h4⟩
  · exact .inl h0
  · exact .inr ⟨g, cs, h1, h2, blk_below h3 hb, h4⟩
theorem RX.setRow {g' t : Nat} {cs' us : Array Value} (h : RX d e w W b A c xs) (hk : W.heap[g']? = some (.cells cs' t (0, 0))) (ht : e ≠ t) : RX d e w (W.setRow g' us) b A c xs := by
  refine ⟨h.le, h.sm, ?_⟩
  rcases h.blk with h0 | ⟨g, cs, h1, h2, h3, h4⟩
  · exact .inl h0
  · refine .inr ⟨g, cs, h1, h2, (setRow_other W g' g us (fun he => ?_)).trans h3, h4⟩
    subst he
    rw [h3] at hk
    injection hk with hk
    injection hk with _ hk
    exact ht hk
theorem RX.setCell {g' j t : Nat} {cs' : Array Value} {u : Value} (h : RX d e w W b A c xs) (hk : W.heap[g']? = some (.cells cs' t (0, 0))) (ht : e ≠ t) : RX d e w (W.setCell ⟨g', j, none⟩ u) b A c xs := by
  refine ⟨h.le, h.sm, ?_⟩
  rcases h.blk with h0 | ⟨g, cs, h1, h2, h3, h4⟩
  · exact .inl h0
  · refine .inr ⟨g, cs, h1, h2, blk_far h3 (fun he => ?_) u, h4⟩
    have he' : g = g' := he
    subst he'
    rw [h3] at hk
    injection hk with hk
    injection hk with _ hk
    exact ht hk
theorem RX.lower {b' : Nat} (h : RX d e w W b A c xs) (hb : b' ≤ b) : RX d e w W b' A c xs := by
  refine ⟨h.le, h.sm, ?_⟩
  rcases h.blk with h0 | ⟨g, cs, h1, h2, h3, h4⟩
  · exact .inl h0
  · exact .inr ⟨g, cs, h1, Nat.le_trans hb h2, h3, h4⟩
theorem addr0 (g k : Nat) : Addr.add ⟨g, 0, none⟩ k = ⟨g, k, none⟩ := by
  cases k with
  | zero => rfl
  | succ k => simp [Addr.add]
theorem RX.C (h : RX d e w W b A c xs) (hb : Below w.heap.size w W) : d.C W A xs.length xs := by
  refine ⟨rfl, by have := h.sm; omega, fun hp => ?_⟩
  rcases h.blk with h0 | ⟨g, cs, h1, h2, h3, h4⟩
  · omega
  · refine ⟨_, h1, fun j p hj => ?_⟩
    obtain ⟨q, hq, hc⟩ := h4 j p hj
    exact ⟨q, d.K_len hq, d.K_below hb hq, fun i u hu => by rw [addr0]; exact (blk_cell h3 _).trans (hc i u hu)⟩
theorem RX.of {v : Value} {rows : List (List Value)} (hR : (Kd.raw d.sz).R e W b (fun _ => True) v rows) (hl : rows.length = xs.length) (hK : ∀ (j : Nat) (x : α) (r : List Value), xs[j]? = some x → rows[j]? = some r → d.K w x r) (hs : xs.length ≤ 1000) : ∃ A c, v = .slice A xs.length c ∧ RX d e w W b A c xs := by
  obtain ⟨_, inner, ho, hr⟩ := hR
  rcases ho.2 with ⟨rfl, h0⟩ | ⟨g, cap, cur, rfl, hg, hh, hn, _, hz, ht⟩
  · have hx : xs.length = 0 := by rw [← hl]; exact h0
    exact ⟨none, 0, by rw [hx], by rw [hx]; exact Nat.le_refl _, hs, .inl hx⟩
  · refine ⟨some ⟨g, 0, none⟩, cap, by rw [hl], by rw [← hl]; exact hn, hs, .inr ⟨g, cur, rfl, hg, hh, fun j x hx => ?_⟩⟩
    have hj : j < rows.length := by rw [hl]; exact (List.getElem?_eq_some_iff.1 hx).1
    have hrj := List.getElem?_eq_getElem hj
    refine ⟨rows[j], hK j x _ hx hrj, fun i u hu => ?_⟩
    have h1 := hr.2 j _ hrj
    have h2 : (inner.drop (j * d.sz)).take d.sz = rows[j] := h1.1
    rw [← h2, List.getElem?_take] at hu
    split at hu
    · rw [List.getElem?_drop] at hu
      rw [← ht, List.getElem?_take] at hu
      split at hu
      · rw [Array.getElem?_toList] at hu; exact hu
      · cases hu
    · cases hu
end
theorem PB.came {w : World} {cs : Array Value} {xs : List S85} (h : PB k85 w cs xs) (p : Nat) (hp : p < xs.length) (u v : Int) : PB k85 w ((cs.setIfInBounds (p * 3 + 1) (.int .i64 u)).setIfInBounds (p * 3 + 2) (.int .i64 v)) (xs.set p ⟨(xs.getD p z85).f0, ⟨u, v⟩⟩) := by
  have hz : k85.sz = 3 := rfl
  intro j x hx
  rw [List.getElem?_set] at hx
  by_cases hj : p = j
  · subst hj
    rw [if_pos rfl, if_pos hp] at hx
    injection hx with hx
    subst hx
    have hg : xs[p]? = some (xs.getD p z85) := by rw [List.getD_eq_getElem?_getD, List.getElem?_eq_getElem hp]; rfl
    obtain ⟨c, hc, hcs⟩ := h p _ hg
    obtain rfl := k85_open hc
    refine ⟨[.int .i64 (xs.getD p z85).f0, .int .i64 u, .int .i64 v], k85_mk w ⟨(xs.getD p z85).f0, ⟨u, v⟩⟩, fun i y hy => ?_⟩
    have h0 := hcs 0 _ rfl
    have h1 := hcs 1 _ rfl
    have h2 := hcs 2 _ rfl
    rw [hz] at h0 h1 h2 ⊢
    have l1 : p * 3 + 1 < cs.size := (Array.getElem?_eq_some_iff.1 h1).1
    have l2 : p * 3 + 2 < cs.size := (Array.getElem?_eq_some_iff.1 h2).1
    match i, hy with
    | 0, hy =>
      rw [Array.getElem?_setIfInBounds, if_neg (by omega), Array.getElem?_setIfInBounds, if_neg (by omega)]
      injection hy with hy
      rw [← hy]; exact h0
    | 1, hy =>
      rw [Array.getElem?_setIfInBounds, if_neg (by omega), Array.getElem?_setIfInBounds, if_pos rfl, if_pos l1]
      exact hy
    | 2, hy =>
      rw [Array.getElem?_setIfInBounds, if_pos rfl, if_pos (by rw [Array.size_setIfInBounds]; exact l2)]
      exact hy
    | i + 3, hy => simp at hy
  · rw [if_neg hj] at hx
    obtain ⟨c, hc, hcs⟩ := h j x hx
    refine ⟨c, hc, fun i y hy => ?_⟩
    have hi : i < 3 := by
      have h1 := (List.getElem?_eq_some_iff.1 hy).1
      have h2 := k85.K_len hc
      omega
    have := hcs i y hy
    rw [hz] at this ⊢
    rw [Array.getElem?_setIfInBounds, if_neg (by omega), Array.getElem?_setIfInBounds, if_neg (by omega)]
    exact this
theorem RX.open_ {α : Type} {d : Kd α} {e : Nat} {w W : World} {b : Nat} {A : Option Addr} {c : Nat} {xs : List α} (h : RX d e w W b A c xs) (hn : xs.length ≠ 0) : ∃ g cs, A = some ⟨g, 0, none⟩ ∧ b ≤ g ∧ W.heap[g]? = some (.cells cs e (0, 0)) ∧ PB d w cs xs := by
  rcases h.blk with h0 | h1
  · exact absurd h0 hn
  · exact h1
theorem blk_ne {W : World} {g g' t t' : Nat} {cs cs' : Array Value} (h : W.heap[g]? = some (.cells cs t (0, 0))) (hk : W.heap[g']? = some (.cells cs' t' (0, 0))) (ht : t ≠ t') : g ≠ g' := fun he => by
  subst he
  rw [h] at hk
  injection hk with hk
  injection hk with _ hk
  exact ht hk
theorem blk_setRow {W : World} {g g' t t' : Nat} {cs cs' : Array Value} (h : W.heap[g]? = some (.cells cs t (0, 0))) (hk : W.heap[g']? = some (.cells cs' t' (0, 0))) (ht : t ≠ t') (us : Array Value) : (W.setRow g' us).heap[g]? = some (.cells cs t (0, 0)) :=
  (setRow_other W g' g us (blk_ne h hk ht)).trans h
theorem blk_setCell {W : World} {g g' t t' j : Nat} {cs cs' : Array Value} (h : W.heap[g]? = some (.cells cs t (0, 0))) (hk : W.heap[g']? = some (.cells cs' t' (0, 0))) (ht : t ≠ t') (u : Value) : (W.setCell ⟨g', j, none⟩ u).heap[g]? = some (.cells cs t (0, 0)) :=
  blk_far h (p := ⟨g', j, none⟩) (blk_ne h hk ht) u
theorem rows_of {α : Type} {d : Kd α} {w : World} {A : Option Addr} {xs : List α} (h : d.C w A xs.length xs) : ∃ rows : List (List Value), rows.length = xs.length ∧ (Kd.raw d.sz).C w A xs.length rows ∧ ∀ (j : Nat) (x : α) (r : List Value), xs[j]? = some x → rows[j]? = some r → d.K w x r := by
  obtain ⟨rows, h1, h2, h3⟩ := Kd.reads_raw h (fun x c hc => ⟨d.K_len hc, d.K_one hc⟩)
  exact ⟨rows, h1, h2, h3⟩
end Go.Proofs.Ytnbbbeghgomnoaa.X
namespace Go.Proofs.Ytnbbbeghgomnoaa.X
open Go.RowKit Go.Proofs.YtnbbbeghgomnoaaW.PrintWords Go.Proofs.YtnbbbeghgomnoaaW.PrintLast Go.Proofs.YtnbbbeghgomnoaaW.PrintMore
theorem PB.below {α : Type} {d : Kd α} {w W : World} {cs : Array Value} {xs : List α} (h : PB d w cs xs) (hb : Below w.heap.size w W) : PB d W cs xs := fun j x hx => by
  obtain ⟨c, hc, hcs⟩ := h j x hx
  exact ⟨c, d.K_below hb hc, hcs⟩
theorem PB.marks {w : World} {cs : Array Value} {xs : List S71} (h : PB k71 w cs xs) (p : Nat) (hp : p < xs.length) {A : Option Addr} {n : Nat} {ms : List Int} (hl : ms.length ≤ n) (hC : Kd.C (Kd.int .i64) w A ms.length ms) : PB k71 w (cs.setIfInBounds (p * 2) (.slice A ms.length n)) (xs.set p ⟨ms, (xs.getD p z71).f1⟩) := by
  have hz : k71.sz = 2 := rfl
  intro j x hx
  rw [List.getElem?_set] at hx
  by_cases hj : p = j
  · subst hj
    rw [if_pos rfl, if_pos hp] at hx
    injection hx with hx
    subst hx
    have hg : xs[p]? = some (xs.getD p z71) := by rw [List.getD_eq_getElem?_getD, List.getElem?_eq_getElem hp]; rfl
    obtain ⟨c, hc, hcs⟩ := h p _ hg
    obtain ⟨A', n', rfl, hl', hC'⟩ := k71_open hc
    refine ⟨[.slice A ms.length n, .int .i64 (xs.getD p z71).f1], k71_mk w ⟨ms, (xs.getD p z71).f1⟩ hl hC, fun i u hu => ?_⟩
    have h0 := hcs 0 _ rfl
    have h1 := hcs 1 _ rfl
    rw [hz] at h0 h1 ⊢
    match i, hu with
    | 0, hu =>
      have hlt : p * 2 + 0 < cs.size := (Array.getElem?_eq_some_iff.1 h0).1
      rw [Array.getElem?_setIfInBounds, if_pos (by omega), if_pos (by omega)]
      exact hu
    | 1, hu =>
      rw [Array.getElem?_setIfInBounds, if_neg (by omega)]
      injection hu with hu
      rw [← hu]; exact h1
    | i + 2, hu => simp at hu
  · rw [if_neg hj] at hx
    obtain ⟨c, hc, hcs⟩ := h j x hx
    refine ⟨c, hc, fun i u hu => ?_⟩
    have hi : i < 2 := by
      have h1 := (List.getElem?_eq_some_iff.1 hu).1
      have h2 := k71.K_len hc
      omega
    have := hcs i u hu
    rw [hz] at this ⊢
    rw [Array.getElem?_setIfInBounds, if_neg (by omega)]
    exact this
theorem rtabE {A0 : Option Addr} {c0 : Nat} {l0 : List S85} {A1 : Option Addr} {c1 : Nat} {l1 : List S71} {w w6 W : World} {b : Nat} {AX : Option Addr} {cX : Nat} {xs : List S71} (ht : RTab A0 c0 l0 A1 c1 l1 w) (hb : Below w.heap.size w W) (hx : RX k71 71 w6 W b AX cX xs) (he : Below w6.heap.size w6 W) (h1 : xs.length ≤ 30) (hm : ∀ p ∈ xs, p.f0.length ≤ 30) : RTab A0 c0 l0 AX cX xs W :=
  ⟨Kd.C_below ht.r0 hb, ht.h0, hx.C he, hx.le, ht.n0, h1, hm⟩
theorem cutTo39 {A : Option Addr} {c : Nat} {xs : List Int} (hc : xs.length ≤ c) (j : Nat) (hj : j ≤ xs.length) : ∀ W : World, (Instr.slice 39 (.slice A xs.length c) none (some (.int .i64 (j : Int))) none).run Try.prog W = .ok (.slice A j c) W := by
  obtain ⟨i, hi, hs⟩ := Option.map_eq_some_iff.1 info3
  intro W
  rw [cut_to 39 3 .i64 Try.underlying39 hi A xs.length c (j : Int) (by omega) (by omega) hc W, Int.toNat_natCast]
end Go.Proofs.Ytnbbbeghgomnoaa.X
namespace Go.Proofs.Ytnbbbeghgomnoaa.X
open Go.RowKit Go.Proofs.YtnbbbeghgomnoaaW.PrintWords Go.Proofs.YtnbbbeghgomnoaaW.PrintLast Go.Proofs.YtnbbbeghgomnoaaW.PrintMore
theorem marks_at {w : World} {cs : Array Value} {xs : List S71} (h : PB k71 w cs xs) (p : Nat) (hp : p < xs.length) : ∃ A c, cs[p * 2]? = some (.slice A (xs.getD p z71).f0.length c) ∧ (xs.getD p z71).f0.length ≤ c ∧ Kd.C (Kd.int .i64) w A (xs.getD p z71).f0.length (xs.getD p z71).f0 := by
  have hg : xs[p]? = some (xs.getD p z71) := by rw [List.getD_eq_getElem?_getD, List.getElem?_eq_getElem hp]; rfl
  obtain ⟨c, hc, hcs⟩ := h p _ hg
  obtain ⟨A, n, rfl, hl, hC⟩ := k71_open hc
  exact ⟨A, n, hcs 0 _ rfl, hl, hC⟩
set_option maxHeartbeats 4000000 in
set_option maxRecDepth 100000 in
theorem Read_no (k : Nat) {A0 : Option Addr} {c0 : Nat} {l0 : List S85} {A1 : Option Addr} {c1 : Nat} {l1 : List S71} (wg : Int) (a1 a2 : Int) {w : World} (r0 : Kd.C k85 w A0 l0.length l0) (g0 : l0.length ≤ c0) (r1 : Kd.C k71 w A1 l1.length l1) (g1 : l1.length ≤ c1) (hrd : posserlaw03_ready.f k l0 l1 wg = some false) :
    Calls Try.prog 11 #[.agg #[.slice A0 l0.length c0, .slice A1 l1.length c1, .int .i64 wg], .int .u8 a1, .int .u8 a2] w fun e w' => e = .returned (.bool true) ∧ Below w.heap.size w w' := by
  have hu25 := Try.underlying25
  have hu35 := Try.underlying35
  have hu55 := Try.underlying55
  have HR0 := Aside0.mk r0
  have HC0 := Aside0.mk g0
  have HR1 := Aside0.mk r1
  have HC1 := Aside0.mk g1
  clear r0 g0 r1 g1
  have HRD := Aside0.mk hrd
  clear hrd
  have HB := Aside0.mk (Below.refl w.heap.size w)
  go_enter Try.func11, Try.ntmps11
  go_wp2_with (first | ((with_reducible refine gate_dst (N := 3) rfl ?_); refine box_event ?hg (N := 3) ?hd (cs := #[.slice A0 l0.length c0, .slice A1 l1.length c1, .int .i64 wg]) (t := 25) ?hr ?_; (case hd => rfl); (case hg => rfl); (case hr => first | (go_simp; done) | (go_simp; rfl)); intro g3 hg W_ hbox hb; (try have NEg8_g3 := Aside0.mk (show g8 < g3 from by rw [hg]; exact blk_lt BKg8.out)); have GEg3 := Aside0.mk (by rw [hg]; exact HB.out.size : w.heap.size ≤ g3); (try clear hcg3_0 hcg3_1 hcg3_2); (try replace HB := Aside0.mk (below_step HB.out hb)); (try replace HT := Aside0.mk (HT.out.below hb)); (try replace BKg3 := Aside0.mk (blk_below BKg3.out hb)); (try replace BKg8 := Aside0.mk (blk_below BKg8.out hb)); have BKg3 := Aside0.mk hbox; clear hb hbox hg; (try have hcg3_0 : W_.cell? ⟨g3, 0, none⟩ = some (.slice A0 l0.length c0) := (blk_cell BKg3.out 0).trans rfl); (try have hcg3_1 : W_.cell? ⟨g3, 1, none⟩ = some (.slice A1 l1.length c1) := (blk_cell BKg3.out 1).trans rfl); (try have hcg3_2 : W_.cell? ⟨g3, 2, none⟩ = some (.int .i64 wg) := (blk_cell BKg3.out 2).trans rfl)) | (go_at_call 47; go_must (refine (posserlaw03_ready.calls k A0 c0 l0 A1 c1 l1 wg false _ (Kd.C_below HR0.out HB.out) HC0.out (Kd.C_below HR1.out HB.out) HC1.out HRD.out).mono ?_; rintro e W_ ⟨rfl, hb⟩; (try clear hcg3_0 hcg3_1 hcg3_2); (try replace HB := Aside0.mk (below_step HB.out hb)); (try replace HT := Aside0.mk (HT.out.below hb)); (try replace BKg3 := Aside0.mk (blk_below BKg3.out hb)); (try replace BKg8 := Aside0.mk (blk_below BKg8.out hb)); skip; clear hb; (try have hcg3_0 : W_.cell? ⟨g3, 0, none⟩ = some (.slice A0 l0.length c0) := (blk_cell BKg3.out 0).trans rfl); (try have hcg3_1 : W_.cell? ⟨g3, 1, none⟩ = some (.slice A1 l1.length c1) := (blk_cell BKg3.out 1).trans rfl); (try have hcg3_2 : W_.cell? ⟨g3, 2, none⟩ = some (.int .i64 wg) := (blk_cell BKg3.out 2).trans rfl))) | (go_at_call 21; go_must (refine (awake_calls _).mono ?_; rintro e W_ ⟨rfl, hb⟩; (try clear hcg3_0 hcg3_1 hcg3_2); (try replace HB := Aside0.mk (below_step HB.out hb)); (try replace HT := Aside0.mk (HT.out.below hb)); (try replace BKg3 := Aside0.mk (blk_below BKg3.out hb)); (try replace BKg8 := Aside0.mk (blk_below BKg8.out hb)); skip; clear hb; (try have hcg3_0 : W_.cell? ⟨g3, 0, none⟩ = some (.slice A0 l0.length c0) := (blk_cell BKg3.out 0).trans rfl); (try have hcg3_1 : W_.cell? ⟨g3, 1, none⟩ = some (.slice A1 l1.length c1) := (blk_cell BKg3.out 1).trans rfl); (try have hcg3_2 : W_.cell? ⟨g3, 2, none⟩ = some (.int .i64 wg) := (blk_cell BKg3.out 2).trans rfl))))
  go_ret
  exact ⟨rfl, HB.out⟩
set_option maxHeartbeats 4000000 in
set_option maxRecDepth 100000 in
theorem Read_nil (k : Nat) {A0 : Option Addr} {c0 : Nat} {l0 : List S85} {A1 : Option Addr} {c1 : Nat} {l1 : List S71} (wg : Int) (a1 a2 : Int) {w : World} (r0 : Kd.C k85 w A0 l0.length l0) (g0 : l0.length ≤ c0) (r1 : Kd.C k71 w A1 l1.length l1) (g1 : l1.length ≤ c1) (hrd : posserlaw03_ready.f k l0 l1 wg = some true) (hn : l1.length = 0) :
    Calls Try.prog 11 #[.agg #[.slice A0 l0.length c0, .slice A1 l1.length c1, .int .i64 wg], .int .u8 a1, .int .u8 a2] w fun e w' => e = .returned (.bool true) ∧ Below w.heap.size w w' := by
  have hu25 := Try.underlying25
  have hu35 := Try.underlying35
  have hu55 := Try.underlying55
  have HR0 := Aside0.mk r0
  have HC0 := Aside0.mk g0
  have HR1 := Aside0.mk r1
  have HC1 := Aside0.mk g1
  clear r0 g0 r1 g1
  have HRD := Aside0.mk hrd
  clear hrd
  have hn0 : ((l1.length : Int) == 0) = true := by rw [hn]; rfl
  clear hn
  have HB := Aside0.mk (Below.refl w.heap.size w)
  go_enter Try.func11, Try.ntmps11
  go_wp2_with (first | ((with_reducible refine gate_dst (N := 3) rfl ?_); refine box_event ?hg (N := 3) ?hd (cs := #[.slice A0 l0.length c0, .slice A1 l1.length c1, .int .i64 wg]) (t := 25) ?hr ?_; (case hd => rfl); (case hg => rfl); (case hr => first | (go_simp; done) | (go_simp; rfl)); intro g3 hg W_ hbox hb; (try have NEg8_g3 := Aside0.mk (show g8 < g3 from by rw [hg]; exact blk_lt BKg8.out)); have GEg3 := Aside0.mk (by rw [hg]; exact HB.out.size : w.heap.size ≤ g3); (try clear hcg3_0 hcg3_1 hcg3_2); (try replace HB := Aside0.mk (below_step HB.out hb)); (try replace HT := Aside0.mk (HT.out.below hb)); (try replace BKg3 := Aside0.mk (blk_below BKg3.out hb)); (try replace BKg8 := Aside0.mk (blk_below BKg8.out hb)); have BKg3 := Aside0.mk hbox; clear hb hbox hg; (try have hcg3_0 : W_.cell? ⟨g3, 0, none⟩ = some (.slice A0 l0.length c0) := (blk_cell BKg3.out 0).trans rfl); (try have hcg3_1 : W_.cell? ⟨g3, 1, none⟩ = some (.slice A1 l1.length c1) := (blk_cell BKg3.out 1).trans rfl); (try have hcg3_2 : W_.cell? ⟨g3, 2, none⟩ = some (.int .i64 wg) := (blk_cell BKg3.out 2).trans rfl)) | (go_at_call 47; go_must (refine (posserlaw03_ready.calls k A0 c0 l0 A1 c1 l1 wg true _ (Kd.C_below HR0.out HB.out) HC0.out (Kd.C_below HR1.out HB.out) HC1.out HRD.out).mono ?_; rintro e W_ ⟨rfl, hb⟩; (try clear hcg3_0 hcg3_1 hcg3_2); (try replace HB := Aside0.mk (below_step HB.out hb)); (try replace HT := Aside0.mk (HT.out.below hb)); (try replace BKg3 := Aside0.mk (blk_below BKg3.out hb)); (try replace BKg8 := Aside0.mk (blk_below BKg8.out hb)); skip; clear hb; (try have hcg3_0 : W_.cell? ⟨g3, 0, none⟩ = some (.slice A0 l0.length c0) := (blk_cell BKg3.out 0).trans rfl); (try have hcg3_1 : W_.cell? ⟨g3, 1, none⟩ = some (.slice A1 l1.length c1) := (blk_cell BKg3.out 1).trans rfl); (try have hcg3_2 : W_.cell? ⟨g3, 2, none⟩ = some (.int .i64 wg) := (blk_cell BKg3.out 2).trans rfl))) | (go_at_call 21; go_must (refine (awake_calls _).mono ?_; rintro e W_ ⟨rfl, hb⟩; (try clear hcg3_0 hcg3_1 hcg3_2); (try replace HB := Aside0.mk (below_step HB.out hb)); (try replace HT := Aside0.mk (HT.out.below hb)); (try replace BKg3 := Aside0.mk (blk_below BKg3.out hb)); (try replace BKg8 := Aside0.mk (blk_below BKg8.out hb)); skip; clear hb; (try have hcg3_0 : W_.cell? ⟨g3, 0, none⟩ = some (.slice A0 l0.length c0) := (blk_cell BKg3.out 0).trans rfl); (try have hcg3_1 : W_.cell? ⟨g3, 1, none⟩ = some (.slice A1 l1.length c1) := (blk_cell BKg3.out 1).trans rfl); (try have hcg3_2 : W_.cell? ⟨g3, 2, none⟩ = some (.int .i64 wg) := (blk_cell BKg3.out 2).trans rfl))))
  go_ret
  exact ⟨rfl, HB.out⟩
set_option maxHeartbeats 4000000 in
set_option maxRecDepth 100000 in
theorem Read_ok (k : Nat) {A0 : Option Addr} {c0 : Nat} {l0 : List S85} {A1 : Option Addr} {c1 : Nat} {l1 : List S71} (wg : Int) (a1 a2 : Int) {w : World} (r0 : Kd.C k85 w A0 l0.length l0) (g0 : l0.length ≤ c0) (r1 : Kd.C k71 w A1 l1.length l1) (g1 : l1.length ≤ c1) (ht : Thn l0 l1) {L0 : List S109} {L1 : List S110} (h0 : l0.map cvW = L0) (h1 : l1.map cvP = L1) (hrd : posserlaw03_ready.f k l0 l1 wg = some true) (hn : l1.length ≠ 0) {p q : Nat} {ms ms2 : List Int} (hp : Int.tmod (wrap64 a1) (l1.length : Int) = (p : Int)) (hpl : p < l1.length) (hzm : (l1.getD p z71).f0 = ms) (hq : Int.tmod (wrap64 a2) (ms.length : Int) = (q : Int)) (hql : q < ms.length) (hms : ms.length ≤ 30) (hm2 : ms.take q ++ ms.drop (q + 1) = ms2) {xs : List S71} {L1' : List S110} (hxs : l1.set p ⟨ms2, (l1.getD p z71).f1⟩ = xs) (hxn : xs.length = l1.length) (hx30 : xs.length ≤ 30) (hxm : ∀ z ∈ xs, z.f0.length ≤ 30) (hlx : xs.map cvP = L1') {ws us : List (List Int)} {vs vx : List Int} {lo hi lo2 hi2 : Int} (hcs : posserlaw03_ready.f k l0 xs wg = some false ∨ (posserlaw03_ready.f k l0 xs wg = some true ∧ askE L0 L1' wg = 11 ∧ (askE L0 L1 wg = 0 ∨ askE L0 L1 wg = 11)) ∨ (posserlaw03_ready.f k l0 xs wg = some true ∧ askE L0 L1' wg = 0 ∧ askE L0 L1 wg = 0 ∧ whoseL L0.length L1.length (truthsL L0 L1 wg) = ws ∧ whoseL L0.length L1'.length (truthsL L0 L1' wg) = us ∧ boundsL (fun x => lostN L1 (pad x)) (truthsL L0 L1 wg) = (lo, hi) ∧ boundsL (fun x => lostN L1' (pad x)) (truthsL L0 L1' wg) = (lo2, hi2) ∧ missL L1 (truthsL L0 L1 wg) L0.length = vs ∧ missL L1' (truthsL L0 L1' wg) L0.length = vx ∧ posserlaw03_subsets.f k us ws = some true ∧ posserlaw03_kept.f k vs vx = some true ∧ lo2 ≥ lo ∧ hi2 ≤ hi)) :
    Calls Try.prog 11 #[.agg #[.slice A0 l0.length c0, .slice A1 l1.length c1, .int .i64 wg], .int .u8 a1, .int .u8 a2] w fun e w' => e = .returned (.bool true) ∧ Below w.heap.size w w' := by
  have hu25 := Try.underlying25
  have hu35 := Try.underlying35
  have hu55 := Try.underlying55
  have HR0 := Aside0.mk r0
  have HC0 := Aside0.mk g0
  have HR1 := Aside0.mk r1
  have HC1 := Aside0.mk g1
  clear r0 g0 r1 g1
  have HRT := Aside0.mk (show RTab A0 c0 l0 A1 c1 l1 w from ⟨HR0.out, HC0.out, HR1.out, HC1.out, ht.n0, ht.n1, ht.ms⟩)
  clear ht
  obtain ⟨rowsP, hLP, hRP, hKP⟩ := rows_of HR1.out
  have HRrowsP := Aside0.mk hRP
  have HLrowsP := Aside0.mk hLP
  have HKrowsP := Aside0.mk hKP
  have HNrowsP := Aside0.mk (show l1.length ≤ 30 from HRT.out.n1)
  clear hLP hRP hKP
  have HL0 := Aside0.mk h0
  have HL1 := Aside0.mk h1
  have HRD := Aside0.mk hrd
  have HPL := Aside0.mk hpl
  have HZM := Aside0.mk hzm
  have HQL := Aside0.mk hql
  have HMS := Aside0.mk hms
  have HM2 := Aside0.mk hm2
  have HXS := Aside0.mk hxs
  have HXN := Aside0.mk hxn
  have HX30 := Aside0.mk hx30
  have HXM := Aside0.mk hxm
  have HLX := Aside0.mk hlx
  have HCS := Aside0.mk hcs
  clear h0 h1 hrd hpl hzm hql hms hm2 hxs hxn hx30 hxm hlx hcs
  have hn0 : ((l1.length : Int) == 0) = false := by simpa using hn
  have hn1 : ¬ ((l1.length : Int) = 0) := by omega
  have hne1 : ¬ l1 = [] := fun h => hn (by rw [h]; rfl)
  have hk0 : ((ms.length : Int) == 0) = false := beq_eq_false_iff_ne.2 (by have := HQL.out; omega)
  have hk1 : ¬ ((ms.length : Int) = 0) := by have := HQL.out; omega
  have hk2 : ¬ ms = [] := fun h => hk1 (by rw [h]; rfl)
  have hpx : (p : Int) < (l1.length : Int) := by have := HPL.out; omega
  have hqx : (q : Int) ≤ (ms.length : Int) := by have := HQL.out; omega
  have HN1 := Aside0.mk hn
  clear hn
  have HB := Aside0.mk (Below.refl w.heap.size w)
  go_enter Try.func11, Try.ntmps11
  go_wp2_with (first | ((with_reducible refine gate_dst (N := 3) rfl ?_); refine box_event ?hg (N := 3) ?hd (cs := #[.slice A0 l0.length c0, .slice A1 l1.length c1, .int .i64 wg]) (t := 25) ?hr ?_; (case hd => rfl); (case hg => rfl); (case hr => first | (go_simp; done) | (go_simp; rfl)); intro g3 hg W_ hbox hb; (try have NEg8_g3 := Aside0.mk (show g8 < g3 from by rw [hg]; exact blk_lt BKg8.out)); have GEg3 := Aside0.mk (by rw [hg]; exact HB.out.size : w.heap.size ≤ g3); (try clear hcg3_0 hcg3_1 hcg3_2); (try replace HB := Aside0.mk (below_step HB.out hb)); (try replace HT := Aside0.mk (HT.out.below hb)); (try replace BKg3 := Aside0.mk (blk_below BKg3.out hb)); (try replace BKg8 := Aside0.mk (blk_below BKg8.out hb)); have BKg3 := Aside0.mk hbox; clear hb hbox hg; (try have hcg3_0 : W_.cell? ⟨g3, 0, none⟩ = some (.slice A0 l0.length c0) := (blk_cell BKg3.out 0).trans rfl); (try have hcg3_1 : W_.cell? ⟨g3, 1, none⟩ = some (.slice A1 l1.length c1) := (blk_cell BKg3.out 1).trans rfl); (try have hcg3_2 : W_.cell? ⟨g3, 2, none⟩ = some (.int .i64 wg) := (blk_cell BKg3.out 2).trans rfl)) | (go_at_call 47; go_must (refine (posserlaw03_ready.calls k A0 c0 l0 A1 c1 l1 wg true _ (Kd.C_below HR0.out HB.out) HC0.out (Kd.C_below HR1.out HB.out) HC1.out HRD.out).mono ?_; rintro e W_ ⟨rfl, hb⟩; (try clear hcg3_0 hcg3_1 hcg3_2); (try clear hcg8_0 hcg8_1 hcg8_2); (try replace HB := Aside0.mk (below_step HB.out hb)); (try replace HT := Aside0.mk (HT.out.below hb)); (try replace BKg3 := Aside0.mk (blk_below BKg3.out hb)); (try replace BKg8 := Aside0.mk (blk_below BKg8.out hb)); skip; clear hb; (try have hcg3_0 : W_.cell? ⟨g3, 0, none⟩ = some (.slice A0 l0.length c0) := (blk_cell BKg3.out 0).trans rfl); (try have hcg3_1 : W_.cell? ⟨g3, 1, none⟩ = some (.slice A1 l1.length c1) := (blk_cell BKg3.out 1).trans rfl); (try have hcg3_2 : W_.cell? ⟨g3, 2, none⟩ = some (.int .i64 wg) := (blk_cell BKg3.out 2).trans rfl); (try have hcg8_0 : W_.cell? ⟨g8, 0, none⟩ = some (.slice A0 l0.length c0) := (blk_cell BKg8.out 0).trans rfl); (try have hcg8_1 : W_.cell? ⟨g8, 1, none⟩ = some (.slice A1 l1.length c1) := (blk_cell BKg8.out 1).trans rfl); (try have hcg8_2 : W_.cell? ⟨g8, 2, none⟩ = some (.int .i64 wg) := (blk_cell BKg8.out 2).trans rfl))) | ((with_reducible refine gate_dst (N := 8) rfl ?_); refine box_event ?hg (N := 8) ?hd (cs := #[.slice none 0 0, .slice none 0 0, .int .i64 0]) (t := 25) ?hr ?_; (case hd => rfl); (case hg => rfl); (case hr => first | (go_simp; done) | (go_simp; rfl)); intro g8 hg W_ hbox hb; (try have NEg3_g8 := Aside0.mk (show g3 < g8 from by rw [hg]; exact blk_lt BKg3.out)); have GEg8 := Aside0.mk (by rw [hg]; exact HB.out.size : w.heap.size ≤ g8); (try clear hcg3_0 hcg3_1 hcg3_2); (try clear hcg8_0 hcg8_1 hcg8_2); (try replace HB := Aside0.mk (below_step HB.out hb)); (try replace HT := Aside0.mk (HT.out.below hb)); (try replace BKg3 := Aside0.mk (blk_below BKg3.out hb)); (try replace BKg8 := Aside0.mk (blk_below BKg8.out hb)); have BKg8 := Aside0.mk hbox; clear hb hbox hg; (try have hcg3_0 : W_.cell? ⟨g3, 0, none⟩ = some (.slice A0 l0.length c0) := (blk_cell BKg3.out 0).trans rfl); (try have hcg3_1 : W_.cell? ⟨g3, 1, none⟩ = some (.slice A1 l1.length c1) := (blk_cell BKg3.out 1).trans rfl); (try have hcg3_2 : W_.cell? ⟨g3, 2, none⟩ = some (.int .i64 wg) := (blk_cell BKg3.out 2).trans rfl); (try have hcg8_0 : W_.cell? ⟨g8, 0, none⟩ = some (.slice none 0 0) := (blk_cell BKg8.out 0).trans rfl); (try have hcg8_1 : W_.cell? ⟨g8, 1, none⟩ = some (.slice none 0 0) := (blk_cell BKg8.out 1).trans rfl); (try have hcg8_2 : W_.cell? ⟨g8, 2, none⟩ = some (.int .i64 0) := (blk_cell BKg8.out 2).trans rfl)) | ((with_reducible refine gate_store (t := 25) (p := 8) rfl ?_); go_must (refine wpList_store_row rfl 25 _ _ rfl g8 #[.slice A0 l0.length c0, .slice A1 l1.length c1, .int .i64 wg] rfl rfl 25 (#[.slice none 0 0, .slice none 0 0, .int .i64 0]) BKg8.out rfl rfl (by simp [Value.oneCell']) ?_; (try clear hcg3_0 hcg3_1 hcg3_2); (try clear hcg8_0 hcg8_1 hcg8_2); (try clear HT); (try replace BKg3 := Aside0.mk ((setRow_other W_ g8 g3 (#[.slice A0 l0.length c0, .slice A1 l1.length c1, .int .i64 wg]) (by first | exact Nat.ne_of_lt NEg3_g8.out | exact Nat.ne_of_gt NEg8_g3.out)).trans BKg3.out)); replace HB := Aside0.mk (below_setRow HB.out GEg8.out (#[.slice A0 l0.length c0, .slice A1 l1.length c1, .int .i64 wg])); replace BKg8 := Aside0.mk (setRow_heap W_ g8 _ (#[.slice A0 l0.length c0, .slice A1 l1.length c1, .int .i64 wg]) _ _ BKg8.out); generalize W_.setRow g8 (#[.slice A0 l0.length c0, .slice A1 l1.length c1, .int .i64 wg]) = W_ at *; (try have hcg3_0 : W_.cell? ⟨g3, 0, none⟩ = some (.slice A0 l0.length c0) := (blk_cell BKg3.out 0).trans rfl); (try have hcg3_1 : W_.cell? ⟨g3, 1, none⟩ = some (.slice A1 l1.length c1) := (blk_cell BKg3.out 1).trans rfl); (try have hcg3_2 : W_.cell? ⟨g3, 2, none⟩ = some (.int .i64 wg) := (blk_cell BKg3.out 2).trans rfl); (try have hcg8_0 : W_.cell? ⟨g8, 0, none⟩ = some (.slice A0 l0.length c0) := (blk_cell BKg8.out 0).trans rfl); (try have hcg8_1 : W_.cell? ⟨g8, 1, none⟩ = some (.slice A1 l1.length c1) := (blk_cell BKg8.out 1).trans rfl); (try have hcg8_2 : W_.cell? ⟨g8, 2, none⟩ = some (.int .i64 wg) := (blk_cell BKg8.out 2).trans rfl))) | ((with_reducible refine gate_dst (N := 40) rfl ?_); refine Kd.R_lit (Kd.raw 2) W_.heap.size 71 ?hg (N := 40) ?hd (xs := ([] : List (List Value))) (inner := []) (ok := fun _ => True) (okp := fun _ => True) ?hr ?hp (fun _ hk => hk) trivial (Below.refl _ _) (Nat.le_refl _) (by simp) ?_; (case hd => rfl); (case hg => rfl); (case hr => first | (go_simp; done) | (go_simp; rfl)); (case hp => exact (Reps.none _ _)); intro v8 Wb ho8 hb8 hg_ hnew_; clear hg_ hnew_; have HO8 := Aside0.mk ho8; have HB8 := Aside0.mk hb8; clear ho8 hb8; (try clear hcg3_0 hcg3_1 hcg3_2); (try clear hcg8_0 hcg8_1 hcg8_2); have hcg3_0 : Wb.cell? ⟨g3, 0, none⟩ = some (.slice A0 l0.length c0) := (blk_cell (blk_below BKg3.out HB8.out) 0).trans rfl; have hcg3_1 : Wb.cell? ⟨g3, 1, none⟩ = some (.slice A1 l1.length c1) := (blk_cell (blk_below BKg3.out HB8.out) 1).trans rfl; have hcg3_2 : Wb.cell? ⟨g3, 2, none⟩ = some (.int .i64 wg) := (blk_cell (blk_below BKg3.out HB8.out) 2).trans rfl) | ((with_reducible refine gate_builtin (b := .append) (xs := #[.tmp 40, .tmp 42]) rfl ?_); go_must (at_builtin; refine Kd.R_append_rows (Kd.raw 2) (w0 := W_) W_.heap.size rfl (.tmp 40) (.tmp 42) 23 71 (.agg #[.slice none 0 0, .int .i64 0]) 32 rfl Try.underlying23 info71 rfl (by decide) (by omega) _ [] rowsP _ _ _ (fun _ => True) (fun _ => False) rfl rfl HO8.out (Kd.C_below HRrowsP.out (below_step HB.out HB8.out)) (fun _ _ h => h) (fun _ h => h.elim) (fun _ _ => trivial) HB8.out HB8.out.size (by have := HNrowsP.out; simp; omega) ?_; intro v9 W_ ho hb hg hat; clear hg hat; (try clear hcg3_0 hcg3_1 hcg3_2); (try clear hcg8_0 hcg8_1 hcg8_2); (try clear HT); have hsz_ := HB.out.size; (try replace HB := Aside0.mk (below_step HB.out hb)); (try replace HT := Aside0.mk (HT.out.below hb)); (try replace BKg3 := Aside0.mk (blk_below BKg3.out hb)); (try replace BKg8 := Aside0.mk (blk_below BKg8.out hb)); rw [List.nil_append] at ho; obtain ⟨AX, cX, eX_, hX_⟩ := RX.of (d := k71) (w := w) (xs := l1) ho HLrowsP.out HKrowsP.out (by have := HNrowsP.out; omega); subst eX_; have HX := Aside0.mk (hX_.lower hsz_); clear HO8 HB8 ho hb hX_ hsz_; (try have hcg3_0 : W_.cell? ⟨g3, 0, none⟩ = some (.slice A0 l0.length c0) := (blk_cell BKg3.out 0).trans rfl); (try have hcg3_1 : W_.cell? ⟨g3, 1, none⟩ = some (.slice A1 l1.length c1) := (blk_cell BKg3.out 1).trans rfl); (try have hcg3_2 : W_.cell? ⟨g3, 2, none⟩ = some (.int .i64 wg) := (blk_cell BKg3.out 2).trans rfl); (try have hcg8_0 : W_.cell? ⟨g8, 0, none⟩ = some (.slice A0 l0.length c0) := (blk_cell BKg8.out 0).trans rfl); (try have hcg8_1 : W_.cell? ⟨g8, 1, none⟩ = some (.slice A1 l1.length c1) := (blk_cell BKg8.out 1).trans rfl); (try have hcg8_2 : W_.cell? ⟨g8, 2, none⟩ = some (.int .i64 wg) := (blk_cell BKg8.out 2).trans rfl); have hfg8_0 := blk_frozen BKg8.out 0; have hfg8_1 := blk_frozen BKg8.out 1; have hfg8_2 := blk_frozen BKg8.out 2; obtain ⟨go, csx, eA_, hgo_, hbk_, hpb_⟩ := RX.open_ HX.out HN1.out; subst eA_; have BKgo := Aside0.mk hbk_; have GEgo := Aside0.mk hgo_; have HXLE := Aside0.mk HX.out.le; have HXSM := Aside0.mk HX.out.sm; obtain ⟨Am, cm, hq0, lm0, cm0⟩ := marks_at hpb_ p HPL.out; rw [HZM.out] at hq0 lm0 cm0; have HPB := Aside0.mk hpb_; have HQ0 := Aside0.mk hq0; have LM := Aside0.mk lm0; have CM := Aside0.mk cm0; clear hgo_ hbk_ hpb_ HX lm0 cm0; have hcq0 : ∀ u, (W_.setCell ⟨g8, 1, none⟩ u).cell? ⟨go, p * 2, none⟩ = some (.slice Am ms.length cm) := fun u => (blk_cell (blk_setCell (j := 1) BKgo.out BKg8.out (by decide) u) (p * 2)).trans hq0; clear hq0)))
  (try clear hfg8_0 hfg8_1 hfg8_2)
  (try clear hcq0)
  (try clear hcg3_0 hcg3_1 hcg3_2)
  (try clear hcg8_0 hcg8_1 hcg8_2)
  (try replace BKg3 := Aside0.mk (blk_far BKg3.out (p := ⟨g8, 1, none⟩) (by show g3 ≠ g8; first | exact Nat.ne_of_lt NEg3_g8.out | exact Nat.ne_of_gt NEg8_g3.out) (.slice (some ⟨go, 0, none⟩) l1.length cX)))
  (try replace BKgo := Aside0.mk (blk_setCell (j := 1) BKgo.out BKg8.out (by decide) (.slice (some ⟨go, 0, none⟩) l1.length cX)))
  replace HB := Aside0.mk (HB.out.setCell (p := ⟨g8, 1, none⟩) GEg8.out (.slice (some ⟨go, 0, none⟩) l1.length cX))
  replace BKg8 := Aside0.mk (blk_put BKg8.out 1 (.slice (some ⟨go, 0, none⟩) l1.length cX) rfl)
  generalize W_.setCell ⟨g8, 1, none⟩ (.slice (some ⟨go, 0, none⟩) l1.length cX) = W_ at *
  have hcg8_1 : W_.cell? ⟨g8, 1, none⟩ = some (.slice (some ⟨go, 0, none⟩) l1.length cX) := (blk_cell BKg8.out 1).trans rfl
  obtain ⟨Ad, hcut, hcd, hld⟩ := cut39 (xs := ms) CM.out LM.out (q + 1) (by have := HQL.out; omega)
  have hcut2 := cutTo39 (A := Am) LM.out q (by have := HQL.out; omega)
  have hwq : wrap64 ((q : Int) + 1) = ((q + 1 : Nat) : Int) := by
    have := HQL.out
    have := HMS.out
    rw [wrap64_id _ (by omega) (by omega)]; rfl
  have HCT := Aside0.mk (show Kd.C (Kd.int .i64) w Am q (ms.take q) from by
    have h := Kd.C_take (m := q) CM.out (by have := HQL.out; omega)
    rw [List.length_take, Nat.min_eq_left (by have := HQL.out; omega)] at h
    exact h)
  have HCD := Aside0.mk hcd
  clear hcd hld
  have hcut : ∀ W : World, (Instr.slice 39 (.slice Am ms.length cm) (some (.int .i64 ((q : Int) + 1))) none none).run Try.prog W = .ok (.slice Ad (ms.length - (q + 1)) (cm - (q + 1))) W := hcut
  have hqb : (q : Int) + 1 ≤ (ms.length : Int) := by have := HQL.out; omega
  have hqa : (0 : Int) ≤ (q : Int) + 1 := by omega
  refine start_ (n := 16) (S := fun w' => w'.cell? ⟨g8, 1, none⟩ = some (.slice (some ⟨go, 0, none⟩) l1.length cX)) (ds := [15]) #[false, false, false, false, false, false, false, false, false, false, false, false, false, false, false, false] (by kernel_rfl) rfl rfl (hcg8_1) (fun hHeld => ?_)
  have hb := below_drew1 (Below.refl W_.heap.size W_)
  have n0_ := Aside0.mk (below_step HB.out hb)
  have n1_ := Aside0.mk (blk_below BKg3.out hb)
  have n2_ := Aside0.mk (blk_below BKg8.out hb)
  have n3_ := Aside0.mk (blk_below BKgo.out hb)
  clear HB
  clear BKg3
  clear BKg8
  clear BKgo
  have HB := n0_
  have BKg3 := n1_
  have BKg8 := n2_
  have BKgo := n3_
  clear n0_ n1_ n2_ n3_
  replace hcg8_1 := (hb.cell (World.block_lt_of_cell? _ _ hcg8_1)).trans hcg8_1
  generalize W_.drew = W5 at *
  clear hb
  refine pure_ (i := 0) (N := some 56) (v := ?_) (a' := ?_) #[true, false, false, false, false, false, false, false, false, false, false, false, false, false, false, false] rfl rfl (by kernel_rfl) (fun _ _ _ h => h) (Or.inl ⟨by rfl, ?_⟩) ?_ ?_
  rotate_left
  · intro w'
    go_simp
    with_reducible rfl
  rotate_left
  · simp only [Act.put, List.setIfInBounds_toArray, List.set_cons_zero, List.set_cons_succ, i64_w, i32_w]
    rfl
  refine pure_ (i := 2) (N := some 58) (v := ?_) (a' := ?_) #[true, false, true, false, false, false, false, false, false, false, false, false, false, false, false, false] rfl rfl (by kernel_rfl) (fun _ _ _ h => h) (Or.inl ⟨by rfl, ?_⟩) ?_ ?_
  rotate_left
  · intro w'
    go_simp
    with_reducible rfl
  rotate_left
  · simp only [Act.put, List.setIfInBounds_toArray, List.set_cons_zero, List.set_cons_succ, i64_w, i32_w]
    rfl
  refine pure_ (i := 4) (N := some 60) (v := ?_) (a' := ?_) #[true, false, true, false, true, false, false, false, false, false, false, false, false, false, false, false] rfl rfl (by kernel_rfl) (fun _ _ _ h => h) (Or.inl ⟨by rfl, ?_⟩) ?_ ?_
  rotate_left
  · intro w'
    go_simp
    with_reducible rfl
  rotate_left
  · simp only [Act.put, List.setIfInBounds_toArray, List.set_cons_zero, List.set_cons_succ, i64_w, i32_w]
    rfl
  refine pure_ (i := 5) (N := some 61) (v := ?_) (a' := ?_) #[true, false, true, false, true, true, false, false, false, false, false, false, false, false, false, false] rfl rfl (by kernel_rfl) (fun _ _ _ h => h) (Or.inl ⟨by rfl, ?_⟩) ?_ ?_
  rotate_left
  · intro w'
    go_simp
    with_reducible rfl
  rotate_left
  · simp only [Act.put, List.setIfInBounds_toArray, List.set_cons_zero, List.set_cons_succ, i64_w, i32_w]
    rfl
  refine pure_ (i := 6) (N := some 62) (v := ?_) (a' := ?_) #[true, false, true, false, true, true, true, false, false, false, false, false, false, false, false, false] rfl rfl (by kernel_rfl) (fun _ _ _ h => h) (Or.inl ⟨by rfl, ?_⟩) ?_ ?_
  rotate_left
  · intro w'
    go_simp
    with_reducible rfl
  rotate_left
  · simp only [Act.put, List.setIfInBounds_toArray, List.set_cons_zero, List.set_cons_succ, i64_w, i32_w]
    rfl
  refine pure_ (i := 8) (N := some 64) (v := ?_) (a' := ?_) #[true, false, true, false, true, true, true, false, true, false, false, false, false, false, false, false] rfl rfl (by kernel_rfl) (fun _ _ _ h => h) (Or.inl ⟨by rfl, ?_⟩) ?_ ?_
  rotate_left
  · intro w'
    go_simp
    with_reducible rfl
  rotate_left
  · simp only [Act.put, List.setIfInBounds_toArray, List.set_cons_zero, List.set_cons_succ, i64_w, i32_w]
    rfl
  refine pure_ (i := 9) (N := some 65) (v := ?_) (a' := ?_) #[true, false, true, false, true, true, true, false, true, true, false, false, false, false, false, false] rfl rfl (by kernel_rfl) (fun _ _ _ h => h) (Or.inl ⟨by rfl, ?_⟩) ?_ ?_
  rotate_left
  · intro w'
    go_simp
    with_reducible rfl
  rotate_left
  · simp only [Act.put, List.setIfInBounds_toArray, List.set_cons_zero, List.set_cons_succ, i64_w, i32_w]
    rfl
  refine pure_ (i := 10) (N := some 66) (v := ?_) (a' := ?_) #[true, false, true, false, true, true, true, false, true, true, true, false, false, false, false, false] rfl rfl (by kernel_rfl) (fun _ _ _ h => h) (Or.inl ⟨by rfl, ?_⟩) ?_ ?_
  rotate_left
  · intro w'
    go_simp
    with_reducible rfl
  rotate_left
  · simp only [Act.put, List.setIfInBounds_toArray, List.set_cons_zero, List.set_cons_succ, i64_w, i32_w]
    rfl
  refine pure_ (i := 11) (N := some 67) (v := ?_) (a' := ?_) #[true, false, true, false, true, true, true, false, true, true, true, true, false, false, false, false] rfl rfl (by kernel_rfl) (fun _ _ _ h => h) (Or.inl ⟨by rfl, ?_⟩) ?_ ?_
  rotate_left
  · intro w'
    go_simp
    with_reducible rfl
  rotate_left
  · simp only [Act.put, List.setIfInBounds_toArray, List.set_cons_zero, List.set_cons_succ, i64_w, i32_w]
    rfl
  refine take_ (i := 1) (N := some 57) (v := ?_) (a' := ?_) #[true, true, true, false, true, true, true, false, true, true, true, true, false, false, false, false] rfl rfl (by kernel_rfl) (fun _ _ _ h => h) (Or.inl ⟨by rfl, ?_⟩) hHeld ?_ ?_
  rotate_left
  · intro w' s0
    go_simp
    with_reducible rfl
  rotate_left
  · simp only [Act.put, List.setIfInBounds_toArray, List.set_cons_zero, List.set_cons_succ, i64_w, i32_w]
    rfl
  refine one_ (i := 3) (N := some 59) #[true, true, true, true, true, true, true, false, true, true, true, true, false, false, false, false] rfl rfl (by kernel_rfl) (by decide) (fun K hK => ?_)
  refine Kd.R_lit_step (Kd.int .i64) W5.heap.size 3 ?hg (N := 59) ?hd (xs := ([] : List Int)) (inner := []) (ok := fun _ => True) (okp := fun _ => True) ?hr ?hp (fun _ hk => hk) trivial (Below.refl _ _) (Nat.le_refl _) (by simp) ?_; (case hd => rfl); (case hg => rfl); (case hr => first | (go_simp; done) | (go_simp; rfl)); (case hp => exact (Reps.none _ _))
  intro v8 W6 ho8 hb8 hg_ hnew_
  clear hg_ hnew_
  have HO8 := Aside0.mk ho8
  have HB8 := Aside0.mk hb8
  clear ho8 hb8
  have hcg8_1 : W6.cell? ⟨g8, 1, none⟩ = some (.slice (some ⟨go, 0, none⟩) l1.length cX) := (blk_cell (blk_below BKg8.out HB8.out) 1).trans rfl
  refine hK.out _ _ (hcg8_1) (fun hHeld => ?_)
  clear hK K
  refine norm_ (a' := ?_) ?_ ?_
  rotate_left
  · show Act.put _ (some 59) _ = _
    simp only [Act.put, List.setIfInBounds_toArray, List.set_cons_zero, List.set_cons_succ, i64_w, i32_w]
    rfl
  refine one_ (i := 7) (N := some 63) #[true, true, true, true, true, true, true, true, true, true, true, true, false, false, false, false] rfl rfl (by kernel_rfl) (by decide) (fun K hK => ?_)
  refine Kd.R_append_rows_step (Kd.int .i64) (w0 := W5) W5.heap.size (by rfl) (.tmp 59) (.tmp 62) 39 3 (.int .i64 0) 8 rfl Try.underlying39 info3 rfl (by decide) (by omega) _ [] (ms.take q) _ _ _ (fun _ => True) (fun _ => False) rfl rfl HO8.out (Kd.C_below HCT.out (below_step HB.out HB8.out)) (fun _ _ h => h) (fun _ h => h.elim) (fun _ _ => trivial) HB8.out HB8.out.size (by have := HMS.out; simp; omega) ?_
  intro v9 W7 ho hb hg_ hat_
  clear hg_ hat_
  have HO9 := Aside0.mk ho
  have HB9 := Aside0.mk hb
  clear ho hb
  have hcg8_1 : W7.cell? ⟨g8, 1, none⟩ = some (.slice (some ⟨go, 0, none⟩) l1.length cX) := (blk_cell (blk_below BKg8.out HB9.out) 1).trans rfl
  refine hK.out _ _ (hcg8_1) (fun hHeld => ?_)
  clear hK K
  refine norm_ (a' := ?_) ?_ ?_
  rotate_left
  · show Act.put _ (some 63) _ = _
    simp only [Act.put, List.setIfInBounds_toArray, List.set_cons_zero, List.set_cons_succ, i64_w, i32_w]
    rfl
  refine one_ (i := 12) (N := some 68) #[true, true, true, true, true, true, true, true, true, true, true, true, true, false, false, false] rfl rfl (by kernel_rfl) (by decide) (fun K hK => ?_)
  refine Kd.R_append_rows_step (Kd.int .i64) (w0 := W5) W5.heap.size (by rfl) (.tmp 63) (.tmp 67) 39 3 (.int .i64 0) 8 rfl Try.underlying39 info3 rfl (by decide) (by omega) _ ([] ++ ms.take q) (ms.drop (q + 1)) _ _ _ (fun _ => True) (fun _ => False) rfl rfl HO9.out (Kd.C_below HCD.out (below_step HB.out HB9.out)) (fun _ _ h => h) (fun _ h => h.elim) (fun _ _ => trivial) HB9.out HB9.out.size (by have := HMS.out; simp; omega) ?_
  intro v10 W8 ho hb hg_ hat_
  clear hg_ hat_
  have HO10 := Aside0.mk ho
  have HB10 := Aside0.mk hb
  clear ho hb
  have hcg8_1 : W8.cell? ⟨g8, 1, none⟩ = some (.slice (some ⟨go, 0, none⟩) l1.length cX) := (blk_cell (blk_below BKg8.out HB10.out) 1).trans rfl
  have hb := HB10.out
  have n0_ := Aside0.mk (below_step HB.out hb)
  have n1_ := Aside0.mk (blk_below BKg3.out hb)
  have n2_ := Aside0.mk (blk_below BKg8.out hb)
  have n3_ := Aside0.mk (blk_below BKgo.out hb)
  clear HB
  clear BKg3
  clear BKg8
  clear BKgo
  have HB := n0_
  have BKg3 := n1_
  have BKg8 := n2_
  have BKgo := n3_
  clear n0_ n1_ n2_ n3_
  clear hb
  have HN_ := Aside0.mk (show RI W8 W5.heap.size v10 ms2 from by have h := HO10.out; rw [List.nil_append, HM2.out] at h; exact h)
  clear HO8 HB8 HO9 HB9 HO10 HB10
  obtain ⟨An, cn, en⟩ := Kd.R_slice HN_.out
  subst en
  have hcx0 : W8.cell? ⟨go, p * 2, none⟩ = some (.slice Am ms.length cm) := (blk_cell BKgo.out (p * 2)).trans HQ0.out
  have hfx0 := blk_frozen BKgo.out (p * 2)
  refine hK.out _ _ (hcg8_1) (fun hHeld => ?_)
  clear hK K
  refine norm_ (a' := ?_) ?_ ?_
  rotate_left
  · show Act.put _ (some 68) _ = _
    simp only [Act.put, List.setIfInBounds_toArray, List.set_cons_zero, List.set_cons_succ, i64_w, i32_w]
    rfl
  refine pure_ (i := 13) (N := some 69) (v := ?_) (a' := ?_) #[true, true, true, true, true, true, true, true, true, true, true, true, true, true, false, false] rfl rfl (by kernel_rfl) (fun _ _ _ h => h) (Or.inl ⟨by rfl, ?_⟩) ?_ ?_
  rotate_left
  · intro w'
    go_simp
    with_reducible rfl
  rotate_left
  · simp only [Act.put, List.setIfInBounds_toArray, List.set_cons_zero, List.set_cons_succ, i64_w, i32_w]
    rfl
  refine pure_ (i := 14) (N := some 70) (v := ?_) (a' := ?_) #[true, true, true, true, true, true, true, true, true, true, true, true, true, true, true, false] rfl rfl (by kernel_rfl) (fun _ _ _ h => h) (Or.inl ⟨by rfl, ?_⟩) ?_ ?_
  rotate_left
  · intro w'
    go_simp
    with_reducible rfl
  rotate_left
  · simp only [Act.put, List.setIfInBounds_toArray, List.set_cons_zero, List.set_cons_succ, i64_w, i32_w]
    rfl
  refine last_ (i := 15) (N := none) #[true, true, true, true, true, true, true, true, true, true, true, true, true, true, true, true] rfl rfl (by kernel_rfl) (by decide) (fun K hK => ?_)
  refine skip_ (w1 := ?_) (by rfl) rfl ?_ ?_
  rotate_left
  · go_simp
    rfl
  skip
  (try replace BKg3 := Aside0.mk (blk_setCell (j := p * 2) BKg3.out BKgo.out (by decide) (.slice An ms2.length cn)))
  (try replace BKg8 := Aside0.mk (blk_setCell (j := p * 2) BKg8.out BKgo.out (by decide) (.slice An ms2.length cn)))
  (try replace HN_ := Aside0.mk (row_set (j := p * 2) HN_.out BKgo.out (by decide) (.slice An ms2.length cn)))
  replace HB := Aside0.mk (HB.out.setCell (p := ⟨go, p * 2, none⟩) GEgo.out (.slice An ms2.length cn))
  replace BKgo := Aside0.mk (blk_put BKgo.out (p * 2) (.slice An ms2.length cn) rfl)
  generalize W8.setCell ⟨go, p * 2, none⟩ (.slice An ms2.length cn) = W9 at *
  refine hK.out _ _ ?_
  clear hK K
  refine done_ (by kernel_rfl) ?_
  have hl : l1.length = xs.length := HXN.out.symm
  obtain ⟨w6, hw6⟩ : ∃ w6 : World, w6 = W9 := ⟨_, rfl⟩
  have HB_w6 := Aside0.mk (show Below w6.heap.size w6 W9 from by rw [hw6]; exact Below.refl _ _)
  have HPX := Aside0.mk ((HPB.out.below HB.out).marks p HPL.out (Kd.R_reads' HN_.out).2.1 (Kd.R_reads' HN_.out).2.2)
  have HX := Aside0.mk (show RX k71 71 w6 W9 w.heap.size (some ⟨go, 0, none⟩) cX xs from ⟨by have := HXLE.out; omega, by have := HXSM.out; omega, .inr ⟨go, _, rfl, GEgo.out, BKgo.out, by rw [hw6]; have h := HPX.out; rw [HXS.out] at h; exact h⟩⟩)
  replace BKg8 := Aside0.mk (show W9.heap[g8]? = some (.cells #[.slice A0 l0.length c0, .slice (some ⟨go, 0, none⟩) xs.length cX, .int .i64 wg] 25 (0, 0)) from by have h := BKg8.out; rw [hl] at h; exact h)
  clear BKgo GEgo HPB HPX HXLE HXSM hl hw6 HN_ HCT HCD HQ0 LM CM
  try clear hcut hcut2 hwq
  try clear hp hq
  try clear hcx0 hfx0
  try clear hcg8_1
  try clear hcg8_1
  generalize W9 = W_ at *
  (try have hcg3_0 : W_.cell? ⟨g3, 0, none⟩ = some (.slice A0 l0.length c0) := (blk_cell BKg3.out 0).trans rfl)
  (try have hcg3_1 : W_.cell? ⟨g3, 1, none⟩ = some (.slice A1 l1.length c1) := (blk_cell BKg3.out 1).trans rfl)
  (try have hcg3_2 : W_.cell? ⟨g3, 2, none⟩ = some (.int .i64 wg) := (blk_cell BKg3.out 2).trans rfl)
  (try have hcg8_0 : W_.cell? ⟨g8, 0, none⟩ = some (.slice A0 l0.length c0) := (blk_cell BKg8.out 0).trans rfl)
  (try have hcg8_1 : W_.cell? ⟨g8, 1, none⟩ = some (.slice (some ⟨go, 0, none⟩) xs.length cX) := (blk_cell BKg8.out 1).trans rfl)
  (try have hcg8_2 : W_.cell? ⟨g8, 2, none⟩ = some (.int .i64 wg) := (blk_cell BKg8.out 2).trans rfl)
  rcases HCS.out with hr | ⟨hr, hex, he⟩ | ⟨hr, hex, he, hw, hu, hd, hd2, hv, hv2, hs1, hs2, i1, i2⟩
  focus
    have HRX := Aside0.mk hr
    clear hr
    go_wp2_with (first | (go_at_call 47; go_must (refine (posserlaw03_ready.calls k A0 c0 l0 (some ⟨go, 0, none⟩) cX xs wg false _ (rtabE HRT.out HB.out HX.out HB_w6.out HX30.out HXM.out).r0 HC0.out (rtabE HRT.out HB.out HX.out HB_w6.out HX30.out HXM.out).r1 (rtabE HRT.out HB.out HX.out HB_w6.out HX30.out HXM.out).h1 HRX.out).mono ?_; rintro e W_ ⟨rfl, hb⟩; (try clear hcg3_0 hcg3_1 hcg3_2); (try clear hcg8_0 hcg8_1 hcg8_2); (try replace HB := Aside0.mk (below_step HB.out hb)); (try replace HB_w6 := Aside0.mk (below_step HB_w6.out hb)); (try replace HT := Aside0.mk (HT.out.below hb)); (try replace BKg3 := Aside0.mk (blk_below BKg3.out hb)); (try replace BKg8 := Aside0.mk (blk_below BKg8.out hb)); (try replace HX := Aside0.mk (HX.out.below hb)); (try replace HW := Aside0.mk (Kd.R_below HW.out hb)); (try replace HU := Aside0.mk (Kd.R_below HU.out hb)); (try replace BKg15 := Aside0.mk (blk_below BKg15.out hb)); (try replace BKg17 := Aside0.mk (blk_below BKg17.out hb)); (try replace HV := Aside0.mk (Kd.R_below HV.out hb)); (try replace HM := Aside0.mk (Kd.R_below HM.out hb)); skip; clear hb; (try have hcg3_0 : W_.cell? ⟨g3, 0, none⟩ = some (.slice A0 l0.length c0) := (blk_cell BKg3.out 0).trans rfl); (try have hcg3_1 : W_.cell? ⟨g3, 1, none⟩ = some (.slice A1 l1.length c1) := (blk_cell BKg3.out 1).trans rfl); (try have hcg3_2 : W_.cell? ⟨g3, 2, none⟩ = some (.int .i64 wg) := (blk_cell BKg3.out 2).trans rfl); (try have hcg8_0 : W_.cell? ⟨g8, 0, none⟩ = some (.slice A0 l0.length c0) := (blk_cell BKg8.out 0).trans rfl); (try have hcg8_1 : W_.cell? ⟨g8, 1, none⟩ = some (.slice (some ⟨go, 0, none⟩) xs.length cX) := (blk_cell BKg8.out 1).trans rfl); (try have hcg8_2 : W_.cell? ⟨g8, 2, none⟩ = some (.int .i64 wg) := (blk_cell BKg8.out 2).trans rfl))) | (go_at_call 21; go_must (refine (awake_calls _).mono ?_; rintro e W_ ⟨rfl, hb⟩; (try clear hcg3_0 hcg3_1 hcg3_2); (try clear hcg8_0 hcg8_1 hcg8_2); (try replace HB := Aside0.mk (below_step HB.out hb)); (try replace HB_w6 := Aside0.mk (below_step HB_w6.out hb)); (try replace HT := Aside0.mk (HT.out.below hb)); (try replace BKg3 := Aside0.mk (blk_below BKg3.out hb)); (try replace BKg8 := Aside0.mk (blk_below BKg8.out hb)); (try replace HX := Aside0.mk (HX.out.below hb)); (try replace HW := Aside0.mk (Kd.R_below HW.out hb)); (try replace HU := Aside0.mk (Kd.R_below HU.out hb)); (try replace BKg15 := Aside0.mk (blk_below BKg15.out hb)); (try replace BKg17 := Aside0.mk (blk_below BKg17.out hb)); (try replace HV := Aside0.mk (Kd.R_below HV.out hb)); (try replace HM := Aside0.mk (Kd.R_below HM.out hb)); skip; clear hb; (try have hcg3_0 : W_.cell? ⟨g3, 0, none⟩ = some (.slice A0 l0.length c0) := (blk_cell BKg3.out 0).trans rfl); (try have hcg3_1 : W_.cell? ⟨g3, 1, none⟩ = some (.slice A1 l1.length c1) := (blk_cell BKg3.out 1).trans rfl); (try have hcg3_2 : W_.cell? ⟨g3, 2, none⟩ = some (.int .i64 wg) := (blk_cell BKg3.out 2).trans rfl); (try have hcg8_0 : W_.cell? ⟨g8, 0, none⟩ = some (.slice A0 l0.length c0) := (blk_cell BKg8.out 0).trans rfl); (try have hcg8_1 : W_.cell? ⟨g8, 1, none⟩ = some (.slice (some ⟨go, 0, none⟩) xs.length cX) := (blk_cell BKg8.out 1).trans rfl); (try have hcg8_2 : W_.cell? ⟨g8, 2, none⟩ = some (.int .i64 wg) := (blk_cell BKg8.out 2).trans rfl))))
    go_ret
    exact ⟨rfl, HB.out⟩
  rotate_left
  focus
    have HRX := Aside0.mk hr
    have HEX := Aside0.mk hex
    have HE := Aside0.mk he
    have HSW := Aside0.mk hw
    have HSU := Aside0.mk hu
    have HSD := Aside0.mk hd
    have HSE := Aside0.mk hd2
    have HSV := Aside0.mk hv
    have HSM := Aside0.mk hv2
    have HS1 := Aside0.mk hs1
    have HS2 := Aside0.mk hs2
    have j1 := decide_eq_true i1
    have j2 := decide_eq_true i2
    clear hr hex he hw hu hd hd2 hv hv2 hs1 hs2
    go_wp2_with (first | (go_at_call 47; go_must (refine (posserlaw03_ready.calls k A0 c0 l0 (some ⟨go, 0, none⟩) cX xs wg true _ (rtabE HRT.out HB.out HX.out HB_w6.out HX30.out HXM.out).r0 HC0.out (rtabE HRT.out HB.out HX.out HB_w6.out HX30.out HXM.out).r1 (rtabE HRT.out HB.out HX.out HB_w6.out HX30.out HXM.out).h1 HRX.out).mono ?_; rintro e W_ ⟨rfl, hb⟩; (try clear hcg3_0 hcg3_1 hcg3_2); (try clear hcg8_0 hcg8_1 hcg8_2); (try replace HB := Aside0.mk (below_step HB.out hb)); (try replace HB_w6 := Aside0.mk (below_step HB_w6.out hb)); (try replace HT := Aside0.mk (HT.out.below hb)); (try replace BKg3 := Aside0.mk (blk_below BKg3.out hb)); (try replace BKg8 := Aside0.mk (blk_below BKg8.out hb)); (try replace HX := Aside0.mk (HX.out.below hb)); (try replace HW := Aside0.mk (Kd.R_below HW.out hb)); (try replace HU := Aside0.mk (Kd.R_below HU.out hb)); (try replace BKg15 := Aside0.mk (blk_below BKg15.out hb)); (try replace BKg17 := Aside0.mk (blk_below BKg17.out hb)); (try replace HV := Aside0.mk (Kd.R_below HV.out hb)); (try replace HM := Aside0.mk (Kd.R_below HM.out hb)); skip; clear hb; (try have hcg3_0 : W_.cell? ⟨g3, 0, none⟩ = some (.slice A0 l0.length c0) := (blk_cell BKg3.out 0).trans rfl); (try have hcg3_1 : W_.cell? ⟨g3, 1, none⟩ = some (.slice A1 l1.length c1) := (blk_cell BKg3.out 1).trans rfl); (try have hcg3_2 : W_.cell? ⟨g3, 2, none⟩ = some (.int .i64 wg) := (blk_cell BKg3.out 2).trans rfl); (try have hcg8_0 : W_.cell? ⟨g8, 0, none⟩ = some (.slice A0 l0.length c0) := (blk_cell BKg8.out 0).trans rfl); (try have hcg8_1 : W_.cell? ⟨g8, 1, none⟩ = some (.slice (some ⟨go, 0, none⟩) xs.length cX) := (blk_cell BKg8.out 1).trans rfl); (try have hcg8_2 : W_.cell? ⟨g8, 2, none⟩ = some (.int .i64 wg) := (blk_cell BKg8.out 2).trans rfl))) | (go_at_call 23; go_must (first | ((with_reducible refine (tab_c _ (HRT.out.below HB.out) HL0.out HL1.out).mono ?_); rintro e W_ ⟨B0, d0, B1, d1, rfl, ht, hb⟩; (try clear hcg3_0 hcg3_1 hcg3_2); (try clear hcg8_0 hcg8_1 hcg8_2); (try replace HB := Aside0.mk (below_step HB.out hb)); (try replace HB_w6 := Aside0.mk (below_step HB_w6.out hb)); (try replace HT := Aside0.mk (HT.out.below hb)); (try replace BKg3 := Aside0.mk (blk_below BKg3.out hb)); (try replace BKg8 := Aside0.mk (blk_below BKg8.out hb)); (try replace HX := Aside0.mk (HX.out.below hb)); (try replace HW := Aside0.mk (Kd.R_below HW.out hb)); (try replace HU := Aside0.mk (Kd.R_below HU.out hb)); (try replace BKg15 := Aside0.mk (blk_below BKg15.out hb)); (try replace BKg17 := Aside0.mk (blk_below BKg17.out hb)); (try replace HV := Aside0.mk (Kd.R_below HV.out hb)); (try replace HM := Aside0.mk (Kd.R_below HM.out hb)); (try clear HT); have HT := Aside0.mk ht; clear ht; clear hb; (try have hcg3_0 : W_.cell? ⟨g3, 0, none⟩ = some (.slice A0 l0.length c0) := (blk_cell BKg3.out 0).trans rfl); (try have hcg3_1 : W_.cell? ⟨g3, 1, none⟩ = some (.slice A1 l1.length c1) := (blk_cell BKg3.out 1).trans rfl); (try have hcg3_2 : W_.cell? ⟨g3, 2, none⟩ = some (.int .i64 wg) := (blk_cell BKg3.out 2).trans rfl); (try have hcg8_0 : W_.cell? ⟨g8, 0, none⟩ = some (.slice A0 l0.length c0) := (blk_cell BKg8.out 0).trans rfl); (try have hcg8_1 : W_.cell? ⟨g8, 1, none⟩ = some (.slice (some ⟨go, 0, none⟩) xs.length cX) := (blk_cell BKg8.out 1).trans rfl); (try have hcg8_2 : W_.cell? ⟨g8, 2, none⟩ = some (.int .i64 wg) := (blk_cell BKg8.out 2).trans rfl)) | ((with_reducible refine (tab_c _ (rtabE HRT.out HB.out HX.out HB_w6.out HX30.out HXM.out) HL0.out HLX.out).mono ?_); rintro e W_ ⟨B0, d0, B1, d1, rfl, ht, hb⟩; (try clear hcg3_0 hcg3_1 hcg3_2); (try clear hcg8_0 hcg8_1 hcg8_2); (try replace HB := Aside0.mk (below_step HB.out hb)); (try replace HB_w6 := Aside0.mk (below_step HB_w6.out hb)); (try replace HT := Aside0.mk (HT.out.below hb)); (try replace BKg3 := Aside0.mk (blk_below BKg3.out hb)); (try replace BKg8 := Aside0.mk (blk_below BKg8.out hb)); (try replace HX := Aside0.mk (HX.out.below hb)); (try replace HW := Aside0.mk (Kd.R_below HW.out hb)); (try replace HU := Aside0.mk (Kd.R_below HU.out hb)); (try replace BKg15 := Aside0.mk (blk_below BKg15.out hb)); (try replace BKg17 := Aside0.mk (blk_below BKg17.out hb)); (try replace HV := Aside0.mk (Kd.R_below HV.out hb)); (try replace HM := Aside0.mk (Kd.R_below HM.out hb)); (try clear HT); have HT := Aside0.mk ht; clear ht; clear hb; (try have hcg3_0 : W_.cell? ⟨g3, 0, none⟩ = some (.slice A0 l0.length c0) := (blk_cell BKg3.out 0).trans rfl); (try have hcg3_1 : W_.cell? ⟨g3, 1, none⟩ = some (.slice A1 l1.length c1) := (blk_cell BKg3.out 1).trans rfl); (try have hcg3_2 : W_.cell? ⟨g3, 2, none⟩ = some (.int .i64 wg) := (blk_cell BKg3.out 2).trans rfl); (try have hcg8_0 : W_.cell? ⟨g8, 0, none⟩ = some (.slice A0 l0.length c0) := (blk_cell BKg8.out 0).trans rfl); (try have hcg8_1 : W_.cell? ⟨g8, 1, none⟩ = some (.slice (some ⟨go, 0, none⟩) xs.length cX) := (blk_cell BKg8.out 1).trans rfl); (try have hcg8_2 : W_.cell? ⟨g8, 2, none⟩ = some (.int .i64 wg) := (blk_cell BKg8.out 2).trans rfl)))) | ((with_reducible refine gate_dst (N := 15) rfl ?_); refine box_event ?hg (N := 15) ?hd (cs := #[.int .i64 0, .int .i64 0]) (t := 55) ?hr ?_; (case hd => rfl); (case hg => rfl); (case hr => first | (go_simp; done) | (go_simp; rfl)); intro g15 hg W_ hbox hb; (try have NEg17_g15 := Aside0.mk (show g17 < g15 from by rw [hg]; exact blk_lt BKg17.out)); have GEg15 := Aside0.mk (by rw [hg]; exact HB.out.size : w.heap.size ≤ g15); (try have GEg15_w6 := Aside0.mk (by rw [hg]; exact HB_w6.out.size : w6.heap.size ≤ g15)); (try clear hcg3_0 hcg3_1 hcg3_2); (try clear hcg8_0 hcg8_1 hcg8_2); (try clear hcg15_0 hcg15_1); (try replace HB := Aside0.mk (below_step HB.out hb)); (try replace HB_w6 := Aside0.mk (below_step HB_w6.out hb)); (try replace HT := Aside0.mk (HT.out.below hb)); (try replace BKg3 := Aside0.mk (blk_below BKg3.out hb)); (try replace BKg8 := Aside0.mk (blk_below BKg8.out hb)); (try replace HX := Aside0.mk (HX.out.below hb)); (try replace HW := Aside0.mk (Kd.R_below HW.out hb)); (try replace HU := Aside0.mk (Kd.R_below HU.out hb)); (try replace BKg15 := Aside0.mk (blk_below BKg15.out hb)); (try replace BKg17 := Aside0.mk (blk_below BKg17.out hb)); (try replace HV := Aside0.mk (Kd.R_below HV.out hb)); (try replace HM := Aside0.mk (Kd.R_below HM.out hb)); have BKg15 := Aside0.mk hbox; clear hb hbox hg; (try have hcg3_0 : W_.cell? ⟨g3, 0, none⟩ = some (.slice A0 l0.length c0) := (blk_cell BKg3.out 0).trans rfl); (try have hcg3_1 : W_.cell? ⟨g3, 1, none⟩ = some (.slice A1 l1.length c1) := (blk_cell BKg3.out 1).trans rfl); (try have hcg3_2 : W_.cell? ⟨g3, 2, none⟩ = some (.int .i64 wg) := (blk_cell BKg3.out 2).trans rfl); (try have hcg8_0 : W_.cell? ⟨g8, 0, none⟩ = some (.slice A0 l0.length c0) := (blk_cell BKg8.out 0).trans rfl); (try have hcg8_1 : W_.cell? ⟨g8, 1, none⟩ = some (.slice (some ⟨go, 0, none⟩) xs.length cX) := (blk_cell BKg8.out 1).trans rfl); (try have hcg8_2 : W_.cell? ⟨g8, 2, none⟩ = some (.int .i64 wg) := (blk_cell BKg8.out 2).trans rfl); (try have hcg15_0 : W_.cell? ⟨g15, 0, none⟩ = some (.int .i64 0) := (blk_cell BKg15.out 0).trans rfl); (try have hcg15_1 : W_.cell? ⟨g15, 1, none⟩ = some (.int .i64 0) := (blk_cell BKg15.out 1).trans rfl)) | ((with_reducible refine gate_store (t := 55) (p := 15) rfl ?_); go_must (refine wpList_store_row rfl 55 _ _ rfl g15 #[.int .i64 lo, .int .i64 hi] rfl rfl 55 (#[.int .i64 0, .int .i64 0]) BKg15.out rfl rfl (by simp [Value.oneCell']) ?_; (try clear hcg3_0 hcg3_1 hcg3_2); (try clear hcg8_0 hcg8_1 hcg8_2); (try clear hcg15_0 hcg15_1); (try clear HT); (try replace HB_w6 := Aside0.mk (below_setRow HB_w6.out GEg15_w6.out (#[.int .i64 lo, .int .i64 hi]))); (try replace BKg3 := Aside0.mk (blk_setRow BKg3.out BKg15.out (by decide) (#[.int .i64 lo, .int .i64 hi]))); (try replace BKg8 := Aside0.mk (blk_setRow BKg8.out BKg15.out (by decide) (#[.int .i64 lo, .int .i64 hi]))); (try replace HX := Aside0.mk (RX.setRow (us := #[.int .i64 lo, .int .i64 hi]) HX.out BKg15.out (by decide))); (try replace HW := Aside0.mk (row_setRow HW.out BKg15.out (by decide) (#[.int .i64 lo, .int .i64 hi]))); (try replace HU := Aside0.mk (row_setRow HU.out BKg15.out (by decide) (#[.int .i64 lo, .int .i64 hi]))); (try replace BKg17 := Aside0.mk ((setRow_other W_ g15 g17 (#[.int .i64 lo, .int .i64 hi]) (by first | exact Nat.ne_of_lt NEg17_g15.out | exact Nat.ne_of_gt NEg15_g17.out)).trans BKg17.out)); (try replace HV := Aside0.mk (row_setRow HV.out BKg15.out (by decide) (#[.int .i64 lo, .int .i64 hi]))); (try replace HM := Aside0.mk (row_setRow HM.out BKg15.out (by decide) (#[.int .i64 lo, .int .i64 hi]))); replace HB := Aside0.mk (below_setRow HB.out GEg15.out (#[.int .i64 lo, .int .i64 hi])); replace BKg15 := Aside0.mk (setRow_heap W_ g15 _ (#[.int .i64 lo, .int .i64 hi]) _ _ BKg15.out); generalize W_.setRow g15 (#[.int .i64 lo, .int .i64 hi]) = W_ at *; (try have hcg3_0 : W_.cell? ⟨g3, 0, none⟩ = some (.slice A0 l0.length c0) := (blk_cell BKg3.out 0).trans rfl); (try have hcg3_1 : W_.cell? ⟨g3, 1, none⟩ = some (.slice A1 l1.length c1) := (blk_cell BKg3.out 1).trans rfl); (try have hcg3_2 : W_.cell? ⟨g3, 2, none⟩ = some (.int .i64 wg) := (blk_cell BKg3.out 2).trans rfl); (try have hcg8_0 : W_.cell? ⟨g8, 0, none⟩ = some (.slice A0 l0.length c0) := (blk_cell BKg8.out 0).trans rfl); (try have hcg8_1 : W_.cell? ⟨g8, 1, none⟩ = some (.slice (some ⟨go, 0, none⟩) xs.length cX) := (blk_cell BKg8.out 1).trans rfl); (try have hcg8_2 : W_.cell? ⟨g8, 2, none⟩ = some (.int .i64 wg) := (blk_cell BKg8.out 2).trans rfl); (try have hcg15_0 : W_.cell? ⟨g15, 0, none⟩ = some (.int .i64 lo) := (blk_cell BKg15.out 0).trans rfl); (try have hcg15_1 : W_.cell? ⟨g15, 1, none⟩ = some (.int .i64 hi) := (blk_cell BKg15.out 1).trans rfl))) | ((with_reducible refine gate_dst (N := 17) rfl ?_); refine box_event ?hg (N := 17) ?hd (cs := #[.int .i64 0, .int .i64 0]) (t := 55) ?hr ?_; (case hd => rfl); (case hg => rfl); (case hr => first | (go_simp; done) | (go_simp; rfl)); intro g17 hg W_ hbox hb; (try have NEg15_g17 := Aside0.mk (show g15 < g17 from by rw [hg]; exact blk_lt BKg15.out)); have GEg17 := Aside0.mk (by rw [hg]; exact HB.out.size : w.heap.size ≤ g17); (try have GEg17_w6 := Aside0.mk (by rw [hg]; exact HB_w6.out.size : w6.heap.size ≤ g17)); (try clear hcg3_0 hcg3_1 hcg3_2); (try clear hcg8_0 hcg8_1 hcg8_2); (try clear hcg15_0 hcg15_1); (try clear hcg17_0 hcg17_1); (try replace HB := Aside0.mk (below_step HB.out hb)); (try replace HB_w6 := Aside0.mk (below_step HB_w6.out hb)); (try replace HT := Aside0.mk (HT.out.below hb)); (try replace BKg3 := Aside0.mk (blk_below BKg3.out hb)); (try replace BKg8 := Aside0.mk (blk_below BKg8.out hb)); (try replace HX := Aside0.mk (HX.out.below hb)); (try replace HW := Aside0.mk (Kd.R_below HW.out hb)); (try replace HU := Aside0.mk (Kd.R_below HU.out hb)); (try replace BKg15 := Aside0.mk (blk_below BKg15.out hb)); (try replace BKg17 := Aside0.mk (blk_below BKg17.out hb)); (try replace HV := Aside0.mk (Kd.R_below HV.out hb)); (try replace HM := Aside0.mk (Kd.R_below HM.out hb)); have BKg17 := Aside0.mk hbox; clear hb hbox hg; (try have hcg3_0 : W_.cell? ⟨g3, 0, none⟩ = some (.slice A0 l0.length c0) := (blk_cell BKg3.out 0).trans rfl); (try have hcg3_1 : W_.cell? ⟨g3, 1, none⟩ = some (.slice A1 l1.length c1) := (blk_cell BKg3.out 1).trans rfl); (try have hcg3_2 : W_.cell? ⟨g3, 2, none⟩ = some (.int .i64 wg) := (blk_cell BKg3.out 2).trans rfl); (try have hcg8_0 : W_.cell? ⟨g8, 0, none⟩ = some (.slice A0 l0.length c0) := (blk_cell BKg8.out 0).trans rfl); (try have hcg8_1 : W_.cell? ⟨g8, 1, none⟩ = some (.slice (some ⟨go, 0, none⟩) xs.length cX) := (blk_cell BKg8.out 1).trans rfl); (try have hcg8_2 : W_.cell? ⟨g8, 2, none⟩ = some (.int .i64 wg) := (blk_cell BKg8.out 2).trans rfl); (try have hcg15_0 : W_.cell? ⟨g15, 0, none⟩ = some (.int .i64 lo) := (blk_cell BKg15.out 0).trans rfl); (try have hcg15_1 : W_.cell? ⟨g15, 1, none⟩ = some (.int .i64 hi) := (blk_cell BKg15.out 1).trans rfl); (try have hcg17_0 : W_.cell? ⟨g17, 0, none⟩ = some (.int .i64 0) := (blk_cell BKg17.out 0).trans rfl); (try have hcg17_1 : W_.cell? ⟨g17, 1, none⟩ = some (.int .i64 0) := (blk_cell BKg17.out 1).trans rfl)) | ((with_reducible refine gate_store (t := 55) (p := 17) rfl ?_); go_must (refine wpList_store_row rfl 55 _ _ rfl g17 #[.int .i64 lo2, .int .i64 hi2] rfl rfl 55 (#[.int .i64 0, .int .i64 0]) BKg17.out rfl rfl (by simp [Value.oneCell']) ?_; (try clear hcg3_0 hcg3_1 hcg3_2); (try clear hcg8_0 hcg8_1 hcg8_2); (try clear hcg15_0 hcg15_1); (try clear hcg17_0 hcg17_1); (try clear HT); (try replace HB_w6 := Aside0.mk (below_setRow HB_w6.out GEg17_w6.out (#[.int .i64 lo2, .int .i64 hi2]))); (try replace BKg3 := Aside0.mk (blk_setRow BKg3.out BKg17.out (by decide) (#[.int .i64 lo2, .int .i64 hi2]))); (try replace BKg8 := Aside0.mk (blk_setRow BKg8.out BKg17.out (by decide) (#[.int .i64 lo2, .int .i64 hi2]))); (try replace HX := Aside0.mk (RX.setRow (us := #[.int .i64 lo2, .int .i64 hi2]) HX.out BKg17.out (by decide))); (try replace HW := Aside0.mk (row_setRow HW.out BKg17.out (by decide) (#[.int .i64 lo2, .int .i64 hi2]))); (try replace HU := Aside0.mk (row_setRow HU.out BKg17.out (by decide) (#[.int .i64 lo2, .int .i64 hi2]))); (try replace BKg15 := Aside0.mk ((setRow_other W_ g17 g15 (#[.int .i64 lo2, .int .i64 hi2]) (by first | exact Nat.ne_of_lt NEg15_g17.out | exact Nat.ne_of_gt NEg17_g15.out)).trans BKg15.out)); (try replace HV := Aside0.mk (row_setRow HV.out BKg17.out (by decide) (#[.int .i64 lo2, .int .i64 hi2]))); (try replace HM := Aside0.mk (row_setRow HM.out BKg17.out (by decide) (#[.int .i64 lo2, .int .i64 hi2]))); replace HB := Aside0.mk (below_setRow HB.out GEg17.out (#[.int .i64 lo2, .int .i64 hi2])); replace BKg17 := Aside0.mk (setRow_heap W_ g17 _ (#[.int .i64 lo2, .int .i64 hi2]) _ _ BKg17.out); generalize W_.setRow g17 (#[.int .i64 lo2, .int .i64 hi2]) = W_ at *; (try have hcg3_0 : W_.cell? ⟨g3, 0, none⟩ = some (.slice A0 l0.length c0) := (blk_cell BKg3.out 0).trans rfl); (try have hcg3_1 : W_.cell? ⟨g3, 1, none⟩ = some (.slice A1 l1.length c1) := (blk_cell BKg3.out 1).trans rfl); (try have hcg3_2 : W_.cell? ⟨g3, 2, none⟩ = some (.int .i64 wg) := (blk_cell BKg3.out 2).trans rfl); (try have hcg8_0 : W_.cell? ⟨g8, 0, none⟩ = some (.slice A0 l0.length c0) := (blk_cell BKg8.out 0).trans rfl); (try have hcg8_1 : W_.cell? ⟨g8, 1, none⟩ = some (.slice (some ⟨go, 0, none⟩) xs.length cX) := (blk_cell BKg8.out 1).trans rfl); (try have hcg8_2 : W_.cell? ⟨g8, 2, none⟩ = some (.int .i64 wg) := (blk_cell BKg8.out 2).trans rfl); (try have hcg15_0 : W_.cell? ⟨g15, 0, none⟩ = some (.int .i64 lo) := (blk_cell BKg15.out 0).trans rfl); (try have hcg15_1 : W_.cell? ⟨g15, 1, none⟩ = some (.int .i64 hi) := (blk_cell BKg15.out 1).trans rfl); (try have hcg17_0 : W_.cell? ⟨g17, 0, none⟩ = some (.int .i64 lo2) := (blk_cell BKg17.out 0).trans rfl); (try have hcg17_1 : W_.cell? ⟨g17, 1, none⟩ = some (.int .i64 hi2) := (blk_cell BKg17.out 1).trans rfl))) | (go_at_call 22; go_must (first | ((with_reducible refine (whose_c _ HT.out HE.out HSW.out).mono ?_); rintro e W_ ⟨v_, rfl, ho, hb⟩; (try clear hcg3_0 hcg3_1 hcg3_2); (try clear hcg8_0 hcg8_1 hcg8_2); (try clear hcg15_0 hcg15_1); (try clear hcg17_0 hcg17_1); (try replace HB := Aside0.mk (below_step HB.out hb)); (try replace HB_w6 := Aside0.mk (below_step HB_w6.out hb)); (try replace HT := Aside0.mk (HT.out.below hb)); (try replace BKg3 := Aside0.mk (blk_below BKg3.out hb)); (try replace BKg8 := Aside0.mk (blk_below BKg8.out hb)); (try replace HX := Aside0.mk (HX.out.below hb)); (try replace HW := Aside0.mk (Kd.R_below HW.out hb)); (try replace HU := Aside0.mk (Kd.R_below HU.out hb)); (try replace BKg15 := Aside0.mk (blk_below BKg15.out hb)); (try replace BKg17 := Aside0.mk (blk_below BKg17.out hb)); (try replace HV := Aside0.mk (Kd.R_below HV.out hb)); (try replace HM := Aside0.mk (Kd.R_below HM.out hb)); have HW := Aside0.mk ho; obtain ⟨AHW, cHW, eHW⟩ := Kd.R_slice HW.out; subst eHW; clear ho; clear hb; (try have hcg3_0 : W_.cell? ⟨g3, 0, none⟩ = some (.slice A0 l0.length c0) := (blk_cell BKg3.out 0).trans rfl); (try have hcg3_1 : W_.cell? ⟨g3, 1, none⟩ = some (.slice A1 l1.length c1) := (blk_cell BKg3.out 1).trans rfl); (try have hcg3_2 : W_.cell? ⟨g3, 2, none⟩ = some (.int .i64 wg) := (blk_cell BKg3.out 2).trans rfl); (try have hcg8_0 : W_.cell? ⟨g8, 0, none⟩ = some (.slice A0 l0.length c0) := (blk_cell BKg8.out 0).trans rfl); (try have hcg8_1 : W_.cell? ⟨g8, 1, none⟩ = some (.slice (some ⟨go, 0, none⟩) xs.length cX) := (blk_cell BKg8.out 1).trans rfl); (try have hcg8_2 : W_.cell? ⟨g8, 2, none⟩ = some (.int .i64 wg) := (blk_cell BKg8.out 2).trans rfl); (try have hcg15_0 : W_.cell? ⟨g15, 0, none⟩ = some (.int .i64 lo) := (blk_cell BKg15.out 0).trans rfl); (try have hcg15_1 : W_.cell? ⟨g15, 1, none⟩ = some (.int .i64 hi) := (blk_cell BKg15.out 1).trans rfl); (try have hcg17_0 : W_.cell? ⟨g17, 0, none⟩ = some (.int .i64 lo2) := (blk_cell BKg17.out 0).trans rfl); (try have hcg17_1 : W_.cell? ⟨g17, 1, none⟩ = some (.int .i64 hi2) := (blk_cell BKg17.out 1).trans rfl)) | ((with_reducible refine (whose_c _ HT.out HEX.out HSU.out).mono ?_); rintro e W_ ⟨v_, rfl, ho, hb⟩; (try clear hcg3_0 hcg3_1 hcg3_2); (try clear hcg8_0 hcg8_1 hcg8_2); (try clear hcg15_0 hcg15_1); (try clear hcg17_0 hcg17_1); (try replace HB := Aside0.mk (below_step HB.out hb)); (try replace HB_w6 := Aside0.mk (below_step HB_w6.out hb)); (try replace HT := Aside0.mk (HT.out.below hb)); (try replace BKg3 := Aside0.mk (blk_below BKg3.out hb)); (try replace BKg8 := Aside0.mk (blk_below BKg8.out hb)); (try replace HX := Aside0.mk (HX.out.below hb)); (try replace HW := Aside0.mk (Kd.R_below HW.out hb)); (try replace HU := Aside0.mk (Kd.R_below HU.out hb)); (try replace BKg15 := Aside0.mk (blk_below BKg15.out hb)); (try replace BKg17 := Aside0.mk (blk_below BKg17.out hb)); (try replace HV := Aside0.mk (Kd.R_below HV.out hb)); (try replace HM := Aside0.mk (Kd.R_below HM.out hb)); have HU := Aside0.mk ho; obtain ⟨AHU, cHU, eHU⟩ := Kd.R_slice HU.out; subst eHU; clear ho; clear hb; (try have hcg3_0 : W_.cell? ⟨g3, 0, none⟩ = some (.slice A0 l0.length c0) := (blk_cell BKg3.out 0).trans rfl); (try have hcg3_1 : W_.cell? ⟨g3, 1, none⟩ = some (.slice A1 l1.length c1) := (blk_cell BKg3.out 1).trans rfl); (try have hcg3_2 : W_.cell? ⟨g3, 2, none⟩ = some (.int .i64 wg) := (blk_cell BKg3.out 2).trans rfl); (try have hcg8_0 : W_.cell? ⟨g8, 0, none⟩ = some (.slice A0 l0.length c0) := (blk_cell BKg8.out 0).trans rfl); (try have hcg8_1 : W_.cell? ⟨g8, 1, none⟩ = some (.slice (some ⟨go, 0, none⟩) xs.length cX) := (blk_cell BKg8.out 1).trans rfl); (try have hcg8_2 : W_.cell? ⟨g8, 2, none⟩ = some (.int .i64 wg) := (blk_cell BKg8.out 2).trans rfl); (try have hcg15_0 : W_.cell? ⟨g15, 0, none⟩ = some (.int .i64 lo) := (blk_cell BKg15.out 0).trans rfl); (try have hcg15_1 : W_.cell? ⟨g15, 1, none⟩ = some (.int .i64 hi) := (blk_cell BKg15.out 1).trans rfl); (try have hcg17_0 : W_.cell? ⟨g17, 0, none⟩ = some (.int .i64 lo2) := (blk_cell BKg17.out 0).trans rfl); (try have hcg17_1 : W_.cell? ⟨g17, 1, none⟩ = some (.int .i64 hi2) := (blk_cell BKg17.out 1).trans rfl)))) | (go_at_call 37; go_must (first | ((with_reducible refine (ast_c _ HT.out HE.out HSD.out).mono ?_); rintro e W_ ⟨rfl, hb⟩; (try clear hcg3_0 hcg3_1 hcg3_2); (try clear hcg8_0 hcg8_1 hcg8_2); (try clear hcg15_0 hcg15_1); (try clear hcg17_0 hcg17_1); (try replace HB := Aside0.mk (below_step HB.out hb)); (try replace HB_w6 := Aside0.mk (below_step HB_w6.out hb)); (try replace HT := Aside0.mk (HT.out.below hb)); (try replace BKg3 := Aside0.mk (blk_below BKg3.out hb)); (try replace BKg8 := Aside0.mk (blk_below BKg8.out hb)); (try replace HX := Aside0.mk (HX.out.below hb)); (try replace HW := Aside0.mk (Kd.R_below HW.out hb)); (try replace HU := Aside0.mk (Kd.R_below HU.out hb)); (try replace BKg15 := Aside0.mk (blk_below BKg15.out hb)); (try replace BKg17 := Aside0.mk (blk_below BKg17.out hb)); (try replace HV := Aside0.mk (Kd.R_below HV.out hb)); (try replace HM := Aside0.mk (Kd.R_below HM.out hb)); skip; clear hb; (try have hcg3_0 : W_.cell? ⟨g3, 0, none⟩ = some (.slice A0 l0.length c0) := (blk_cell BKg3.out 0).trans rfl); (try have hcg3_1 : W_.cell? ⟨g3, 1, none⟩ = some (.slice A1 l1.length c1) := (blk_cell BKg3.out 1).trans rfl); (try have hcg3_2 : W_.cell? ⟨g3, 2, none⟩ = some (.int .i64 wg) := (blk_cell BKg3.out 2).trans rfl); (try have hcg8_0 : W_.cell? ⟨g8, 0, none⟩ = some (.slice A0 l0.length c0) := (blk_cell BKg8.out 0).trans rfl); (try have hcg8_1 : W_.cell? ⟨g8, 1, none⟩ = some (.slice (some ⟨go, 0, none⟩) xs.length cX) := (blk_cell BKg8.out 1).trans rfl); (try have hcg8_2 : W_.cell? ⟨g8, 2, none⟩ = some (.int .i64 wg) := (blk_cell BKg8.out 2).trans rfl); (try have hcg15_0 : W_.cell? ⟨g15, 0, none⟩ = some (.int .i64 lo) := (blk_cell BKg15.out 0).trans rfl); (try have hcg15_1 : W_.cell? ⟨g15, 1, none⟩ = some (.int .i64 hi) := (blk_cell BKg15.out 1).trans rfl); (try have hcg17_0 : W_.cell? ⟨g17, 0, none⟩ = some (.int .i64 lo2) := (blk_cell BKg17.out 0).trans rfl); (try have hcg17_1 : W_.cell? ⟨g17, 1, none⟩ = some (.int .i64 hi2) := (blk_cell BKg17.out 1).trans rfl)) | ((with_reducible refine (ast_c _ HT.out HEX.out HSE.out).mono ?_); rintro e W_ ⟨rfl, hb⟩; (try clear hcg3_0 hcg3_1 hcg3_2); (try clear hcg8_0 hcg8_1 hcg8_2); (try clear hcg15_0 hcg15_1); (try clear hcg17_0 hcg17_1); (try replace HB := Aside0.mk (below_step HB.out hb)); (try replace HB_w6 := Aside0.mk (below_step HB_w6.out hb)); (try replace HT := Aside0.mk (HT.out.below hb)); (try replace BKg3 := Aside0.mk (blk_below BKg3.out hb)); (try replace BKg8 := Aside0.mk (blk_below BKg8.out hb)); (try replace HX := Aside0.mk (HX.out.below hb)); (try replace HW := Aside0.mk (Kd.R_below HW.out hb)); (try replace HU := Aside0.mk (Kd.R_below HU.out hb)); (try replace BKg15 := Aside0.mk (blk_below BKg15.out hb)); (try replace BKg17 := Aside0.mk (blk_below BKg17.out hb)); (try replace HV := Aside0.mk (Kd.R_below HV.out hb)); (try replace HM := Aside0.mk (Kd.R_below HM.out hb)); skip; clear hb; (try have hcg3_0 : W_.cell? ⟨g3, 0, none⟩ = some (.slice A0 l0.length c0) := (blk_cell BKg3.out 0).trans rfl); (try have hcg3_1 : W_.cell? ⟨g3, 1, none⟩ = some (.slice A1 l1.length c1) := (blk_cell BKg3.out 1).trans rfl); (try have hcg3_2 : W_.cell? ⟨g3, 2, none⟩ = some (.int .i64 wg) := (blk_cell BKg3.out 2).trans rfl); (try have hcg8_0 : W_.cell? ⟨g8, 0, none⟩ = some (.slice A0 l0.length c0) := (blk_cell BKg8.out 0).trans rfl); (try have hcg8_1 : W_.cell? ⟨g8, 1, none⟩ = some (.slice (some ⟨go, 0, none⟩) xs.length cX) := (blk_cell BKg8.out 1).trans rfl); (try have hcg8_2 : W_.cell? ⟨g8, 2, none⟩ = some (.int .i64 wg) := (blk_cell BKg8.out 2).trans rfl); (try have hcg15_0 : W_.cell? ⟨g15, 0, none⟩ = some (.int .i64 lo) := (blk_cell BKg15.out 0).trans rfl); (try have hcg15_1 : W_.cell? ⟨g15, 1, none⟩ = some (.int .i64 hi) := (blk_cell BKg15.out 1).trans rfl); (try have hcg17_0 : W_.cell? ⟨g17, 0, none⟩ = some (.int .i64 lo2) := (blk_cell BKg17.out 0).trans rfl); (try have hcg17_1 : W_.cell? ⟨g17, 1, none⟩ = some (.int .i64 hi2) := (blk_cell BKg17.out 1).trans rfl)))) | (go_at_call 27; go_must (first | ((with_reducible refine (miss_c _ HT.out HE.out HSV.out).mono ?_); rintro e W_ ⟨v_, rfl, ho, hb⟩; (try clear hcg3_0 hcg3_1 hcg3_2); (try clear hcg8_0 hcg8_1 hcg8_2); (try clear hcg15_0 hcg15_1); (try clear hcg17_0 hcg17_1); (try replace HB := Aside0.mk (below_step HB.out hb)); (try replace HB_w6 := Aside0.mk (below_step HB_w6.out hb)); (try replace HT := Aside0.mk (HT.out.below hb)); (try replace BKg3 := Aside0.mk (blk_below BKg3.out hb)); (try replace BKg8 := Aside0.mk (blk_below BKg8.out hb)); (try replace HX := Aside0.mk (HX.out.below hb)); (try replace HW := Aside0.mk (Kd.R_below HW.out hb)); (try replace HU := Aside0.mk (Kd.R_below HU.out hb)); (try replace BKg15 := Aside0.mk (blk_below BKg15.out hb)); (try replace BKg17 := Aside0.mk (blk_below BKg17.out hb)); (try replace HV := Aside0.mk (Kd.R_below HV.out hb)); (try replace HM := Aside0.mk (Kd.R_below HM.out hb)); have HV := Aside0.mk ho; obtain ⟨AHV, cHV, eHV⟩ := Kd.R_slice HV.out; subst eHV; clear ho; clear hb; (try have hcg3_0 : W_.cell? ⟨g3, 0, none⟩ = some (.slice A0 l0.length c0) := (blk_cell BKg3.out 0).trans rfl); (try have hcg3_1 : W_.cell? ⟨g3, 1, none⟩ = some (.slice A1 l1.length c1) := (blk_cell BKg3.out 1).trans rfl); (try have hcg3_2 : W_.cell? ⟨g3, 2, none⟩ = some (.int .i64 wg) := (blk_cell BKg3.out 2).trans rfl); (try have hcg8_0 : W_.cell? ⟨g8, 0, none⟩ = some (.slice A0 l0.length c0) := (blk_cell BKg8.out 0).trans rfl); (try have hcg8_1 : W_.cell? ⟨g8, 1, none⟩ = some (.slice (some ⟨go, 0, none⟩) xs.length cX) := (blk_cell BKg8.out 1).trans rfl); (try have hcg8_2 : W_.cell? ⟨g8, 2, none⟩ = some (.int .i64 wg) := (blk_cell BKg8.out 2).trans rfl); (try have hcg15_0 : W_.cell? ⟨g15, 0, none⟩ = some (.int .i64 lo) := (blk_cell BKg15.out 0).trans rfl); (try have hcg15_1 : W_.cell? ⟨g15, 1, none⟩ = some (.int .i64 hi) := (blk_cell BKg15.out 1).trans rfl); (try have hcg17_0 : W_.cell? ⟨g17, 0, none⟩ = some (.int .i64 lo2) := (blk_cell BKg17.out 0).trans rfl); (try have hcg17_1 : W_.cell? ⟨g17, 1, none⟩ = some (.int .i64 hi2) := (blk_cell BKg17.out 1).trans rfl)) | ((with_reducible refine (miss_c _ HT.out HEX.out HSM.out).mono ?_); rintro e W_ ⟨v_, rfl, ho, hb⟩; (try clear hcg3_0 hcg3_1 hcg3_2); (try clear hcg8_0 hcg8_1 hcg8_2); (try clear hcg15_0 hcg15_1); (try clear hcg17_0 hcg17_1); (try replace HB := Aside0.mk (below_step HB.out hb)); (try replace HB_w6 := Aside0.mk (below_step HB_w6.out hb)); (try replace HT := Aside0.mk (HT.out.below hb)); (try replace BKg3 := Aside0.mk (blk_below BKg3.out hb)); (try replace BKg8 := Aside0.mk (blk_below BKg8.out hb)); (try replace HX := Aside0.mk (HX.out.below hb)); (try replace HW := Aside0.mk (Kd.R_below HW.out hb)); (try replace HU := Aside0.mk (Kd.R_below HU.out hb)); (try replace BKg15 := Aside0.mk (blk_below BKg15.out hb)); (try replace BKg17 := Aside0.mk (blk_below BKg17.out hb)); (try replace HV := Aside0.mk (Kd.R_below HV.out hb)); (try replace HM := Aside0.mk (Kd.R_below HM.out hb)); have HM := Aside0.mk ho; obtain ⟨AHM, cHM, eHM⟩ := Kd.R_slice HM.out; subst eHM; clear ho; clear hb; (try have hcg3_0 : W_.cell? ⟨g3, 0, none⟩ = some (.slice A0 l0.length c0) := (blk_cell BKg3.out 0).trans rfl); (try have hcg3_1 : W_.cell? ⟨g3, 1, none⟩ = some (.slice A1 l1.length c1) := (blk_cell BKg3.out 1).trans rfl); (try have hcg3_2 : W_.cell? ⟨g3, 2, none⟩ = some (.int .i64 wg) := (blk_cell BKg3.out 2).trans rfl); (try have hcg8_0 : W_.cell? ⟨g8, 0, none⟩ = some (.slice A0 l0.length c0) := (blk_cell BKg8.out 0).trans rfl); (try have hcg8_1 : W_.cell? ⟨g8, 1, none⟩ = some (.slice (some ⟨go, 0, none⟩) xs.length cX) := (blk_cell BKg8.out 1).trans rfl); (try have hcg8_2 : W_.cell? ⟨g8, 2, none⟩ = some (.int .i64 wg) := (blk_cell BKg8.out 2).trans rfl); (try have hcg15_0 : W_.cell? ⟨g15, 0, none⟩ = some (.int .i64 lo) := (blk_cell BKg15.out 0).trans rfl); (try have hcg15_1 : W_.cell? ⟨g15, 1, none⟩ = some (.int .i64 hi) := (blk_cell BKg15.out 1).trans rfl); (try have hcg17_0 : W_.cell? ⟨g17, 0, none⟩ = some (.int .i64 lo2) := (blk_cell BKg17.out 0).trans rfl); (try have hcg17_1 : W_.cell? ⟨g17, 1, none⟩ = some (.int .i64 hi2) := (blk_cell BKg17.out 1).trans rfl)))) | (go_at_call 52; go_must (first | ((with_reducible refine (posserlaw03_subsets.calls k AHU cHU us AHW cHW ws true _ (Kd.R_reads' HU.out).2.2 (Kd.R_reads' HU.out).2.1 (Kd.R_reads' HW.out).2.2 (Kd.R_reads' HW.out).2.1 HS1.out).mono ?_); rintro e Wq ⟨rfl, ⟨nd, rfl⟩⟩; have hb := pw_below_drewN (Below.refl W_.heap.size W_) nd; (try clear hcg3_0 hcg3_1 hcg3_2); (try clear hcg8_0 hcg8_1 hcg8_2); (try clear hcg15_0 hcg15_1); (try clear hcg17_0 hcg17_1); (try replace HB := Aside0.mk (below_step HB.out hb)); (try replace HB_w6 := Aside0.mk (below_step HB_w6.out hb)); (try replace HT := Aside0.mk (HT.out.below hb)); (try replace BKg3 := Aside0.mk (blk_below BKg3.out hb)); (try replace BKg8 := Aside0.mk (blk_below BKg8.out hb)); (try replace HX := Aside0.mk (HX.out.below hb)); (try replace HW := Aside0.mk (Kd.R_below HW.out hb)); (try replace HU := Aside0.mk (Kd.R_below HU.out hb)); (try replace BKg15 := Aside0.mk (blk_below BKg15.out hb)); (try replace BKg17 := Aside0.mk (blk_below BKg17.out hb)); (try replace HV := Aside0.mk (Kd.R_below HV.out hb)); (try replace HM := Aside0.mk (Kd.R_below HM.out hb)); clear hb; generalize W_.drewN nd = W_ at *; (try have hcg3_0 : W_.cell? ⟨g3, 0, none⟩ = some (.slice A0 l0.length c0) := (blk_cell BKg3.out 0).trans rfl); (try have hcg3_1 : W_.cell? ⟨g3, 1, none⟩ = some (.slice A1 l1.length c1) := (blk_cell BKg3.out 1).trans rfl); (try have hcg3_2 : W_.cell? ⟨g3, 2, none⟩ = some (.int .i64 wg) := (blk_cell BKg3.out 2).trans rfl); (try have hcg8_0 : W_.cell? ⟨g8, 0, none⟩ = some (.slice A0 l0.length c0) := (blk_cell BKg8.out 0).trans rfl); (try have hcg8_1 : W_.cell? ⟨g8, 1, none⟩ = some (.slice (some ⟨go, 0, none⟩) xs.length cX) := (blk_cell BKg8.out 1).trans rfl); (try have hcg8_2 : W_.cell? ⟨g8, 2, none⟩ = some (.int .i64 wg) := (blk_cell BKg8.out 2).trans rfl); (try have hcg15_0 : W_.cell? ⟨g15, 0, none⟩ = some (.int .i64 lo) := (blk_cell BKg15.out 0).trans rfl); (try have hcg15_1 : W_.cell? ⟨g15, 1, none⟩ = some (.int .i64 hi) := (blk_cell BKg15.out 1).trans rfl); (try have hcg17_0 : W_.cell? ⟨g17, 0, none⟩ = some (.int .i64 lo2) := (blk_cell BKg17.out 0).trans rfl); (try have hcg17_1 : W_.cell? ⟨g17, 1, none⟩ = some (.int .i64 hi2) := (blk_cell BKg17.out 1).trans rfl)))) | (go_at_call 53; go_must (first | ((with_reducible refine (posserlaw03_kept.calls k AHV cHV vs AHM cHM vx true _ (Kd.R_reads' HV.out).2.2 (Kd.R_reads' HV.out).2.1 (Kd.R_reads' HM.out).2.2 (Kd.R_reads' HM.out).2.1 HS2.out).mono ?_); rintro e Wq ⟨rfl, ⟨nd, rfl⟩⟩; have hb := pw_below_drewN (Below.refl W_.heap.size W_) nd; (try clear hcg3_0 hcg3_1 hcg3_2); (try clear hcg8_0 hcg8_1 hcg8_2); (try clear hcg15_0 hcg15_1); (try clear hcg17_0 hcg17_1); (try replace HB := Aside0.mk (below_step HB.out hb)); (try replace HB_w6 := Aside0.mk (below_step HB_w6.out hb)); (try replace HT := Aside0.mk (HT.out.below hb)); (try replace BKg3 := Aside0.mk (blk_below BKg3.out hb)); (try replace BKg8 := Aside0.mk (blk_below BKg8.out hb)); (try replace HX := Aside0.mk (HX.out.below hb)); (try replace HW := Aside0.mk (Kd.R_below HW.out hb)); (try replace HU := Aside0.mk (Kd.R_below HU.out hb)); (try replace BKg15 := Aside0.mk (blk_below BKg15.out hb)); (try replace BKg17 := Aside0.mk (blk_below BKg17.out hb)); (try replace HV := Aside0.mk (Kd.R_below HV.out hb)); (try replace HM := Aside0.mk (Kd.R_below HM.out hb)); clear hb; generalize W_.drewN nd = W_ at *; (try have hcg3_0 : W_.cell? ⟨g3, 0, none⟩ = some (.slice A0 l0.length c0) := (blk_cell BKg3.out 0).trans rfl); (try have hcg3_1 : W_.cell? ⟨g3, 1, none⟩ = some (.slice A1 l1.length c1) := (blk_cell BKg3.out 1).trans rfl); (try have hcg3_2 : W_.cell? ⟨g3, 2, none⟩ = some (.int .i64 wg) := (blk_cell BKg3.out 2).trans rfl); (try have hcg8_0 : W_.cell? ⟨g8, 0, none⟩ = some (.slice A0 l0.length c0) := (blk_cell BKg8.out 0).trans rfl); (try have hcg8_1 : W_.cell? ⟨g8, 1, none⟩ = some (.slice (some ⟨go, 0, none⟩) xs.length cX) := (blk_cell BKg8.out 1).trans rfl); (try have hcg8_2 : W_.cell? ⟨g8, 2, none⟩ = some (.int .i64 wg) := (blk_cell BKg8.out 2).trans rfl); (try have hcg15_0 : W_.cell? ⟨g15, 0, none⟩ = some (.int .i64 lo) := (blk_cell BKg15.out 0).trans rfl); (try have hcg15_1 : W_.cell? ⟨g15, 1, none⟩ = some (.int .i64 hi) := (blk_cell BKg15.out 1).trans rfl); (try have hcg17_0 : W_.cell? ⟨g17, 0, none⟩ = some (.int .i64 lo2) := (blk_cell BKg17.out 0).trans rfl); (try have hcg17_1 : W_.cell? ⟨g17, 1, none⟩ = some (.int .i64 hi2) := (blk_cell BKg17.out 1).trans rfl)))) | (go_at_call 21; go_must (refine (awake_calls _).mono ?_; rintro e W_ ⟨rfl, hb⟩; (try clear hcg3_0 hcg3_1 hcg3_2); (try clear hcg8_0 hcg8_1 hcg8_2); (try clear hcg15_0 hcg15_1); (try clear hcg17_0 hcg17_1); (try replace HB := Aside0.mk (below_step HB.out hb)); (try replace HB_w6 := Aside0.mk (below_step HB_w6.out hb)); (try replace HT := Aside0.mk (HT.out.below hb)); (try replace BKg3 := Aside0.mk (blk_below BKg3.out hb)); (try replace BKg8 := Aside0.mk (blk_below BKg8.out hb)); (try replace HX := Aside0.mk (HX.out.below hb)); (try replace HW := Aside0.mk (Kd.R_below HW.out hb)); (try replace HU := Aside0.mk (Kd.R_below HU.out hb)); (try replace BKg15 := Aside0.mk (blk_below BKg15.out hb)); (try replace BKg17 := Aside0.mk (blk_below BKg17.out hb)); (try replace HV := Aside0.mk (Kd.R_below HV.out hb)); (try replace HM := Aside0.mk (Kd.R_below HM.out hb)); skip; clear hb; (try have hcg3_0 : W_.cell? ⟨g3, 0, none⟩ = some (.slice A0 l0.length c0) := (blk_cell BKg3.out 0).trans rfl); (try have hcg3_1 : W_.cell? ⟨g3, 1, none⟩ = some (.slice A1 l1.length c1) := (blk_cell BKg3.out 1).trans rfl); (try have hcg3_2 : W_.cell? ⟨g3, 2, none⟩ = some (.int .i64 wg) := (blk_cell BKg3.out 2).trans rfl); (try have hcg8_0 : W_.cell? ⟨g8, 0, none⟩ = some (.slice A0 l0.length c0) := (blk_cell BKg8.out 0).trans rfl); (try have hcg8_1 : W_.cell? ⟨g8, 1, none⟩ = some (.slice (some ⟨go, 0, none⟩) xs.length cX) := (blk_cell BKg8.out 1).trans rfl); (try have hcg8_2 : W_.cell? ⟨g8, 2, none⟩ = some (.int .i64 wg) := (blk_cell BKg8.out 2).trans rfl); (try have hcg15_0 : W_.cell? ⟨g15, 0, none⟩ = some (.int .i64 lo) := (blk_cell BKg15.out 0).trans rfl); (try have hcg15_1 : W_.cell? ⟨g15, 1, none⟩ = some (.int .i64 hi) := (blk_cell BKg15.out 1).trans rfl); (try have hcg17_0 : W_.cell? ⟨g17, 0, none⟩ = some (.int .i64 lo2) := (blk_cell BKg17.out 0).trans rfl); (try have hcg17_1 : W_.cell? ⟨g17, 1, none⟩ = some (.int .i64 hi2) := (blk_cell BKg17.out 1).trans rfl))))
    go_ret
    exact ⟨rfl, HB.out⟩
  rcases he with he | he
  all_goals (have HRX := Aside0.mk hr; have HEX := Aside0.mk hex; have HE := Aside0.mk he; clear hr hex he)
  all_goals (
    go_wp2_with (first | (go_at_call 47; go_must (refine (posserlaw03_ready.calls k A0 c0 l0 (some ⟨go, 0, none⟩) cX xs wg true _ (rtabE HRT.out HB.out HX.out HB_w6.out HX30.out HXM.out).r0 HC0.out (rtabE HRT.out HB.out HX.out HB_w6.out HX30.out HXM.out).r1 (rtabE HRT.out HB.out HX.out HB_w6.out HX30.out HXM.out).h1 HRX.out).mono ?_; rintro e W_ ⟨rfl, hb⟩; (try clear hcg3_0 hcg3_1 hcg3_2); (try clear hcg8_0 hcg8_1 hcg8_2); (try replace HB := Aside0.mk (below_step HB.out hb)); (try replace HB_w6 := Aside0.mk (below_step HB_w6.out hb)); (try replace HT := Aside0.mk (HT.out.below hb)); (try replace BKg3 := Aside0.mk (blk_below BKg3.out hb)); (try replace BKg8 := Aside0.mk (blk_below BKg8.out hb)); (try replace HX := Aside0.mk (HX.out.below hb)); (try replace HW := Aside0.mk (Kd.R_below HW.out hb)); (try replace HU := Aside0.mk (Kd.R_below HU.out hb)); (try replace BKg15 := Aside0.mk (blk_below BKg15.out hb)); (try replace BKg17 := Aside0.mk (blk_below BKg17.out hb)); (try replace HV := Aside0.mk (Kd.R_below HV.out hb)); (try replace HM := Aside0.mk (Kd.R_below HM.out hb)); skip; clear hb; (try have hcg3_0 : W_.cell? ⟨g3, 0, none⟩ = some (.slice A0 l0.length c0) := (blk_cell BKg3.out 0).trans rfl); (try have hcg3_1 : W_.cell? ⟨g3, 1, none⟩ = some (.slice A1 l1.length c1) := (blk_cell BKg3.out 1).trans rfl); (try have hcg3_2 : W_.cell? ⟨g3, 2, none⟩ = some (.int .i64 wg) := (blk_cell BKg3.out 2).trans rfl); (try have hcg8_0 : W_.cell? ⟨g8, 0, none⟩ = some (.slice A0 l0.length c0) := (blk_cell BKg8.out 0).trans rfl); (try have hcg8_1 : W_.cell? ⟨g8, 1, none⟩ = some (.slice (some ⟨go, 0, none⟩) xs.length cX) := (blk_cell BKg8.out 1).trans rfl); (try have hcg8_2 : W_.cell? ⟨g8, 2, none⟩ = some (.int .i64 wg) := (blk_cell BKg8.out 2).trans rfl))) | (go_at_call 23; go_must (first | ((with_reducible refine (tab_c _ (HRT.out.below HB.out) HL0.out HL1.out).mono ?_); rintro e W_ ⟨B0, d0, B1, d1, rfl, ht, hb⟩; (try clear hcg3_0 hcg3_1 hcg3_2); (try clear hcg8_0 hcg8_1 hcg8_2); (try replace HB := Aside0.mk (below_step HB.out hb)); (try replace HB_w6 := Aside0.mk (below_step HB_w6.out hb)); (try replace HT := Aside0.mk (HT.out.below hb)); (try replace BKg3 := Aside0.mk (blk_below BKg3.out hb)); (try replace BKg8 := Aside0.mk (blk_below BKg8.out hb)); (try replace HX := Aside0.mk (HX.out.below hb)); (try replace HW := Aside0.mk (Kd.R_below HW.out hb)); (try replace HU := Aside0.mk (Kd.R_below HU.out hb)); (try replace BKg15 := Aside0.mk (blk_below BKg15.out hb)); (try replace BKg17 := Aside0.mk (blk_below BKg17.out hb)); (try replace HV := Aside0.mk (Kd.R_below HV.out hb)); (try replace HM := Aside0.mk (Kd.R_below HM.out hb)); (try clear HT); have HT := Aside0.mk ht; clear ht; clear hb; (try have hcg3_0 : W_.cell? ⟨g3, 0, none⟩ = some (.slice A0 l0.length c0) := (blk_cell BKg3.out 0).trans rfl); (try have hcg3_1 : W_.cell? ⟨g3, 1, none⟩ = some (.slice A1 l1.length c1) := (blk_cell BKg3.out 1).trans rfl); (try have hcg3_2 : W_.cell? ⟨g3, 2, none⟩ = some (.int .i64 wg) := (blk_cell BKg3.out 2).trans rfl); (try have hcg8_0 : W_.cell? ⟨g8, 0, none⟩ = some (.slice A0 l0.length c0) := (blk_cell BKg8.out 0).trans rfl); (try have hcg8_1 : W_.cell? ⟨g8, 1, none⟩ = some (.slice (some ⟨go, 0, none⟩) xs.length cX) := (blk_cell BKg8.out 1).trans rfl); (try have hcg8_2 : W_.cell? ⟨g8, 2, none⟩ = some (.int .i64 wg) := (blk_cell BKg8.out 2).trans rfl)) | ((with_reducible refine (tab_c _ (rtabE HRT.out HB.out HX.out HB_w6.out HX30.out HXM.out) HL0.out HLX.out).mono ?_); rintro e W_ ⟨B0, d0, B1, d1, rfl, ht, hb⟩; (try clear hcg3_0 hcg3_1 hcg3_2); (try clear hcg8_0 hcg8_1 hcg8_2); (try replace HB := Aside0.mk (below_step HB.out hb)); (try replace HB_w6 := Aside0.mk (below_step HB_w6.out hb)); (try replace HT := Aside0.mk (HT.out.below hb)); (try replace BKg3 := Aside0.mk (blk_below BKg3.out hb)); (try replace BKg8 := Aside0.mk (blk_below BKg8.out hb)); (try replace HX := Aside0.mk (HX.out.below hb)); (try replace HW := Aside0.mk (Kd.R_below HW.out hb)); (try replace HU := Aside0.mk (Kd.R_below HU.out hb)); (try replace BKg15 := Aside0.mk (blk_below BKg15.out hb)); (try replace BKg17 := Aside0.mk (blk_below BKg17.out hb)); (try replace HV := Aside0.mk (Kd.R_below HV.out hb)); (try replace HM := Aside0.mk (Kd.R_below HM.out hb)); (try clear HT); have HT := Aside0.mk ht; clear ht; clear hb; (try have hcg3_0 : W_.cell? ⟨g3, 0, none⟩ = some (.slice A0 l0.length c0) := (blk_cell BKg3.out 0).trans rfl); (try have hcg3_1 : W_.cell? ⟨g3, 1, none⟩ = some (.slice A1 l1.length c1) := (blk_cell BKg3.out 1).trans rfl); (try have hcg3_2 : W_.cell? ⟨g3, 2, none⟩ = some (.int .i64 wg) := (blk_cell BKg3.out 2).trans rfl); (try have hcg8_0 : W_.cell? ⟨g8, 0, none⟩ = some (.slice A0 l0.length c0) := (blk_cell BKg8.out 0).trans rfl); (try have hcg8_1 : W_.cell? ⟨g8, 1, none⟩ = some (.slice (some ⟨go, 0, none⟩) xs.length cX) := (blk_cell BKg8.out 1).trans rfl); (try have hcg8_2 : W_.cell? ⟨g8, 2, none⟩ = some (.int .i64 wg) := (blk_cell BKg8.out 2).trans rfl)))) | (go_at_call 22; go_must (first | ((with_reducible refine (whose_n _ HT.out HEX.out).mono ?_); rintro e W_ ⟨rfl, hb⟩; (try clear hcg3_0 hcg3_1 hcg3_2); (try clear hcg8_0 hcg8_1 hcg8_2); (try replace HB := Aside0.mk (below_step HB.out hb)); (try replace HB_w6 := Aside0.mk (below_step HB_w6.out hb)); (try replace HT := Aside0.mk (HT.out.below hb)); (try replace BKg3 := Aside0.mk (blk_below BKg3.out hb)); (try replace BKg8 := Aside0.mk (blk_below BKg8.out hb)); (try replace HX := Aside0.mk (HX.out.below hb)); (try replace HW := Aside0.mk (Kd.R_below HW.out hb)); (try replace HU := Aside0.mk (Kd.R_below HU.out hb)); (try replace BKg15 := Aside0.mk (blk_below BKg15.out hb)); (try replace BKg17 := Aside0.mk (blk_below BKg17.out hb)); (try replace HV := Aside0.mk (Kd.R_below HV.out hb)); (try replace HM := Aside0.mk (Kd.R_below HM.out hb)); skip; clear hb; (try have hcg3_0 : W_.cell? ⟨g3, 0, none⟩ = some (.slice A0 l0.length c0) := (blk_cell BKg3.out 0).trans rfl); (try have hcg3_1 : W_.cell? ⟨g3, 1, none⟩ = some (.slice A1 l1.length c1) := (blk_cell BKg3.out 1).trans rfl); (try have hcg3_2 : W_.cell? ⟨g3, 2, none⟩ = some (.int .i64 wg) := (blk_cell BKg3.out 2).trans rfl); (try have hcg8_0 : W_.cell? ⟨g8, 0, none⟩ = some (.slice A0 l0.length c0) := (blk_cell BKg8.out 0).trans rfl); (try have hcg8_1 : W_.cell? ⟨g8, 1, none⟩ = some (.slice (some ⟨go, 0, none⟩) xs.length cX) := (blk_cell BKg8.out 1).trans rfl); (try have hcg8_2 : W_.cell? ⟨g8, 2, none⟩ = some (.int .i64 wg) := (blk_cell BKg8.out 2).trans rfl)) | ((with_reducible refine (whose_n _ HT.out HE.out).mono ?_); rintro e W_ ⟨rfl, hb⟩; (try clear hcg3_0 hcg3_1 hcg3_2); (try clear hcg8_0 hcg8_1 hcg8_2); (try replace HB := Aside0.mk (below_step HB.out hb)); (try replace HB_w6 := Aside0.mk (below_step HB_w6.out hb)); (try replace HT := Aside0.mk (HT.out.below hb)); (try replace BKg3 := Aside0.mk (blk_below BKg3.out hb)); (try replace BKg8 := Aside0.mk (blk_below BKg8.out hb)); (try replace HX := Aside0.mk (HX.out.below hb)); (try replace HW := Aside0.mk (Kd.R_below HW.out hb)); (try replace HU := Aside0.mk (Kd.R_below HU.out hb)); (try replace BKg15 := Aside0.mk (blk_below BKg15.out hb)); (try replace BKg17 := Aside0.mk (blk_below BKg17.out hb)); (try replace HV := Aside0.mk (Kd.R_below HV.out hb)); (try replace HM := Aside0.mk (Kd.R_below HM.out hb)); skip; clear hb; (try have hcg3_0 : W_.cell? ⟨g3, 0, none⟩ = some (.slice A0 l0.length c0) := (blk_cell BKg3.out 0).trans rfl); (try have hcg3_1 : W_.cell? ⟨g3, 1, none⟩ = some (.slice A1 l1.length c1) := (blk_cell BKg3.out 1).trans rfl); (try have hcg3_2 : W_.cell? ⟨g3, 2, none⟩ = some (.int .i64 wg) := (blk_cell BKg3.out 2).trans rfl); (try have hcg8_0 : W_.cell? ⟨g8, 0, none⟩ = some (.slice A0 l0.length c0) := (blk_cell BKg8.out 0).trans rfl); (try have hcg8_1 : W_.cell? ⟨g8, 1, none⟩ = some (.slice (some ⟨go, 0, none⟩) xs.length cX) := (blk_cell BKg8.out 1).trans rfl); (try have hcg8_2 : W_.cell? ⟨g8, 2, none⟩ = some (.int .i64 wg) := (blk_cell BKg8.out 2).trans rfl)) | ((with_reducible refine (whose_c _ HT.out HE.out rfl).mono ?_); rintro e W_ ⟨v_, rfl, ho, hb⟩; (try clear hcg3_0 hcg3_1 hcg3_2); (try clear hcg8_0 hcg8_1 hcg8_2); (try replace HB := Aside0.mk (below_step HB.out hb)); (try replace HB_w6 := Aside0.mk (below_step HB_w6.out hb)); (try replace HT := Aside0.mk (HT.out.below hb)); (try replace BKg3 := Aside0.mk (blk_below BKg3.out hb)); (try replace BKg8 := Aside0.mk (blk_below BKg8.out hb)); (try replace HX := Aside0.mk (HX.out.below hb)); (try replace HW := Aside0.mk (Kd.R_below HW.out hb)); (try replace HU := Aside0.mk (Kd.R_below HU.out hb)); (try replace BKg15 := Aside0.mk (blk_below BKg15.out hb)); (try replace BKg17 := Aside0.mk (blk_below BKg17.out hb)); (try replace HV := Aside0.mk (Kd.R_below HV.out hb)); (try replace HM := Aside0.mk (Kd.R_below HM.out hb)); have HW := Aside0.mk ho; obtain ⟨AHW, cHW, eHW⟩ := Kd.R_slice HW.out; subst eHW; clear ho; clear hb; (try have hcg3_0 : W_.cell? ⟨g3, 0, none⟩ = some (.slice A0 l0.length c0) := (blk_cell BKg3.out 0).trans rfl); (try have hcg3_1 : W_.cell? ⟨g3, 1, none⟩ = some (.slice A1 l1.length c1) := (blk_cell BKg3.out 1).trans rfl); (try have hcg3_2 : W_.cell? ⟨g3, 2, none⟩ = some (.int .i64 wg) := (blk_cell BKg3.out 2).trans rfl); (try have hcg8_0 : W_.cell? ⟨g8, 0, none⟩ = some (.slice A0 l0.length c0) := (blk_cell BKg8.out 0).trans rfl); (try have hcg8_1 : W_.cell? ⟨g8, 1, none⟩ = some (.slice (some ⟨go, 0, none⟩) xs.length cX) := (blk_cell BKg8.out 1).trans rfl); (try have hcg8_2 : W_.cell? ⟨g8, 2, none⟩ = some (.int .i64 wg) := (blk_cell BKg8.out 2).trans rfl)))) | (go_at_call 21; go_must (refine (awake_calls _).mono ?_; rintro e W_ ⟨rfl, hb⟩; (try clear hcg3_0 hcg3_1 hcg3_2); (try clear hcg8_0 hcg8_1 hcg8_2); (try replace HB := Aside0.mk (below_step HB.out hb)); (try replace HB_w6 := Aside0.mk (below_step HB_w6.out hb)); (try replace HT := Aside0.mk (HT.out.below hb)); (try replace BKg3 := Aside0.mk (blk_below BKg3.out hb)); (try replace BKg8 := Aside0.mk (blk_below BKg8.out hb)); (try replace HX := Aside0.mk (HX.out.below hb)); (try replace HW := Aside0.mk (Kd.R_below HW.out hb)); (try replace HU := Aside0.mk (Kd.R_below HU.out hb)); (try replace BKg15 := Aside0.mk (blk_below BKg15.out hb)); (try replace BKg17 := Aside0.mk (blk_below BKg17.out hb)); (try replace HV := Aside0.mk (Kd.R_below HV.out hb)); (try replace HM := Aside0.mk (Kd.R_below HM.out hb)); skip; clear hb; (try have hcg3_0 : W_.cell? ⟨g3, 0, none⟩ = some (.slice A0 l0.length c0) := (blk_cell BKg3.out 0).trans rfl); (try have hcg3_1 : W_.cell? ⟨g3, 1, none⟩ = some (.slice A1 l1.length c1) := (blk_cell BKg3.out 1).trans rfl); (try have hcg3_2 : W_.cell? ⟨g3, 2, none⟩ = some (.int .i64 wg) := (blk_cell BKg3.out 2).trans rfl); (try have hcg8_0 : W_.cell? ⟨g8, 0, none⟩ = some (.slice A0 l0.length c0) := (blk_cell BKg8.out 0).trans rfl); (try have hcg8_1 : W_.cell? ⟨g8, 1, none⟩ = some (.slice (some ⟨go, 0, none⟩) xs.length cX) := (blk_cell BKg8.out 1).trans rfl); (try have hcg8_2 : W_.cell? ⟨g8, 2, none⟩ = some (.int .i64 wg) := (blk_cell BKg8.out 2).trans rfl))))
    go_ret
    exact ⟨rfl, HB.out⟩
  )
end Go.Proofs.Ytnbbbeghgomnoaa.X
namespace Go.Proofs.Ytnbbbeghgomnoaa.X
open Go.RowKit Go.Proofs.YtnbbbeghgomnoaaW.PrintWords Go.Proofs.YtnbbbeghgomnoaaW.PrintLast Go.Proofs.YtnbbbeghgomnoaaW.PrintMore
theorem getD_setR {α : Type} (l : List α) (p i : Nat) (v z : α) (hp : p < l.length) : (l.set p v).getD i z = if i = p then v else l.getD i z := by
  rw [List.getD_eq_getElem?_getD, List.getD_eq_getElem?_getD, List.getElem?_set]
  by_cases h : p = i
  · subst h
    rw [if_pos rfl, if_pos hp, if_pos rfl]; rfl
  · rw [if_neg h, if_neg (fun e => h e.symm)]
structure Fewer (L1 L1' : List S110) : Prop where
  len : L1'.length = L1.length
  mks : ∀ i v, v ∈ (L1'.getD i z110).f0 → v ∈ (L1.getD i z110).f0
  own : ∀ i, (L1'.getD i z110).f1 = (L1.getD i z110).f1
theorem Fewer.truths {L1 L1' : List S110} (h : Fewer L1 L1') (L0 : List S109) (wg : Int) {x : List Int} (hx : x ∈ truthsL L0 L1' wg) : x ∈ truthsL L0 L1 wg := by
  unfold truthsL at hx ⊢
  rw [List.mem_filter] at hx ⊢
  obtain ⟨h1, h2⟩ := hx
  rw [h.len] at h2
  refine ⟨?_, h2⟩
  rw [allL_mem] at h1 ⊢
  rw [h.len] at h1
  refine ⟨h1.1, fun j hj => ?_⟩
  have h3 := h1.2 j hj
  unfold optsL ofL at h3 ⊢
  rw [sel_mem] at h3 ⊢
  obtain ⟨k, hk, hc, he⟩ := h3
  exact ⟨k, hk, List.contains_iff_mem.2 (h.mks j _ (List.contains_iff_mem.1 hc)), he⟩
theorem Fewer.off {L1 L1' : List S110} (h : Fewer L1 L1') (o : Nat → Int) : off L1' o = off L1 o := by
  funext i
  unfold X.off
  rw [h.own i]
theorem Fewer.lost {L1 L1' : List S110} (h : Fewer L1 L1') (o : Nat → Int) : lostN L1' o = lostN L1 o := by
  unfold lostN
  rw [h.off, h.len]
theorem Fewer.miss {L1 L1' : List S110} (h : Fewer L1 L1') (o : Nat → Int) (k : Int) : missN L1' o k = missN L1 o k := by
  unfold missN
  rw [h.off, h.len]
theorem Fewer.missB {L1 L1' : List S110} (h : Fewer L1 L1') (x : List Int) (k : Int) : missB L1' x k = missB L1 x k := by
  unfold X.missB
  rw [h.miss]
theorem read_fewer {l1 : List S71} {p q : Nat} (hp : p < l1.length) : Fewer (l1.map cvP) ((l1.set p ⟨(l1.getD p z71).f0.take q ++ (l1.getD p z71).f0.drop (q + 1), (l1.getD p z71).f1⟩).map cvP) := by
  refine ⟨by simp, fun i v hv => ?_, fun i => ?_⟩
  · rw [cvP_getD] at hv ⊢
    rw [getD_setR _ _ _ _ _ hp] at hv
    by_cases h : i = p
    · rw [if_pos h] at hv
      rw [h]
      have hv : v ∈ (l1.getD p z71).f0.take q ++ (l1.getD p z71).f0.drop (q + 1) := hv
      rcases List.mem_append.1 hv with h2 | h2
      · exact List.mem_of_mem_take h2
      · exact List.mem_of_mem_drop h2
    · rw [if_neg h] at hv
      exact hv
  · rw [cvP_getD, cvP_getD, getD_setR _ _ _ _ _ hp]
    by_cases h : i = p
    · rw [if_pos h, h]; rfl
    · rw [if_neg h]
theorem marks_pos {l0 : List S85} {l1 : List S71} {wg : Int} (hv : VR l0 l1 wg) (p : Nat) (hp : p < l1.length) : 0 < (l1.getD p z71).f0.length := by
  have h := hv.pos p hp
  rw [optsL_cv] at h
  obtain ⟨v, hv2⟩ := List.exists_mem_of_length_pos h
  obtain ⟨k, _, hc, _⟩ := (sel_mem _ _ _).1 hv2
  exact List.length_pos_of_mem (List.contains_iff_mem.1 hc)
theorem verd_kept {L1 L1' : List S110} (h : Fewer L1 L1') {ts tx : List (List Int)} (h1 : ts ≠ []) (h2 : tx ≠ []) (hs : ∀ x ∈ tx, x ∈ ts) (w : Int) : verdL (boundsL (fun x => missN L1 (pad x) w) ts) = 3 ∨ verdL (boundsL (fun x => missN L1 (pad x) w) ts) = verdL (boundsL (fun x => missN L1' (pad x) w) tx) := by
  rcases verd_in (boundsL (fun x => missN L1 (pad x) w) ts) with e | e | e
  · have e2 := (verd_one h1 w).1 e
    rw [e, (verd_one (l1 := L1') h2 w).2 (fun x hx => (h.missB x w).trans (e2 x (hs x hx)))]
    exact .inr rfl
  · have e2 := (verd_two h1 w).1 e
    rw [e, (verd_two (l1 := L1') h2 w).2 (fun x hx => (h.missB x w).trans (e2 x (hs x hx)))]
    exact .inr rfl
  · exact .inl e
theorem BundleRead_walk (A0 : Option Addr) (c0 : Nat) (l0 : List S85) (A1 : Option Addr) (c1 : Nat) (l1 : List S71) (wg a1 a2 : Int) (W : World) (C0 : Kd.C k85 W A0 l0.length l0) (g0 : l0.length ≤ c0) (C1 : Kd.C k71 W A1 l1.length l1) (g1 : l1.length ≤ c1) (w1 : (Lit.int .u8 a1).wf = true) (w2 : (Lit.int .u8 a2).wf = true) :
    Calls Try.prog 11 #[.agg #[.slice A0 l0.length c0, .slice A1 l1.length c1, .int .i64 wg], .int .u8 a1, .int .u8 a2] W fun e w' => e = .returned (.bool true) ∧ Below W.heap.size W w' := by
  obtain ⟨b0, b1⟩ := u8_rng w1
  obtain ⟨d0, d1⟩ := u8_rng w2
  rcases rdy_cases l0 l1 wg with ⟨K, hK⟩ | ⟨hv, hc, K, hK⟩
  · exact Read_no K wg a1 a2 C0 g0 C1 g1 (hK K (Nat.le_refl _))
  · by_cases hn : l1.length = 0
    · exact Read_nil K wg a1 a2 C0 g0 C1 g1 (hK K (Nat.le_refl _)) hn
    · have hpl : a1.toNat % l1.length < l1.length := Nat.mod_lt _ (by omega)
      have ep := tmod_nat a1 l1.length b0 (by omega) (by omega)
      rw [Int.toNat_natCast] at ep
      generalize a1.toNat % l1.length = p at hpl ep
      have hm := marks_pos hv p hpl
      have hms := hv.thn.ms (l1.getD p z71) (getD_mem l1 p z71 hpl)
      have hql : a2.toNat % (l1.getD p z71).f0.length < (l1.getD p z71).f0.length := Nat.mod_lt _ hm
      have eq := tmod_nat a2 (l1.getD p z71).f0.length d0 (by omega) (by omega)
      rw [Int.toNat_natCast] at eq
      generalize a2.toNat % (l1.getD p z71).f0.length = q at hql eq
      have hF := read_fewer (l1 := l1) (q := q) hpl
      obtain ⟨ms2, hm2⟩ : ∃ m, (l1.getD p z71).f0.take q ++ (l1.getD p z71).f0.drop (q + 1) = m := ⟨_, rfl⟩
      have hm2l : ms2.length ≤ 30 := by
        rw [← hm2, List.length_append, List.length_take, List.length_drop]; omega
      rw [hm2] at hF
      obtain ⟨xs, hxs⟩ : ∃ xs, l1.set p ⟨ms2, (l1.getD p z71).f1⟩ = xs := ⟨_, rfl⟩
      rw [hxs] at hF
      have hxn : xs.length = l1.length := by rw [← hxs, List.length_set]
      have hxm : ∀ z ∈ xs, z.f0.length ≤ 30 := fun z hz => by
        rw [← hxs] at hz
        rcases List.mem_or_eq_of_mem_set hz with h | h
        · exact hv.thn.ms z h
        · rw [h]; exact hm2l
      have hn1 := hv.n1
      have hn0 := hv.n0
      rcases rdy_cases l0 xs wg with ⟨K2, hK2⟩ | ⟨_, hc', K2, hK2⟩
      · exact Read_ok (K + K2) (ws := []) (us := []) (vs := []) (vx := []) (lo := 0) (hi := 0) (lo2 := 0) (hi2 := 0) wg a1 a2 C0 g0 C1 g1 hv.thn rfl rfl (hK _ (by omega)) hn ep hpl rfl eq hql hms hm2 hxs hxn (by omega) hxm rfl (.inl (hK2 _ (by omega)))
      · rcases ask_cases hc' with ⟨he', _⟩ | ⟨he', hts'⟩
        · refine Read_ok (K + K2) (ws := []) (us := []) (vs := []) (vx := []) (lo := 0) (hi := 0) (lo2 := 0) (hi2 := 0) wg a1 a2 C0 g0 C1 g1 hv.thn rfl rfl (hK _ (by omega)) hn ep hpl rfl eq hql hms hm2 hxs hxn (by omega) hxm rfl (.inr (.inl ⟨hK2 _ (by omega), he', ?_⟩))
          rcases ask_cases hc with ⟨he, _⟩ | ⟨he, _⟩
          · exact .inr he
          · exact .inl he
        · have hsub : ∀ x ∈ truthsL (l0.map cvW) (xs.map cvP) wg, x ∈ truthsL (l0.map cvW) (l1.map cvP) wg := fun x hx => hF.truths _ _ hx
          rcases ask_cases hc with ⟨_, hts⟩ | ⟨he, hts⟩
          · obtain ⟨x, hx⟩ := List.exists_mem_of_ne_nil _ hts'
            have h := hsub x hx
            rw [hts] at h
            cases h
          · have wl : ∀ (z : List S110) (T : List (List Int)), z.length = l1.length → ∀ i, i < l1.length → ((whoseL (l0.map cvW).length z.length T).getD i []).length ≤ 1000000 := fun z T hz i hi => by
              have h1 := sel_le (whoP z.length T i) (l0.map cvW).length
              rw [whoseL_get _ _ _ _ (by omega)]
              simp only [List.length_map] at h1 ⊢
              omega
            have e1 : (l1.map cvP).length = l1.length := List.length_map ..
            have e2 : (xs.map cvP).length = l1.length := by rw [List.length_map, hxn]
            obtain ⟨S, hS⟩ := subsets_yes (whoseL (l0.map cvW).length (xs.map cvP).length (truthsL (l0.map cvW) (xs.map cvP) wg)) (whoseL (l0.map cvW).length (l1.map cvP).length (truthsL (l0.map cvW) (l1.map cvP) wg)) (by rw [whoseL_len, whoseL_len, e1, e2]) (by rw [whoseL_len, e2]; omega) (fun i hi => wl _ _ e2 i (by rw [whoseL_len, e2] at hi; exact hi)) (fun i hi => wl _ _ e1 i (by rw [whoseL_len, e2] at hi; exact hi)) (fun i hi v hv => by
              rw [whoseL_len] at hi
              rw [whose_mem hi (fun x hx => truths_own hx i hi)] at hv
              have hi' : i < (l1.map cvP).length := by omega
              rw [whose_mem hi' (fun x hx => truths_own hx i hi')]
              obtain ⟨x, hx, hxe⟩ := hv
              exact ⟨x, hsub x hx, hxe⟩)
            obtain ⟨T, hT⟩ := kept_yes (missL (l1.map cvP) (truthsL (l0.map cvW) (l1.map cvP) wg) (l0.map cvW).length) (missL (xs.map cvP) (truthsL (l0.map cvW) (xs.map cvP) wg) (l0.map cvW).length) (by rw [missL_len, missL_len]) (by rw [missL_len, List.length_map]; omega) (fun i hi => by
              rw [missL_len] at hi
              rw [missL_get _ _ _ _ hi, missL_get _ _ _ _ hi]
              exact verd_kept hF hts hts' hsub _)
            have sp1 := boundsL_spec (fun x => lostN (l1.map cvP) (pad x)) hts
            have sp2 := boundsL_spec (fun x => lostN (xs.map cvP) (pad x)) hts'
            obtain ⟨⟨lo, hi⟩, h1⟩ : ∃ r, boundsL (fun x => lostN (l1.map cvP) (pad x)) (truthsL (l0.map cvW) (l1.map cvP) wg) = r := ⟨_, rfl⟩
            obtain ⟨⟨lo2, hi2⟩, h2⟩ : ∃ r, boundsL (fun x => lostN (xs.map cvP) (pad x)) (truthsL (l0.map cvW) (xs.map cvP) wg) = r := ⟨_, rfl⟩
            rw [h1] at sp1
            rw [h2] at sp2
            obtain ⟨a, _, _⟩ := sp1
            obtain ⟨_, ⟨xc, mc, ec⟩, ⟨xd, md, ed⟩⟩ := sp2
            dsimp only at a ec ed
            rw [hF.lost] at ec ed
            have q1 := a xc (hsub xc mc)
            have q2 := a xd (hsub xd md)
            exact Read_ok (K + K2 + S + T) wg a1 a2 C0 g0 C1 g1 hv.thn rfl rfl (hK _ (by omega)) hn ep hpl rfl eq hql hms hm2 hxs hxn (by omega) hxm rfl (.inr (.inr ⟨hK2 _ (by omega), he', he, rfl, rfl, h1, h2, rfl, rfl, hS _ (by omega), hT _ (by omega), by omega, by omega⟩))
end Go.Proofs.Ytnbbbeghgomnoaa.X
namespace Go.Proofs.Ytnbbbeghgomnoaa.bundleRead
open Go.ChangeShapes Go.WideShapes Go.ChangeAt Go.RowKit
open Go.ChangeMaps (open_string shut_string)
open Go.Proofs.Ytnbbbeghgomnoaa.X
theorem own : ownKnob Try.prog.godebug = none := by kernel_rfl
theorem laidOut : laidOutB Try.prog = true := by kernel_rfl
set_option maxRecDepth 100000 in
theorem lifted (os : Os) (started : os.Started) (H : Type) (enc : TypeId × Value → H) :
    ReturnsInHanded {} Try.checked os 11 .any (Rows.bundleReadSpec.pre6 enc Try.prog Try.f11 Rows.bundleReadRow.domain false) (Rows.bundleReadSpec.post enc Try.prog Try.f11 false true false false) := by
  refine returnsInHanded_of_change_sized (C := Try.checked) own started (by kernel_rfl) Try.func11
    (ChangeSpec.witness6 (enc := enc) (C := Try.checked) false ⟨#[], #[.agg #[.slice none 0 0, .slice none 0 0, .int .i64 0], .int .u8 0, .int .u8 0], []⟩ 8 (by kernel_rfl) (by kernel_rfl) (by kernel_rfl) (by kernel_rfl)) ?_
  intro W base args ds gs before hval0 hW hcnd hsz0 _
  have hsz : (DataW.weightsEach Try.prog (Try.f11.params.toList ++ Rows.bundleReadSpec.plain.varTypes Try.prog) (ds ++ gs)).all (· ≤ reachBytes) = true := hsz0
  have hval : ∀ (j : Nat) t v, Try.f11.params[j]? = some t → args[j]? = some v → Value.okWide Try.prog W .any base t v := hval0
  have hW' := hW
  obtain ⟨p, q, hA0, hV, rfl, hfz, hnd⟩ := hW
  have hA : DataW.TrodAll enc Try.prog W 0 (fun _ => true) true Try.f11.params.toList args.toList ds p := hA0
  rw [Try.params11] at hA hval hsz
  obtain ⟨v0, vs0, d0, ds0, p0, q0, hargs, rfl, rfl, h0, r0⟩ := trodAll_cons hA
  obtain ⟨v1, vs1, d1, ds1, p1, q1, rfl, rfl, rfl, h1, r1⟩ := trodAll_cons r0
  obtain ⟨v2, vs2, d2, ds2, p2, q2, rfl, rfl, rfl, h2, r2⟩ := trodAll_cons r1
  obtain ⟨rfl, rfl, rfl⟩ := trodAll_nil r2
  obtain rfl : args = #[v0, v1, v2] := by cases args; simp_all
  obtain ⟨rfl, rfl⟩ := trodVars_none hV
  have k0 := h0
  have lt0 : ∀ x ∈ p0, x.block < W.heap.size := by obtain ⟨m, hm⟩ := k0; exact DataW.trod_lt m _ _ _ hm
  obtain ⟨A0, c0, l0, A1, c1, l1, wg, rfl, C0, g0, C1, g1⟩ := open_table (hval 0 25 v0 rfl rfl) h0
  obtain ⟨a1, rfl, rfl, rfl, w1⟩ := open_int Try.underlying5 (hval 1 5 v1 rfl rfl) h1
  obtain ⟨a2, rfl, rfl, rfl, w2⟩ := open_int Try.underlying5 (hval 2 5 v2 rfl rfl) h2
  clear hA0 hval0 hsz0 hsz
  refine (BundleRead_walk A0 c0 l0 A1 c1 l1 wg a1 a2 W C0 g0 C1 g1 w1 w2).mono fun e W' ⟨he, bel⟩ => ?_
  subst he
  exact ⟨_, rfl, _, _, _, [], _, [], hW', trodAll_mk1 (shut_bool Try.underlying4 _), (trodAll_cons_mk (Below.trod laidOut (by kernel_rfl) (of_decide_eq_true (by kernel_rfl)) k0 bel lt0) (trodAll_cons_mk (shut_int Try.underlying5 w1) (trodAll_cons_mk (shut_int Try.underlying5 w2) trodAll_mk0))), rfl, bel.frame _, fun h => by cases h⟩
theorem over : Rows.bundleReadRow.holds Try.pinned (OpenSpec.ofChange Rows.bundleReadSpec) :=
  OpenClaim.holds_of_wide 11 Try.f11 rfl rfl rfl rfl rfl rfl rfl ⟨rfl, rfl, rfl, rfl, rfl⟩ rfl rfl rfl rfl rfl (by kernel_rfl) Try.func11 (by kernel_rfl)
    (of_decide_eq_true (by kernel_rfl)) (by unfold Func.isWrapper; first | (rw [if_pos (by decide +kernel)]; kernel_rfl) | (rw [if_neg (by decide +kernel)]; exact ⟨rfl, rfl⟩))
    (fun os started H enc _ => lifted os started H enc)
theorem proved : Rows.BundleReadSaid := over
end Go.Proofs.Ytnbbbeghgomnoaa.bundleRead
namespace Go.Proofs.Ytnbbbeghgomnoaa
theorem bundleRead_holds : Rows.BundleReadSaid := bundleRead.proved
#print axioms bundleRead_holds
end Go.Proofs.Ytnbbbeghgomnoaa
