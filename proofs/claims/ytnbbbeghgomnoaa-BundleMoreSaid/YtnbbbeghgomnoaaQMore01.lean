/-
  For every table that the statement lets in: with a greater Wrong, or a wider Came, whoever could own a piece still can, the best truth has no more pieces astray, and no more counts have to be left out.
-/
import Derived.Test.YtnbbbeghgomnoaaQBase05
import Derived.Below
import Derived.Deep.Draws
import Derived.Deep.AppendLies
import Derived.Maps.AppendAt
import Derived.OwnWalk
import Derived.Laws.BytesArg
import Derived.Laws.MakeOwn
import Derived.Laws.OwnMore
import Derived.Deep.OwnRows
import Derived.Tactics
import Derived.Lib.ConvBytes
import Derived.Laws.Slices
import Derived.WalkKit
import Derived.KernelRfl
import Derived.RowKit3
import Derived.Deep.LoopGhost
import Derived.Deep.QuietTactic
import Derived.BigQuiet
import Derived.WideLaws
import Derived.Deep.DeepCutAuto
import Derived.Deep.CutBlock
import Derived.Deep.RegionHeld3
import Derived.Laws.Rows
import Derived.Lib.AppendStr
import Derived.ArgAppend
import Derived.Laws.IdiomCopy
import Derived.RowKit
import Derived.Test.YtnbbbeghgomnoaaProg
import Derived.OrdersHeld
import Derived.Laws.BitsLemmas
import Derived.Deep.DeepMust
import Derived.Test.YtnbbbeghgomnoaaRows
import Derived.ProofKit
import Derived.OpenShut
import Derived.ShutString
import Derived.ChangeOld
import Derived.SizedLaws
set_option linter.unusedVariables false
set_option linter.unusedSimpArgs false
set_option linter.unusedVariables false
set_option linter.unusedSimpArgs false
namespace Go.Proofs.YtnbbbeghgomnoaaW.PrintWords
open Go.RowKit
section
variable {P : Program} {ops : Array Oper} {rest : List Oper} {o : Oper} {a : Act} {Q : Exit → Act → World → Prop}
end
section
variable {P : Program}
end
section
variable {P : Program} {ops : Array Oper} {rest : List Oper} {o : Oper} {a : Act} {Q : Exit → Act → World → Prop}
end
section
variable {P : Program} {ops : Array Oper} {rest : List Oper} {o : Oper} {a : Act} {Q : Exit → Act → World → Prop}
end
theorem blk_ne {w : World} {g g' : Nat} {t t' : TypeId} {cs cs' : Array Value} (h : w.heap[g]? = some (.cells cs t (0, 0))) (h' : w.heap[g']? = some (.cells cs' t' (0, 0))) (hne : t ≠ t') : g ≠ g' := by
 rintro rfl
 rw [h] at h'
 injection h' with h'
 injection h' with _ ht
 exact hne ht
section
variable {P : Program} {ops : Array Oper} {o : Oper} {a : Act} {Q : Exit → Act → World → Prop} {K : Act → World → Prop}
end
section
variable {α : Type} {enc : α → Value} {d : α}
end
section
variable {α : Type} {P : Program} {ops : Array Oper} {rest : List Oper} {o : Oper} {a : Act} {Q : Exit → Act → World → Prop}
end
section
variable {P : Program}
end
section
variable {α : Type} {R R' : α → List Value → Prop} {e : TypeId} {size : Nat} {w w1 : World} {base : Nat} {v : Value} {ps : List α}
theorem OwnRow.lower (h : OwnRow R e size w base v ps) {base' : Nat} (hb : base' ≤ base) : OwnRow R e size w base' v ps := by
 obtain ⟨inner, ho, hr⟩ := h
 exact ⟨inner, own_weaken ho hb, hr⟩
end
section
variable {P : Program} {ops : Array Oper} {rest : List Oper} {o : Oper} {a : Act} {Q : Exit → Act → World → Prop} {α : Type} {R : α → List Value → Prop}
end
section
variable {P : Program} {ops : Array Oper} {o : Oper} {a : Act} {Q : Exit → Act → World → Prop} {K : Act → World → Prop} {α : Type} {R : α → List Value → Prop}
end
section
variable {α : Type} {P : Program}
end
section
variable {P : Program} {ops : Array Oper} {rest : List Oper} {o : Oper} {a : Act} {Q : Exit → Act → World → Prop}
end
namespace Kd
section
variable {α : Type} {d : Kd α} {e : Nat} {w w1 : World} {base : Nat} {ok ok' : Nat → Prop} {v : Value} {xs : List α}
end
section
variable {P : Program} {ops : Array Oper} {rest : List Oper} {o : Oper} {a : Act} {Q : Exit → Act → World → Prop} {α : Type}
end
section
variable {P : Program} {ops : Array Oper} {o : Oper} {a : Act} {Q : Exit → Act → World → Prop} {Kc : Act → World → Prop} {α : Type}
end
end Kd
namespace Kd
section
variable {α : Type} {F : Kd α → Kd α} {sz : Nat} {E : List Nat} {hs : ∀ n, (upto F sz E n).sz = sz} {hE : ∀ n q, q ∈ (upto F sz E n).E → q ∈ E}
end
end Kd
namespace Kd
end Kd
namespace Kd
section
variable {α β : Type} {d : Kd α} {d' : Kd β} {e e' : Nat} {w w1 W : World} {base b b' : Nat} {ok ok' okv oku : Nat → Prop} {v u : Value} {xs : List α} {ys : List β}
end
section
variable {w W : World} {A : Option Addr} {n : Nat}
variable {α : Type} {enc : α → Value} {h1 : ∀ x, (enc x).oneCell' = true} {e base g cap : Nat} {ok : Nat → Prop} {xs : List α}
end
section
variable {P : Program} {ops : Array Oper} {rest : List Oper} {o : Oper} {a : Act} {Q : Exit → Act → World → Prop}
variable {α : Type}
end
end Kd
section
variable {P : Program}
end
section
variable {w w1 : World} {base n size : Nat} {e : TypeId} {v : Value} {xs : List Value}
end
section
variable {P : Program}
end
namespace Kd
section
variable {α : Type} {d : Kd α} {e : Nat} {w w1 W : World} {base : Nat} {ok ok' : Nat → Prop} {v : Value} {xs : List α}
end
section
variable {P : Program} {ops : Array Oper} {rest : List Oper} {o : Oper} {a : Act} {Q' : Exit → Act → World → Prop} {Kc : Act → World → Prop} {α : Type}
end
end Kd
namespace Kd
section
variable {α : Type} {d : Kd α} {e e' : Nat} {w w1 W : World} {base : Nat} {ok : Nat → Prop} {u v : Value} {xs : List α}
end
end Kd
namespace Kd
section
variable {α : Type} {d : Kd α} {e base g n cap : Nat} {ok okp : Nat → Prop} {W : World} {xs : List α}
end
end Kd
namespace Kd
section
variable {α : Type} {F : Kd α → Kd α} {sz : Nat} {E : List Nat} {hs : ∀ n, (upto F sz E n).sz = sz} {hE : ∀ n q, q ∈ (upto F sz E n).E → q ∈ E}
end
end Kd
namespace Kd
section
variable {P : Program} {ops : Array Oper} {rest : List Oper} {o : Oper} {a : Act} {Q : Exit → Act → World → Prop} {α : Type}
theorem R_append_rows (d : Kd α) {Rr : α → List Value → Prop} {w0 W : World} (base : Nat) (hgd : o.guard = none) (s x : Operand) (t e : TypeId) (z : Value) (bytes : Nat)
  (ho : o.op = .call { callee := .builtin .append, args := #[s, x], argTypes := #[t, t] })
  (ht : P.underlying t = some (.slice e)) (hinfo : (P.info? e).map (fun i => (i.zero, i.size, i.bytes)) = some (some z, d.sz, bytes)) (hz : z.cells.size = d.sz) (hs0 : 0 < d.sz) (hb0 : 0 < bytes)
  (v : Value) (xs ys : List α) (A : Option Addr) (m c : Nat) (ok okp : Nat → Prop) (hs : a.eval s = v) (hx : a.eval x = .slice A m c)
  (HO : d.R e W base ok v xs) (HR : ReadsRow Rr d.sz W A m ys) (hKM : ∀ x cs, Rr x cs → d.M W base okp x cs) (hokp : ∀ k, okp k → ok k ∧ some k ≠ v.ownBlock) (hfresh : ∀ k, W.heap.size ≤ k → ok k)
  (HB : Below base w0 W) (hbase : base ≤ W.heap.size) (hl : (xs.length + m) * bytes ≤ 140737488355328)
  (h : ∀ v1 w1, d.R e w1 base ok v1 (xs ++ ys) → Below base w0 w1 → W.grownBy w1 v.ownBlock → (v1.ownBlock = v.ownBlock ∨ ∃ b, v1.ownBlock = some b ∧ W.heap.size ≤ b) → wpList P ops Q rest (a.put o.dst v1) w1) :
  wpList P ops Q (o :: rest) a W := by
 obtain ⟨i0, hi, hzz⟩ := Option.map_eq_some_iff.1 hinfo
 simp only [Prod.mk.injEq] at hzz
 obtain ⟨hz0, hz1, hz2⟩ := hzz
 have hm : ys.length = m := HR.1
 have hlen : xs.length + m ≤ 140737488355328 := Nat.le_trans (Nat.le_mul_of_pos_right _ hb0) hl
 obtain ⟨hok, inner, hown, hr⟩ := HO
 have hrun : ∃ v1 w1, (Builtin.append_ #[t, t] o.type #[v, .slice A m c]).run P W = .ok v1 w1 ∧ d.R e w1 base ok v1 (xs ++ ys) ∧ W.grownBy w1 v.ownBlock ∧ (v1.ownBlock = v.ownBlock ∨ ∃ b, v1.ownBlock = some b ∧ W.heap.size ≤ b) := by
  rcases A with _ | ad
  ·have h0 : m = 0 := by
    rcases Nat.eq_zero_or_pos m with h0 | h0
    ·exact h0
    ·obtain ⟨ad, h, _⟩ := HR.2.2 h0
     cases h
   subst h0
   obtain rfl : ys = [] := List.eq_nil_of_length_eq_zero hm
   refine ⟨v, W, ?_, by rw [List.append_nil]; exact ⟨hok, inner, hown, hr⟩, World.grownBy.refl W _, .inl rfl⟩
   rcases hown.2 with ⟨rfl, hn⟩ | ⟨g, cap, cur, rfl, _, _, hnc, _⟩
   ·simp [Builtin.append_, run_underlying ht, sizeOf, typeInfo, hi, Builtin.lenOf, Builtin.firstCells]
   ·simp [Builtin.append_, run_underlying ht, sizeOf, typeInfo, hi, Builtin.lenOf, Builtin.firstCells, hnc, storeCells]
  ·obtain ⟨news, hnr, hnc⟩ := ReadsRow.inner_ HR
   have hnM : Reps (d.M W base okp) d.sz ys news := hnr.imp_ (fun p c hp => hKM p c hp)
   have hone : ∀ u ∈ news, u.oneCell' = true := by
    intro u hu
    obtain ⟨q, hq, rfl⟩ := List.mem_iff_getElem.1 hu
    have hql : q / d.sz < ys.length := by
     rw [Nat.div_lt_iff_lt_mul hs0]
     rw [← hnM.1]
     exact hq
    have hc := hnM.2 (q / d.sz) _ (List.getElem?_eq_getElem hql)
    refine d.K_one (d.K_of_M hc) _ ?_
    rw [List.mem_iff_getElem?]
    refine ⟨q % d.sz, ?_⟩
    rw [List.getElem?_take, if_pos (Nat.mod_lt _ hs0), List.getElem?_drop, Nat.mul_comm, Nat.div_add_mod, List.getElem?_eq_getElem hq]
   obtain ⟨v1, w1, hrun, h2, hg, _, hat⟩ := run_append_own_at (P := P) W base t o.type e i0 z d.sz bytes ht hi hz0 hz1 hz2 hz hs0 v xs.length inner hown ad m c news (by rw [hnM.1, hm]) hnc hone (by simp only [maxLen]; omega) hl hbase
   have hat' : v1.ownBlock = v.ownBlock ∨ ∃ b, v1.ownBlock = some b ∧ W.heap.size ≤ b := by
    rcases hat with hat | hat
    ·exact .inl hat
    ·exact .inr ⟨_, hat, Nat.le_refl _⟩
   have hne : ∀ k, some k ≠ v.ownBlock → k < W.heap.size → some k ≠ v1.ownBlock := by
    intro k hk hlt
    rcases hat' with hat | ⟨b, hb, hle⟩
    ·rw [hat]; exact hk
    ·rw [hb]
     intro he
     injection he with he
     omega
   have step : ∀ {q : α} {c : List Value} {o : Nat → Prop}, d.M W base o q c → (∀ k, o k → ok k ∧ some k ≠ v.ownBlock) → d.M w1 base (fun k => ok k ∧ some k ≠ v1.ownBlock) q c := by
    intro q c o hq ho
    have h1 := d.M_move (w1 := w1) (fun k hk => hg.block k hk.2.2.1 (ho k hk.1).2) (d.M_bound hq)
    exact d.M_mono (fun k hk => ⟨(ho k hk.1).1, hne k (ho k hk.1).2 hk.2.2.1⟩) h1
   refine ⟨v1, w1, hrun, ⟨fun k hk => ?_, inner ++ news, by rw [List.length_append, hm]; exact h2, reps_append (hr.imp_ (fun _ _ hq => step hq (fun _ hk => hk))) (hnM.imp_ (fun _ _ hq => step hq hokp))⟩, hg, hat'⟩
   rcases hat' with hat | ⟨b, hb, hle⟩
   ·exact hok k (hat ▸ hk)
   ·rw [hb] at hk
    injection hk with hk
    exact hfresh k (by omega)
 obtain ⟨v1, w1, hr1, h1, hg, hat⟩ := hrun
 refine wpList_plain hgd fun K hK => ?_
 unfold Oper.wp execOp
 simp only [ho, resolve, invoke, builtin, Sem.run_bind, Sem.run_pure, Result.andThen_ok, List.map_toArray, List.map_cons, List.map_nil, hs, hx, hr1]
 exact hK _ _ (h v1 w1 h1 (HB.grown hg hbase (own_base hown)) hg hat)
end
end Kd
namespace Kd
section
variable {P : Program} {ops : Array Oper} {rest : List Oper} {o : Oper} {a : Act} {Q : Exit → Act → World → Prop} {α : Type}
end
end Kd
namespace Kd
section
variable {α : Type} {k : Kd α} {w : World} {A : Option Addr} {xs : List α} {m c : Nat}
end
end Kd
section
variable {P : Program}
end
namespace Kd
section
variable {α β : Type} {d : Kd α} {d' : Kd β} {e e' base base' n : Nat} {ok ok' : Nat → Prop} {w W w1 W1 : World} {v u : Value} {xs : List α} {ys : List β} {A : Option Addr} {c : Nat}
end
section
variable {α : Type} {enc : α → Value} {h1 : ∀ x, (enc x).oneCell' = true} {w W : World} {A : Option Addr} {n g : Nat} {xs : List α}
end
end Kd
namespace Kd
section
variable {α : Type} {d : Kd α} {e base g : Nat} {ok : Nat → Prop} {w w1 : World} {v : Value} {xs : List α} {o : Obj}
end
end Kd
section
variable {P : Program} {ops : Array Oper} {rest : List Oper} {o : Oper} {a : Act} {Q : Exit → Act → World → Prop}
end
namespace Kd
section
variable {α : Type} {enc : α → Value} {h1 : ∀ x, (enc x).oneCell' = true} {e base g n cap : Nat} {ok : Nat → Prop} {W : World} {xs : List α}
end
end Kd
section
variable {P : Program} {ops : Array Oper} {rest : List Oper} {o : Oper} {a : Act} {Q : Exit → Act → World → Prop}
end
namespace Kd
section
variable {α : Type} {enc : α → Value} {h1 : ∀ x, (enc x).oneCell' = true} {e base g n cap : Nat} {ok : Nat → Prop} {W : World} {xs : List α}
end
end Kd
section
variable {P : Program} {ops : Array Oper} {rest : List Oper} {o : Oper} {a : Act} {Q : Exit → Act → World → Prop} {W : World}
end
section
variable {P : Program} {ops : Array Oper} {o : Oper} {a : Act} {Q : Exit → Act → World → Prop} {Kc : Act → World → Prop}
namespace Kd
variable {α : Type}
end Kd
end
section
variable {P : Program} {tmps : Array Value} {w : World}
end
namespace Kd
section
variable {P : Program} {α : Type}
end
section
variable {P : Program} {ops : Array Oper} {rest : List Oper} {o : Oper} {a : Act} {Q : Exit → Act → World → Prop} {Kc : Act → World → Prop} {α : Type}
end
end Kd
end Go.Proofs.YtnbbbeghgomnoaaW.PrintWords
namespace Go.Proofs.YtnbbbeghgomnoaaW.PrintWords
open Go.RowKit
namespace Kd
section
variable {α : Type} {d : Kd α} {e base n cap g : Nat} {ok ok' okp : Nat → Prop} {w w1 W : World} {v v1 : Value} {xs ys : List α}
theorem reads_raw {Rr : α → List Value → Prop} {sz m : Nat} {A : Option Addr} (h : ReadsRow Rr sz W A m ys) (hR : ∀ x c, Rr x c → c.length = sz ∧ ∀ u ∈ c, u.oneCell' = true) :
  ∃ news : List (List Value), news.length = ys.length ∧ ReadsRow (fun x cs => cs = x ∧ cs.length = sz ∧ ∀ u ∈ cs, u.oneCell' = true) sz W A m news ∧ ∀ (j : Nat) (x : α) (c : List Value), ys[j]? = some x → news[j]? = some c → Rr x c := by
 rcases Nat.eq_zero_or_pos m with h0 | hp
 ·have hy : ys = [] := List.eq_nil_of_length_eq_zero (h.1.trans h0)
  subst hy
  exact ⟨[], rfl, ⟨h0 ▸ rfl, h.2.1, fun hp => by omega⟩, fun j x c hx => by simp at hx⟩
 ·obtain ⟨ad, rfl, _⟩ := h.2.2 hp
  obtain ⟨inner, hr, hc⟩ := ReadsRow.inner_ h
  refine ⟨chunks sz ys.length inner, chunks_length _ _ _, ⟨by rw [chunks_length]; exact h.1, h.2.1, fun _ => ⟨ad, rfl, fun j p hj => ?_⟩⟩, fun j x c hx hcc => ?_⟩
  ·have hjl : j < ys.length := by have := (List.getElem?_eq_some_iff.1 hj).1; rwa [chunks_length] at this
   have hpe := chunks_get hj
   have hq := hR _ _ (hr.2 j _ (List.getElem?_eq_getElem hjl))
   rw [← hpe] at hq
   refine ⟨p, hq.1, ⟨rfl, hq⟩, fun i u hu => ?_⟩
   have hu2 : inner[j * sz + i]? = some u := by
    rw [hpe, List.getElem?_take] at hu
    split at hu
    ·rw [List.getElem?_drop] at hu
     exact hu
    ·cases hu
   exact hc _ u hu2
  ·rw [chunks_get hcc]
   exact hr.2 j x hx
end
section
variable {P : Program} {ops : Array Oper} {rest : List Oper} {o : Oper} {a : Act} {Q : Exit → Act → World → Prop} {Kc : Act → World → Prop} {α : Type}
end
end Kd
end Go.Proofs.YtnbbbeghgomnoaaW.PrintWords
namespace Go.Proofs.Ytnbbbeghgomnoaa.X
open Go.RowKit Go.Proofs.YtnbbbeghgomnoaaW.PrintWords Go.Proofs.YtnbbbeghgomnoaaW.PrintLast Go.Proofs.YtnbbbeghgomnoaaW.PrintMore
attribute [local go_sem] max2_int min2_int max_two min_two max_three min_three max_four min_four
set_option linter.unusedVariables false
set_option linter.unusedSimpArgs false
theorem info85 : (Try.prog.info? 85).map (fun i => (i.zero, i.size, i.bytes)) = some (some (.agg #[(.int .i64 0), (.int .i64 0), (.int .i64 0)]), 3, 24) := by kernel_rfl
def rd_L1 (xs : List (List Int)) (i : Int) : (List Int) := xs.getD i.toNat ([] : List Int)
theorem at_L1 {w : World} {A : Option Addr} {n : Nat} {xs : List (List Int)} (h : Kd.C (Kd.slice 3 (Kd.int .i64)) w A n xs) (i : Int) (h0 : 0 ≤ i) (h1 : i < n) : ∃ ad A0 c0, A = some ad ∧ w.cell? (ad.add i.toNat) = some (.slice A0 (rd_L1 xs i).length c0) ∧ (rd_L1 xs i).length ≤ c0 ∧ (Kd.int .i64).C w A0 (rd_L1 xs i).length (rd_L1 xs i) := by
 obtain ⟨ad, c, e, _, hK, hc0⟩ := Kd.C_get h ([] : List Int) i h0 h1
 have hc : ∀ j u, c[j]? = some u → w.cell? (ad.add (i.toNat * 1 + j)) = some u := hc0
 obtain ⟨A0, c0, rfl, l0, g0⟩ := hK
 exact ⟨ad, A0, c0, e, by have hq := hc 0 _ rfl; rwa [Nat.mul_one, Nat.add_zero] at hq, l0, g0⟩
end Go.Proofs.Ytnbbbeghgomnoaa.X
namespace Go.Proofs.Ytnbbbeghgomnoaa.X
open Go.RowKit Go.Proofs.YtnbbbeghgomnoaaW.PrintWords Go.Proofs.YtnbbbeghgomnoaaW.PrintLast Go.Proofs.YtnbbbeghgomnoaaW.PrintMore
theorem mn_le (a b : Int) : mn a b ≤ a ∧ mn a b ≤ b ∧ (mn a b = a ∨ mn a b = b) := by
 unfold mn
 split
 ·exact ⟨by omega, by omega, .inr rfl⟩
 ·exact ⟨by omega, by omega, .inl rfl⟩
theorem mx_ge (a b : Int) : a ≤ mx a b ∧ b ≤ mx a b ∧ (mx a b = a ∨ mx a b = b) := by
 unfold mx
 split
 ·exact ⟨by omega, by omega, .inr rfl⟩
 ·exact ⟨by omega, by omega, .inl rfl⟩
theorem bounds_fold {α : Type} (g : α → Int) : ∀ (ts : List α) (a b : Int), (ts.foldl (fun r x => (mn r.1 (g x), mx r.2 (g x))) (a, b)).1 ≤ a ∧ (∀ x ∈ ts, (ts.foldl (fun r x => (mn r.1 (g x), mx r.2 (g x))) (a, b)).1 ≤ g x) ∧
  ((ts.foldl (fun r x => (mn r.1 (g x), mx r.2 (g x))) (a, b)).1 = a ∨ ∃ x ∈ ts, g x = (ts.foldl (fun r x => (mn r.1 (g x), mx r.2 (g x))) (a, b)).1) ∧
  b ≤ (ts.foldl (fun r x => (mn r.1 (g x), mx r.2 (g x))) (a, b)).2 ∧ (∀ x ∈ ts, g x ≤ (ts.foldl (fun r x => (mn r.1 (g x), mx r.2 (g x))) (a, b)).2) ∧
  ((ts.foldl (fun r x => (mn r.1 (g x), mx r.2 (g x))) (a, b)).2 = b ∨ ∃ x ∈ ts, g x = (ts.foldl (fun r x => (mn r.1 (g x), mx r.2 (g x))) (a, b)).2) := by
 intro ts
 induction ts with
 | nil => intro a b; exact ⟨Int.le_refl _, fun _ h => by simp at h, .inl rfl, Int.le_refl _, fun _ h => by simp at h, .inl rfl⟩
 | cons y r ih =>
  intro a b
  rw [List.foldl_cons]
  obtain ⟨h1, h2, h3, h4, h5, h6⟩ := ih (mn a (g y)) (mx b (g y))
  obtain ⟨m1, m2, m3⟩ := mn_le a (g y)
  obtain ⟨n1, n2, n3⟩ := mx_ge b (g y)
  refine ⟨Int.le_trans h1 m1, fun x hx => ?_, ?_, Int.le_trans n1 h4, fun x hx => ?_, ?_⟩
  ·rcases List.mem_cons.1 hx with rfl | hx
   ·exact Int.le_trans h1 m2
   ·exact h2 x hx
  ·rcases h3 with h3 | ⟨x, hx, h3⟩
   ·rcases m3 with m3 | m3
    ·exact .inl (h3.trans m3)
    ·exact .inr ⟨y, List.mem_cons_self, (h3.trans m3).symm⟩
   ·exact .inr ⟨x, List.mem_cons_of_mem _ hx, h3⟩
  ·rcases List.mem_cons.1 hx with rfl | hx
   ·exact Int.le_trans n2 h4
   ·exact h5 x hx
  ·rcases h6 with h6 | ⟨x, hx, h6⟩
   ·rcases n3 with n3 | n3
    ·exact .inl (h6.trans n3)
    ·exact .inr ⟨y, List.mem_cons_self, (h6.trans n3).symm⟩
   ·exact .inr ⟨x, List.mem_cons_of_mem _ hx, h6⟩
theorem boundsL_spec (g : List Int → Int) {ts : List (List Int)} (h : ts ≠ []) : (∀ x ∈ ts, (boundsL g ts).1 ≤ g x ∧ g x ≤ (boundsL g ts).2) ∧ (∃ x ∈ ts, g x = (boundsL g ts).1) ∧ (∃ x ∈ ts, g x = (boundsL g ts).2) := by
 obtain ⟨y, r, rfl⟩ : ∃ y r, ts = y :: r := List.exists_cons_of_ne_nil h
 obtain ⟨h1, h2, h3, h4, h5, h6⟩ := bounds_fold g (y :: r) (g y) (g y)
 refine ⟨fun x hx => ⟨h2 x hx, h5 x hx⟩, ?_, ?_⟩
 ·rcases h3 with h3 | h3
  ·exact ⟨y, List.mem_cons_self, h3.symm⟩
  ·exact h3
 ·rcases h6 with h6 | h6
  ·exact ⟨y, List.mem_cons_self, h6.symm⟩
  ·exact h6
end Go.Proofs.Ytnbbbeghgomnoaa.X
namespace Go.Proofs.Ytnbbbeghgomnoaa.X
open Go.RowKit Go.Proofs.YtnbbbeghgomnoaaW.PrintWords Go.Proofs.YtnbbbeghgomnoaaW.PrintLast Go.Proofs.YtnbbbeghgomnoaaW.PrintMore
theorem whoP_any (n1 : Nat) (ts : List (List Int)) (i w : Nat) (hi : i < n1) : whoP n1 ts i w = ts.any (fun x => pad x i == (w : Int)) := by
  unfold whoP manyS
  rw [if_pos ⟨by omega, by omega⟩, Int.toNat_natCast, Bool.eq_iff_iff, decide_eq_true_eq, List.any_eq_true]
  constructor
  · intro h
    obtain ⟨x, hx⟩ := List.exists_mem_of_length_pos (by omega : 0 < (ts.filter fun xs => pad xs i == (w : Int)).length)
    rw [List.mem_filter] at hx
    exact ⟨x, hx.1, hx.2⟩
  · rintro ⟨x, h1, h2⟩
    have := List.length_pos_of_mem (List.mem_filter.2 ⟨h1, h2⟩ : x ∈ ts.filter fun xs => pad xs i == (w : Int))
    omega
theorem whoseL_len (n0 n1 : Nat) (ts : List (List Int)) : (whoseL n0 n1 ts).length = n1 := by simp [whoseL]
theorem whoseL_get (n0 n1 : Nat) (ts : List (List Int)) (i : Nat) (hi : i < n1) : (whoseL n0 n1 ts).getD i [] = sel (whoP n1 ts i) n0 := by
  unfold whoseL
  rw [List.getD_eq_getElem?_getD, List.getElem?_map, List.getElem?_range hi]; rfl
theorem whose_mem {n0 n1 : Nat} {ts : List (List Int)} {i : Nat} (hi : i < n1) (hts : ∀ x ∈ ts, 0 ≤ pad x i ∧ pad x i < n0) (v : Int) : v ∈ (whoseL n0 n1 ts).getD i [] ↔ ∃ x ∈ ts, pad x i = v := by
  rw [whoseL_get _ _ _ _ hi, sel_mem]
  constructor
  · rintro ⟨k, hk, hp, rfl⟩
    rw [whoP_any _ _ _ _ hi, List.any_eq_true] at hp
    obtain ⟨x, hx, he⟩ := hp
    exact ⟨x, hx, eq_of_beq he⟩
  · rintro ⟨x, hx, rfl⟩
    obtain ⟨h0, h1⟩ := hts x hx
    refine ⟨(pad x i).toNat, by omega, ?_, by omega⟩
    rw [whoP_any _ _ _ _ hi, List.any_eq_true]
    exact ⟨x, hx, beq_iff_eq.2 (by omega)⟩
theorem truths_own {l0 : List S109} {l1 : List S110} {wg : Int} {x : List Int} (h : x ∈ truthsL l0 l1 wg) (i : Nat) (hi : i < l1.length) : 0 ≤ pad x i ∧ pad x i < l0.length := allL_owners l0 l1 x (truths_mem h) i hi
end Go.Proofs.Ytnbbbeghgomnoaa.X
namespace Go.Proofs.Ytnbbbeghgomnoaa.X
open Go.RowKit Go.Proofs.YtnbbbeghgomnoaaW.PrintWords Go.Proofs.YtnbbbeghgomnoaaW.PrintLast Go.Proofs.YtnbbbeghgomnoaaW.PrintMore
theorem checkT_of {l0 : List S109} {l1 : List S110} {wg : Int} (h : Val l0 l1 wg) : checkT l0 l1 wg = 0 := by
  unfold checkT
  have h0 := h.n0
  have h1 := h.n1
  have hm := h.mn
  have hw : okIn wg 0 5 = true := by
    unfold okIn
    rw [decide_eq_true h.wg0, decide_eq_true h.wg1]; rfl
  rw [if_neg (by omega), hw, h.ws, h.ps, if_neg (by decide), if_neg (by omega)]
structure Same (L1 L1' : List S110) : Prop where
  len : L1'.length = L1.length
  mks : ∀ i, (L1'.getD i z110).f0 = (L1.getD i z110).f0
theorem Same.opts {L1 L1' : List S110} (h : Same L1 L1') (L0 : List S109) : optsL L0 L1' = optsL L0 L1 := by
  funext i
  unfold optsL
  rw [h.mks i]
theorem Same.all {L1 L1' : List S110} (h : Same L1 L1') (L0 : List S109) : allL L0 L1' = allL L0 L1 := by
  unfold allL
  rw [h.opts L0, h.len]
theorem Same.truths {L1 L1' : List S110} (h : Same L1 L1') (L0 : List S109) (wg : Int) : truthsL L0 L1' wg = truthsL L0 L1 wg := by
  unfold truthsL
  rw [h.all L0, h.len]
theorem Same.val {L1 L1' : List S110} (h : Same L1 L1') {L0 : List S109} {wg : Int} (hv : Val L0 L1 wg) (hb : ∀ i, i < L1'.length → okIn (L1'.getD i z110).f1 0 ((L0.length : Int) - 1) = true) : Val L0 L1' wg := by
  refine ⟨hv.n0, by rw [h.len]; exact hv.n1, hv.wg0, hv.wg1, hv.ws, ?_, ?_⟩
  · rw [List.all_eq_true]
    intro z hz
    obtain ⟨i, hi, rfl⟩ := List.mem_iff_getElem.1 hz
    have e' : L1'[i] = L1'.getD i z110 := by rw [List.getD_eq_getElem?_getD, List.getElem?_eq_getElem hi]; rfl
    have hi2 : i < L1.length := by rw [← h.len]; exact hi
    have hp := List.all_eq_true.1 hv.ps (L1.getD i z110) (getD_mem L1 i z110 hi2)
    unfold okP at hp ⊢
    rw [Bool.and_eq_true, Bool.and_eq_true] at hp ⊢
    rw [e', h.mks i]
    exact ⟨⟨hp.1.1, hb i hi⟩, hp.2⟩
  · have hm := hv.mn
    rw [manyT_eq] at hm ⊢
    rw [h.all L0]; exact hm
theorem sel_len_succ (P : Nat → Bool) (n : Nat) : (sel P (n + 1)).length = (sel P n).length + (P n).toNat := by
  cases hq : P n
  · rw [sel_no _ _ hq]; rfl
  · rw [sel_yes _ _ hq, List.length_append]; rfl
end Go.Proofs.Ytnbbbeghgomnoaa.X
namespace Go.Proofs.Ytnbbbeghgomnoaa.X
open Go.RowKit Go.Proofs.YtnbbbeghgomnoaaW.PrintWords Go.Proofs.YtnbbbeghgomnoaaW.PrintLast Go.Proofs.YtnbbbeghgomnoaaW.PrintMore
def beforeB : List Int → List Int → Bool
 | [], b => decide (0 < b.length)
 | _ :: _, [] => false
 | x :: a, y :: b => if x = y then beforeB a b else decide (x < y)
def shorterB (a b : List Int) : Bool := decide (a.length < b.length) || (decide (a.length = b.length) && beforeB a b)
theorem beforeB_trans : ∀ (a b c : List Int), beforeB a b = true → beforeB b c = true → beforeB a c = true := by
 intro a
 induction a with
 | nil =>
  intro b c h1 h2
  cases c with
  | cons z c => rfl
  | nil =>
   cases b with
   | nil => exact h1
   | cons y b => cases h2
 | cons x a ih =>
  intro b c h1 h2
  cases b with
  | nil => cases h1
  | cons y b =>
   cases c with
   | nil => cases h2
   | cons z c =>
    unfold beforeB at h1 h2 ⊢
    by_cases e1 : x = y
    ·rw [if_pos e1] at h1
     by_cases e2 : y = z
     ·rw [if_pos e2] at h2
      rw [if_pos (e1.trans e2)]; exact ih b c h1 h2
     ·rw [if_neg e2] at h2
      have := of_decide_eq_true h2
      rw [if_neg (by omega)]; exact decide_eq_true (by omega)
    ·rw [if_neg e1] at h1
     have h3 := of_decide_eq_true h1
     by_cases e2 : y = z
     ·rw [if_neg (by omega)]; exact decide_eq_true (by omega)
     ·rw [if_neg e2] at h2
      have h4 := of_decide_eq_true h2
      rw [if_neg (by omega)]; exact decide_eq_true (by omega)
theorem shorterB_trans {a b c : List Int} (h1 : shorterB a b = true) (h2 : shorterB b c = true) : shorterB a c = true := by
 unfold shorterB at h1 h2 ⊢
 simp only [Bool.or_eq_true, Bool.and_eq_true, decide_eq_true_eq] at h1 h2 ⊢
 rcases h1 with h1 | ⟨h1, k1⟩ <;> rcases h2 with h2 | ⟨h2, k2⟩
 ·left; omega
 ·left; omega
 ·left; omega
 ·right; exact ⟨by omega, beforeB_trans _ _ _ k1 k2⟩
def rightsL (l0 : List S109) (l1 : List S110) : List Nat := (allL l0 l1).map fun x => bitsN (rightP l0 l1.length x) l0.length
def canB (rs : List Nat) (W : Nat) : Bool := rs.any fun r => decide (r &&& W = W)
def setsN (n : Nat) : List (List Int) := (List.range (n + 1)).flatMap fun k => combs n k 0
def setOf (m : Nat) : List Int := sel (fun j => m.testBit j) 6
theorem sets_sorted : ∀ n, n < 6 → (setsN n).Pairwise (fun a b => shorterB a b = true) := by decide +kernel
theorem sets_bits : ∀ n, n < 6 → ∀ m, m < 2 ^ n → setOf m ∈ setsN n := by decide +kernel
theorem sets_of : ∀ n, n < 6 → ∀ s ∈ setsN n, ∃ m, m < 2 ^ n ∧ s = setOf m := by decide +kernel
theorem setOf_mem (m j : Nat) : (setOf m).contains (j : Int) = (decide (j < 6) && m.testBit j) := by
 rw [Bool.eq_iff_iff, List.contains_iff_mem]
 unfold setOf
 rw [sel_mem, Bool.and_eq_true, decide_eq_true_eq]
 constructor
 ·rintro ⟨k, h1, h2, h3⟩
  obtain rfl : j = k := by omega
  exact ⟨h1, h2⟩
 ·rintro ⟨h1, h2⟩; exact ⟨j, h1, h2, rfl⟩
theorem shorterB_irrefl : ∀ a : List Int, shorterB a a = false := by
 intro a
 have hb : ∀ a : List Int, beforeB a a = false := by
  intro a
  induction a with
  | nil => rfl
  | cons x a ih => unfold beforeB; rw [if_pos rfl]; exact ih
 unfold shorterB
 rw [hb, decide_eq_false (by omega), Bool.and_false]; rfl
theorem leaveL_find (l0 : List S109) (l1 : List S110) : leaveL l0 l1 = ((setsN l0.length).find? (possL l0 l1)).getD [] := by
 unfold leaveL setsN
 rw [List.find?_flatMap]
 refine congrArg (fun o => Option.getD o []) (congrArg (fun f => List.findSome? f _) (funext fun k => ?_))
 unfold leaveS
 simp
theorem find_least {C : List (List Int)} {P : List Int → Bool} (hC : C.Pairwise (fun a b => shorterB a b = true)) {r : List Int} (hr : r ∈ C) (hP : P r = true) (hl : ∀ t ∈ C, P t = true → shorterB t r = false) : (C.find? P).getD [] = r := by
 cases hf : C.find? P with
 | none =>
  have := List.find?_eq_none.1 hf r hr
  exact absurd hP this
 | some s =>
  show s = r
  obtain ⟨hPs, x, y, hxy, hx⟩ := List.find?_eq_some_iff_append.1 hf
  have hs := hl s (by rw [hxy]; simp) hPs
  rw [hxy] at hr hC
  rcases List.mem_append.1 hr with h | h
  ·have := hx r h
   rw [hP] at this; cases this
  ·rcases List.mem_cons.1 h with h | h
   ·exact h.symm
   ·have h2 := (List.pairwise_append.1 hC).2.1
    have h3 := (List.pairwise_cons.1 h2).1 r h
    rw [hs] at h3; cases h3
def restW (n m : Nat) : Nat := (2 ^ n - 1) ^^^ ((2 ^ n - 1) &&& m)
theorem restW_bit (n m j : Nat) : (restW n m).testBit j = (decide (j < n) && !m.testBit j) := by
 unfold restW
 rw [Nat.testBit_xor, Nat.testBit_and, Nat.testBit_two_pow_sub_one]
 cases decide (j < n) <;> cases m.testBit j <;> rfl
theorem cond_right (l0 : List S109) (n1 : Nat) (x : List Int) (m : Nat) (h : l0.length ≤ 5) : decide (bitsN (rightP l0 n1 x) l0.length &&& restW l0.length m = restW l0.length m) = condL l0 n1 (setOf m) x := by
 rw [Bool.eq_iff_iff, decide_eq_true_eq]
 unfold condL
 rw [List.all_eq_true]
 constructor
 ·intro he v hv
  obtain ⟨j, hj, hb, rfl⟩ := (sel_mem _ _ _).1 hv
  rw [setOf_mem, decide_eq_true (by omega), Bool.true_and]
  have h2 := congrArg (fun z => z.testBit j) he
  rw [Nat.testBit_and, bitsN_bit, restW_bit, decide_eq_true hj] at h2
  unfold rightP at h2
  rw [hb] at h2
  cases hm : m.testBit j
  ·rw [hm] at h2; cases h2
  ·rfl
 ·intro ha
  refine Nat.eq_of_testBit_eq fun j => ?_
  rw [Nat.testBit_and, bitsN_bit, restW_bit]
  by_cases hj : j < l0.length
  ·rw [decide_eq_true hj]
   unfold rightP
   cases hb : bad l0 n1 (pad x) j
   ·simp
   ·have := ha (j : Int) ((sel_mem _ _ _).2 ⟨j, hj, hb, rfl⟩)
    rw [setOf_mem, decide_eq_true (by omega), Bool.true_and] at this
    rw [this]; rfl
  ·rw [decide_eq_false hj]; rfl
theorem can_poss (l0 : List S109) (l1 : List S110) (m : Nat) (h : l0.length ≤ 5) : canB (rightsL l0 l1) (restW l0.length m) = possL l0 l1 (setOf m) := by
 unfold canB rightsL possL
 rw [List.any_map]
 refine congrArg (fun p => List.any (allL l0 l1) p) (funext fun x => ?_)
 exact cond_right l0 l1.length x m h
def leaveF (l0 : List S109) (l1 : List S110) (m : Nat) : List Int := (List.range m).foldl (fun b i => if shorterB (setOf i) b && canB (rightsL l0 l1) (restW l0.length i) then setOf i else b) (setOf (2 ^ l0.length - 1))
theorem leaveF_succ (l0 : List S109) (l1 : List S110) (m : Nat) : leaveF l0 l1 (m + 1) = if shorterB (setOf m) (leaveF l0 l1 m) && canB (rightsL l0 l1) (restW l0.length m) then setOf m else leaveF l0 l1 m := by
 unfold leaveF
 rw [List.range_succ, List.foldl_append]; rfl
theorem leaveF_inv (l0 : List S109) (l1 : List S110) (h : l0.length ≤ 5) (hok : l1.all (okP l0) = true) : ∀ m, m ≤ 2 ^ l0.length → leaveF l0 l1 m ∈ setsN l0.length ∧ possL l0 l1 (leaveF l0 l1 m) = true ∧ ∀ i, i < m → possL l0 l1 (setOf i) = true → shorterB (setOf i) (leaveF l0 l1 m) = false := by
 have hp := pow_small l0.length h
 have hpos : 0 < 2 ^ l0.length := Nat.two_pow_pos _
 intro m
 induction m with
 | zero =>
  intro _
  refine ⟨sets_bits _ (by omega) _ (by omega), poss_all hok (fun k hk => ?_), fun i hi => absurd hi (by omega)⟩
  have := setOf_mem (2 ^ l0.length - 1) k
  rw [Nat.testBit_two_pow_sub_one, decide_eq_true hk, decide_eq_true (by omega)] at this
  exact List.contains_iff_mem.1 this
 | succ m ih =>
  intro hm
  obtain ⟨h1, h2, h3⟩ := ih (by omega)
  rw [leaveF_succ]
  by_cases hc : (shorterB (setOf m) (leaveF l0 l1 m) && canB (rightsL l0 l1) (restW l0.length m)) = true
  ·rw [if_pos hc]
   rw [Bool.and_eq_true, can_poss _ _ _ h] at hc
   refine ⟨sets_bits _ (by omega) _ (by omega), hc.2, fun i hi hP => ?_⟩
   by_cases e : i = m
   ·subst e; exact shorterB_irrefl _
   ·have h4 := h3 i (by omega) hP
    cases h5 : shorterB (setOf i) (setOf m)
    ·rfl
    ·rw [shorterB_trans h5 hc.1] at h4; cases h4
  ·rw [if_neg hc]
   refine ⟨h1, h2, fun i hi hP => ?_⟩
   by_cases e : i = m
   ·subst e
    cases h5 : shorterB (setOf i) (leaveF l0 l1 i)
    ·rfl
    ·rw [h5, can_poss _ _ _ h, hP] at hc; exact absurd rfl hc
   ·exact h3 i (by omega) hP
theorem leaveF_eq (l0 : List S109) (l1 : List S110) (h : l0.length ≤ 5) (hok : l1.all (okP l0) = true) : leaveF l0 l1 (2 ^ l0.length) = leaveL l0 l1 := by
 obtain ⟨h1, h2, h3⟩ := leaveF_inv l0 l1 h hok _ (Nat.le_refl _)
 rw [leaveL_find]
 refine (find_least (sets_sorted _ (by omega)) h1 h2 (fun t ht hP => ?_)).symm
 obtain ⟨m, hm, rfl⟩ := sets_of _ (by omega) t ht
 exact h3 m hm hP
end Go.Proofs.Ytnbbbeghgomnoaa.X
namespace Go.Proofs.Ytnbbbeghgomnoaa.X
open Go.RowKit Go.Proofs.YtnbbbeghgomnoaaW.PrintWords Go.Proofs.YtnbbbeghgomnoaaW.PrintLast Go.Proofs.YtnbbbeghgomnoaaW.PrintMore
theorem sel_le_of {P Q : Nat → Bool} : ∀ n, (∀ i, i < n → P i = true → Q i = true) → (sel P n).length ≤ (sel Q n).length := by
  intro n
  induction n with
  | zero => intro _; simp [sel]
  | succ n ih =>
    intro h
    have h1 := ih fun i hi => h i (by omega)
    rw [sel_len_succ, sel_len_succ]
    cases hP : P n
    · have : 0 ≤ (Q n).toNat := Nat.zero_le _
      simp only [Bool.toNat_false]; omega
    · rw [h n (by omega) hP]; omega
theorem leave_least {L0 : List S109} {L1 : List S110} (h : L0.length ≤ 5) (hok : L1.all (okP L0) = true) : leaveL L0 L1 ∈ setsN L0.length ∧ possL L0 L1 (leaveL L0 L1) = true ∧ ∀ s ∈ setsN L0.length, possL L0 L1 s = true → shorterB s (leaveL L0 L1) = false := by
  obtain ⟨h1, h2, h3⟩ := leaveF_inv L0 L1 h hok _ (Nat.le_refl _)
  rw [leaveF_eq L0 L1 h hok] at h1 h2 h3
  refine ⟨h1, h2, fun s hs hP => ?_⟩
  obtain ⟨m, hm, rfl⟩ := sets_of _ (by omega) s hs
  exact h3 m hm hP
theorem leave_short {L0 : List S109} {L1 : List S110} (h : L0.length ≤ 5) (hok : L1.all (okP L0) = true) {s : List Int} (hs : s ∈ setsN L0.length) (hP : possL L0 L1 s = true) : (leaveL L0 L1).length ≤ s.length := by
  have h3 := (leave_least h hok).2.2 s hs hP
  unfold shorterB at h3
  rw [Bool.or_eq_false_iff, decide_eq_false_iff_not] at h3
  omega
structure Wdr (L0 L0' : List S109) : Prop where
  len : L0'.length = L0.length
  mks : ∀ i, (L0'.getD i z109).f0 = (L0.getD i z109).f0
  lo : ∀ i, i < L0.length → (L0'.getD i z109).f1.f0 ≤ (L0.getD i z109).f1.f0
  hi : ∀ i, i < L0.length → (L0.getD i z109).f1.f1 ≤ (L0'.getD i z109).f1.f1
theorem Wdr.of {L0 L0' : List S109} (h : Wdr L0 L0') (ms : List Int) : ofL L0' ms = ofL L0 ms := by
  unfold ofL
  rw [h.len]
  congr 1
  funext j
  rw [h.mks j]
theorem Wdr.opts {L0 L0' : List S109} (h : Wdr L0 L0') (L1 : List S110) : optsL L0' L1 = optsL L0 L1 := by
  funext i
  exact h.of _
theorem Wdr.all {L0 L0' : List S109} (h : Wdr L0 L0') (L1 : List S110) : allL L0' L1 = allL L0 L1 := by
  unfold allL
  rw [h.opts L1]
theorem Wdr.okp {L0 L0' : List S109} (h : Wdr L0 L0') : okP L0' = okP L0 := by
  funext z
  unfold okP
  rw [h.of, h.len]
theorem Wdr.bad {L0 L0' : List S109} (h : Wdr L0 L0') (n : Nat) (o : Nat → Int) (i : Nat) (hi : i < L0.length) (hb : bad L0' n o i = true) : X.bad L0 n o i = true := by
  unfold X.bad came at hb ⊢
  have h1 := h.lo i hi
  have h2 := h.hi i hi
  rw [Bool.not_eq_true', Bool.and_eq_false_iff, decide_eq_false_iff_not, decide_eq_false_iff_not] at hb ⊢
  omega
theorem Wdr.isT {L0 L0' : List S109} (h : Wdr L0 L0') {wg wx : Int} (hw : wg ≤ wx) (n : Nat) (x : List Int) (ht : isT L0 n wg x = true) : X.isT L0' n wx x = true := by
  unfold X.isT at ht ⊢
  rw [decide_eq_true_eq] at ht ⊢
  have := sel_le_of (P := X.bad L0' n (pad x)) (Q := X.bad L0 n (pad x)) L0.length (fun i hi hb => h.bad n _ i hi hb)
  rw [h.len]
  omega
theorem Wdr.truths {L0 L0' : List S109} (h : Wdr L0 L0') {wg wx : Int} (hw : wg ≤ wx) (L1 : List S110) {x : List Int} (hx : x ∈ truthsL L0 L1 wg) : x ∈ truthsL L0' L1 wx := by
  unfold truthsL at hx ⊢
  rw [List.mem_filter] at hx ⊢
  rw [h.all L1]
  exact ⟨hx.1, h.isT hw _ _ hx.2⟩
theorem Wdr.poss {L0 L0' : List S109} (h : Wdr L0 L0') (L1 : List S110) (s : List Int) (hp : possL L0 L1 s = true) : possL L0' L1 s = true := by
  unfold possL at hp ⊢
  rw [List.any_eq_true] at hp ⊢
  obtain ⟨x, hx, hc⟩ := hp
  refine ⟨x, by rw [h.all L1]; exact hx, ?_⟩
  unfold condL at hc ⊢
  rw [List.all_eq_true] at hc ⊢
  intro v hv
  obtain ⟨k, hk, hb, rfl⟩ := (sel_mem _ _ _).1 hv
  rw [h.len] at hk
  exact hc _ ((sel_mem _ _ _).2 ⟨k, hk, h.bad _ _ k hk hb, rfl⟩)
theorem Wdr.leave {L0 L0' : List S109} (h : Wdr L0 L0') {L1 : List S110} (h5 : L0.length ≤ 5) (hok : L1.all (okP L0) = true) : (leaveL L0' L1).length ≤ (leaveL L0 L1).length := by
  obtain ⟨h1, h2, _⟩ := leave_least h5 hok
  exact leave_short (by rw [h.len]; exact h5) (by rw [h.okp]; exact hok) (by rw [h.len]; exact h1) (h.poss L1 _ h2)
theorem Wdr.val {L0 L0' : List S109} (h : Wdr L0 L0') {L1 : List S110} {wg wx : Int} (hv : Val L0 L1 wg) (hw : L0'.all okW = true) (h0 : 0 ≤ wx) (h1 : wx ≤ 5) : Val L0' L1 wx := by
  refine ⟨by rw [h.len]; exact hv.n0, hv.n1, h0, h1, hw, by rw [h.okp]; exact hv.ps, ?_⟩
  have hm := hv.mn
  rw [manyT_eq] at hm ⊢
  rw [h.all L1]; exact hm
end Go.Proofs.Ytnbbbeghgomnoaa.X
namespace Go.Proofs.Ytnbbbeghgomnoaa.X
open Go.RowKit Go.Proofs.YtnbbbeghgomnoaaW.PrintWords Go.Proofs.YtnbbbeghgomnoaaW.PrintLast Go.Proofs.YtnbbbeghgomnoaaW.PrintMore
attribute [local go_sem] max2_int min2_int max_two min_two max_three min_three max_four min_four
set_option linter.unusedVariables false
set_option linter.unusedSimpArgs false
def posserlaw03_ready.f (k : Nat) (l0_0 : List (S85)) (l0_1 : List (S71)) (a0_2 : Int) : Option (Bool) := (posserlaw03_Thin.f k l0_0 l0_1 a0_2).bind fun t444 => (if t444 = true then ((posserref03_Fault.f k l0_0 l0_1 a0_2).bind fun t445 => (some (t445 == 0))) else (some false))
set_option maxHeartbeats 8000000 in
set_option maxRecDepth 100000 in
theorem posserlaw03_ready.calls (k : Nat) (A0_0 : Option Addr) (c0_0 : Nat) (l0_0 : List (S85)) (A0_1 : Option Addr) (c0_1 : Nat) (l0_1 : List (S71)) (a0_2 : Int) (r : Bool) (w : World) (hr0_0 : Kd.C k85 w A0_0 l0_0.length l0_0) (hc0_0 : l0_0.length ≤ c0_0) (hr0_1 : Kd.C k71 w A0_1 l0_1.length l0_1) (hc0_1 : l0_1.length ≤ c0_1) (h : posserlaw03_ready.f k l0_0 l0_1 a0_2 = some r) :
  Calls Try.prog 47 #[.agg #[.slice A0_0 l0_0.length c0_0, .slice A0_1 l0_1.length c0_1, .int .i64 a0_2]] w fun e w' => e = .returned (.bool r) ∧ Below w.heap.size w w' := by
 have hu25 := Try.underlying25
 have HR0_0 := Aside0.mk hr0_0
 have HC0_0 := Aside0.mk hc0_0
 clear hr0_0 hc0_0
 have HR0_1 := Aside0.mk hr0_1
 have HC0_1 := Aside0.mk hc0_1
 clear hr0_1 hc0_1
 have HB := Aside0.mk (Below.refl w.heap.size w)
 have H : ((posserlaw03_Thin.f k l0_0 l0_1 a0_2).bind fun t444 => (if t444 = true then ((posserref03_Fault.f k l0_0 l0_1 a0_2).bind fun t445 => (some (t445 == 0))) else (some false))) = some r := h
 clear h
 replace H := Option.bind_eq_some_iff.mp H
 obtain ⟨t444, A20, H⟩ := H
 replace H : (if t444 = true then ((posserref03_Fault.f k l0_0 l0_1 a0_2).bind fun t445 => (some (t445 == 0))) else (some false)) = some r := H
 have A2 := Aside0.mk A20
 clear A20
 by_cases c3 : t444 = true
 ·subst c3
  have H1 : ((posserref03_Fault.f k l0_0 l0_1 a0_2).bind fun t445 => (some (t445 == 0))) = some r := by rw [if_pos rfl] at H; exact H
  clear H
  have H := H1
  clear H1
  replace H := Option.bind_eq_some_iff.mp H
  obtain ⟨t445, A40, H⟩ := H
  replace H : (some (t445 == 0)) = some r := H
  have A4 := Aside0.mk A40
  clear A40
  obtain rfl := Option.some.inj H
  go_enter Try.func47, Try.ntmps47
  go_wp2_with (first | ((with_reducible refine gate_dst (N := 1) rfl ?_); refine sbox (N := 1) #[.slice A0_0 l0_0.length c0_0, .slice A0_1 l0_1.length c0_1, .int .i64 a0_2] 25 ?_; intro gb443 hg w5 hbox hb; have BK443 := Aside0.mk (hbox); have GW443 := Aside0.mk (sge hg HB : w.heap.size ≤ gb443); have GE443 := Aside0.mk (sge hg HB : w.heap.size ≤ gb443); replace HB := Aside0.mk (sbs HB hb); clear hb hbox hg; have hcz6_0 := sc 0 BK443; have hcz6_1 := sc 1 BK443; have hcz6_2 := sc 2 BK443; have hfz6_0 := blk_frozen BK443.out 0; have hfz6_1 := blk_frozen BK443.out 1; have hfz6_2 := blk_frozen BK443.out 2) | ((with_reducible refine gate_callee (f := 20) rfl ?_); refine goesL_ (some 4) rfl rfl Try.func20 (by kernel_rfl) rfl #[.agg #[.slice A0_0 l0_0.length c0_0, .slice A0_1 l0_1.length c0_1, .int .i64 a0_2]] rfl (by (try simp only [List.map_toArray, List.map_cons, List.map_nil]); first | done | rfl | (simp only [List.length_drop, List.length_take]; rfl)) ?_; (with_reducible refine (posserlaw03_Thin.calls k _ _ l0_0 _ _ l0_1 a0_2 true _ ?side1 ?side2 ?side3 ?side4 A2.out).mono ?_); (case side1 => exact sCb HR0_0 HB); (case side2 => exact HC0_0.out); (case side3 => exact sCb HR0_1 HB); (case side4 => exact HC0_1.out); rintro e w7 ⟨rfl, hb⟩; refine ⟨_, rfl, ?_⟩; replace BK443 := Aside0.mk (sbb BK443 hb); replace HB := Aside0.mk (sbs1 HB GE443 hb); (try clear hb); (try clear hb2); (try clear hk); (try clear hi); have hcz8_0 := sc 0 BK443; have hcz8_1 := sc 1 BK443; have hcz8_2 := sc 2 BK443; have hfz8_0 := blk_frozen BK443.out 0; have hfz8_1 := blk_frozen BK443.out 1; have hfz8_2 := blk_frozen BK443.out 2) | (go_at_call 75; (with_reducible refine (posserref03_Fault.calls k _ _ l0_0 _ _ l0_1 a0_2 t445 _ ?side1 ?side2 ?side3 ?side4 A4.out).mono ?_); (case side1 => exact sCb HR0_0 HB); (case side2 => exact HC0_0.out); (case side3 => exact sCb HR0_1 HB); (case side4 => exact HC0_1.out); rintro e w9 ⟨rfl, hb⟩; replace BK443 := Aside0.mk (sbb BK443 hb); replace HB := Aside0.mk (sbs1 HB GE443 hb); (try clear hb); (try clear hb2); (try clear hk); (try clear hi)))
  go_ret
  exact ⟨by first | rfl | (simp [errW_none, errW_some] <;> rfl) | (simp [*, errW_none, errW_some] <;> rfl), (sbe1 HB GE443)⟩
 ·replace c3 := Bool.eq_false_iff.mpr c3
  subst c3
  have H1 : (some false) = some r := by rw [if_neg (show ¬ (false = true) by decide)] at H; exact H
  clear H
  have H := H1
  clear H1
  obtain rfl := Option.some.inj H
  go_enter Try.func47, Try.ntmps47
  go_wp2_with (first | ((with_reducible refine gate_dst (N := 1) rfl ?_); refine sbox (N := 1) #[.slice A0_0 l0_0.length c0_0, .slice A0_1 l0_1.length c0_1, .int .i64 a0_2] 25 ?_; intro gb443 hg w10 hbox hb; have BK443 := Aside0.mk (hbox); have GW443 := Aside0.mk (sge hg HB : w.heap.size ≤ gb443); have GE443 := Aside0.mk (sge hg HB : w.heap.size ≤ gb443); replace HB := Aside0.mk (sbs HB hb); clear hb hbox hg; have hcz11_0 := sc 0 BK443; have hcz11_1 := sc 1 BK443; have hcz11_2 := sc 2 BK443; have hfz11_0 := blk_frozen BK443.out 0; have hfz11_1 := blk_frozen BK443.out 1; have hfz11_2 := blk_frozen BK443.out 2) | ((with_reducible refine gate_callee (f := 20) rfl ?_); refine goesL_ (some 4) rfl rfl Try.func20 (by kernel_rfl) rfl #[.agg #[.slice A0_0 l0_0.length c0_0, .slice A0_1 l0_1.length c0_1, .int .i64 a0_2]] rfl (by (try simp only [List.map_toArray, List.map_cons, List.map_nil]); first | done | rfl | (simp only [List.length_drop, List.length_take]; rfl)) ?_; (with_reducible refine (posserlaw03_Thin.calls k _ _ l0_0 _ _ l0_1 a0_2 false _ ?side1 ?side2 ?side3 ?side4 A2.out).mono ?_); (case side1 => exact sCb HR0_0 HB); (case side2 => exact HC0_0.out); (case side3 => exact sCb HR0_1 HB); (case side4 => exact HC0_1.out); rintro e w12 ⟨rfl, hb⟩; refine ⟨_, rfl, ?_⟩; replace BK443 := Aside0.mk (sbb BK443 hb); replace HB := Aside0.mk (sbs1 HB GE443 hb); (try clear hb); (try clear hb2); (try clear hk); (try clear hi)))
  go_ret
  exact ⟨by first | rfl | (simp [errW_none, errW_some] <;> rfl) | (simp [*, errW_none, errW_some] <;> rfl), (sbe1 HB GE443)⟩
end Go.Proofs.Ytnbbbeghgomnoaa.X
namespace Go.Proofs.Ytnbbbeghgomnoaa.X
open Go.RowKit Go.Proofs.YtnbbbeghgomnoaaW.PrintWords Go.Proofs.YtnbbbeghgomnoaaW.PrintLast Go.Proofs.YtnbbbeghgomnoaaW.PrintMore
theorem rdy_ev (l0 : List S85) (l1 : List S71) (wg : Int) : Evt (fun k => posserlaw03_ready.f k l0 l1 wg) (thinR l0 l1 && decide (checkT (l0.map cvW) (l1.map cvP) wg = 0)) := by
  obtain ⟨K, hK⟩ := Thin_ev l0 l1 wg
  cases hth : thinR l0 l1 with
  | false =>
    refine ⟨K, fun k hk => ?_⟩
    have g1 := hK k hk
    dsimp only at g1 ⊢
    unfold posserlaw03_ready.f
    rw [g1, hth]; rfl
  | true =>
    obtain ⟨L, hL⟩ := Fault_ev wg (thinR_iff.1 hth)
    refine ⟨K + L, fun k hk => ?_⟩
    have g1 := hK k (by omega)
    have g2 := hL k (by omega)
    dsimp only at g1 g2 ⊢
    unfold posserlaw03_ready.f
    rw [g1, hth]
    simp only [Option.bind_some, if_true]
    rw [g2]
    simp only [Option.bind_some]
    exact congrArg some (by rw [Bool.true_and, Bool.eq_iff_iff, beq_iff_eq, decide_eq_true_eq])
theorem rdy_cases (l0 : List S85) (l1 : List S71) (wg : Int) : (∃ K, ∀ k, K ≤ k → posserlaw03_ready.f k l0 l1 wg = some false) ∨ (VR l0 l1 wg ∧ checkT (l0.map cvW) (l1.map cvP) wg = 0 ∧ ∃ K, ∀ k, K ≤ k → posserlaw03_ready.f k l0 l1 wg = some true) := by
  have h := rdy_ev l0 l1 wg
  by_cases h1 : thinR l0 l1 = true
  · by_cases h2 : checkT (l0.map cvW) (l1.map cvP) wg = 0
    · rw [h1, decide_eq_true h2] at h
      exact .inr ⟨VR.of (thinR_iff.1 h1) h2, h2, h⟩
    · rw [h1, decide_eq_false h2] at h
      exact .inl h
  · rw [Bool.eq_false_iff.2 h1] at h
    exact .inl h
theorem ask_cases {l0 : List S109} {l1 : List S110} {wg : Int} (hc : checkT l0 l1 wg = 0) : (askE l0 l1 wg = 11 ∧ truthsL l0 l1 wg = []) ∨ (askE l0 l1 wg = 0 ∧ truthsL l0 l1 wg ≠ []) := by
  unfold askE
  rw [if_neg (fun h => h hc)]
  by_cases h : truthsL l0 l1 wg = []
  · rw [if_pos h]; exact .inl ⟨rfl, h⟩
  · rw [if_neg h]; exact .inr ⟨rfl, h⟩
theorem u8_rng {a : Int} (h : (Lit.int .u8 a).wf = true) : 0 ≤ a ∧ a ≤ 255 := by
  unfold Lit.wf at h
  rw [Bool.and_eq_true, decide_eq_true_eq, decide_eq_true_eq] at h
  exact ⟨h.1, h.2⟩
theorem tmod_nat (a n : Int) (h0 : 0 ≤ a) (h1 : a ≤ 65535) (hn : 0 < n) : Int.tmod (wrap64 a) n = ((a.toNat % n.toNat : Nat) : Int) := by
  rw [wrap64_id _ (by omega) (by omega), Int.tmod_eq_emod_of_nonneg h0]
  obtain ⟨x, rfl⟩ : ∃ x : Nat, a = (x : Int) := ⟨a.toNat, by omega⟩
  obtain ⟨y, rfl⟩ : ∃ y : Nat, n = (y : Int) := ⟨n.toNat, by omega⟩
  rw [Int.toNat_natCast, Int.toNat_natCast]; rfl
end Go.Proofs.Ytnbbbeghgomnoaa.X
namespace Go.Proofs.Ytnbbbeghgomnoaa.X
open Go.RowKit Go.Proofs.YtnbbbeghgomnoaaW.PrintWords Go.Proofs.YtnbbbeghgomnoaaW.PrintLast Go.Proofs.YtnbbbeghgomnoaaW.PrintMore
attribute [local go_sem] max2_int min2_int max_two min_two max_three min_three max_four min_four
set_option linter.unusedVariables false
set_option linter.unusedSimpArgs false
def posserlaw03_subset.l0 : Nat → List Int → List Int → Int → Option (Bool)
  | 0, _, _, _ => none
  | k + 1, x0, x1, x5 => if x5 < (x0.length : Int) then (if 0 ≤ x5 then ((posserref03_Has.f k x1 (rd x0 x5)).bind fun t636 => (if t636 = true then (posserlaw03_subset.l0 k x0 x1 (wrap64 (x5 + 1))) else (some false))) else (none)) else (some true)
def posserlaw03_subset.f (k : Nat) (l0 : List Int) (l1 : List Int) : Option (Bool) := posserlaw03_subset.l0 k l0 l1 0
set_option maxHeartbeats 8000000 in
set_option maxRecDepth 100000 in
theorem posserlaw03_subset.calls (k : Nat) (A0 : Option Addr) (c0 : Nat) (l0 : List Int) (A1 : Option Addr) (c1 : Nat) (l1 : List Int) (r : Bool) (w : World) (hr0 : Kd.C (Kd.int .i64) w A0 l0.length l0) (hc0 : l0.length ≤ c0) (hr1 : Kd.C (Kd.int .i64) w A1 l1.length l1) (hc1 : l1.length ≤ c1) (h : posserlaw03_subset.f k l0 l1 = some r) :
    Calls Try.prog 85 #[.slice A0 l0.length c0, .slice A1 l1.length c1] w fun e w' => e = .returned (.bool r) ∧ Drawn0 w w' := by
  have HR0 := Aside0.mk hr0
  have HC0 := Aside0.mk hc0
  clear hr0 hc0
  have HR1 := Aside0.mk hr1
  have HC1 := Aside0.mk hc1
  clear hr1 hc1
  have H : (posserlaw03_subset.l0 k l0 l1 0) = some r := h
  clear h
  have H' := Aside0.mk H
  clear H
  go_enter Try.func85, Try.ntmps85
  go_wp2
  go_loopg [5] k (fun kq v5 w' => ∃ (x5_1 : Int), v5 = .int .i64 x5_1 ∧ Aside0 (posserlaw03_subset.l0 kq l0 l1 x5_1 = some r) ∧ Aside0 (kq ≤ k) ∧ Drawn0 w w')
  case atStart => exact ⟨(0), (by first | rfl | (simp; done) | (simp [*]; done)), H', ⟨Nat.le_refl _⟩, by repeat (first | exact Drawn0.refl _ | apply Drawn0.step)⟩
  case round =>
    clear H'
    try clear c1
    try clear p2
    obtain ⟨x5_1, rfl, HA, HK1, ⟨m1, rfl⟩⟩ := hrel
    cases gk with
    | zero => exact absurd HA.out (by simp [posserlaw03_subset.l0])
    | succ k1 =>
      have H := HA.out
      clear HA
      simp only [posserlaw03_subset.l0] at H
      by_cases c3 : x5_1 < (l0.length : Int)
      · rw [if_pos c3] at H
        have c3b0 : decide (x5_1 < (l0.length : Int)) = true := decide_eq_true c3
        clear c3
        by_cases c4 : 0 ≤ x5_1
        · rw [if_pos c4] at H
          have c4b0 : decide (0 ≤ x5_1) = true := decide_eq_true c4
          clear c4
          replace H := Option.bind_eq_some_iff.mp H
          obtain ⟨t636, A50, H⟩ := H
          replace H : (if t636 = true then (posserlaw03_subset.l0 k1 l0 l1 (wrap64 (x5_1 + 1))) else (some false)) = some r := H
          have A5 := Aside0.mk A50
          clear A50
          by_cases c6 : t636 = true
          · subst c6
            have H1 : (posserlaw03_subset.l0 k1 l0 l1 (wrap64 (x5_1 + 1))) = some r := by rw [if_pos rfl] at H; exact H
            clear H
            have H := H1
            clear H1
            have H' := Aside0.mk H
            clear H
            have p635 : 0 ≤ (x5_1 : Int) := of_decide_eq_true (by first | (with_reducible assumption) | assumption)
            have q635 : x5_1 < (l0.length : Int) := of_decide_eq_true (by first | (with_reducible assumption) | assumption)
            obtain ⟨ad635, e635, hx635_0⟩ := Kd.at_int HR0.out x5_1 p635 q635
            cases e635
            replace p635 := eq_true p635
            replace q635 := eq_true q635
            go_wp2_with (first | ((with_reducible refine gate_callee (f := 56) rfl ?_); refine goesL_ (some 17) rfl rfl Try.func56 (by kernel_rfl) rfl #[.slice A1 l1.length c1, .int .i64 (rd l0 x5_1)] rfl (by (try simp only [List.map_toArray, List.map_cons, List.map_nil]); first | done | rfl | (simp only [List.length_drop, List.length_take]; rfl)) ?_; (with_reducible refine (posserref03_Has.calls k1 _ _ l1 (rd l0 x5_1) true _ ?side1 ?side2 A5.out).mono ?_); (case side1 => repeat (first | exact HR1.out | (with_reducible refine Kd.C_alloc ?_ _) | (with_reducible refine Kd.C_drewN ?_ _) | (with_reducible refine Kd.C_drew ?_))); (case side2 => exact HC1.out); rintro e w' ⟨rfl, ⟨nd, rfl⟩⟩; refine ⟨_, rfl, ?_⟩))
            go_roundg k1
            case measure => have := HK1.out; omega
            case rel => exact ⟨(wrap64 (x5_1 + 1)), (by first | rfl | (simp; done) | (simp [*]; done)), H', ⟨by have := HK1.out; omega⟩, by repeat (first | exact Drawn0.refl _ | apply Drawn0.step)⟩
          · replace c6 := Bool.eq_false_iff.mpr c6
            subst c6
            have H1 : (some false) = some r := by rw [if_neg (show ¬ (false = true) by decide)] at H; exact H
            clear H
            have H := H1
            clear H1
            obtain rfl := Option.some.inj H
            have p635 : 0 ≤ (x5_1 : Int) := of_decide_eq_true (by first | (with_reducible assumption) | assumption)
            have q635 : x5_1 < (l0.length : Int) := of_decide_eq_true (by first | (with_reducible assumption) | assumption)
            obtain ⟨ad635, e635, hx635_0⟩ := Kd.at_int HR0.out x5_1 p635 q635
            cases e635
            replace p635 := eq_true p635
            replace q635 := eq_true q635
            go_wp2_with (first | ((with_reducible refine gate_callee (f := 56) rfl ?_); refine goesL_ (some 17) rfl rfl Try.func56 (by kernel_rfl) rfl #[.slice A1 l1.length c1, .int .i64 (rd l0 x5_1)] rfl (by (try simp only [List.map_toArray, List.map_cons, List.map_nil]); first | done | rfl | (simp only [List.length_drop, List.length_take]; rfl)) ?_; (with_reducible refine (posserref03_Has.calls k1 _ _ l1 (rd l0 x5_1) false _ ?side1 ?side2 A5.out).mono ?_); (case side1 => repeat (first | exact HR1.out | (with_reducible refine Kd.C_alloc ?_ _) | (with_reducible refine Kd.C_drewN ?_ _) | (with_reducible refine Kd.C_drew ?_))); (case side2 => exact HC1.out); rintro e w' ⟨rfl, ⟨nd, rfl⟩⟩; refine ⟨_, rfl, ?_⟩))
            go_ret
            exact ⟨by first | rfl | (simp; done) | (simp [*]; done), by repeat (first | exact Drawn0.refl _ | apply Drawn0.step)⟩
        · rw [if_neg c4] at H
          exact absurd H (by simp)
      · rw [if_neg c3] at H
        have c3b0 : decide (x5_1 < (l0.length : Int)) = false := decide_eq_false c3
        clear c3
        obtain rfl := Option.some.inj H
        go_wp2
        go_ret
        exact ⟨by first | rfl | (simp; done) | (simp [*]; done), by repeat (first | exact Drawn0.refl _ | apply Drawn0.step)⟩
end Go.Proofs.Ytnbbbeghgomnoaa.X
namespace Go.Proofs.Ytnbbbeghgomnoaa.X
open Go.RowKit Go.Proofs.YtnbbbeghgomnoaaW.PrintWords Go.Proofs.YtnbbbeghgomnoaaW.PrintLast Go.Proofs.YtnbbbeghgomnoaaW.PrintMore
attribute [local go_sem] max2_int min2_int max_two min_two max_three min_three max_four min_four
set_option linter.unusedVariables false
set_option linter.unusedSimpArgs false
def posserlaw03_subsets.l0 : Nat → List (List Int) → List (List Int) → Int → Option (Bool)
  | 0, _, _, _ => none
  | k + 1, x0, x1, x5 => if x5 < (x0.length : Int) then (if 0 ≤ x5 then (if x5 < (x1.length : Int) then ((posserlaw03_subset.f k (rd_L1 x0 x5) (rd_L1 x1 x5)).bind fun t639 => (if t639 = true then (posserlaw03_subsets.l0 k x0 x1 (wrap64 (x5 + 1))) else (some false))) else (none)) else (none)) else (some true)
def posserlaw03_subsets.f (k : Nat) (l0 : List (List Int)) (l1 : List (List Int)) : Option (Bool) := if (l0.length : Int) = (l1.length : Int) then (posserlaw03_subsets.l0 k l0 l1 0) else (some false)
set_option maxHeartbeats 8000000 in
set_option maxRecDepth 100000 in
theorem posserlaw03_subsets.calls (k : Nat) (A0 : Option Addr) (c0 : Nat) (l0 : List (List Int)) (A1 : Option Addr) (c1 : Nat) (l1 : List (List Int)) (r : Bool) (w : World) (hr0 : Kd.C (Kd.slice 3 (Kd.int .i64)) w A0 l0.length l0) (hc0 : l0.length ≤ c0) (hr1 : Kd.C (Kd.slice 3 (Kd.int .i64)) w A1 l1.length l1) (hc1 : l1.length ≤ c1) (h : posserlaw03_subsets.f k l0 l1 = some r) :
    Calls Try.prog 52 #[.slice A0 l0.length c0, .slice A1 l1.length c1] w fun e w' => e = .returned (.bool r) ∧ Drawn0 w w' := by
  have HR0 := Aside0.mk hr0
  have HC0 := Aside0.mk hc0
  clear hr0 hc0
  have HR1 := Aside0.mk hr1
  have HC1 := Aside0.mk hc1
  clear hr1 hc1
  have H : (if (l0.length : Int) = (l1.length : Int) then (posserlaw03_subsets.l0 k l0 l1 0) else (some false)) = some r := h
  clear h
  by_cases c3 : (l0.length : Int) = (l1.length : Int)
  · rw [if_pos c3] at H
    have c3b0 : ((l0.length : Int) == (l1.length : Int)) = true := beq_iff_eq.mpr c3
    have c3b1 : ((l0.length : Int) != (l1.length : Int)) = false := bne_eq_false_iff_eq.mpr c3
    have c3b2 : (l0.length == l1.length) = true := by first | simpa using c3 | (simp at c3 ⊢; omega)
    clear c3
    have H' := Aside0.mk H
    clear H
    go_enter Try.func52, Try.ntmps52
    go_wp2
    repeat (go_quiet (fail); try go_wp2)
    go_loopg [5] k (fun kq v5 w' => ∃ (x5_1 : Int), v5 = .int .i64 x5_1 ∧ Aside0 (posserlaw03_subsets.l0 kq l0 l1 x5_1 = some r) ∧ Aside0 (kq ≤ k) ∧ Drawn0 w w')
    case atStart => exact ⟨(0), (by first | rfl | (simp; done) | (simp [*]; done)), H', ⟨Nat.le_refl _⟩, by repeat (first | exact Drawn0.refl _ | apply Drawn0.step)⟩
    case round =>
      clear H'
      try clear c1
      try clear p2
      try clear c3
      try clear c3b0
      try clear c3b1
      try clear c3b2
      obtain ⟨x5_1, rfl, HA, HK1, ⟨m1, rfl⟩⟩ := hrel
      cases gk with
      | zero => exact absurd HA.out (by simp [posserlaw03_subsets.l0])
      | succ k1 =>
        have H := HA.out
        clear HA
        simp only [posserlaw03_subsets.l0] at H
        by_cases c4 : x5_1 < (l0.length : Int)
        · rw [if_pos c4] at H
          have c4b0 : decide (x5_1 < (l0.length : Int)) = true := decide_eq_true c4
          clear c4
          by_cases c5 : 0 ≤ x5_1
          · rw [if_pos c5] at H
            have c5b0 : decide (0 ≤ x5_1) = true := decide_eq_true c5
            clear c5
            by_cases c6 : x5_1 < (l1.length : Int)
            · rw [if_pos c6] at H
              have c6b0 : decide (x5_1 < (l1.length : Int)) = true := decide_eq_true c6
              clear c6
              replace H := Option.bind_eq_some_iff.mp H
              obtain ⟨t639, A70, H⟩ := H
              replace H : (if t639 = true then (posserlaw03_subsets.l0 k1 l0 l1 (wrap64 (x5_1 + 1))) else (some false)) = some r := H
              have A7 := Aside0.mk A70
              clear A70
              by_cases c8 : t639 = true
              · subst c8
                have H1 : (posserlaw03_subsets.l0 k1 l0 l1 (wrap64 (x5_1 + 1))) = some r := by rw [if_pos rfl] at H; exact H
                clear H
                have H := H1
                clear H1
                have H' := Aside0.mk H
                clear H
                have p637 : 0 ≤ (x5_1 : Int) := of_decide_eq_true (by first | (with_reducible assumption) | assumption)
                have q637 : x5_1 < (l0.length : Int) := of_decide_eq_true (by first | (with_reducible assumption) | assumption)
                obtain ⟨ad637, A637_0, c637_0, e637, hx637_0, hl637_0, hi637_0⟩ := at_L1 HR0.out x5_1 p637 q637
                cases e637
                have HR637_0 := Aside0.mk hi637_0
                have HC637_0 := Aside0.mk hl637_0
                clear hi637_0 hl637_0
                replace p637 := eq_true p637
                replace q637 := eq_true q637
                have p638 : 0 ≤ (x5_1 : Int) := of_decide_eq_true (by first | (with_reducible assumption) | assumption)
                have q638 : x5_1 < (l1.length : Int) := of_decide_eq_true (by first | (with_reducible assumption) | assumption)
                obtain ⟨ad638, A638_0, c638_0, e638, hx638_0, hl638_0, hi638_0⟩ := at_L1 HR1.out x5_1 p638 q638
                cases e638
                have HR638_0 := Aside0.mk hi638_0
                have HC638_0 := Aside0.mk hl638_0
                clear hi638_0 hl638_0
                replace p638 := eq_true p638
                replace q638 := eq_true q638
                go_wp2_with (first | (go_at_call 85; (with_reducible refine (posserlaw03_subset.calls k1 _ _ (rd_L1 l0 x5_1) _ _ (rd_L1 l1 x5_1) true _ ?side1 ?side2 ?side3 ?side4 A7.out).mono ?_); (case side1 => repeat (first | exact HR637_0.out | (with_reducible refine Kd.C_alloc ?_ _) | (with_reducible refine Kd.C_drewN ?_ _) | (with_reducible refine Kd.C_drew ?_))); (case side2 => exact HC637_0.out); (case side3 => repeat (first | exact HR638_0.out | (with_reducible refine Kd.C_alloc ?_ _) | (with_reducible refine Kd.C_drewN ?_ _) | (with_reducible refine Kd.C_drew ?_))); (case side4 => exact HC638_0.out); rintro e w' ⟨rfl, ⟨nd, rfl⟩⟩; (try first | exact ⟨rfl, _, World.drewN_drewN _ _ _⟩ | exact ⟨rfl, _, Eq.trans (World.drewN_drewN _ _ _) (congrArg (World.drewN _) (Nat.add_assoc _ _ _))⟩)))
                repeat (go_quiet (first | (go_at_call 85; (with_reducible refine (posserlaw03_subset.calls k1 _ _ (rd_L1 l0 x5_1) _ _ (rd_L1 l1 x5_1) true _ ?side1 ?side2 ?side3 ?side4 A7.out).mono ?_); (case side1 => repeat (first | exact HR637_0.out | (with_reducible refine Kd.C_alloc ?_ _) | (with_reducible refine Kd.C_drewN ?_ _) | (with_reducible refine Kd.C_drew ?_))); (case side2 => exact HC637_0.out); (case side3 => repeat (first | exact HR638_0.out | (with_reducible refine Kd.C_alloc ?_ _) | (with_reducible refine Kd.C_drewN ?_ _) | (with_reducible refine Kd.C_drew ?_))); (case side4 => exact HC638_0.out); rintro e w' ⟨rfl, ⟨nd, rfl⟩⟩; (try first | exact ⟨rfl, _, World.drewN_drewN _ _ _⟩ | exact ⟨rfl, _, Eq.trans (World.drewN_drewN _ _ _) (congrArg (World.drewN _) (Nat.add_assoc _ _ _))⟩))); try go_wp2_with (first | (go_at_call 85; (with_reducible refine (posserlaw03_subset.calls k1 _ _ (rd_L1 l0 x5_1) _ _ (rd_L1 l1 x5_1) true _ ?side1 ?side2 ?side3 ?side4 A7.out).mono ?_); (case side1 => repeat (first | exact HR637_0.out | (with_reducible refine Kd.C_alloc ?_ _) | (with_reducible refine Kd.C_drewN ?_ _) | (with_reducible refine Kd.C_drew ?_))); (case side2 => exact HC637_0.out); (case side3 => repeat (first | exact HR638_0.out | (with_reducible refine Kd.C_alloc ?_ _) | (with_reducible refine Kd.C_drewN ?_ _) | (with_reducible refine Kd.C_drew ?_))); (case side4 => exact HC638_0.out); rintro e w' ⟨rfl, ⟨nd, rfl⟩⟩; (try first | exact ⟨rfl, _, World.drewN_drewN _ _ _⟩ | exact ⟨rfl, _, Eq.trans (World.drewN_drewN _ _ _) (congrArg (World.drewN _) (Nat.add_assoc _ _ _))⟩))))
                go_roundg k1
                case measure => have := HK1.out; omega
                case rel => exact ⟨(wrap64 (x5_1 + 1)), (by first | rfl | (simp; done) | (simp [*]; done)), H', ⟨by have := HK1.out; omega⟩, by repeat (first | exact Drawn0.refl _ | apply Drawn0.step)⟩
              · replace c8 := Bool.eq_false_iff.mpr c8
                subst c8
                have H1 : (some false) = some r := by rw [if_neg (show ¬ (false = true) by decide)] at H; exact H
                clear H
                have H := H1
                clear H1
                obtain rfl := Option.some.inj H
                have p637 : 0 ≤ (x5_1 : Int) := of_decide_eq_true (by first | (with_reducible assumption) | assumption)
                have q637 : x5_1 < (l0.length : Int) := of_decide_eq_true (by first | (with_reducible assumption) | assumption)
                obtain ⟨ad637, A637_0, c637_0, e637, hx637_0, hl637_0, hi637_0⟩ := at_L1 HR0.out x5_1 p637 q637
                cases e637
                have HR637_0 := Aside0.mk hi637_0
                have HC637_0 := Aside0.mk hl637_0
                clear hi637_0 hl637_0
                replace p637 := eq_true p637
                replace q637 := eq_true q637
                have p638 : 0 ≤ (x5_1 : Int) := of_decide_eq_true (by first | (with_reducible assumption) | assumption)
                have q638 : x5_1 < (l1.length : Int) := of_decide_eq_true (by first | (with_reducible assumption) | assumption)
                obtain ⟨ad638, A638_0, c638_0, e638, hx638_0, hl638_0, hi638_0⟩ := at_L1 HR1.out x5_1 p638 q638
                cases e638
                have HR638_0 := Aside0.mk hi638_0
                have HC638_0 := Aside0.mk hl638_0
                clear hi638_0 hl638_0
                replace p638 := eq_true p638
                replace q638 := eq_true q638
                go_wp2_with (first | (go_at_call 85; (with_reducible refine (posserlaw03_subset.calls k1 _ _ (rd_L1 l0 x5_1) _ _ (rd_L1 l1 x5_1) false _ ?side1 ?side2 ?side3 ?side4 A7.out).mono ?_); (case side1 => repeat (first | exact HR637_0.out | (with_reducible refine Kd.C_alloc ?_ _) | (with_reducible refine Kd.C_drewN ?_ _) | (with_reducible refine Kd.C_drew ?_))); (case side2 => exact HC637_0.out); (case side3 => repeat (first | exact HR638_0.out | (with_reducible refine Kd.C_alloc ?_ _) | (with_reducible refine Kd.C_drewN ?_ _) | (with_reducible refine Kd.C_drew ?_))); (case side4 => exact HC638_0.out); rintro e w' ⟨rfl, ⟨nd, rfl⟩⟩; (try first | exact ⟨rfl, _, World.drewN_drewN _ _ _⟩ | exact ⟨rfl, _, Eq.trans (World.drewN_drewN _ _ _) (congrArg (World.drewN _) (Nat.add_assoc _ _ _))⟩)))
                repeat (go_quiet (first | (go_at_call 85; (with_reducible refine (posserlaw03_subset.calls k1 _ _ (rd_L1 l0 x5_1) _ _ (rd_L1 l1 x5_1) false _ ?side1 ?side2 ?side3 ?side4 A7.out).mono ?_); (case side1 => repeat (first | exact HR637_0.out | (with_reducible refine Kd.C_alloc ?_ _) | (with_reducible refine Kd.C_drewN ?_ _) | (with_reducible refine Kd.C_drew ?_))); (case side2 => exact HC637_0.out); (case side3 => repeat (first | exact HR638_0.out | (with_reducible refine Kd.C_alloc ?_ _) | (with_reducible refine Kd.C_drewN ?_ _) | (with_reducible refine Kd.C_drew ?_))); (case side4 => exact HC638_0.out); rintro e w' ⟨rfl, ⟨nd, rfl⟩⟩; (try first | exact ⟨rfl, _, World.drewN_drewN _ _ _⟩ | exact ⟨rfl, _, Eq.trans (World.drewN_drewN _ _ _) (congrArg (World.drewN _) (Nat.add_assoc _ _ _))⟩))); try go_wp2_with (first | (go_at_call 85; (with_reducible refine (posserlaw03_subset.calls k1 _ _ (rd_L1 l0 x5_1) _ _ (rd_L1 l1 x5_1) false _ ?side1 ?side2 ?side3 ?side4 A7.out).mono ?_); (case side1 => repeat (first | exact HR637_0.out | (with_reducible refine Kd.C_alloc ?_ _) | (with_reducible refine Kd.C_drewN ?_ _) | (with_reducible refine Kd.C_drew ?_))); (case side2 => exact HC637_0.out); (case side3 => repeat (first | exact HR638_0.out | (with_reducible refine Kd.C_alloc ?_ _) | (with_reducible refine Kd.C_drewN ?_ _) | (with_reducible refine Kd.C_drew ?_))); (case side4 => exact HC638_0.out); rintro e w' ⟨rfl, ⟨nd, rfl⟩⟩; (try first | exact ⟨rfl, _, World.drewN_drewN _ _ _⟩ | exact ⟨rfl, _, Eq.trans (World.drewN_drewN _ _ _) (congrArg (World.drewN _) (Nat.add_assoc _ _ _))⟩))))
                go_ret
                exact ⟨by first | rfl | (simp; done) | (simp [*]; done), by repeat (first | exact Drawn0.refl _ | apply Drawn0.step)⟩
            · rw [if_neg c6] at H
              exact absurd H (by simp)
          · rw [if_neg c5] at H
            exact absurd H (by simp)
        · rw [if_neg c4] at H
          have c4b0 : decide (x5_1 < (l0.length : Int)) = false := decide_eq_false c4
          clear c4
          obtain rfl := Option.some.inj H
          go_wp2
          repeat (go_quiet (fail); try go_wp2)
          go_ret
          exact ⟨by first | rfl | (simp; done) | (simp [*]; done), by repeat (first | exact Drawn0.refl _ | apply Drawn0.step)⟩
  · rw [if_neg c3] at H
    have c3b0 : ((l0.length : Int) == (l1.length : Int)) = false := beq_eq_false_iff_ne.mpr c3
    have c3b1 : ((l0.length : Int) != (l1.length : Int)) = true := bne_iff_ne.mpr c3
    have c3b2 : (l0.length == l1.length) = false := by first | simpa using c3 | (simp at c3 ⊢; omega)
    obtain rfl := Option.some.inj H
    go_enter Try.func52, Try.ntmps52
    go_wp2
    repeat (go_quiet (fail); try go_wp2)
    go_ret
    exact ⟨by first | rfl | (simp; done) | (simp [*]; done), by repeat (first | exact Drawn0.refl _ | apply Drawn0.step)⟩
end Go.Proofs.Ytnbbbeghgomnoaa.X
namespace Go.Proofs.Ytnbbbeghgomnoaa.X
open Go.RowKit Go.Proofs.YtnbbbeghgomnoaaW.PrintWords Go.Proofs.YtnbbbeghgomnoaaW.PrintLast Go.Proofs.YtnbbbeghgomnoaaW.PrintMore
theorem subset_yes (a b : List Int) (ha : a.length ≤ 1000000) (hb : b.length ≤ 1000000) (h : ∀ v ∈ a, v ∈ b) : Evt (fun k => posserlaw03_subset.f k a b) true := by
  have main : ∀ (d i : Nat), i + d = a.length → Evt (fun k => posserlaw03_subset.l0 k a b (i : Int)) true := by
    intro d
    induction d with
    | zero =>
      intro i hi
      refine Evt.succ (Evt.const true) (fun k => ?_)
      simp only [posserlaw03_subset.l0]
      rw [if_neg (by omega)]
    | succ d ih =>
      intro i hi
      have hlt : i < a.length := by omega
      have hm : b.contains a[i] = true := List.contains_iff_mem.2 (h _ (List.getElem_mem hlt))
      have h1 := Has_ev b a[i] (by omega)
      rw [hm] at h1
      refine Evt.succ (Evt.bind (g := fun t k => if t = true then posserlaw03_subset.l0 k a b ((i + 1 : Nat) : Int) else some false) h1 (ih (i + 1) (by omega))) (fun k => ?_)
      simp only [posserlaw03_subset.l0]
      rw [if_pos (by omega), if_pos (by omega), rd_get a i hlt, wrap_succ i _ hlt (by omega)]
  exact main a.length 0 (by omega)
theorem subsets_yes (a b : List (List Int)) (hl : a.length = b.length) (h30 : a.length ≤ 1000000) (ha : ∀ i, i < a.length → (a.getD i []).length ≤ 1000000) (hb : ∀ i, i < a.length → (b.getD i []).length ≤ 1000000) (h : ∀ i, i < a.length → ∀ v ∈ a.getD i [], v ∈ b.getD i []) : Evt (fun k => posserlaw03_subsets.f k a b) true := by
  have main : ∀ (d i : Nat), i + d = a.length → Evt (fun k => posserlaw03_subsets.l0 k a b (i : Int)) true := by
    intro d
    induction d with
    | zero =>
      intro i hi
      refine Evt.succ (Evt.const true) (fun k => ?_)
      simp only [posserlaw03_subsets.l0]
      rw [if_neg (by omega)]
    | succ d ih =>
      intro i hi
      have hlt : i < a.length := by omega
      have h1 := subset_yes (a.getD i []) (b.getD i []) (ha i hlt) (hb i hlt) (h i hlt)
      refine Evt.succ (Evt.bind (g := fun t k => if t = true then posserlaw03_subsets.l0 k a b ((i + 1 : Nat) : Int) else some false) h1 (ih (i + 1) (by omega))) (fun k => ?_)
      simp only [posserlaw03_subsets.l0]
      rw [if_pos (by omega), if_pos (by omega), if_pos (by omega), wrap_succ i _ hlt (by omega)]; rfl
  have h0 := main a.length 0 (by omega)
  refine h0.congr (fun k => ?_)
  unfold posserlaw03_subsets.f
  rw [if_pos (by omega)]; rfl
end Go.Proofs.Ytnbbbeghgomnoaa.X
namespace Go.Proofs.Ytnbbbeghgomnoaa.X
open Go.RowKit Go.Proofs.YtnbbbeghgomnoaaW.PrintWords Go.Proofs.YtnbbbeghgomnoaaW.PrintLast Go.Proofs.YtnbbbeghgomnoaaW.PrintMore
abbrev RI (w : World) (b : Nat) (v : Value) (xs : List Int) : Prop := Kd.R (Kd.int .i64) 3 w b (fun _ => True) v xs
abbrev RL (w : World) (b : Nat) (v : Value) (xs : List (List Int)) : Prop := Kd.R (Kd.slice 3 (Kd.int .i64)) 39 w b (fun _ => True) v xs
section
variable {A0 : Option Addr} {c0 : Nat} {l0 : List S109} {A1 : Option Addr} {c1 : Nat} {l1 : List S110} {w : World}
theorem tab_c {A0 : Option Addr} {c0 : Nat} {l0 : List S85} {A1 : Option Addr} {c1 : Nat} {l1 : List S71} (wg : Int) {w : World} (ht : RTab A0 c0 l0 A1 c1 l1 w) {L0 : List S109} {L1 : List S110} (h0 : l0.map cvW = L0) (h1 : l1.map cvP = L1) :
    Calls Try.prog 23 #[.agg #[.slice A0 l0.length c0, .slice A1 l1.length c1, .int .i64 wg]] w fun e w' => ∃ B0 d0 B1 d1, e = .returned (.agg #[.slice B0 L0.length d0, .slice B1 L1.length d1, .int .i64 wg]) ∧ Tab B0 d0 L0 B1 d1 L1 w' ∧ Below w.heap.size w w' := by
  subst h0 h1
  refine (Table_calls wg ht).mono ?_
  rintro e w' ⟨B0, d0, B1, d1, rfl, h, _, _, hb⟩
  exact ⟨B0, d0, B1, d1, by simp only [List.length_map], h, hb⟩
theorem whose_c (wg : Int) (ht : Tab A0 c0 l0 A1 c1 l1 w) (he : askE l0 l1 wg = 0) {ws : List (List Int)} (hs : whoseL l0.length l1.length (truthsL l0 l1 wg) = ws) :
    Calls Try.prog 22 #[.agg #[.slice A0 l0.length c0, .slice A1 l1.length c1, .int .i64 wg]] w fun e w' => ∃ v, e = .returned (.tuple #[v, .int .i64 0]) ∧ RL w' w.heap.size v ws ∧ Below w.heap.size w w' := by
  subst hs
  exact Whose_ok wg ht he
theorem whose_n (wg : Int) (ht : Tab A0 c0 l0 A1 c1 l1 w) (he : askE l0 l1 wg = 11) :
    Calls Try.prog 22 #[.agg #[.slice A0 l0.length c0, .slice A1 l1.length c1, .int .i64 wg]] w fun e w' => e = .returned (.tuple #[.slice none 0 0, .int .i64 11]) ∧ Below w.heap.size w w' := by
  have h := Whose_e wg ht (by omega)
  rwa [he] at h
theorem ast_c (wg : Int) (ht : Tab A0 c0 l0 A1 c1 l1 w) (he : askE l0 l1 wg = 0) {lo hi : Int} (hs : boundsL (fun x => lostN l1 (pad x)) (truthsL l0 l1 wg) = (lo, hi)) :
    Calls Try.prog 37 #[.agg #[.slice A0 l0.length c0, .slice A1 l1.length c1, .int .i64 wg]] w fun e w' => e = .returned (.tuple #[.agg #[.int .i64 lo, .int .i64 hi], .int .i64 0]) ∧ Below w.heap.size w w' := by
  have h := Astray_ok wg ht he
  rwa [hs] at h
theorem leave_c (wg : Int) (ht : Tab A0 c0 l0 A1 c1 l1 w) (he : checkT l0 l1 wg = 0) {vs : List Int} (hs : leaveL l0 l1 = vs) :
    Calls Try.prog 32 #[.agg #[.slice A0 l0.length c0, .slice A1 l1.length c1, .int .i64 wg]] w fun e w' => ∃ v, e = .returned (.tuple #[v, .int .i64 0]) ∧ RI w' w.heap.size v vs ∧ Below w.heap.size w w' := by
  subst hs
  exact Leave_ok wg ht he
end
end Go.Proofs.Ytnbbbeghgomnoaa.X
namespace Go.Proofs.Ytnbbbeghgomnoaa.X
open Go.RowKit Go.Proofs.YtnbbbeghgomnoaaW.PrintWords Go.Proofs.YtnbbbeghgomnoaaW.PrintLast Go.Proofs.YtnbbbeghgomnoaaW.PrintMore
def PB {α : Type} (d : Kd α) (w : World) (cs : Array Value) (xs : List α) : Prop := ∀ j x, xs[j]? = some x → ∃ c : List Value, d.K w x c ∧ ∀ i u, c[i]? = some u → cs[j * d.sz + i]? = some u
structure RX {α : Type} (d : Kd α) (e : Nat) (w W : World) (b : Nat) (A : Option Addr) (c : Nat) (xs : List α) : Prop where
  le : xs.length ≤ c
  sm : xs.length ≤ 1000
  blk : xs.length = 0 ∨ ∃ g cs, A = some ⟨g, 0, none⟩ ∧ b ≤ g ∧ W.heap[g]? = some (.cells cs e (0, 0)) ∧ PB d w cs xs
section
variable {α : Type} {d : Kd α} {e : Nat} {w W W' : World} {b : Nat} {A : Option Addr} {c : Nat} {xs : List α}
theorem RX.below (h : RX d e w W b A c xs) (hb : Below W.heap.size W W') : RX d e w W' b A c xs := by
  refine ⟨h.le, h.sm, ?_⟩
  rcases h.blk with h0 | ⟨g, cs, h1, h2, h3, h4⟩
  · exact .inl h0
  · exact .inr ⟨g, cs, h1, h2, blk_below h3 hb, h4⟩
theorem RX.setRow {g' t : Nat} {cs' us : Array Value} (h : RX d e w W b A c xs) (hk : W.heap[g']? = some (.cells cs' t (0, 0))) (ht : e ≠ t) : RX d e w (W.setRow g' us) b A c xs := by
  refine ⟨h.le, h.sm, ?_⟩
  rcases h.blk with h0 | ⟨g, cs, h1, h2, h3, h4⟩
  · exact .inl h0
  · refine .inr ⟨g, cs, h1, h2, (setRow_other W g' g us (fun he => ?_)).trans h3, h4⟩
    subst he
    rw [h3] at hk
    injection hk with hk
    injection hk with _ hk
    exact ht hk
theorem RX.setCell {g' j t : Nat} {cs' : Array Value} {u : Value} (h : RX d e w W b A c xs) (hk : W.heap[g']? = some (.cells cs' t (0, 0))) (ht : e ≠ t) : RX d e w (W.setCell ⟨g', j, none⟩ u) b A c xs := by
  refine ⟨h.le, h.sm, ?_⟩
  rcases h.blk with h0 | ⟨g, cs, h1, h2, h3, h4⟩
  · exact .inl h0
  · refine .inr ⟨g, cs, h1, h2, blk_far h3 (fun he => ?_) u, h4⟩
    have he' : g = g' := he
    subst he'
    rw [h3] at hk
    injection hk with hk
    injection hk with _ hk
    exact ht hk
theorem RX.lower {b' : Nat} (h : RX d e w W b A c xs) (hb : b' ≤ b) : RX d e w W b' A c xs := by
  refine ⟨h.le, h.sm, ?_⟩
  rcases h.blk with h0 | ⟨g, cs, h1, h2, h3, h4⟩
  · exact .inl h0
  · exact .inr ⟨g, cs, h1, Nat.le_trans hb h2, h3, h4⟩
theorem addr0 (g k : Nat) : Addr.add ⟨g, 0, none⟩ k = ⟨g, k, none⟩ := by
  cases k with
  | zero => rfl
  | succ k => simp [Addr.add]
theorem RX.C (h : RX d e w W b A c xs) (hb : Below w.heap.size w W) : d.C W A xs.length xs := by
  refine ⟨rfl, by have := h.sm; omega, fun hp => ?_⟩
  rcases h.blk with h0 | ⟨g, cs, h1, h2, h3, h4⟩
  · omega
  · refine ⟨_, h1, fun j p hj => ?_⟩
    obtain ⟨q, hq, hc⟩ := h4 j p hj
    exact ⟨q, d.K_len hq, d.K_below hb hq, fun i u hu => by rw [addr0]; exact (blk_cell h3 _).trans (hc i u hu)⟩
theorem RX.of {v : Value} {rows : List (List Value)} (hR : (Kd.raw d.sz).R e W b (fun _ => True) v rows) (hl : rows.length = xs.length) (hK : ∀ (j : Nat) (x : α) (r : List Value), xs[j]? = some x → rows[j]? = some r → d.K w x r) (hs : xs.length ≤ 1000) : ∃ A c, v = .slice A xs.length c ∧ RX d e w W b A c xs := by
  obtain ⟨_, inner, ho, hr⟩ := hR
  rcases ho.2 with ⟨rfl, h0⟩ | ⟨g, cap, cur, rfl, hg, hh, hn, _, hz, ht⟩
  · have hx : xs.length = 0 := by rw [← hl]; exact h0
    exact ⟨none, 0, by rw [hx], by rw [hx]; exact Nat.le_refl _, hs, .inl hx⟩
  · refine ⟨some ⟨g, 0, none⟩, cap, by rw [hl], by rw [← hl]; exact hn, hs, .inr ⟨g, cur, rfl, hg, hh, fun j x hx => ?_⟩⟩
    have hj : j < rows.length := by rw [hl]; exact (List.getElem?_eq_some_iff.1 hx).1
    have hrj := List.getElem?_eq_getElem hj
    refine ⟨rows[j], hK j x _ hx hrj, fun i u hu => ?_⟩
    have h1 := hr.2 j _ hrj
    have h2 : (inner.drop (j * d.sz)).take d.sz = rows[j] := h1.1
    rw [← h2, List.getElem?_take] at hu
    split at hu
    · rw [List.getElem?_drop] at hu
      rw [← ht, List.getElem?_take] at hu
      split at hu
      · rw [Array.getElem?_toList] at hu; exact hu
      · cases hu
    · cases hu
end
theorem PB.came {w : World} {cs : Array Value} {xs : List S85} (h : PB k85 w cs xs) (p : Nat) (hp : p < xs.length) (u v : Int) : PB k85 w ((cs.setIfInBounds (p * 3 + 1) (.int .i64 u)).setIfInBounds (p * 3 + 2) (.int .i64 v)) (xs.set p ⟨(xs.getD p z85).f0, ⟨u, v⟩⟩) := by
  have hz : k85.sz = 3 := rfl
  intro j x hx
  rw [List.getElem?_set] at hx
  by_cases hj : p = j
  · subst hj
    rw [if_pos rfl, if_pos hp] at hx
    injection hx with hx
    subst hx
    have hg : xs[p]? = some (xs.getD p z85) := by rw [List.getD_eq_getElem?_getD, List.getElem?_eq_getElem hp]; rfl
    obtain ⟨c, hc, hcs⟩ := h p _ hg
    obtain rfl := k85_open hc
    refine ⟨[.int .i64 (xs.getD p z85).f0, .int .i64 u, .int .i64 v], k85_mk w ⟨(xs.getD p z85).f0, ⟨u, v⟩⟩, fun i y hy => ?_⟩
    have h0 := hcs 0 _ rfl
    have h1 := hcs 1 _ rfl
    have h2 := hcs 2 _ rfl
    rw [hz] at h0 h1 h2 ⊢
    have l1 : p * 3 + 1 < cs.size := (Array.getElem?_eq_some_iff.1 h1).1
    have l2 : p * 3 + 2 < cs.size := (Array.getElem?_eq_some_iff.1 h2).1
    match i, hy with
    | 0, hy =>
      rw [Array.getElem?_setIfInBounds, if_neg (by omega), Array.getElem?_setIfInBounds, if_neg (by omega)]
      injection hy with hy
      rw [← hy]; exact h0
    | 1, hy =>
      rw [Array.getElem?_setIfInBounds, if_neg (by omega), Array.getElem?_setIfInBounds, if_pos rfl, if_pos l1]
      exact hy
    | 2, hy =>
      rw [Array.getElem?_setIfInBounds, if_pos rfl, if_pos (by rw [Array.size_setIfInBounds]; exact l2)]
      exact hy
    | i + 3, hy => simp at hy
  · rw [if_neg hj] at hx
    obtain ⟨c, hc, hcs⟩ := h j x hx
    refine ⟨c, hc, fun i y hy => ?_⟩
    have hi : i < 3 := by
      have h1 := (List.getElem?_eq_some_iff.1 hy).1
      have h2 := k85.K_len hc
      omega
    have := hcs i y hy
    rw [hz] at this ⊢
    rw [Array.getElem?_setIfInBounds, if_neg (by omega), Array.getElem?_setIfInBounds, if_neg (by omega)]
    exact this
theorem RX.open_ {α : Type} {d : Kd α} {e : Nat} {w W : World} {b : Nat} {A : Option Addr} {c : Nat} {xs : List α} (h : RX d e w W b A c xs) (hn : xs.length ≠ 0) : ∃ g cs, A = some ⟨g, 0, none⟩ ∧ b ≤ g ∧ W.heap[g]? = some (.cells cs e (0, 0)) ∧ PB d w cs xs := by
  rcases h.blk with h0 | h1
  · exact absurd h0 hn
  · exact h1
theorem min2_mn (k k' : IntKind) (x y : Int) : Builtin.min2 (.int k x) (.int k' y) = pure (.int k (mn x y)) := min2_int k k' x y
theorem max2_mx (k k' : IntKind) (x y : Int) : Builtin.max2 (.int k x) (.int k' y) = pure (.int k (mx x y)) := max2_int k k' x y
theorem blk_ne {W : World} {g g' t t' : Nat} {cs cs' : Array Value} (h : W.heap[g]? = some (.cells cs t (0, 0))) (hk : W.heap[g']? = some (.cells cs' t' (0, 0))) (ht : t ≠ t') : g ≠ g' := fun he => by
  subst he
  rw [h] at hk
  injection hk with hk
  injection hk with _ hk
  exact ht hk
theorem blk_setRow {W : World} {g g' t t' : Nat} {cs cs' : Array Value} (h : W.heap[g]? = some (.cells cs t (0, 0))) (hk : W.heap[g']? = some (.cells cs' t' (0, 0))) (ht : t ≠ t') (us : Array Value) : (W.setRow g' us).heap[g]? = some (.cells cs t (0, 0)) :=
  (setRow_other W g' g us (blk_ne h hk ht)).trans h
theorem blk_setCell {W : World} {g g' t t' j : Nat} {cs cs' : Array Value} (h : W.heap[g]? = some (.cells cs t (0, 0))) (hk : W.heap[g']? = some (.cells cs' t' (0, 0))) (ht : t ≠ t') (u : Value) : (W.setCell ⟨g', j, none⟩ u).heap[g]? = some (.cells cs t (0, 0)) :=
  blk_far h (p := ⟨g', j, none⟩) (blk_ne h hk ht) u
theorem rtabW {A0 : Option Addr} {c0 : Nat} {l0 : List S85} {A1 : Option Addr} {c1 : Nat} {l1 : List S71} {w W : World} {b : Nat} {AX : Option Addr} {cX : Nat} {xs : List S85} (ht : RTab A0 c0 l0 A1 c1 l1 w) (hb : Below w.heap.size w W) (hx : RX k85 85 w W b AX cX xs) (h1 : xs.length ≤ 30) : RTab AX cX xs A1 c1 l1 W :=
  ⟨hx.C hb, hx.le, Kd.C_below ht.r1 hb, ht.h1, h1, ht.n1, ht.ms⟩
theorem rows_of {α : Type} {d : Kd α} {w : World} {A : Option Addr} {xs : List α} (h : d.C w A xs.length xs) : ∃ rows : List (List Value), rows.length = xs.length ∧ (Kd.raw d.sz).C w A xs.length rows ∧ ∀ (j : Nat) (x : α) (r : List Value), xs[j]? = some x → rows[j]? = some r → d.K w x r := by
  obtain ⟨rows, h1, h2, h3⟩ := Kd.reads_raw h (fun x c hc => ⟨d.K_len hc, d.K_one hc⟩)
  exact ⟨rows, h1, h2, h3⟩
end Go.Proofs.Ytnbbbeghgomnoaa.X
namespace Go.Proofs.Ytnbbbeghgomnoaa.X
open Go.RowKit Go.Proofs.YtnbbbeghgomnoaaW.PrintWords Go.Proofs.YtnbbbeghgomnoaaW.PrintLast Go.Proofs.YtnbbbeghgomnoaaW.PrintMore
attribute [local go_sem] max2_mx min2_mn max_two min_two
set_option maxHeartbeats 4000000 in
set_option maxRecDepth 100000 in
theorem More_no (k : Nat) {A0 : Option Addr} {c0 : Nat} {l0 : List S85} {A1 : Option Addr} {c1 : Nat} {l1 : List S71} (wg : Int) (a1 a2 : Int) {w : World} (r0 : Kd.C k85 w A0 l0.length l0) (g0 : l0.length ≤ c0) (r1 : Kd.C k71 w A1 l1.length l1) (g1 : l1.length ≤ c1) (hrd : posserlaw03_ready.f k l0 l1 wg = some false) :
    Calls Try.prog 12 #[.agg #[.slice A0 l0.length c0, .slice A1 l1.length c1, .int .i64 wg], .int .u8 a1, .int .u8 a2] w fun e w' => e = .returned (.bool true) ∧ Below w.heap.size w w' := by
  have hu25 := Try.underlying25
  have hu35 := Try.underlying35
  have hu55 := Try.underlying55
  have HR0 := Aside0.mk r0
  have HC0 := Aside0.mk g0
  have HR1 := Aside0.mk r1
  have HC1 := Aside0.mk g1
  clear r0 g0 r1 g1
  have HRD := Aside0.mk hrd
  clear hrd
  have HB := Aside0.mk (Below.refl w.heap.size w)
  go_enter Try.func12, Try.ntmps12
  go_wp2_with (first | ((with_reducible refine gate_dst (N := 3) rfl ?_); refine box_event ?hg (N := 3) ?hd (cs := #[.slice A0 l0.length c0, .slice A1 l1.length c1, .int .i64 wg]) (t := 25) ?hr ?_; (case hd => rfl); (case hg => rfl); (case hr => first | (go_simp; done) | (go_simp; rfl)); intro g3 hg W_ hbox hb; (try have NEg7_g3 := Aside0.mk (show g7 < g3 from by rw [hg]; exact blk_lt BKg7.out)); have GEg3 := Aside0.mk (by rw [hg]; exact HB.out.size : w.heap.size ≤ g3); (try clear hcg3_0 hcg3_1 hcg3_2); (try replace HB := Aside0.mk (below_step HB.out hb)); (try replace HT := Aside0.mk (HT.out.below hb)); (try replace BKg3 := Aside0.mk (blk_below BKg3.out hb)); (try replace BKg7 := Aside0.mk (blk_below BKg7.out hb)); (try replace HX := Aside0.mk (HX.out.below hb)); (try replace HL := Aside0.mk (Kd.R_below HL.out hb)); (try replace HM := Aside0.mk (Kd.R_below HM.out hb)); (try replace HW := Aside0.mk (Kd.R_below HW.out hb)); (try replace HU := Aside0.mk (Kd.R_below HU.out hb)); (try replace BKg18 := Aside0.mk (blk_below BKg18.out hb)); (try replace BKg20 := Aside0.mk (blk_below BKg20.out hb)); have BKg3 := Aside0.mk hbox; clear hb hbox hg; (try have hcg3_0 : W_.cell? ⟨g3, 0, none⟩ = some (.slice A0 l0.length c0) := (blk_cell BKg3.out 0).trans rfl); (try have hcg3_1 : W_.cell? ⟨g3, 1, none⟩ = some (.slice A1 l1.length c1) := (blk_cell BKg3.out 1).trans rfl); (try have hcg3_2 : W_.cell? ⟨g3, 2, none⟩ = some (.int .i64 wg) := (blk_cell BKg3.out 2).trans rfl)) | (go_at_call 47; go_must (refine (posserlaw03_ready.calls k A0 c0 l0 A1 c1 l1 wg false _ (Kd.C_below HR0.out HB.out) HC0.out (Kd.C_below HR1.out HB.out) HC1.out HRD.out).mono ?_; rintro e W_ ⟨rfl, hb⟩; (try clear hcg3_0 hcg3_1 hcg3_2); (try replace HB := Aside0.mk (below_step HB.out hb)); (try replace HT := Aside0.mk (HT.out.below hb)); (try replace BKg3 := Aside0.mk (blk_below BKg3.out hb)); (try replace BKg7 := Aside0.mk (blk_below BKg7.out hb)); (try replace HX := Aside0.mk (HX.out.below hb)); (try replace HL := Aside0.mk (Kd.R_below HL.out hb)); (try replace HM := Aside0.mk (Kd.R_below HM.out hb)); (try replace HW := Aside0.mk (Kd.R_below HW.out hb)); (try replace HU := Aside0.mk (Kd.R_below HU.out hb)); (try replace BKg18 := Aside0.mk (blk_below BKg18.out hb)); (try replace BKg20 := Aside0.mk (blk_below BKg20.out hb)); skip; clear hb; (try have hcg3_0 : W_.cell? ⟨g3, 0, none⟩ = some (.slice A0 l0.length c0) := (blk_cell BKg3.out 0).trans rfl); (try have hcg3_1 : W_.cell? ⟨g3, 1, none⟩ = some (.slice A1 l1.length c1) := (blk_cell BKg3.out 1).trans rfl); (try have hcg3_2 : W_.cell? ⟨g3, 2, none⟩ = some (.int .i64 wg) := (blk_cell BKg3.out 2).trans rfl))) | (go_at_call 21; go_must (refine (awake_calls _).mono ?_; rintro e W_ ⟨rfl, hb⟩; (try clear hcg3_0 hcg3_1 hcg3_2); (try replace HB := Aside0.mk (below_step HB.out hb)); (try replace HT := Aside0.mk (HT.out.below hb)); (try replace BKg3 := Aside0.mk (blk_below BKg3.out hb)); (try replace BKg7 := Aside0.mk (blk_below BKg7.out hb)); (try replace HX := Aside0.mk (HX.out.below hb)); (try replace HL := Aside0.mk (Kd.R_below HL.out hb)); (try replace HM := Aside0.mk (Kd.R_below HM.out hb)); (try replace HW := Aside0.mk (Kd.R_below HW.out hb)); (try replace HU := Aside0.mk (Kd.R_below HU.out hb)); (try replace BKg18 := Aside0.mk (blk_below BKg18.out hb)); (try replace BKg20 := Aside0.mk (blk_below BKg20.out hb)); skip; clear hb; (try have hcg3_0 : W_.cell? ⟨g3, 0, none⟩ = some (.slice A0 l0.length c0) := (blk_cell BKg3.out 0).trans rfl); (try have hcg3_1 : W_.cell? ⟨g3, 1, none⟩ = some (.slice A1 l1.length c1) := (blk_cell BKg3.out 1).trans rfl); (try have hcg3_2 : W_.cell? ⟨g3, 2, none⟩ = some (.int .i64 wg) := (blk_cell BKg3.out 2).trans rfl))))
  go_ret
  exact ⟨rfl, HB.out⟩
set_option maxHeartbeats 4000000 in
set_option maxRecDepth 100000 in
theorem More_ok (k : Nat) {A0 : Option Addr} {c0 : Nat} {l0 : List S85} {A1 : Option Addr} {c1 : Nat} {l1 : List S71} (wg : Int) (a1 a2 : Int) {w : World} (r0 : Kd.C k85 w A0 l0.length l0) (g0 : l0.length ≤ c0) (r1 : Kd.C k71 w A1 l1.length l1) (g1 : l1.length ≤ c1) (ht : Thn l0 l1) {L0 : List S109} {L1 : List S110} (h0 : l0.map cvW = L0) (h1 : l1.map cvP = L1) (hrd : posserlaw03_ready.f k l0 l1 wg = some true) {p : Nat} (hp : Int.tmod (wrap64 a1) (wrap64 ((l0.length : Int) + 1)) = (p : Int)) (hpl : p ≤ l0.length) {xs : List S85} {wx : Int} (hA : p = l0.length → xs = l0 ∧ mn 5 (wrap64 (wg + Int.tmod (wrap64 a2) 3)) = wx) (hB : p < l0.length → xs = l0.set p ⟨(l0.getD p z85).f0, ⟨mx 0 (wrap64 ((l0.getD p z85).f1.f0 - Int.tmod (wrap64 a2) 3)), mn 7 (wrap64 ((l0.getD p z85).f1.f1 + Int.tmod (wrap64 (Int.tdiv (wrap64 a2) 3)) 3))⟩⟩ ∧ wg = wx) {L0' : List S109} (hlx : xs.map cvW = L0') (hck : checkT L0 L1 wg = 0) (hcx : checkT L0' L1 wx = 0) {ls ms : List Int} (hsl : leaveL L0 L1 = ls) (hsm : leaveL L0' L1 = ms) (hlm : ms.length ≤ ls.length) (h30 : xs.length ≤ 30) {ws us : List (List Int)} {lo hi lo2 hi2 : Int} (hcs : (askE L0 L1 wg = 11 ∧ (askE L0' L1 wx = 0 ∨ askE L0' L1 wx = 11)) ∨ (askE L0 L1 wg = 0 ∧ askE L0' L1 wx = 0 ∧ whoseL L0.length L1.length (truthsL L0 L1 wg) = ws ∧ whoseL L0'.length L1.length (truthsL L0' L1 wx) = us ∧ boundsL (fun x => lostN L1 (pad x)) (truthsL L0 L1 wg) = (lo, hi) ∧ boundsL (fun x => lostN L1 (pad x)) (truthsL L0' L1 wx) = (lo2, hi2) ∧ posserlaw03_subsets.f k ws us = some true ∧ lo2 ≤ lo ∧ hi2 ≥ hi)) :
    Calls Try.prog 12 #[.agg #[.slice A0 l0.length c0, .slice A1 l1.length c1, .int .i64 wg], .int .u8 a1, .int .u8 a2] w fun e w' => e = .returned (.bool true) ∧ Below w.heap.size w w' := by
  have hu25 := Try.underlying25
  have hu35 := Try.underlying35
  have hu55 := Try.underlying55
  have HR0 := Aside0.mk r0
  have HC0 := Aside0.mk g0
  have HR1 := Aside0.mk r1
  have HC1 := Aside0.mk g1
  clear r0 g0 r1 g1
  have HRT := Aside0.mk (show RTab A0 c0 l0 A1 c1 l1 w from ⟨HR0.out, HC0.out, HR1.out, HC1.out, ht.n0, ht.n1, ht.ms⟩)
  clear ht
  obtain ⟨rowsW, hLW, hRW, hKW⟩ := rows_of HR0.out
  have HRrowsW := Aside0.mk hRW
  have HLrowsW := Aside0.mk hLW
  have HKrowsW := Aside0.mk hKW
  have HNrowsW := Aside0.mk (show l0.length ≤ 30 from HRT.out.n0)
  clear hLW hRW hKW
  have HL0 := Aside0.mk h0
  have HL1 := Aside0.mk h1
  have HRD := Aside0.mk hrd
  have HPL := Aside0.mk hpl
  have HAA := Aside0.mk hA
  have HBB := Aside0.mk hB
  have HLX := Aside0.mk hlx
  have HCK := Aside0.mk hck
  have HCX := Aside0.mk hcx
  have HSL := Aside0.mk hsl
  have HSM := Aside0.mk hsm
  have HX30 := Aside0.mk h30
  have HCS := Aside0.mk hcs
  clear h0 h1 hrd hpl hA hB hlx hck hcx hsl hsm h30 hcs
  have hz1 : ¬ (wrap64 ((l0.length : Int) + 1) = 0) := by rw [wrap64_id _ (by omega) (by have := HRT.out.n0; omega)]; omega
  have hz2 : (wrap64 ((l0.length : Int) + 1) == 0) = false := by simpa using hz1
  have hgt : decide ((ms.length : Int) > (ls.length : Int)) = false := decide_eq_false (by omega)
  have hgt2 : ¬ ((ms.length : Int) > (ls.length : Int)) := by omega
  clear hlm
  have HB := Aside0.mk (Below.refl w.heap.size w)
  by_cases hk : p = l0.length
  focus
    have HK := Aside0.mk hk
    have hkd : ((p : Int) == (l0.length : Int)) = true := by rw [hk]; simp
    clear hk HPL HBB
  rotate_left
  focus
    have HPL := Aside0.mk (show p < l0.length by have := HPL.out; omega)
    have hkd : ((p : Int) == (l0.length : Int)) = false := beq_eq_false_iff_ne.2 (by have := HPL.out; omega)
    have hpx : (p : Int) < (l0.length : Int) := by have := HPL.out; omega
    have HNE0 := Aside0.mk (show l0.length ≠ 0 by have := HPL.out; omega)
    clear hk HAA
  rotate_left
  all_goals (go_enter Try.func12, Try.ntmps12)
  all_goals (go_wp2_with (first | ((with_reducible refine gate_dst (N := 3) rfl ?_); refine box_event ?hg (N := 3) ?hd (cs := #[.slice A0 l0.length c0, .slice A1 l1.length c1, .int .i64 wg]) (t := 25) ?hr ?_; (case hd => rfl); (case hg => rfl); (case hr => first | (go_simp; done) | (go_simp; rfl)); intro g3 hg W_ hbox hb; (try have NEg7_g3 := Aside0.mk (show g7 < g3 from by rw [hg]; exact blk_lt BKg7.out)); have GEg3 := Aside0.mk (by rw [hg]; exact HB.out.size : w.heap.size ≤ g3); (try clear hcg3_0 hcg3_1 hcg3_2); (try replace HB := Aside0.mk (below_step HB.out hb)); (try replace HT := Aside0.mk (HT.out.below hb)); (try replace BKg3 := Aside0.mk (blk_below BKg3.out hb)); (try replace BKg7 := Aside0.mk (blk_below BKg7.out hb)); (try replace HX := Aside0.mk (HX.out.below hb)); (try replace HL := Aside0.mk (Kd.R_below HL.out hb)); (try replace HM := Aside0.mk (Kd.R_below HM.out hb)); (try replace HW := Aside0.mk (Kd.R_below HW.out hb)); (try replace HU := Aside0.mk (Kd.R_below HU.out hb)); (try replace BKg18 := Aside0.mk (blk_below BKg18.out hb)); (try replace BKg20 := Aside0.mk (blk_below BKg20.out hb)); have BKg3 := Aside0.mk hbox; clear hb hbox hg; (try have hcg3_0 : W_.cell? ⟨g3, 0, none⟩ = some (.slice A0 l0.length c0) := (blk_cell BKg3.out 0).trans rfl); (try have hcg3_1 : W_.cell? ⟨g3, 1, none⟩ = some (.slice A1 l1.length c1) := (blk_cell BKg3.out 1).trans rfl); (try have hcg3_2 : W_.cell? ⟨g3, 2, none⟩ = some (.int .i64 wg) := (blk_cell BKg3.out 2).trans rfl)) | (go_at_call 47; go_must (refine (posserlaw03_ready.calls k A0 c0 l0 A1 c1 l1 wg true _ (Kd.C_below HR0.out HB.out) HC0.out (Kd.C_below HR1.out HB.out) HC1.out HRD.out).mono ?_; rintro e W_ ⟨rfl, hb⟩; (try clear hcg3_0 hcg3_1 hcg3_2); (try clear hcg7_0 hcg7_1 hcg7_2); (try replace HB := Aside0.mk (below_step HB.out hb)); (try replace HT := Aside0.mk (HT.out.below hb)); (try replace BKg3 := Aside0.mk (blk_below BKg3.out hb)); (try replace BKg7 := Aside0.mk (blk_below BKg7.out hb)); (try replace HX := Aside0.mk (HX.out.below hb)); (try replace HL := Aside0.mk (Kd.R_below HL.out hb)); (try replace HM := Aside0.mk (Kd.R_below HM.out hb)); (try replace HW := Aside0.mk (Kd.R_below HW.out hb)); (try replace HU := Aside0.mk (Kd.R_below HU.out hb)); (try replace BKg18 := Aside0.mk (blk_below BKg18.out hb)); (try replace BKg20 := Aside0.mk (blk_below BKg20.out hb)); skip; clear hb; (try have hcg3_0 : W_.cell? ⟨g3, 0, none⟩ = some (.slice A0 l0.length c0) := (blk_cell BKg3.out 0).trans rfl); (try have hcg3_1 : W_.cell? ⟨g3, 1, none⟩ = some (.slice A1 l1.length c1) := (blk_cell BKg3.out 1).trans rfl); (try have hcg3_2 : W_.cell? ⟨g3, 2, none⟩ = some (.int .i64 wg) := (blk_cell BKg3.out 2).trans rfl); (try have hcg7_0 : W_.cell? ⟨g7, 0, none⟩ = some (.slice A0 l0.length c0) := (blk_cell BKg7.out 0).trans rfl); (try have hcg7_1 : W_.cell? ⟨g7, 1, none⟩ = some (.slice A1 l1.length c1) := (blk_cell BKg7.out 1).trans rfl); (try have hcg7_2 : W_.cell? ⟨g7, 2, none⟩ = some (.int .i64 wg) := (blk_cell BKg7.out 2).trans rfl))) | ((with_reducible refine gate_dst (N := 7) rfl ?_); refine box_event ?hg (N := 7) ?hd (cs := #[.slice none 0 0, .slice none 0 0, .int .i64 0]) (t := 25) ?hr ?_; (case hd => rfl); (case hg => rfl); (case hr => first | (go_simp; done) | (go_simp; rfl)); intro g7 hg W_ hbox hb; (try have NEg3_g7 := Aside0.mk (show g3 < g7 from by rw [hg]; exact blk_lt BKg3.out)); have GEg7 := Aside0.mk (by rw [hg]; exact HB.out.size : w.heap.size ≤ g7); (try clear hcg3_0 hcg3_1 hcg3_2); (try clear hcg7_0 hcg7_1 hcg7_2); (try replace HB := Aside0.mk (below_step HB.out hb)); (try replace HT := Aside0.mk (HT.out.below hb)); (try replace BKg3 := Aside0.mk (blk_below BKg3.out hb)); (try replace BKg7 := Aside0.mk (blk_below BKg7.out hb)); (try replace HX := Aside0.mk (HX.out.below hb)); (try replace HL := Aside0.mk (Kd.R_below HL.out hb)); (try replace HM := Aside0.mk (Kd.R_below HM.out hb)); (try replace HW := Aside0.mk (Kd.R_below HW.out hb)); (try replace HU := Aside0.mk (Kd.R_below HU.out hb)); (try replace BKg18 := Aside0.mk (blk_below BKg18.out hb)); (try replace BKg20 := Aside0.mk (blk_below BKg20.out hb)); have BKg7 := Aside0.mk hbox; clear hb hbox hg; (try have hcg3_0 : W_.cell? ⟨g3, 0, none⟩ = some (.slice A0 l0.length c0) := (blk_cell BKg3.out 0).trans rfl); (try have hcg3_1 : W_.cell? ⟨g3, 1, none⟩ = some (.slice A1 l1.length c1) := (blk_cell BKg3.out 1).trans rfl); (try have hcg3_2 : W_.cell? ⟨g3, 2, none⟩ = some (.int .i64 wg) := (blk_cell BKg3.out 2).trans rfl); (try have hcg7_0 : W_.cell? ⟨g7, 0, none⟩ = some (.slice none 0 0) := (blk_cell BKg7.out 0).trans rfl); (try have hcg7_1 : W_.cell? ⟨g7, 1, none⟩ = some (.slice none 0 0) := (blk_cell BKg7.out 1).trans rfl); (try have hcg7_2 : W_.cell? ⟨g7, 2, none⟩ = some (.int .i64 0) := (blk_cell BKg7.out 2).trans rfl)) | ((with_reducible refine gate_store (t := 25) (p := 7) rfl ?_); go_must (refine wpList_store_row rfl 25 _ _ rfl g7 #[.slice A0 l0.length c0, .slice A1 l1.length c1, .int .i64 wg] rfl rfl 25 (#[.slice none 0 0, .slice none 0 0, .int .i64 0]) BKg7.out rfl rfl (by simp [Value.oneCell']) ?_; (try clear hcg3_0 hcg3_1 hcg3_2); (try clear hcg7_0 hcg7_1 hcg7_2); (try clear HT); (try replace BKg3 := Aside0.mk ((setRow_other W_ g7 g3 (#[.slice A0 l0.length c0, .slice A1 l1.length c1, .int .i64 wg]) (by first | exact Nat.ne_of_lt NEg3_g7.out | exact Nat.ne_of_gt NEg7_g3.out)).trans BKg3.out)); (try replace HX := Aside0.mk (RX.setRow (us := #[.slice A0 l0.length c0, .slice A1 l1.length c1, .int .i64 wg]) HX.out BKg7.out (by decide))); (try replace HL := Aside0.mk (row_setRow HL.out BKg7.out (by decide) (#[.slice A0 l0.length c0, .slice A1 l1.length c1, .int .i64 wg]))); (try replace HM := Aside0.mk (row_setRow HM.out BKg7.out (by decide) (#[.slice A0 l0.length c0, .slice A1 l1.length c1, .int .i64 wg]))); (try replace HW := Aside0.mk (row_setRow HW.out BKg7.out (by decide) (#[.slice A0 l0.length c0, .slice A1 l1.length c1, .int .i64 wg]))); (try replace HU := Aside0.mk (row_setRow HU.out BKg7.out (by decide) (#[.slice A0 l0.length c0, .slice A1 l1.length c1, .int .i64 wg]))); (try replace BKg18 := Aside0.mk (blk_setRow BKg18.out BKg7.out (by decide) (#[.slice A0 l0.length c0, .slice A1 l1.length c1, .int .i64 wg]))); (try replace BKg20 := Aside0.mk (blk_setRow BKg20.out BKg7.out (by decide) (#[.slice A0 l0.length c0, .slice A1 l1.length c1, .int .i64 wg]))); replace HB := Aside0.mk (below_setRow HB.out GEg7.out (#[.slice A0 l0.length c0, .slice A1 l1.length c1, .int .i64 wg])); replace BKg7 := Aside0.mk (setRow_heap W_ g7 _ (#[.slice A0 l0.length c0, .slice A1 l1.length c1, .int .i64 wg]) _ _ BKg7.out); generalize W_.setRow g7 (#[.slice A0 l0.length c0, .slice A1 l1.length c1, .int .i64 wg]) = W_ at *; (try have hcg3_0 : W_.cell? ⟨g3, 0, none⟩ = some (.slice A0 l0.length c0) := (blk_cell BKg3.out 0).trans rfl); (try have hcg3_1 : W_.cell? ⟨g3, 1, none⟩ = some (.slice A1 l1.length c1) := (blk_cell BKg3.out 1).trans rfl); (try have hcg3_2 : W_.cell? ⟨g3, 2, none⟩ = some (.int .i64 wg) := (blk_cell BKg3.out 2).trans rfl); (try have hcg7_0 : W_.cell? ⟨g7, 0, none⟩ = some (.slice A0 l0.length c0) := (blk_cell BKg7.out 0).trans rfl); (try have hcg7_1 : W_.cell? ⟨g7, 1, none⟩ = some (.slice A1 l1.length c1) := (blk_cell BKg7.out 1).trans rfl); (try have hcg7_2 : W_.cell? ⟨g7, 2, none⟩ = some (.int .i64 wg) := (blk_cell BKg7.out 2).trans rfl))) | ((with_reducible refine gate_dst (N := 27) rfl ?_); refine Kd.R_lit (Kd.raw 3) W_.heap.size 85 ?hg (N := 27) ?hd (xs := ([] : List (List Value))) (inner := []) (ok := fun _ => True) (okp := fun _ => True) ?hr ?hp (fun _ hk => hk) trivial (Below.refl _ _) (Nat.le_refl _) (by simp) ?_; (case hd => rfl); (case hg => rfl); (case hr => first | (go_simp; done) | (go_simp; rfl)); (case hp => exact (Reps.none _ _)); intro v8 Wb ho8 hb8 hg_ hnew_; clear hg_ hnew_; have HO8 := Aside0.mk ho8; have HB8 := Aside0.mk hb8; clear ho8 hb8; (try clear hcg3_0 hcg3_1 hcg3_2); (try clear hcg7_0 hcg7_1 hcg7_2); have hcg3_0 : Wb.cell? ⟨g3, 0, none⟩ = some (.slice A0 l0.length c0) := (blk_cell (blk_below BKg3.out HB8.out) 0).trans rfl; have hcg3_1 : Wb.cell? ⟨g3, 1, none⟩ = some (.slice A1 l1.length c1) := (blk_cell (blk_below BKg3.out HB8.out) 1).trans rfl; have hcg3_2 : Wb.cell? ⟨g3, 2, none⟩ = some (.int .i64 wg) := (blk_cell (blk_below BKg3.out HB8.out) 2).trans rfl) | ((with_reducible refine gate_builtin (b := .append) (xs := #[.tmp 27, .tmp 29]) rfl ?_); go_must (at_builtin; refine Kd.R_append_rows (Kd.raw 3) (w0 := W_) W_.heap.size rfl (.tmp 27) (.tmp 29) 22 85 (.agg #[.int .i64 0, .int .i64 0, .int .i64 0]) 24 rfl Try.underlying22 info85 rfl (by decide) (by omega) _ [] rowsW _ _ _ (fun _ => True) (fun _ => False) rfl rfl HO8.out (Kd.C_below HRrowsW.out (below_step HB.out HB8.out)) (fun _ _ h => h) (fun _ h => h.elim) (fun _ _ => trivial) HB8.out HB8.out.size (by have := HNrowsW.out; simp; omega) ?_; intro v9 W_ ho hb hg hat; clear hg hat; (try clear hcg3_0 hcg3_1 hcg3_2); (try clear hcg7_0 hcg7_1 hcg7_2); (try clear HT); have hsz_ := HB.out.size; (try replace HB := Aside0.mk (below_step HB.out hb)); (try replace HT := Aside0.mk (HT.out.below hb)); (try replace BKg3 := Aside0.mk (blk_below BKg3.out hb)); (try replace BKg7 := Aside0.mk (blk_below BKg7.out hb)); (try replace HX := Aside0.mk (HX.out.below hb)); (try replace HL := Aside0.mk (Kd.R_below HL.out hb)); (try replace HM := Aside0.mk (Kd.R_below HM.out hb)); (try replace HW := Aside0.mk (Kd.R_below HW.out hb)); (try replace HU := Aside0.mk (Kd.R_below HU.out hb)); (try replace BKg18 := Aside0.mk (blk_below BKg18.out hb)); (try replace BKg20 := Aside0.mk (blk_below BKg20.out hb)); rw [List.nil_append] at ho; obtain ⟨AX, cX, eX_, hX_⟩ := RX.of (d := k85) (w := w) (xs := l0) ho HLrowsW.out HKrowsW.out (by have := HNrowsW.out; omega); subst eX_; have HX := Aside0.mk (hX_.lower hsz_); clear HO8 HB8 ho hb hX_ hsz_; (try have hcg3_0 : W_.cell? ⟨g3, 0, none⟩ = some (.slice A0 l0.length c0) := (blk_cell BKg3.out 0).trans rfl); (try have hcg3_1 : W_.cell? ⟨g3, 1, none⟩ = some (.slice A1 l1.length c1) := (blk_cell BKg3.out 1).trans rfl); (try have hcg3_2 : W_.cell? ⟨g3, 2, none⟩ = some (.int .i64 wg) := (blk_cell BKg3.out 2).trans rfl); (try have hcg7_0 : W_.cell? ⟨g7, 0, none⟩ = some (.slice A0 l0.length c0) := (blk_cell BKg7.out 0).trans rfl); (try have hcg7_1 : W_.cell? ⟨g7, 1, none⟩ = some (.slice A1 l1.length c1) := (blk_cell BKg7.out 1).trans rfl); (try have hcg7_2 : W_.cell? ⟨g7, 2, none⟩ = some (.int .i64 wg) := (blk_cell BKg7.out 2).trans rfl); have hfg7_0 := blk_frozen BKg7.out 0; have hfg7_1 := blk_frozen BKg7.out 1; have hfg7_2 := blk_frozen BKg7.out 2; have hq3_0 : ∀ u v, ((W_.setCell ⟨g7, 0, none⟩ u).setCell ⟨g7, 2, none⟩ v).cell? ⟨g3, 0, none⟩ = some (.slice A0 l0.length c0) := fun u v => (blk_cell (blk_far (blk_far BKg3.out (p := ⟨g7, 0, none⟩) (Nat.ne_of_lt NEg3_g7.out) u) (p := ⟨g7, 2, none⟩) (Nat.ne_of_lt NEg3_g7.out) v) 0).trans rfl; have hq3_1 : ∀ u v, ((W_.setCell ⟨g7, 0, none⟩ u).setCell ⟨g7, 2, none⟩ v).cell? ⟨g3, 1, none⟩ = some (.slice A1 l1.length c1) := fun u v => (blk_cell (blk_far (blk_far BKg3.out (p := ⟨g7, 0, none⟩) (Nat.ne_of_lt NEg3_g7.out) u) (p := ⟨g7, 2, none⟩) (Nat.ne_of_lt NEg3_g7.out) v) 1).trans rfl; have hq3_2 : ∀ u v, ((W_.setCell ⟨g7, 0, none⟩ u).setCell ⟨g7, 2, none⟩ v).cell? ⟨g3, 2, none⟩ = some (.int .i64 wg) := fun u v => (blk_cell (blk_far (blk_far BKg3.out (p := ⟨g7, 0, none⟩) (Nat.ne_of_lt NEg3_g7.out) u) (p := ⟨g7, 2, none⟩) (Nat.ne_of_lt NEg3_g7.out) v) 2).trans rfl; (try (have h_ := RX.open_ HX.out HNE0.out; obtain ⟨go, csx, eA_, hgo_, hbk_, hpb_⟩ := h_; subst eA_; have BKgo := Aside0.mk hbk_; have GEgo := Aside0.mk hgo_; have HPB := Aside0.mk hpb_; have HXLE := Aside0.mk HX.out.le; have HXSM := Aside0.mk HX.out.sm; clear hgo_ hbk_ hpb_ HX))))))
  focus
    (try clear hfg7_0 hfg7_1 hfg7_2)
    (try clear hq3_0 hq3_1 hq3_2)
    (try clear hcg3_0 hcg3_1 hcg3_2); (try clear hcg7_0 hcg7_1 hcg7_2)
    (try replace BKg3 := Aside0.mk (blk_far BKg3.out (p := ⟨g7, 0, none⟩) (by show g3 ≠ g7; first | exact Nat.ne_of_lt NEg3_g7.out | exact Nat.ne_of_gt NEg7_g3.out) (.slice AX l0.length cX)))
    (try replace HX := Aside0.mk (RX.setCell (j := 0) (u := .slice AX l0.length cX) HX.out BKg7.out (by decide)))
    (try replace HL := Aside0.mk (row_set (j := 0) HL.out BKg7.out (by decide) (.slice AX l0.length cX)))
    (try replace HM := Aside0.mk (row_set (j := 0) HM.out BKg7.out (by decide) (.slice AX l0.length cX)))
    (try replace HW := Aside0.mk (row_set (j := 0) HW.out BKg7.out (by decide) (.slice AX l0.length cX)))
    (try replace HU := Aside0.mk (row_set (j := 0) HU.out BKg7.out (by decide) (.slice AX l0.length cX)))
    (try replace BKg18 := Aside0.mk (blk_setCell (j := 0) BKg18.out BKg7.out (by decide) (.slice AX l0.length cX)))
    (try replace BKg20 := Aside0.mk (blk_setCell (j := 0) BKg20.out BKg7.out (by decide) (.slice AX l0.length cX)))
    replace HB := Aside0.mk (HB.out.setCell (p := ⟨g7, 0, none⟩) GEg7.out (.slice AX l0.length cX))
    replace BKg7 := Aside0.mk (blk_put BKg7.out 0 (.slice AX l0.length cX) rfl)
    generalize W_.setCell ⟨g7, 0, none⟩ (.slice AX l0.length cX) = W_ at *
    (try clear hcg3_0 hcg3_1 hcg3_2); (try clear hcg7_0 hcg7_1 hcg7_2)
    (try replace BKg3 := Aside0.mk (blk_far BKg3.out (p := ⟨g7, 2, none⟩) (by show g3 ≠ g7; first | exact Nat.ne_of_lt NEg3_g7.out | exact Nat.ne_of_gt NEg7_g3.out) (.int .i64 (mn 5 (wrap64 (wg + Int.tmod (wrap64 a2) 3))))))
    (try replace HX := Aside0.mk (RX.setCell (j := 2) (u := .int .i64 (mn 5 (wrap64 (wg + Int.tmod (wrap64 a2) 3)))) HX.out BKg7.out (by decide)))
    (try replace HL := Aside0.mk (row_set (j := 2) HL.out BKg7.out (by decide) (.int .i64 (mn 5 (wrap64 (wg + Int.tmod (wrap64 a2) 3))))))
    (try replace HM := Aside0.mk (row_set (j := 2) HM.out BKg7.out (by decide) (.int .i64 (mn 5 (wrap64 (wg + Int.tmod (wrap64 a2) 3))))))
    (try replace HW := Aside0.mk (row_set (j := 2) HW.out BKg7.out (by decide) (.int .i64 (mn 5 (wrap64 (wg + Int.tmod (wrap64 a2) 3))))))
    (try replace HU := Aside0.mk (row_set (j := 2) HU.out BKg7.out (by decide) (.int .i64 (mn 5 (wrap64 (wg + Int.tmod (wrap64 a2) 3))))))
    (try replace BKg18 := Aside0.mk (blk_setCell (j := 2) BKg18.out BKg7.out (by decide) (.int .i64 (mn 5 (wrap64 (wg + Int.tmod (wrap64 a2) 3))))))
    (try replace BKg20 := Aside0.mk (blk_setCell (j := 2) BKg20.out BKg7.out (by decide) (.int .i64 (mn 5 (wrap64 (wg + Int.tmod (wrap64 a2) 3))))))
    replace HB := Aside0.mk (HB.out.setCell (p := ⟨g7, 2, none⟩) GEg7.out (.int .i64 (mn 5 (wrap64 (wg + Int.tmod (wrap64 a2) 3)))))
    replace BKg7 := Aside0.mk (blk_put BKg7.out 2 (.int .i64 (mn 5 (wrap64 (wg + Int.tmod (wrap64 a2) 3)))) rfl)
    generalize W_.setCell ⟨g7, 2, none⟩ (.int .i64 (mn 5 (wrap64 (wg + Int.tmod (wrap64 a2) 3)))) = W_ at *
    obtain ⟨e1, e2⟩ := HAA.out HK.out
    have el : l0.length = xs.length := by rw [e1]
    replace HX := Aside0.mk (show RX k85 85 w W_ w.heap.size AX cX xs from by have h := HX.out; rw [← e1] at h; exact h)
    replace BKg7 := Aside0.mk (show W_.heap[g7]? = some (.cells #[.slice AX xs.length cX, .slice A1 l1.length c1, .int .i64 wx] 25 (0, 0)) from by have h := BKg7.out; rw [e2, el] at h; exact h)
    clear e1 e2 el HK hkd
    try clear hp
  rotate_left
  focus
    (try clear hfg7_0 hfg7_1 hfg7_2)
    (try clear hq3_0 hq3_1 hq3_2)
    (try replace BKg3 := Aside0.mk (blk_far BKg3.out (p := ⟨g7, 0, none⟩) (by show g3 ≠ g7; first | exact Nat.ne_of_lt NEg3_g7.out | exact Nat.ne_of_gt NEg7_g3.out) (.slice (some ⟨go, 0, none⟩) l0.length cX)))
    (try replace BKgo := Aside0.mk (blk_setCell (j := 0) BKgo.out BKg7.out (by decide) (.slice (some ⟨go, 0, none⟩) l0.length cX)))
    replace HB := Aside0.mk (HB.out.setCell (p := ⟨g7, 0, none⟩) GEg7.out (.slice (some ⟨go, 0, none⟩) l0.length cX))
    replace BKg7 := Aside0.mk (blk_put BKg7.out 0 (.slice (some ⟨go, 0, none⟩) l0.length cX) rfl)
    generalize W_.setCell ⟨g7, 0, none⟩ (.slice (some ⟨go, 0, none⟩) l0.length cX) = W_ at *
    have hpl := HPL.out
    obtain ⟨f1, f2, hf1, hf2, hq1, hq2⟩ : ∃ f1 f2, (l0.getD p z85).f1.f0 = f1 ∧ (l0.getD p z85).f1.f1 = f2 ∧ csx[p * 3 + 1]? = some (.int .i64 f1) ∧ csx[p * 3 + 2]? = some (.int .i64 f2) := by
      obtain ⟨c, hc, hcs⟩ := HPB.out p (l0.getD p z85) (by rw [List.getD_eq_getElem?_getD, List.getElem?_eq_getElem hpl]; rfl)
      obtain rfl := k85_open hc
      exact ⟨_, _, rfl, rfl, hcs 1 _ rfl, hcs 2 _ rfl⟩
    have HPC := Aside0.mk (HPB.out.came p hpl (mx 0 (wrap64 (f1 - Int.tmod (wrap64 a2) 3))) (mn 7 (wrap64 (f2 + Int.tmod (wrap64 (Int.tdiv (wrap64 a2) 3)) 3))))
    have hcf1 : W_.cell? ⟨go, p * 3 + 1, none⟩ = some (.int .i64 f1) := (blk_cell BKgo.out (p * 3 + 1)).trans hq1
    have hcf2 : W_.cell? ⟨go, p * 3 + 2, none⟩ = some (.int .i64 f2) := (blk_cell BKgo.out (p * 3 + 2)).trans hq2
    have HF1 := Aside0.mk hf1
    have HF2 := Aside0.mk hf2
    clear hf1 hf2 HPB
    refine start_ (n := 27) (S := fun w' => w'.cell? ⟨go, p * 3 + 1, none⟩ = some (.int .i64 f1) ∧ w'.cell? ⟨go, p * 3 + 2, none⟩ = some (.int .i64 f2)) (ds := [23, 26]) #[false, false, false, false, false, false, false, false, false, false, false, false, false, false, false, false, false, false, false, false, false, false, false, false, false, false, false] (by kernel_rfl) rfl rfl ⟨hcf1, hcf2⟩ (fun hHeld => ?_)
    have hb := below_drew1 (Below.refl W_.heap.size W_)
    have n0_ := Aside0.mk (below_step HB.out hb)
    have n1_ := Aside0.mk (blk_below BKg3.out hb)
    have n2_ := Aside0.mk (blk_below BKg7.out hb)
    have n3_ := Aside0.mk (blk_below BKgo.out hb)
    clear HB
    clear BKg3
    clear BKg7
    clear BKgo
    have HB := n0_
    have BKg3 := n1_
    have BKg7 := n2_
    have BKgo := n3_
    clear n0_ n1_ n2_ n3_
    replace hcf1 := (hb.cell (World.block_lt_of_cell? _ _ hcf1)).trans hcf1
    replace hcf2 := (hb.cell (World.block_lt_of_cell? _ _ hcf2)).trans hcf2
    generalize W_.drew = W5 at *
    clear hb
    have hff1 := blk_frozen BKgo.out (p * 3 + 1)
    refine pure_ (i := 0) (N := some 57) (v := ?_) (a' := ?_) #[true, false, false, false, false, false, false, false, false, false, false, false, false, false, false, false, false, false, false, false, false, false, false, false, false, false, false] rfl rfl (by kernel_rfl) (fun _ _ _ h => h) (Or.inl ⟨by rfl, ?_⟩) ?_ ?_
    rotate_left
    · intro w'
      go_simp
      with_reducible rfl
    rotate_left
    · simp only [Act.put, List.setIfInBounds_toArray, List.set_cons_zero, List.set_cons_succ, i64_w, i32_w]
      rfl
    refine pure_ (i := 1) (N := some 58) (v := ?_) (a' := ?_) #[true, true, false, false, false, false, false, false, false, false, false, false, false, false, false, false, false, false, false, false, false, false, false, false, false, false, false] rfl rfl (by kernel_rfl) (fun _ _ _ h => h) (Or.inl ⟨by rfl, ?_⟩) ?_ ?_
    rotate_left
    · intro w'
      go_simp
      with_reducible rfl
    rotate_left
    · simp only [Act.put, List.setIfInBounds_toArray, List.set_cons_zero, List.set_cons_succ, i64_w, i32_w]
      rfl
    refine pure_ (i := 2) (N := some 59) (v := ?_) (a' := ?_) #[true, true, true, false, false, false, false, false, false, false, false, false, false, false, false, false, false, false, false, false, false, false, false, false, false, false, false] rfl rfl (by kernel_rfl) (fun _ _ _ h => h) (Or.inl ⟨by rfl, ?_⟩) ?_ ?_
    rotate_left
    · intro w'
      go_simp
      with_reducible rfl
    rotate_left
    · simp only [Act.put, List.setIfInBounds_toArray, List.set_cons_zero, List.set_cons_succ, i64_w, i32_w]
      rfl
    refine pure_ (i := 3) (N := some 60) (v := ?_) (a' := ?_) #[true, true, true, true, false, false, false, false, false, false, false, false, false, false, false, false, false, false, false, false, false, false, false, false, false, false, false] rfl rfl (by kernel_rfl) (fun _ _ _ h => h) (Or.inl ⟨by rfl, ?_⟩) ?_ ?_
    rotate_left
    · intro w'
      go_simp
      with_reducible rfl
    rotate_left
    · simp only [Act.put, List.setIfInBounds_toArray, List.set_cons_zero, List.set_cons_succ, i64_w, i32_w]
      rfl
    refine pure_ (i := 4) (N := some 61) (v := ?_) (a' := ?_) #[true, true, true, true, true, false, false, false, false, false, false, false, false, false, false, false, false, false, false, false, false, false, false, false, false, false, false] rfl rfl (by kernel_rfl) (fun _ _ _ h => h) (Or.inl ⟨by rfl, ?_⟩) ?_ ?_
    rotate_left
    · intro w'
      go_simp
      with_reducible rfl
    rotate_left
    · simp only [Act.put, List.setIfInBounds_toArray, List.set_cons_zero, List.set_cons_succ, i64_w, i32_w]
      rfl
    refine pure_ (i := 6) (N := some 63) (v := ?_) (a' := ?_) #[true, true, true, true, true, false, true, false, false, false, false, false, false, false, false, false, false, false, false, false, false, false, false, false, false, false, false] rfl rfl (by kernel_rfl) (fun _ _ _ h => h) (Or.inl ⟨by rfl, ?_⟩) ?_ ?_
    rotate_left
    · intro w'
      go_simp
      with_reducible rfl
    rotate_left
    · simp only [Act.put, List.setIfInBounds_toArray, List.set_cons_zero, List.set_cons_succ, i64_w, i32_w]
      rfl
    refine pure_ (i := 7) (N := some 64) (v := ?_) (a' := ?_) #[true, true, true, true, true, false, true, true, false, false, false, false, false, false, false, false, false, false, false, false, false, false, false, false, false, false, false] rfl rfl (by kernel_rfl) (fun _ _ _ h => h) (Or.inl ⟨by rfl, ?_⟩) ?_ ?_
    rotate_left
    · intro w'
      go_simp
      with_reducible rfl
    rotate_left
    · simp only [Act.put, List.setIfInBounds_toArray, List.set_cons_zero, List.set_cons_succ, i64_w, i32_w]
      rfl
    refine pure_ (i := 8) (N := some 65) (v := ?_) (a' := ?_) #[true, true, true, true, true, false, true, true, true, false, false, false, false, false, false, false, false, false, false, false, false, false, false, false, false, false, false] rfl rfl (by kernel_rfl) (fun _ _ _ h => h) (Or.inl ⟨by rfl, ?_⟩) ?_ ?_
    rotate_left
    · intro w'
      go_simp
      with_reducible rfl
    rotate_left
    · simp only [Act.put, List.setIfInBounds_toArray, List.set_cons_zero, List.set_cons_succ, i64_w, i32_w]
      rfl
    refine pure_ (i := 11) (N := some 68) (v := ?_) (a' := ?_) #[true, true, true, true, true, false, true, true, true, false, false, true, false, false, false, false, false, false, false, false, false, false, false, false, false, false, false] rfl rfl (by kernel_rfl) (fun _ _ _ h => h) (Or.inl ⟨by rfl, ?_⟩) ?_ ?_
    rotate_left
    · intro w'
      go_simp
      with_reducible rfl
    rotate_left
    · simp only [Act.put, List.setIfInBounds_toArray, List.set_cons_zero, List.set_cons_succ, i64_w, i32_w]
      rfl
    refine pure_ (i := 12) (N := some 69) (v := ?_) (a' := ?_) #[true, true, true, true, true, false, true, true, true, false, false, true, true, false, false, false, false, false, false, false, false, false, false, false, false, false, false] rfl rfl (by kernel_rfl) (fun _ _ _ h => h) (Or.inl ⟨by rfl, ?_⟩) ?_ ?_
    rotate_left
    · intro w'
      go_simp
      with_reducible rfl
    rotate_left
    · simp only [Act.put, List.setIfInBounds_toArray, List.set_cons_zero, List.set_cons_succ, i64_w, i32_w]
      rfl
    refine pure_ (i := 13) (N := some 70) (v := ?_) (a' := ?_) #[true, true, true, true, true, false, true, true, true, false, false, true, true, true, false, false, false, false, false, false, false, false, false, false, false, false, false] rfl rfl (by kernel_rfl) (fun _ _ _ h => h) (Or.inl ⟨by rfl, ?_⟩) ?_ ?_
    rotate_left
    · intro w'
      go_simp
      with_reducible rfl
    rotate_left
    · simp only [Act.put, List.setIfInBounds_toArray, List.set_cons_zero, List.set_cons_succ, i64_w, i32_w]
      rfl
    refine pure_ (i := 15) (N := some 72) (v := ?_) (a' := ?_) #[true, true, true, true, true, false, true, true, true, false, false, true, true, true, false, true, false, false, false, false, false, false, false, false, false, false, false] rfl rfl (by kernel_rfl) (fun _ _ _ h => h) (Or.inl ⟨by rfl, ?_⟩) ?_ ?_
    rotate_left
    · intro w'
      go_simp
      with_reducible rfl
    rotate_left
    · simp only [Act.put, List.setIfInBounds_toArray, List.set_cons_zero, List.set_cons_succ, i64_w, i32_w]
      rfl
    refine pure_ (i := 16) (N := some 73) (v := ?_) (a' := ?_) #[true, true, true, true, true, false, true, true, true, false, false, true, true, true, false, true, true, false, false, false, false, false, false, false, false, false, false] rfl rfl (by kernel_rfl) (fun _ _ _ h => h) (Or.inl ⟨by rfl, ?_⟩) ?_ ?_
    rotate_left
    · intro w'
      go_simp
      with_reducible rfl
    rotate_left
    · simp only [Act.put, List.setIfInBounds_toArray, List.set_cons_zero, List.set_cons_succ, i64_w, i32_w]
      rfl
    refine pure_ (i := 17) (N := some 74) (v := ?_) (a' := ?_) #[true, true, true, true, true, false, true, true, true, false, false, true, true, true, false, true, true, true, false, false, false, false, false, false, false, false, false] rfl rfl (by kernel_rfl) (fun _ _ _ h => h) (Or.inl ⟨by rfl, ?_⟩) ?_ ?_
    rotate_left
    · intro w'
      go_simp
      with_reducible rfl
    rotate_left
    · simp only [Act.put, List.setIfInBounds_toArray, List.set_cons_zero, List.set_cons_succ, i64_w, i32_w]
      rfl
    refine pure_ (i := 18) (N := some 75) (v := ?_) (a' := ?_) #[true, true, true, true, true, false, true, true, true, false, false, true, true, true, false, true, true, true, true, false, false, false, false, false, false, false, false] rfl rfl (by kernel_rfl) (fun _ _ _ h => h) (Or.inl ⟨by rfl, ?_⟩) ?_ ?_
    rotate_left
    · intro w'
      go_simp
      with_reducible rfl
    rotate_left
    · simp only [Act.put, List.setIfInBounds_toArray, List.set_cons_zero, List.set_cons_succ, i64_w, i32_w]
      rfl
    refine take_ (i := 5) (N := some 62) (v := ?_) (a' := ?_) #[true, true, true, true, true, true, true, true, true, false, false, true, true, true, false, true, true, true, true, false, false, false, false, false, false, false, false] rfl rfl (by kernel_rfl) (fun _ _ _ h => h) (Or.inl ⟨by rfl, ?_⟩) hHeld ?_ ?_
    rotate_left
    · rintro w' ⟨s0, s1⟩
      go_simp
      with_reducible rfl
    rotate_left
    · simp only [Act.put, List.setIfInBounds_toArray, List.set_cons_zero, List.set_cons_succ, i64_w, i32_w]
      rfl
    refine pure_ (i := 9) (N := some 66) (v := ?_) (a' := ?_) #[true, true, true, true, true, true, true, true, true, true, false, true, true, true, false, true, true, true, true, false, false, false, false, false, false, false, false] rfl rfl (by kernel_rfl) (fun _ _ _ h => h) (Or.inl ⟨by rfl, ?_⟩) ?_ ?_
    rotate_left
    · intro w'
      go_simp
      with_reducible rfl
    rotate_left
    · simp only [Act.put, List.setIfInBounds_toArray, List.set_cons_zero, List.set_cons_succ, i64_w, i32_w]
      rfl
    refine pure_ (i := 10) (N := some 67) (v := ?_) (a' := ?_) #[true, true, true, true, true, true, true, true, true, true, true, true, true, true, false, true, true, true, true, false, false, false, false, false, false, false, false] rfl rfl (by kernel_rfl) (fun _ _ _ h => h) (Or.inl ⟨by rfl, ?_⟩) ?_ ?_
    rotate_left
    · intro w'
      go_simp
      with_reducible rfl
    rotate_left
    · simp only [Act.put, List.setIfInBounds_toArray, List.set_cons_zero, List.set_cons_succ, i64_w, i32_w]
      rfl
    refine take_ (i := 14) (N := some 71) (v := ?_) (a' := ?_) #[true, true, true, true, true, true, true, true, true, true, true, true, true, true, true, true, true, true, true, false, false, false, false, false, false, false, false] rfl rfl (by kernel_rfl) (fun _ _ _ h => h) (Or.inl ⟨by rfl, ?_⟩) hHeld ?_ ?_
    rotate_left
    · rintro w' ⟨s0, s1⟩
      go_simp
      with_reducible rfl
    rotate_left
    · simp only [Act.put, List.setIfInBounds_toArray, List.set_cons_zero, List.set_cons_succ, i64_w, i32_w]
      rfl
    refine pure_ (i := 19) (N := some 76) (v := ?_) (a' := ?_) #[true, true, true, true, true, true, true, true, true, true, true, true, true, true, true, true, true, true, true, true, false, false, false, false, false, false, false] rfl rfl (by kernel_rfl) (fun _ _ _ h => h) (Or.inl ⟨by rfl, ?_⟩) ?_ ?_
    rotate_left
    · intro w'
      go_simp
      with_reducible rfl
    rotate_left
    · simp only [Act.put, List.setIfInBounds_toArray, List.set_cons_zero, List.set_cons_succ, i64_w, i32_w]
      rfl
    refine pure_ (i := 20) (N := some 77) (v := ?_) (a' := ?_) #[true, true, true, true, true, true, true, true, true, true, true, true, true, true, true, true, true, true, true, true, true, false, false, false, false, false, false] rfl rfl (by kernel_rfl) (fun _ _ _ h => h) (Or.inl ⟨by rfl, ?_⟩) ?_ ?_
    rotate_left
    · intro w'
      go_simp
      with_reducible rfl
    rotate_left
    · simp only [Act.put, List.setIfInBounds_toArray, List.set_cons_zero, List.set_cons_succ, i64_w, i32_w]
      rfl
    refine pure_ (i := 21) (N := some 78) (v := ?_) (a' := ?_) #[true, true, true, true, true, true, true, true, true, true, true, true, true, true, true, true, true, true, true, true, true, true, false, false, false, false, false] rfl rfl (by kernel_rfl) (fun _ _ _ h => h) (Or.inl ⟨by rfl, ?_⟩) ?_ ?_
    rotate_left
    · intro w'
      go_simp
      with_reducible rfl
    rotate_left
    · simp only [Act.put, List.setIfInBounds_toArray, List.set_cons_zero, List.set_cons_succ, i64_w, i32_w]
      rfl
    refine pure_ (i := 22) (N := some 79) (v := ?_) (a' := ?_) #[true, true, true, true, true, true, true, true, true, true, true, true, true, true, true, true, true, true, true, true, true, true, true, false, false, false, false] rfl rfl (by kernel_rfl) (fun _ _ _ h => h) (Or.inl ⟨by rfl, ?_⟩) ?_ ?_
    rotate_left
    · intro w'
      go_simp
      with_reducible rfl
    rotate_left
    · simp only [Act.put, List.setIfInBounds_toArray, List.set_cons_zero, List.set_cons_succ, i64_w, i32_w]
      rfl
    refine last_ (i := 23) (N := none) #[true, true, true, true, true, true, true, true, true, true, true, true, true, true, true, true, true, true, true, true, true, true, true, true, false, false, false] rfl rfl (by kernel_rfl) (by decide) (fun K hK => ?_)
    refine skip_ (w1 := ?_) (by rfl) rfl ?_ ?_
    rotate_left
    · go_simp
      rfl
    skip
    (try replace BKg3 := Aside0.mk (blk_setCell (j := p * 3 + 1) BKg3.out BKgo.out (by decide) (.int .i64 (mx 0 (wrap64 (f1 - Int.tmod (wrap64 a2) 3))))))
    (try replace BKg7 := Aside0.mk (blk_setCell (j := p * 3 + 1) BKg7.out BKgo.out (by decide) (.int .i64 (mx 0 (wrap64 (f1 - Int.tmod (wrap64 a2) 3))))))
    replace HB := Aside0.mk (HB.out.setCell (p := ⟨go, p * 3 + 1, none⟩) GEgo.out (.int .i64 (mx 0 (wrap64 (f1 - Int.tmod (wrap64 a2) 3)))))
    replace BKgo := Aside0.mk (blk_put BKgo.out (p * 3 + 1) (.int .i64 (mx 0 (wrap64 (f1 - Int.tmod (wrap64 a2) 3)))) rfl)
    generalize W5.setCell ⟨go, p * 3 + 1, none⟩ (.int .i64 (mx 0 (wrap64 (f1 - Int.tmod (wrap64 a2) 3)))) = W6 at *
    have hcf2 : W6.cell? ⟨go, p * 3 + 2, none⟩ = some (.int .i64 f2) := (blk_cell BKgo.out (p * 3 + 2)).trans (by rw [Array.getElem?_setIfInBounds, if_neg (by omega)]; exact hq2)
    have hff2 := blk_frozen BKgo.out (p * 3 + 2)
    refine hK.out _ _ ?_
    clear hK K
    refine pure_ (i := 24) (N := some 80) (v := ?_) (a' := ?_) #[true, true, true, true, true, true, true, true, true, true, true, true, true, true, true, true, true, true, true, true, true, true, true, true, true, false, false] rfl rfl (by kernel_rfl) (fun _ _ _ h => h) (Or.inl ⟨by rfl, ?_⟩) ?_ ?_
    rotate_left
    · intro w'
      go_simp
      with_reducible rfl
    rotate_left
    · simp only [Act.put, List.setIfInBounds_toArray, List.set_cons_zero, List.set_cons_succ, i64_w, i32_w]
      rfl
    refine pure_ (i := 25) (N := some 81) (v := ?_) (a' := ?_) #[true, true, true, true, true, true, true, true, true, true, true, true, true, true, true, true, true, true, true, true, true, true, true, true, true, true, false] rfl rfl (by kernel_rfl) (fun _ _ _ h => h) (Or.inl ⟨by rfl, ?_⟩) ?_ ?_
    rotate_left
    · intro w'
      go_simp
      with_reducible rfl
    rotate_left
    · simp only [Act.put, List.setIfInBounds_toArray, List.set_cons_zero, List.set_cons_succ, i64_w, i32_w]
      rfl
    refine last_ (i := 26) (N := none) #[true, true, true, true, true, true, true, true, true, true, true, true, true, true, true, true, true, true, true, true, true, true, true, true, true, true, true] rfl rfl (by kernel_rfl) (by decide) (fun K hK => ?_)
    refine skip_ (w1 := ?_) (by rfl) rfl ?_ ?_
    rotate_left
    · go_simp
      rfl
    skip
    (try replace BKg3 := Aside0.mk (blk_setCell (j := p * 3 + 2) BKg3.out BKgo.out (by decide) (.int .i64 (mn 7 (wrap64 (f2 + Int.tmod (wrap64 (Int.tdiv (wrap64 a2) 3)) 3))))))
    (try replace BKg7 := Aside0.mk (blk_setCell (j := p * 3 + 2) BKg7.out BKgo.out (by decide) (.int .i64 (mn 7 (wrap64 (f2 + Int.tmod (wrap64 (Int.tdiv (wrap64 a2) 3)) 3))))))
    replace HB := Aside0.mk (HB.out.setCell (p := ⟨go, p * 3 + 2, none⟩) GEgo.out (.int .i64 (mn 7 (wrap64 (f2 + Int.tmod (wrap64 (Int.tdiv (wrap64 a2) 3)) 3)))))
    replace BKgo := Aside0.mk (blk_put BKgo.out (p * 3 + 2) (.int .i64 (mn 7 (wrap64 (f2 + Int.tmod (wrap64 (Int.tdiv (wrap64 a2) 3)) 3)))) rfl)
    generalize W6.setCell ⟨go, p * 3 + 2, none⟩ (.int .i64 (mn 7 (wrap64 (f2 + Int.tmod (wrap64 (Int.tdiv (wrap64 a2) 3)) 3)))) = W7 at *
    refine hK.out _ _ ?_
    clear hK K
    refine done_ (by kernel_rfl) ?_
    obtain ⟨e1, e2⟩ := HBB.out HPL.out
    rw [HF1.out, HF2.out] at e1
    have el : l0.length = xs.length := by rw [e1, List.length_set]
    have HX := Aside0.mk (show RX k85 85 w W7 w.heap.size (some ⟨go, 0, none⟩) cX xs from ⟨by have := HXLE.out; omega, by have := HXSM.out; omega, .inr ⟨go, _, rfl, GEgo.out, BKgo.out, by have h := HPC.out; rw [← e1] at h; exact h⟩⟩)
    replace BKg7 := Aside0.mk (show W7.heap[g7]? = some (.cells #[.slice (some ⟨go, 0, none⟩) xs.length cX, .slice A1 l1.length c1, .int .i64 wx] 25 (0, 0)) from by have h := BKg7.out; rw [el] at h; rw [← e2]; exact h)
    clear BKgo GEgo HPC HXLE HXSM e1 e2 el hq1 hq2 hpl hpx hkd HPL HNE0
    try clear hp
    try clear hcf1 hcf2 hff1
    try clear hff2
    generalize W7 = W_ at *
    generalize (some (⟨go, 0, none⟩ : Addr) : Option Addr) = AX at *
  rotate_left
  all_goals ((try have hcg3_0 : W_.cell? ⟨g3, 0, none⟩ = some (.slice A0 l0.length c0) := (blk_cell BKg3.out 0).trans rfl); (try have hcg3_1 : W_.cell? ⟨g3, 1, none⟩ = some (.slice A1 l1.length c1) := (blk_cell BKg3.out 1).trans rfl); (try have hcg3_2 : W_.cell? ⟨g3, 2, none⟩ = some (.int .i64 wg) := (blk_cell BKg3.out 2).trans rfl); (try have hcg7_0 : W_.cell? ⟨g7, 0, none⟩ = some (.slice AX xs.length cX) := (blk_cell BKg7.out 0).trans rfl); (try have hcg7_1 : W_.cell? ⟨g7, 1, none⟩ = some (.slice A1 l1.length c1) := (blk_cell BKg7.out 1).trans rfl); (try have hcg7_2 : W_.cell? ⟨g7, 2, none⟩ = some (.int .i64 wx) := (blk_cell BKg7.out 2).trans rfl))
  all_goals (rcases HCS.out with ⟨he, hex⟩ | ⟨he, hex, hw, hu, hd, hd2, hs1, i1, i2⟩)
  rotate_left
  focus
    have HE := Aside0.mk he
    have HEX := Aside0.mk hex
    have HSW := Aside0.mk hw
    have HSU := Aside0.mk hu
    have HSD := Aside0.mk hd
    have HSE := Aside0.mk hd2
    have HS1 := Aside0.mk hs1
    have j1 := decide_eq_true i1
    have j2 := decide_eq_true i2
    clear he hex hw hu hd hd2 hs1
    go_wp2_with (first | (go_at_call 23; go_must (first | ((with_reducible refine (tab_c _ (HRT.out.below HB.out) HL0.out HL1.out).mono ?_); rintro e W_ ⟨B0, d0, B1, d1, rfl, ht, hb⟩; (try clear hcg3_0 hcg3_1 hcg3_2); (try clear hcg7_0 hcg7_1 hcg7_2); (try replace HB := Aside0.mk (below_step HB.out hb)); (try replace HT := Aside0.mk (HT.out.below hb)); (try replace BKg3 := Aside0.mk (blk_below BKg3.out hb)); (try replace BKg7 := Aside0.mk (blk_below BKg7.out hb)); (try replace HX := Aside0.mk (HX.out.below hb)); (try replace HL := Aside0.mk (Kd.R_below HL.out hb)); (try replace HM := Aside0.mk (Kd.R_below HM.out hb)); (try replace HW := Aside0.mk (Kd.R_below HW.out hb)); (try replace HU := Aside0.mk (Kd.R_below HU.out hb)); (try replace BKg18 := Aside0.mk (blk_below BKg18.out hb)); (try replace BKg20 := Aside0.mk (blk_below BKg20.out hb)); (try clear HT); have HT := Aside0.mk ht; clear ht; clear hb; (try have hcg3_0 : W_.cell? ⟨g3, 0, none⟩ = some (.slice A0 l0.length c0) := (blk_cell BKg3.out 0).trans rfl); (try have hcg3_1 : W_.cell? ⟨g3, 1, none⟩ = some (.slice A1 l1.length c1) := (blk_cell BKg3.out 1).trans rfl); (try have hcg3_2 : W_.cell? ⟨g3, 2, none⟩ = some (.int .i64 wg) := (blk_cell BKg3.out 2).trans rfl); (try have hcg7_0 : W_.cell? ⟨g7, 0, none⟩ = some (.slice AX xs.length cX) := (blk_cell BKg7.out 0).trans rfl); (try have hcg7_1 : W_.cell? ⟨g7, 1, none⟩ = some (.slice A1 l1.length c1) := (blk_cell BKg7.out 1).trans rfl); (try have hcg7_2 : W_.cell? ⟨g7, 2, none⟩ = some (.int .i64 wx) := (blk_cell BKg7.out 2).trans rfl)) | ((with_reducible refine (tab_c _ (rtabW HRT.out HB.out HX.out HX30.out) HLX.out HL1.out).mono ?_); rintro e W_ ⟨B0, d0, B1, d1, rfl, ht, hb⟩; (try clear hcg3_0 hcg3_1 hcg3_2); (try clear hcg7_0 hcg7_1 hcg7_2); (try replace HB := Aside0.mk (below_step HB.out hb)); (try replace HT := Aside0.mk (HT.out.below hb)); (try replace BKg3 := Aside0.mk (blk_below BKg3.out hb)); (try replace BKg7 := Aside0.mk (blk_below BKg7.out hb)); (try replace HX := Aside0.mk (HX.out.below hb)); (try replace HL := Aside0.mk (Kd.R_below HL.out hb)); (try replace HM := Aside0.mk (Kd.R_below HM.out hb)); (try replace HW := Aside0.mk (Kd.R_below HW.out hb)); (try replace HU := Aside0.mk (Kd.R_below HU.out hb)); (try replace BKg18 := Aside0.mk (blk_below BKg18.out hb)); (try replace BKg20 := Aside0.mk (blk_below BKg20.out hb)); (try clear HT); have HT := Aside0.mk ht; clear ht; clear hb; (try have hcg3_0 : W_.cell? ⟨g3, 0, none⟩ = some (.slice A0 l0.length c0) := (blk_cell BKg3.out 0).trans rfl); (try have hcg3_1 : W_.cell? ⟨g3, 1, none⟩ = some (.slice A1 l1.length c1) := (blk_cell BKg3.out 1).trans rfl); (try have hcg3_2 : W_.cell? ⟨g3, 2, none⟩ = some (.int .i64 wg) := (blk_cell BKg3.out 2).trans rfl); (try have hcg7_0 : W_.cell? ⟨g7, 0, none⟩ = some (.slice AX xs.length cX) := (blk_cell BKg7.out 0).trans rfl); (try have hcg7_1 : W_.cell? ⟨g7, 1, none⟩ = some (.slice A1 l1.length c1) := (blk_cell BKg7.out 1).trans rfl); (try have hcg7_2 : W_.cell? ⟨g7, 2, none⟩ = some (.int .i64 wx) := (blk_cell BKg7.out 2).trans rfl)))) | (go_at_call 32; go_must (first | ((with_reducible refine (leave_c _ HT.out HCK.out HSL.out).mono ?_); rintro e W_ ⟨v_, rfl, ho, hb⟩; (try clear hcg3_0 hcg3_1 hcg3_2); (try clear hcg7_0 hcg7_1 hcg7_2); (try replace HB := Aside0.mk (below_step HB.out hb)); (try replace HT := Aside0.mk (HT.out.below hb)); (try replace BKg3 := Aside0.mk (blk_below BKg3.out hb)); (try replace BKg7 := Aside0.mk (blk_below BKg7.out hb)); (try replace HX := Aside0.mk (HX.out.below hb)); (try replace HL := Aside0.mk (Kd.R_below HL.out hb)); (try replace HM := Aside0.mk (Kd.R_below HM.out hb)); (try replace HW := Aside0.mk (Kd.R_below HW.out hb)); (try replace HU := Aside0.mk (Kd.R_below HU.out hb)); (try replace BKg18 := Aside0.mk (blk_below BKg18.out hb)); (try replace BKg20 := Aside0.mk (blk_below BKg20.out hb)); have HL := Aside0.mk ho; obtain ⟨AHL, cHL, eHL⟩ := Kd.R_slice HL.out; subst eHL; clear ho; clear hb; (try have hcg3_0 : W_.cell? ⟨g3, 0, none⟩ = some (.slice A0 l0.length c0) := (blk_cell BKg3.out 0).trans rfl); (try have hcg3_1 : W_.cell? ⟨g3, 1, none⟩ = some (.slice A1 l1.length c1) := (blk_cell BKg3.out 1).trans rfl); (try have hcg3_2 : W_.cell? ⟨g3, 2, none⟩ = some (.int .i64 wg) := (blk_cell BKg3.out 2).trans rfl); (try have hcg7_0 : W_.cell? ⟨g7, 0, none⟩ = some (.slice AX xs.length cX) := (blk_cell BKg7.out 0).trans rfl); (try have hcg7_1 : W_.cell? ⟨g7, 1, none⟩ = some (.slice A1 l1.length c1) := (blk_cell BKg7.out 1).trans rfl); (try have hcg7_2 : W_.cell? ⟨g7, 2, none⟩ = some (.int .i64 wx) := (blk_cell BKg7.out 2).trans rfl)) | ((with_reducible refine (leave_c _ HT.out HCX.out HSM.out).mono ?_); rintro e W_ ⟨v_, rfl, ho, hb⟩; (try clear hcg3_0 hcg3_1 hcg3_2); (try clear hcg7_0 hcg7_1 hcg7_2); (try replace HB := Aside0.mk (below_step HB.out hb)); (try replace HT := Aside0.mk (HT.out.below hb)); (try replace BKg3 := Aside0.mk (blk_below BKg3.out hb)); (try replace BKg7 := Aside0.mk (blk_below BKg7.out hb)); (try replace HX := Aside0.mk (HX.out.below hb)); (try replace HL := Aside0.mk (Kd.R_below HL.out hb)); (try replace HM := Aside0.mk (Kd.R_below HM.out hb)); (try replace HW := Aside0.mk (Kd.R_below HW.out hb)); (try replace HU := Aside0.mk (Kd.R_below HU.out hb)); (try replace BKg18 := Aside0.mk (blk_below BKg18.out hb)); (try replace BKg20 := Aside0.mk (blk_below BKg20.out hb)); have HM := Aside0.mk ho; obtain ⟨AHM, cHM, eHM⟩ := Kd.R_slice HM.out; subst eHM; clear ho; clear hb; (try have hcg3_0 : W_.cell? ⟨g3, 0, none⟩ = some (.slice A0 l0.length c0) := (blk_cell BKg3.out 0).trans rfl); (try have hcg3_1 : W_.cell? ⟨g3, 1, none⟩ = some (.slice A1 l1.length c1) := (blk_cell BKg3.out 1).trans rfl); (try have hcg3_2 : W_.cell? ⟨g3, 2, none⟩ = some (.int .i64 wg) := (blk_cell BKg3.out 2).trans rfl); (try have hcg7_0 : W_.cell? ⟨g7, 0, none⟩ = some (.slice AX xs.length cX) := (blk_cell BKg7.out 0).trans rfl); (try have hcg7_1 : W_.cell? ⟨g7, 1, none⟩ = some (.slice A1 l1.length c1) := (blk_cell BKg7.out 1).trans rfl); (try have hcg7_2 : W_.cell? ⟨g7, 2, none⟩ = some (.int .i64 wx) := (blk_cell BKg7.out 2).trans rfl)))) | ((with_reducible refine gate_dst (N := 18) rfl ?_); refine box_event ?hg (N := 18) ?hd (cs := #[.int .i64 0, .int .i64 0]) (t := 55) ?hr ?_; (case hd => rfl); (case hg => rfl); (case hr => first | (go_simp; done) | (go_simp; rfl)); intro g18 hg W_ hbox hb; (try have NEg20_g18 := Aside0.mk (show g20 < g18 from by rw [hg]; exact blk_lt BKg20.out)); have GEg18 := Aside0.mk (by rw [hg]; exact HB.out.size : w.heap.size ≤ g18); (try clear hcg3_0 hcg3_1 hcg3_2); (try clear hcg7_0 hcg7_1 hcg7_2); (try clear hcg18_0 hcg18_1); (try replace HB := Aside0.mk (below_step HB.out hb)); (try replace HT := Aside0.mk (HT.out.below hb)); (try replace BKg3 := Aside0.mk (blk_below BKg3.out hb)); (try replace BKg7 := Aside0.mk (blk_below BKg7.out hb)); (try replace HX := Aside0.mk (HX.out.below hb)); (try replace HL := Aside0.mk (Kd.R_below HL.out hb)); (try replace HM := Aside0.mk (Kd.R_below HM.out hb)); (try replace HW := Aside0.mk (Kd.R_below HW.out hb)); (try replace HU := Aside0.mk (Kd.R_below HU.out hb)); (try replace BKg18 := Aside0.mk (blk_below BKg18.out hb)); (try replace BKg20 := Aside0.mk (blk_below BKg20.out hb)); have BKg18 := Aside0.mk hbox; clear hb hbox hg; (try have hcg3_0 : W_.cell? ⟨g3, 0, none⟩ = some (.slice A0 l0.length c0) := (blk_cell BKg3.out 0).trans rfl); (try have hcg3_1 : W_.cell? ⟨g3, 1, none⟩ = some (.slice A1 l1.length c1) := (blk_cell BKg3.out 1).trans rfl); (try have hcg3_2 : W_.cell? ⟨g3, 2, none⟩ = some (.int .i64 wg) := (blk_cell BKg3.out 2).trans rfl); (try have hcg7_0 : W_.cell? ⟨g7, 0, none⟩ = some (.slice AX xs.length cX) := (blk_cell BKg7.out 0).trans rfl); (try have hcg7_1 : W_.cell? ⟨g7, 1, none⟩ = some (.slice A1 l1.length c1) := (blk_cell BKg7.out 1).trans rfl); (try have hcg7_2 : W_.cell? ⟨g7, 2, none⟩ = some (.int .i64 wx) := (blk_cell BKg7.out 2).trans rfl); (try have hcg18_0 : W_.cell? ⟨g18, 0, none⟩ = some (.int .i64 0) := (blk_cell BKg18.out 0).trans rfl); (try have hcg18_1 : W_.cell? ⟨g18, 1, none⟩ = some (.int .i64 0) := (blk_cell BKg18.out 1).trans rfl)) | ((with_reducible refine gate_store (t := 55) (p := 18) rfl ?_); go_must (refine wpList_store_row rfl 55 _ _ rfl g18 #[.int .i64 lo, .int .i64 hi] rfl rfl 55 (#[.int .i64 0, .int .i64 0]) BKg18.out rfl rfl (by simp [Value.oneCell']) ?_; (try clear hcg3_0 hcg3_1 hcg3_2); (try clear hcg7_0 hcg7_1 hcg7_2); (try clear hcg18_0 hcg18_1); (try clear HT); (try replace BKg3 := Aside0.mk (blk_setRow BKg3.out BKg18.out (by decide) (#[.int .i64 lo, .int .i64 hi]))); (try replace BKg7 := Aside0.mk (blk_setRow BKg7.out BKg18.out (by decide) (#[.int .i64 lo, .int .i64 hi]))); (try replace HX := Aside0.mk (RX.setRow (us := #[.int .i64 lo, .int .i64 hi]) HX.out BKg18.out (by decide))); (try replace HL := Aside0.mk (row_setRow HL.out BKg18.out (by decide) (#[.int .i64 lo, .int .i64 hi]))); (try replace HM := Aside0.mk (row_setRow HM.out BKg18.out (by decide) (#[.int .i64 lo, .int .i64 hi]))); (try replace HW := Aside0.mk (row_setRow HW.out BKg18.out (by decide) (#[.int .i64 lo, .int .i64 hi]))); (try replace HU := Aside0.mk (row_setRow HU.out BKg18.out (by decide) (#[.int .i64 lo, .int .i64 hi]))); (try replace BKg20 := Aside0.mk ((setRow_other W_ g18 g20 (#[.int .i64 lo, .int .i64 hi]) (by first | exact Nat.ne_of_lt NEg20_g18.out | exact Nat.ne_of_gt NEg18_g20.out)).trans BKg20.out)); replace HB := Aside0.mk (below_setRow HB.out GEg18.out (#[.int .i64 lo, .int .i64 hi])); replace BKg18 := Aside0.mk (setRow_heap W_ g18 _ (#[.int .i64 lo, .int .i64 hi]) _ _ BKg18.out); generalize W_.setRow g18 (#[.int .i64 lo, .int .i64 hi]) = W_ at *; (try have hcg3_0 : W_.cell? ⟨g3, 0, none⟩ = some (.slice A0 l0.length c0) := (blk_cell BKg3.out 0).trans rfl); (try have hcg3_1 : W_.cell? ⟨g3, 1, none⟩ = some (.slice A1 l1.length c1) := (blk_cell BKg3.out 1).trans rfl); (try have hcg3_2 : W_.cell? ⟨g3, 2, none⟩ = some (.int .i64 wg) := (blk_cell BKg3.out 2).trans rfl); (try have hcg7_0 : W_.cell? ⟨g7, 0, none⟩ = some (.slice AX xs.length cX) := (blk_cell BKg7.out 0).trans rfl); (try have hcg7_1 : W_.cell? ⟨g7, 1, none⟩ = some (.slice A1 l1.length c1) := (blk_cell BKg7.out 1).trans rfl); (try have hcg7_2 : W_.cell? ⟨g7, 2, none⟩ = some (.int .i64 wx) := (blk_cell BKg7.out 2).trans rfl); (try have hcg18_0 : W_.cell? ⟨g18, 0, none⟩ = some (.int .i64 lo) := (blk_cell BKg18.out 0).trans rfl); (try have hcg18_1 : W_.cell? ⟨g18, 1, none⟩ = some (.int .i64 hi) := (blk_cell BKg18.out 1).trans rfl))) | ((with_reducible refine gate_dst (N := 20) rfl ?_); refine box_event ?hg (N := 20) ?hd (cs := #[.int .i64 0, .int .i64 0]) (t := 55) ?hr ?_; (case hd => rfl); (case hg => rfl); (case hr => first | (go_simp; done) | (go_simp; rfl)); intro g20 hg W_ hbox hb; (try have NEg18_g20 := Aside0.mk (show g18 < g20 from by rw [hg]; exact blk_lt BKg18.out)); have GEg20 := Aside0.mk (by rw [hg]; exact HB.out.size : w.heap.size ≤ g20); (try clear hcg3_0 hcg3_1 hcg3_2); (try clear hcg7_0 hcg7_1 hcg7_2); (try clear hcg18_0 hcg18_1); (try clear hcg20_0 hcg20_1); (try replace HB := Aside0.mk (below_step HB.out hb)); (try replace HT := Aside0.mk (HT.out.below hb)); (try replace BKg3 := Aside0.mk (blk_below BKg3.out hb)); (try replace BKg7 := Aside0.mk (blk_below BKg7.out hb)); (try replace HX := Aside0.mk (HX.out.below hb)); (try replace HL := Aside0.mk (Kd.R_below HL.out hb)); (try replace HM := Aside0.mk (Kd.R_below HM.out hb)); (try replace HW := Aside0.mk (Kd.R_below HW.out hb)); (try replace HU := Aside0.mk (Kd.R_below HU.out hb)); (try replace BKg18 := Aside0.mk (blk_below BKg18.out hb)); (try replace BKg20 := Aside0.mk (blk_below BKg20.out hb)); have BKg20 := Aside0.mk hbox; clear hb hbox hg; (try have hcg3_0 : W_.cell? ⟨g3, 0, none⟩ = some (.slice A0 l0.length c0) := (blk_cell BKg3.out 0).trans rfl); (try have hcg3_1 : W_.cell? ⟨g3, 1, none⟩ = some (.slice A1 l1.length c1) := (blk_cell BKg3.out 1).trans rfl); (try have hcg3_2 : W_.cell? ⟨g3, 2, none⟩ = some (.int .i64 wg) := (blk_cell BKg3.out 2).trans rfl); (try have hcg7_0 : W_.cell? ⟨g7, 0, none⟩ = some (.slice AX xs.length cX) := (blk_cell BKg7.out 0).trans rfl); (try have hcg7_1 : W_.cell? ⟨g7, 1, none⟩ = some (.slice A1 l1.length c1) := (blk_cell BKg7.out 1).trans rfl); (try have hcg7_2 : W_.cell? ⟨g7, 2, none⟩ = some (.int .i64 wx) := (blk_cell BKg7.out 2).trans rfl); (try have hcg18_0 : W_.cell? ⟨g18, 0, none⟩ = some (.int .i64 lo) := (blk_cell BKg18.out 0).trans rfl); (try have hcg18_1 : W_.cell? ⟨g18, 1, none⟩ = some (.int .i64 hi) := (blk_cell BKg18.out 1).trans rfl); (try have hcg20_0 : W_.cell? ⟨g20, 0, none⟩ = some (.int .i64 0) := (blk_cell BKg20.out 0).trans rfl); (try have hcg20_1 : W_.cell? ⟨g20, 1, none⟩ = some (.int .i64 0) := (blk_cell BKg20.out 1).trans rfl)) | ((with_reducible refine gate_store (t := 55) (p := 20) rfl ?_); go_must (refine wpList_store_row rfl 55 _ _ rfl g20 #[.int .i64 lo2, .int .i64 hi2] rfl rfl 55 (#[.int .i64 0, .int .i64 0]) BKg20.out rfl rfl (by simp [Value.oneCell']) ?_; (try clear hcg3_0 hcg3_1 hcg3_2); (try clear hcg7_0 hcg7_1 hcg7_2); (try clear hcg18_0 hcg18_1); (try clear hcg20_0 hcg20_1); (try clear HT); (try replace BKg3 := Aside0.mk (blk_setRow BKg3.out BKg20.out (by decide) (#[.int .i64 lo2, .int .i64 hi2]))); (try replace BKg7 := Aside0.mk (blk_setRow BKg7.out BKg20.out (by decide) (#[.int .i64 lo2, .int .i64 hi2]))); (try replace HX := Aside0.mk (RX.setRow (us := #[.int .i64 lo2, .int .i64 hi2]) HX.out BKg20.out (by decide))); (try replace HL := Aside0.mk (row_setRow HL.out BKg20.out (by decide) (#[.int .i64 lo2, .int .i64 hi2]))); (try replace HM := Aside0.mk (row_setRow HM.out BKg20.out (by decide) (#[.int .i64 lo2, .int .i64 hi2]))); (try replace HW := Aside0.mk (row_setRow HW.out BKg20.out (by decide) (#[.int .i64 lo2, .int .i64 hi2]))); (try replace HU := Aside0.mk (row_setRow HU.out BKg20.out (by decide) (#[.int .i64 lo2, .int .i64 hi2]))); (try replace BKg18 := Aside0.mk ((setRow_other W_ g20 g18 (#[.int .i64 lo2, .int .i64 hi2]) (by first | exact Nat.ne_of_lt NEg18_g20.out | exact Nat.ne_of_gt NEg20_g18.out)).trans BKg18.out)); replace HB := Aside0.mk (below_setRow HB.out GEg20.out (#[.int .i64 lo2, .int .i64 hi2])); replace BKg20 := Aside0.mk (setRow_heap W_ g20 _ (#[.int .i64 lo2, .int .i64 hi2]) _ _ BKg20.out); generalize W_.setRow g20 (#[.int .i64 lo2, .int .i64 hi2]) = W_ at *; (try have hcg3_0 : W_.cell? ⟨g3, 0, none⟩ = some (.slice A0 l0.length c0) := (blk_cell BKg3.out 0).trans rfl); (try have hcg3_1 : W_.cell? ⟨g3, 1, none⟩ = some (.slice A1 l1.length c1) := (blk_cell BKg3.out 1).trans rfl); (try have hcg3_2 : W_.cell? ⟨g3, 2, none⟩ = some (.int .i64 wg) := (blk_cell BKg3.out 2).trans rfl); (try have hcg7_0 : W_.cell? ⟨g7, 0, none⟩ = some (.slice AX xs.length cX) := (blk_cell BKg7.out 0).trans rfl); (try have hcg7_1 : W_.cell? ⟨g7, 1, none⟩ = some (.slice A1 l1.length c1) := (blk_cell BKg7.out 1).trans rfl); (try have hcg7_2 : W_.cell? ⟨g7, 2, none⟩ = some (.int .i64 wx) := (blk_cell BKg7.out 2).trans rfl); (try have hcg18_0 : W_.cell? ⟨g18, 0, none⟩ = some (.int .i64 lo) := (blk_cell BKg18.out 0).trans rfl); (try have hcg18_1 : W_.cell? ⟨g18, 1, none⟩ = some (.int .i64 hi) := (blk_cell BKg18.out 1).trans rfl); (try have hcg20_0 : W_.cell? ⟨g20, 0, none⟩ = some (.int .i64 lo2) := (blk_cell BKg20.out 0).trans rfl); (try have hcg20_1 : W_.cell? ⟨g20, 1, none⟩ = some (.int .i64 hi2) := (blk_cell BKg20.out 1).trans rfl))) | (go_at_call 22; go_must (first | ((with_reducible refine (whose_c _ HT.out HE.out HSW.out).mono ?_); rintro e W_ ⟨v_, rfl, ho, hb⟩; (try clear hcg3_0 hcg3_1 hcg3_2); (try clear hcg7_0 hcg7_1 hcg7_2); (try clear hcg18_0 hcg18_1); (try clear hcg20_0 hcg20_1); (try replace HB := Aside0.mk (below_step HB.out hb)); (try replace HT := Aside0.mk (HT.out.below hb)); (try replace BKg3 := Aside0.mk (blk_below BKg3.out hb)); (try replace BKg7 := Aside0.mk (blk_below BKg7.out hb)); (try replace HX := Aside0.mk (HX.out.below hb)); (try replace HL := Aside0.mk (Kd.R_below HL.out hb)); (try replace HM := Aside0.mk (Kd.R_below HM.out hb)); (try replace HW := Aside0.mk (Kd.R_below HW.out hb)); (try replace HU := Aside0.mk (Kd.R_below HU.out hb)); (try replace BKg18 := Aside0.mk (blk_below BKg18.out hb)); (try replace BKg20 := Aside0.mk (blk_below BKg20.out hb)); have HW := Aside0.mk ho; obtain ⟨AHW, cHW, eHW⟩ := Kd.R_slice HW.out; subst eHW; clear ho; clear hb; (try have hcg3_0 : W_.cell? ⟨g3, 0, none⟩ = some (.slice A0 l0.length c0) := (blk_cell BKg3.out 0).trans rfl); (try have hcg3_1 : W_.cell? ⟨g3, 1, none⟩ = some (.slice A1 l1.length c1) := (blk_cell BKg3.out 1).trans rfl); (try have hcg3_2 : W_.cell? ⟨g3, 2, none⟩ = some (.int .i64 wg) := (blk_cell BKg3.out 2).trans rfl); (try have hcg7_0 : W_.cell? ⟨g7, 0, none⟩ = some (.slice AX xs.length cX) := (blk_cell BKg7.out 0).trans rfl); (try have hcg7_1 : W_.cell? ⟨g7, 1, none⟩ = some (.slice A1 l1.length c1) := (blk_cell BKg7.out 1).trans rfl); (try have hcg7_2 : W_.cell? ⟨g7, 2, none⟩ = some (.int .i64 wx) := (blk_cell BKg7.out 2).trans rfl); (try have hcg18_0 : W_.cell? ⟨g18, 0, none⟩ = some (.int .i64 lo) := (blk_cell BKg18.out 0).trans rfl); (try have hcg18_1 : W_.cell? ⟨g18, 1, none⟩ = some (.int .i64 hi) := (blk_cell BKg18.out 1).trans rfl); (try have hcg20_0 : W_.cell? ⟨g20, 0, none⟩ = some (.int .i64 lo2) := (blk_cell BKg20.out 0).trans rfl); (try have hcg20_1 : W_.cell? ⟨g20, 1, none⟩ = some (.int .i64 hi2) := (blk_cell BKg20.out 1).trans rfl)) | ((with_reducible refine (whose_c _ HT.out HEX.out HSU.out).mono ?_); rintro e W_ ⟨v_, rfl, ho, hb⟩; (try clear hcg3_0 hcg3_1 hcg3_2); (try clear hcg7_0 hcg7_1 hcg7_2); (try clear hcg18_0 hcg18_1); (try clear hcg20_0 hcg20_1); (try replace HB := Aside0.mk (below_step HB.out hb)); (try replace HT := Aside0.mk (HT.out.below hb)); (try replace BKg3 := Aside0.mk (blk_below BKg3.out hb)); (try replace BKg7 := Aside0.mk (blk_below BKg7.out hb)); (try replace HX := Aside0.mk (HX.out.below hb)); (try replace HL := Aside0.mk (Kd.R_below HL.out hb)); (try replace HM := Aside0.mk (Kd.R_below HM.out hb)); (try replace HW := Aside0.mk (Kd.R_below HW.out hb)); (try replace HU := Aside0.mk (Kd.R_below HU.out hb)); (try replace BKg18 := Aside0.mk (blk_below BKg18.out hb)); (try replace BKg20 := Aside0.mk (blk_below BKg20.out hb)); have HU := Aside0.mk ho; obtain ⟨AHU, cHU, eHU⟩ := Kd.R_slice HU.out; subst eHU; clear ho; clear hb; (try have hcg3_0 : W_.cell? ⟨g3, 0, none⟩ = some (.slice A0 l0.length c0) := (blk_cell BKg3.out 0).trans rfl); (try have hcg3_1 : W_.cell? ⟨g3, 1, none⟩ = some (.slice A1 l1.length c1) := (blk_cell BKg3.out 1).trans rfl); (try have hcg3_2 : W_.cell? ⟨g3, 2, none⟩ = some (.int .i64 wg) := (blk_cell BKg3.out 2).trans rfl); (try have hcg7_0 : W_.cell? ⟨g7, 0, none⟩ = some (.slice AX xs.length cX) := (blk_cell BKg7.out 0).trans rfl); (try have hcg7_1 : W_.cell? ⟨g7, 1, none⟩ = some (.slice A1 l1.length c1) := (blk_cell BKg7.out 1).trans rfl); (try have hcg7_2 : W_.cell? ⟨g7, 2, none⟩ = some (.int .i64 wx) := (blk_cell BKg7.out 2).trans rfl); (try have hcg18_0 : W_.cell? ⟨g18, 0, none⟩ = some (.int .i64 lo) := (blk_cell BKg18.out 0).trans rfl); (try have hcg18_1 : W_.cell? ⟨g18, 1, none⟩ = some (.int .i64 hi) := (blk_cell BKg18.out 1).trans rfl); (try have hcg20_0 : W_.cell? ⟨g20, 0, none⟩ = some (.int .i64 lo2) := (blk_cell BKg20.out 0).trans rfl); (try have hcg20_1 : W_.cell? ⟨g20, 1, none⟩ = some (.int .i64 hi2) := (blk_cell BKg20.out 1).trans rfl)))) | (go_at_call 37; go_must (first | ((with_reducible refine (ast_c _ HT.out HE.out HSD.out).mono ?_); rintro e W_ ⟨rfl, hb⟩; (try clear hcg3_0 hcg3_1 hcg3_2); (try clear hcg7_0 hcg7_1 hcg7_2); (try clear hcg18_0 hcg18_1); (try clear hcg20_0 hcg20_1); (try replace HB := Aside0.mk (below_step HB.out hb)); (try replace HT := Aside0.mk (HT.out.below hb)); (try replace BKg3 := Aside0.mk (blk_below BKg3.out hb)); (try replace BKg7 := Aside0.mk (blk_below BKg7.out hb)); (try replace HX := Aside0.mk (HX.out.below hb)); (try replace HL := Aside0.mk (Kd.R_below HL.out hb)); (try replace HM := Aside0.mk (Kd.R_below HM.out hb)); (try replace HW := Aside0.mk (Kd.R_below HW.out hb)); (try replace HU := Aside0.mk (Kd.R_below HU.out hb)); (try replace BKg18 := Aside0.mk (blk_below BKg18.out hb)); (try replace BKg20 := Aside0.mk (blk_below BKg20.out hb)); skip; clear hb; (try have hcg3_0 : W_.cell? ⟨g3, 0, none⟩ = some (.slice A0 l0.length c0) := (blk_cell BKg3.out 0).trans rfl); (try have hcg3_1 : W_.cell? ⟨g3, 1, none⟩ = some (.slice A1 l1.length c1) := (blk_cell BKg3.out 1).trans rfl); (try have hcg3_2 : W_.cell? ⟨g3, 2, none⟩ = some (.int .i64 wg) := (blk_cell BKg3.out 2).trans rfl); (try have hcg7_0 : W_.cell? ⟨g7, 0, none⟩ = some (.slice AX xs.length cX) := (blk_cell BKg7.out 0).trans rfl); (try have hcg7_1 : W_.cell? ⟨g7, 1, none⟩ = some (.slice A1 l1.length c1) := (blk_cell BKg7.out 1).trans rfl); (try have hcg7_2 : W_.cell? ⟨g7, 2, none⟩ = some (.int .i64 wx) := (blk_cell BKg7.out 2).trans rfl); (try have hcg18_0 : W_.cell? ⟨g18, 0, none⟩ = some (.int .i64 lo) := (blk_cell BKg18.out 0).trans rfl); (try have hcg18_1 : W_.cell? ⟨g18, 1, none⟩ = some (.int .i64 hi) := (blk_cell BKg18.out 1).trans rfl); (try have hcg20_0 : W_.cell? ⟨g20, 0, none⟩ = some (.int .i64 lo2) := (blk_cell BKg20.out 0).trans rfl); (try have hcg20_1 : W_.cell? ⟨g20, 1, none⟩ = some (.int .i64 hi2) := (blk_cell BKg20.out 1).trans rfl)) | ((with_reducible refine (ast_c _ HT.out HEX.out HSE.out).mono ?_); rintro e W_ ⟨rfl, hb⟩; (try clear hcg3_0 hcg3_1 hcg3_2); (try clear hcg7_0 hcg7_1 hcg7_2); (try clear hcg18_0 hcg18_1); (try clear hcg20_0 hcg20_1); (try replace HB := Aside0.mk (below_step HB.out hb)); (try replace HT := Aside0.mk (HT.out.below hb)); (try replace BKg3 := Aside0.mk (blk_below BKg3.out hb)); (try replace BKg7 := Aside0.mk (blk_below BKg7.out hb)); (try replace HX := Aside0.mk (HX.out.below hb)); (try replace HL := Aside0.mk (Kd.R_below HL.out hb)); (try replace HM := Aside0.mk (Kd.R_below HM.out hb)); (try replace HW := Aside0.mk (Kd.R_below HW.out hb)); (try replace HU := Aside0.mk (Kd.R_below HU.out hb)); (try replace BKg18 := Aside0.mk (blk_below BKg18.out hb)); (try replace BKg20 := Aside0.mk (blk_below BKg20.out hb)); skip; clear hb; (try have hcg3_0 : W_.cell? ⟨g3, 0, none⟩ = some (.slice A0 l0.length c0) := (blk_cell BKg3.out 0).trans rfl); (try have hcg3_1 : W_.cell? ⟨g3, 1, none⟩ = some (.slice A1 l1.length c1) := (blk_cell BKg3.out 1).trans rfl); (try have hcg3_2 : W_.cell? ⟨g3, 2, none⟩ = some (.int .i64 wg) := (blk_cell BKg3.out 2).trans rfl); (try have hcg7_0 : W_.cell? ⟨g7, 0, none⟩ = some (.slice AX xs.length cX) := (blk_cell BKg7.out 0).trans rfl); (try have hcg7_1 : W_.cell? ⟨g7, 1, none⟩ = some (.slice A1 l1.length c1) := (blk_cell BKg7.out 1).trans rfl); (try have hcg7_2 : W_.cell? ⟨g7, 2, none⟩ = some (.int .i64 wx) := (blk_cell BKg7.out 2).trans rfl); (try have hcg18_0 : W_.cell? ⟨g18, 0, none⟩ = some (.int .i64 lo) := (blk_cell BKg18.out 0).trans rfl); (try have hcg18_1 : W_.cell? ⟨g18, 1, none⟩ = some (.int .i64 hi) := (blk_cell BKg18.out 1).trans rfl); (try have hcg20_0 : W_.cell? ⟨g20, 0, none⟩ = some (.int .i64 lo2) := (blk_cell BKg20.out 0).trans rfl); (try have hcg20_1 : W_.cell? ⟨g20, 1, none⟩ = some (.int .i64 hi2) := (blk_cell BKg20.out 1).trans rfl)))) | (go_at_call 52; go_must (first | ((with_reducible refine (posserlaw03_subsets.calls k AHW cHW ws AHU cHU us true _ (Kd.R_reads' HW.out).2.2 (Kd.R_reads' HW.out).2.1 (Kd.R_reads' HU.out).2.2 (Kd.R_reads' HU.out).2.1 HS1.out).mono ?_); rintro e Wq ⟨rfl, ⟨nd, rfl⟩⟩; have hb := pw_below_drewN (Below.refl W_.heap.size W_) nd; (try clear hcg3_0 hcg3_1 hcg3_2); (try clear hcg7_0 hcg7_1 hcg7_2); (try clear hcg18_0 hcg18_1); (try clear hcg20_0 hcg20_1); (try replace HB := Aside0.mk (below_step HB.out hb)); (try replace HT := Aside0.mk (HT.out.below hb)); (try replace BKg3 := Aside0.mk (blk_below BKg3.out hb)); (try replace BKg7 := Aside0.mk (blk_below BKg7.out hb)); (try replace HX := Aside0.mk (HX.out.below hb)); (try replace HL := Aside0.mk (Kd.R_below HL.out hb)); (try replace HM := Aside0.mk (Kd.R_below HM.out hb)); (try replace HW := Aside0.mk (Kd.R_below HW.out hb)); (try replace HU := Aside0.mk (Kd.R_below HU.out hb)); (try replace BKg18 := Aside0.mk (blk_below BKg18.out hb)); (try replace BKg20 := Aside0.mk (blk_below BKg20.out hb)); clear hb; generalize W_.drewN nd = W_ at *; (try have hcg3_0 : W_.cell? ⟨g3, 0, none⟩ = some (.slice A0 l0.length c0) := (blk_cell BKg3.out 0).trans rfl); (try have hcg3_1 : W_.cell? ⟨g3, 1, none⟩ = some (.slice A1 l1.length c1) := (blk_cell BKg3.out 1).trans rfl); (try have hcg3_2 : W_.cell? ⟨g3, 2, none⟩ = some (.int .i64 wg) := (blk_cell BKg3.out 2).trans rfl); (try have hcg7_0 : W_.cell? ⟨g7, 0, none⟩ = some (.slice AX xs.length cX) := (blk_cell BKg7.out 0).trans rfl); (try have hcg7_1 : W_.cell? ⟨g7, 1, none⟩ = some (.slice A1 l1.length c1) := (blk_cell BKg7.out 1).trans rfl); (try have hcg7_2 : W_.cell? ⟨g7, 2, none⟩ = some (.int .i64 wx) := (blk_cell BKg7.out 2).trans rfl); (try have hcg18_0 : W_.cell? ⟨g18, 0, none⟩ = some (.int .i64 lo) := (blk_cell BKg18.out 0).trans rfl); (try have hcg18_1 : W_.cell? ⟨g18, 1, none⟩ = some (.int .i64 hi) := (blk_cell BKg18.out 1).trans rfl); (try have hcg20_0 : W_.cell? ⟨g20, 0, none⟩ = some (.int .i64 lo2) := (blk_cell BKg20.out 0).trans rfl); (try have hcg20_1 : W_.cell? ⟨g20, 1, none⟩ = some (.int .i64 hi2) := (blk_cell BKg20.out 1).trans rfl)))) | (go_at_call 21; go_must (refine (awake_calls _).mono ?_; rintro e W_ ⟨rfl, hb⟩; (try clear hcg3_0 hcg3_1 hcg3_2); (try clear hcg7_0 hcg7_1 hcg7_2); (try clear hcg18_0 hcg18_1); (try clear hcg20_0 hcg20_1); (try replace HB := Aside0.mk (below_step HB.out hb)); (try replace HT := Aside0.mk (HT.out.below hb)); (try replace BKg3 := Aside0.mk (blk_below BKg3.out hb)); (try replace BKg7 := Aside0.mk (blk_below BKg7.out hb)); (try replace HX := Aside0.mk (HX.out.below hb)); (try replace HL := Aside0.mk (Kd.R_below HL.out hb)); (try replace HM := Aside0.mk (Kd.R_below HM.out hb)); (try replace HW := Aside0.mk (Kd.R_below HW.out hb)); (try replace HU := Aside0.mk (Kd.R_below HU.out hb)); (try replace BKg18 := Aside0.mk (blk_below BKg18.out hb)); (try replace BKg20 := Aside0.mk (blk_below BKg20.out hb)); skip; clear hb; (try have hcg3_0 : W_.cell? ⟨g3, 0, none⟩ = some (.slice A0 l0.length c0) := (blk_cell BKg3.out 0).trans rfl); (try have hcg3_1 : W_.cell? ⟨g3, 1, none⟩ = some (.slice A1 l1.length c1) := (blk_cell BKg3.out 1).trans rfl); (try have hcg3_2 : W_.cell? ⟨g3, 2, none⟩ = some (.int .i64 wg) := (blk_cell BKg3.out 2).trans rfl); (try have hcg7_0 : W_.cell? ⟨g7, 0, none⟩ = some (.slice AX xs.length cX) := (blk_cell BKg7.out 0).trans rfl); (try have hcg7_1 : W_.cell? ⟨g7, 1, none⟩ = some (.slice A1 l1.length c1) := (blk_cell BKg7.out 1).trans rfl); (try have hcg7_2 : W_.cell? ⟨g7, 2, none⟩ = some (.int .i64 wx) := (blk_cell BKg7.out 2).trans rfl); (try have hcg18_0 : W_.cell? ⟨g18, 0, none⟩ = some (.int .i64 lo) := (blk_cell BKg18.out 0).trans rfl); (try have hcg18_1 : W_.cell? ⟨g18, 1, none⟩ = some (.int .i64 hi) := (blk_cell BKg18.out 1).trans rfl); (try have hcg20_0 : W_.cell? ⟨g20, 0, none⟩ = some (.int .i64 lo2) := (blk_cell BKg20.out 0).trans rfl); (try have hcg20_1 : W_.cell? ⟨g20, 1, none⟩ = some (.int .i64 hi2) := (blk_cell BKg20.out 1).trans rfl))))
    go_ret
    exact ⟨rfl, HB.out⟩
  rotate_left
  focus
    have HE := Aside0.mk he
    have HEX := Aside0.mk hex
    have HSW := Aside0.mk hw
    have HSU := Aside0.mk hu
    have HSD := Aside0.mk hd
    have HSE := Aside0.mk hd2
    have HS1 := Aside0.mk hs1
    have j1 := decide_eq_true i1
    have j2 := decide_eq_true i2
    clear he hex hw hu hd hd2 hs1
    go_wp2_with (first | (go_at_call 23; go_must (first | ((with_reducible refine (tab_c _ (HRT.out.below HB.out) HL0.out HL1.out).mono ?_); rintro e W_ ⟨B0, d0, B1, d1, rfl, ht, hb⟩; (try clear hcg3_0 hcg3_1 hcg3_2); (try clear hcg7_0 hcg7_1 hcg7_2); (try replace HB := Aside0.mk (below_step HB.out hb)); (try replace HT := Aside0.mk (HT.out.below hb)); (try replace BKg3 := Aside0.mk (blk_below BKg3.out hb)); (try replace BKg7 := Aside0.mk (blk_below BKg7.out hb)); (try replace HX := Aside0.mk (HX.out.below hb)); (try replace HL := Aside0.mk (Kd.R_below HL.out hb)); (try replace HM := Aside0.mk (Kd.R_below HM.out hb)); (try replace HW := Aside0.mk (Kd.R_below HW.out hb)); (try replace HU := Aside0.mk (Kd.R_below HU.out hb)); (try replace BKg18 := Aside0.mk (blk_below BKg18.out hb)); (try replace BKg20 := Aside0.mk (blk_below BKg20.out hb)); (try clear HT); have HT := Aside0.mk ht; clear ht; clear hb; (try have hcg3_0 : W_.cell? ⟨g3, 0, none⟩ = some (.slice A0 l0.length c0) := (blk_cell BKg3.out 0).trans rfl); (try have hcg3_1 : W_.cell? ⟨g3, 1, none⟩ = some (.slice A1 l1.length c1) := (blk_cell BKg3.out 1).trans rfl); (try have hcg3_2 : W_.cell? ⟨g3, 2, none⟩ = some (.int .i64 wg) := (blk_cell BKg3.out 2).trans rfl); (try have hcg7_0 : W_.cell? ⟨g7, 0, none⟩ = some (.slice AX xs.length cX) := (blk_cell BKg7.out 0).trans rfl); (try have hcg7_1 : W_.cell? ⟨g7, 1, none⟩ = some (.slice A1 l1.length c1) := (blk_cell BKg7.out 1).trans rfl); (try have hcg7_2 : W_.cell? ⟨g7, 2, none⟩ = some (.int .i64 wx) := (blk_cell BKg7.out 2).trans rfl)) | ((with_reducible refine (tab_c _ (rtabW HRT.out HB.out HX.out HX30.out) HLX.out HL1.out).mono ?_); rintro e W_ ⟨B0, d0, B1, d1, rfl, ht, hb⟩; (try clear hcg3_0 hcg3_1 hcg3_2); (try clear hcg7_0 hcg7_1 hcg7_2); (try replace HB := Aside0.mk (below_step HB.out hb)); (try replace HT := Aside0.mk (HT.out.below hb)); (try replace BKg3 := Aside0.mk (blk_below BKg3.out hb)); (try replace BKg7 := Aside0.mk (blk_below BKg7.out hb)); (try replace HX := Aside0.mk (HX.out.below hb)); (try replace HL := Aside0.mk (Kd.R_below HL.out hb)); (try replace HM := Aside0.mk (Kd.R_below HM.out hb)); (try replace HW := Aside0.mk (Kd.R_below HW.out hb)); (try replace HU := Aside0.mk (Kd.R_below HU.out hb)); (try replace BKg18 := Aside0.mk (blk_below BKg18.out hb)); (try replace BKg20 := Aside0.mk (blk_below BKg20.out hb)); (try clear HT); have HT := Aside0.mk ht; clear ht; clear hb; (try have hcg3_0 : W_.cell? ⟨g3, 0, none⟩ = some (.slice A0 l0.length c0) := (blk_cell BKg3.out 0).trans rfl); (try have hcg3_1 : W_.cell? ⟨g3, 1, none⟩ = some (.slice A1 l1.length c1) := (blk_cell BKg3.out 1).trans rfl); (try have hcg3_2 : W_.cell? ⟨g3, 2, none⟩ = some (.int .i64 wg) := (blk_cell BKg3.out 2).trans rfl); (try have hcg7_0 : W_.cell? ⟨g7, 0, none⟩ = some (.slice AX xs.length cX) := (blk_cell BKg7.out 0).trans rfl); (try have hcg7_1 : W_.cell? ⟨g7, 1, none⟩ = some (.slice A1 l1.length c1) := (blk_cell BKg7.out 1).trans rfl); (try have hcg7_2 : W_.cell? ⟨g7, 2, none⟩ = some (.int .i64 wx) := (blk_cell BKg7.out 2).trans rfl)))) | (go_at_call 32; go_must (first | ((with_reducible refine (leave_c _ HT.out HCK.out HSL.out).mono ?_); rintro e W_ ⟨v_, rfl, ho, hb⟩; (try clear hcg3_0 hcg3_1 hcg3_2); (try clear hcg7_0 hcg7_1 hcg7_2); (try replace HB := Aside0.mk (below_step HB.out hb)); (try replace HT := Aside0.mk (HT.out.below hb)); (try replace BKg3 := Aside0.mk (blk_below BKg3.out hb)); (try replace BKg7 := Aside0.mk (blk_below BKg7.out hb)); (try replace HX := Aside0.mk (HX.out.below hb)); (try replace HL := Aside0.mk (Kd.R_below HL.out hb)); (try replace HM := Aside0.mk (Kd.R_below HM.out hb)); (try replace HW := Aside0.mk (Kd.R_below HW.out hb)); (try replace HU := Aside0.mk (Kd.R_below HU.out hb)); (try replace BKg18 := Aside0.mk (blk_below BKg18.out hb)); (try replace BKg20 := Aside0.mk (blk_below BKg20.out hb)); have HL := Aside0.mk ho; obtain ⟨AHL, cHL, eHL⟩ := Kd.R_slice HL.out; subst eHL; clear ho; clear hb; (try have hcg3_0 : W_.cell? ⟨g3, 0, none⟩ = some (.slice A0 l0.length c0) := (blk_cell BKg3.out 0).trans rfl); (try have hcg3_1 : W_.cell? ⟨g3, 1, none⟩ = some (.slice A1 l1.length c1) := (blk_cell BKg3.out 1).trans rfl); (try have hcg3_2 : W_.cell? ⟨g3, 2, none⟩ = some (.int .i64 wg) := (blk_cell BKg3.out 2).trans rfl); (try have hcg7_0 : W_.cell? ⟨g7, 0, none⟩ = some (.slice AX xs.length cX) := (blk_cell BKg7.out 0).trans rfl); (try have hcg7_1 : W_.cell? ⟨g7, 1, none⟩ = some (.slice A1 l1.length c1) := (blk_cell BKg7.out 1).trans rfl); (try have hcg7_2 : W_.cell? ⟨g7, 2, none⟩ = some (.int .i64 wx) := (blk_cell BKg7.out 2).trans rfl)) | ((with_reducible refine (leave_c _ HT.out HCX.out HSM.out).mono ?_); rintro e W_ ⟨v_, rfl, ho, hb⟩; (try clear hcg3_0 hcg3_1 hcg3_2); (try clear hcg7_0 hcg7_1 hcg7_2); (try replace HB := Aside0.mk (below_step HB.out hb)); (try replace HT := Aside0.mk (HT.out.below hb)); (try replace BKg3 := Aside0.mk (blk_below BKg3.out hb)); (try replace BKg7 := Aside0.mk (blk_below BKg7.out hb)); (try replace HX := Aside0.mk (HX.out.below hb)); (try replace HL := Aside0.mk (Kd.R_below HL.out hb)); (try replace HM := Aside0.mk (Kd.R_below HM.out hb)); (try replace HW := Aside0.mk (Kd.R_below HW.out hb)); (try replace HU := Aside0.mk (Kd.R_below HU.out hb)); (try replace BKg18 := Aside0.mk (blk_below BKg18.out hb)); (try replace BKg20 := Aside0.mk (blk_below BKg20.out hb)); have HM := Aside0.mk ho; obtain ⟨AHM, cHM, eHM⟩ := Kd.R_slice HM.out; subst eHM; clear ho; clear hb; (try have hcg3_0 : W_.cell? ⟨g3, 0, none⟩ = some (.slice A0 l0.length c0) := (blk_cell BKg3.out 0).trans rfl); (try have hcg3_1 : W_.cell? ⟨g3, 1, none⟩ = some (.slice A1 l1.length c1) := (blk_cell BKg3.out 1).trans rfl); (try have hcg3_2 : W_.cell? ⟨g3, 2, none⟩ = some (.int .i64 wg) := (blk_cell BKg3.out 2).trans rfl); (try have hcg7_0 : W_.cell? ⟨g7, 0, none⟩ = some (.slice AX xs.length cX) := (blk_cell BKg7.out 0).trans rfl); (try have hcg7_1 : W_.cell? ⟨g7, 1, none⟩ = some (.slice A1 l1.length c1) := (blk_cell BKg7.out 1).trans rfl); (try have hcg7_2 : W_.cell? ⟨g7, 2, none⟩ = some (.int .i64 wx) := (blk_cell BKg7.out 2).trans rfl)))) | ((with_reducible refine gate_dst (N := 18) rfl ?_); refine box_event ?hg (N := 18) ?hd (cs := #[.int .i64 0, .int .i64 0]) (t := 55) ?hr ?_; (case hd => rfl); (case hg => rfl); (case hr => first | (go_simp; done) | (go_simp; rfl)); intro g18 hg W_ hbox hb; (try have NEg20_g18 := Aside0.mk (show g20 < g18 from by rw [hg]; exact blk_lt BKg20.out)); have GEg18 := Aside0.mk (by rw [hg]; exact HB.out.size : w.heap.size ≤ g18); (try clear hcg3_0 hcg3_1 hcg3_2); (try clear hcg7_0 hcg7_1 hcg7_2); (try clear hcg18_0 hcg18_1); (try replace HB := Aside0.mk (below_step HB.out hb)); (try replace HT := Aside0.mk (HT.out.below hb)); (try replace BKg3 := Aside0.mk (blk_below BKg3.out hb)); (try replace BKg7 := Aside0.mk (blk_below BKg7.out hb)); (try replace HX := Aside0.mk (HX.out.below hb)); (try replace HL := Aside0.mk (Kd.R_below HL.out hb)); (try replace HM := Aside0.mk (Kd.R_below HM.out hb)); (try replace HW := Aside0.mk (Kd.R_below HW.out hb)); (try replace HU := Aside0.mk (Kd.R_below HU.out hb)); (try replace BKg18 := Aside0.mk (blk_below BKg18.out hb)); (try replace BKg20 := Aside0.mk (blk_below BKg20.out hb)); have BKg18 := Aside0.mk hbox; clear hb hbox hg; (try have hcg3_0 : W_.cell? ⟨g3, 0, none⟩ = some (.slice A0 l0.length c0) := (blk_cell BKg3.out 0).trans rfl); (try have hcg3_1 : W_.cell? ⟨g3, 1, none⟩ = some (.slice A1 l1.length c1) := (blk_cell BKg3.out 1).trans rfl); (try have hcg3_2 : W_.cell? ⟨g3, 2, none⟩ = some (.int .i64 wg) := (blk_cell BKg3.out 2).trans rfl); (try have hcg7_0 : W_.cell? ⟨g7, 0, none⟩ = some (.slice AX xs.length cX) := (blk_cell BKg7.out 0).trans rfl); (try have hcg7_1 : W_.cell? ⟨g7, 1, none⟩ = some (.slice A1 l1.length c1) := (blk_cell BKg7.out 1).trans rfl); (try have hcg7_2 : W_.cell? ⟨g7, 2, none⟩ = some (.int .i64 wx) := (blk_cell BKg7.out 2).trans rfl); (try have hcg18_0 : W_.cell? ⟨g18, 0, none⟩ = some (.int .i64 0) := (blk_cell BKg18.out 0).trans rfl); (try have hcg18_1 : W_.cell? ⟨g18, 1, none⟩ = some (.int .i64 0) := (blk_cell BKg18.out 1).trans rfl)) | ((with_reducible refine gate_store (t := 55) (p := 18) rfl ?_); go_must (refine wpList_store_row rfl 55 _ _ rfl g18 #[.int .i64 lo, .int .i64 hi] rfl rfl 55 (#[.int .i64 0, .int .i64 0]) BKg18.out rfl rfl (by simp [Value.oneCell']) ?_; (try clear hcg3_0 hcg3_1 hcg3_2); (try clear hcg7_0 hcg7_1 hcg7_2); (try clear hcg18_0 hcg18_1); (try clear HT); (try replace BKg3 := Aside0.mk (blk_setRow BKg3.out BKg18.out (by decide) (#[.int .i64 lo, .int .i64 hi]))); (try replace BKg7 := Aside0.mk (blk_setRow BKg7.out BKg18.out (by decide) (#[.int .i64 lo, .int .i64 hi]))); (try replace HX := Aside0.mk (RX.setRow (us := #[.int .i64 lo, .int .i64 hi]) HX.out BKg18.out (by decide))); (try replace HL := Aside0.mk (row_setRow HL.out BKg18.out (by decide) (#[.int .i64 lo, .int .i64 hi]))); (try replace HM := Aside0.mk (row_setRow HM.out BKg18.out (by decide) (#[.int .i64 lo, .int .i64 hi]))); (try replace HW := Aside0.mk (row_setRow HW.out BKg18.out (by decide) (#[.int .i64 lo, .int .i64 hi]))); (try replace HU := Aside0.mk (row_setRow HU.out BKg18.out (by decide) (#[.int .i64 lo, .int .i64 hi]))); (try replace BKg20 := Aside0.mk ((setRow_other W_ g18 g20 (#[.int .i64 lo, .int .i64 hi]) (by first | exact Nat.ne_of_lt NEg20_g18.out | exact Nat.ne_of_gt NEg18_g20.out)).trans BKg20.out)); replace HB := Aside0.mk (below_setRow HB.out GEg18.out (#[.int .i64 lo, .int .i64 hi])); replace BKg18 := Aside0.mk (setRow_heap W_ g18 _ (#[.int .i64 lo, .int .i64 hi]) _ _ BKg18.out); generalize W_.setRow g18 (#[.int .i64 lo, .int .i64 hi]) = W_ at *; (try have hcg3_0 : W_.cell? ⟨g3, 0, none⟩ = some (.slice A0 l0.length c0) := (blk_cell BKg3.out 0).trans rfl); (try have hcg3_1 : W_.cell? ⟨g3, 1, none⟩ = some (.slice A1 l1.length c1) := (blk_cell BKg3.out 1).trans rfl); (try have hcg3_2 : W_.cell? ⟨g3, 2, none⟩ = some (.int .i64 wg) := (blk_cell BKg3.out 2).trans rfl); (try have hcg7_0 : W_.cell? ⟨g7, 0, none⟩ = some (.slice AX xs.length cX) := (blk_cell BKg7.out 0).trans rfl); (try have hcg7_1 : W_.cell? ⟨g7, 1, none⟩ = some (.slice A1 l1.length c1) := (blk_cell BKg7.out 1).trans rfl); (try have hcg7_2 : W_.cell? ⟨g7, 2, none⟩ = some (.int .i64 wx) := (blk_cell BKg7.out 2).trans rfl); (try have hcg18_0 : W_.cell? ⟨g18, 0, none⟩ = some (.int .i64 lo) := (blk_cell BKg18.out 0).trans rfl); (try have hcg18_1 : W_.cell? ⟨g18, 1, none⟩ = some (.int .i64 hi) := (blk_cell BKg18.out 1).trans rfl))) | ((with_reducible refine gate_dst (N := 20) rfl ?_); refine box_event ?hg (N := 20) ?hd (cs := #[.int .i64 0, .int .i64 0]) (t := 55) ?hr ?_; (case hd => rfl); (case hg => rfl); (case hr => first | (go_simp; done) | (go_simp; rfl)); intro g20 hg W_ hbox hb; (try have NEg18_g20 := Aside0.mk (show g18 < g20 from by rw [hg]; exact blk_lt BKg18.out)); have GEg20 := Aside0.mk (by rw [hg]; exact HB.out.size : w.heap.size ≤ g20); (try clear hcg3_0 hcg3_1 hcg3_2); (try clear hcg7_0 hcg7_1 hcg7_2); (try clear hcg18_0 hcg18_1); (try clear hcg20_0 hcg20_1); (try replace HB := Aside0.mk (below_step HB.out hb)); (try replace HT := Aside0.mk (HT.out.below hb)); (try replace BKg3 := Aside0.mk (blk_below BKg3.out hb)); (try replace BKg7 := Aside0.mk (blk_below BKg7.out hb)); (try replace HX := Aside0.mk (HX.out.below hb)); (try replace HL := Aside0.mk (Kd.R_below HL.out hb)); (try replace HM := Aside0.mk (Kd.R_below HM.out hb)); (try replace HW := Aside0.mk (Kd.R_below HW.out hb)); (try replace HU := Aside0.mk (Kd.R_below HU.out hb)); (try replace BKg18 := Aside0.mk (blk_below BKg18.out hb)); (try replace BKg20 := Aside0.mk (blk_below BKg20.out hb)); have BKg20 := Aside0.mk hbox; clear hb hbox hg; (try have hcg3_0 : W_.cell? ⟨g3, 0, none⟩ = some (.slice A0 l0.length c0) := (blk_cell BKg3.out 0).trans rfl); (try have hcg3_1 : W_.cell? ⟨g3, 1, none⟩ = some (.slice A1 l1.length c1) := (blk_cell BKg3.out 1).trans rfl); (try have hcg3_2 : W_.cell? ⟨g3, 2, none⟩ = some (.int .i64 wg) := (blk_cell BKg3.out 2).trans rfl); (try have hcg7_0 : W_.cell? ⟨g7, 0, none⟩ = some (.slice AX xs.length cX) := (blk_cell BKg7.out 0).trans rfl); (try have hcg7_1 : W_.cell? ⟨g7, 1, none⟩ = some (.slice A1 l1.length c1) := (blk_cell BKg7.out 1).trans rfl); (try have hcg7_2 : W_.cell? ⟨g7, 2, none⟩ = some (.int .i64 wx) := (blk_cell BKg7.out 2).trans rfl); (try have hcg18_0 : W_.cell? ⟨g18, 0, none⟩ = some (.int .i64 lo) := (blk_cell BKg18.out 0).trans rfl); (try have hcg18_1 : W_.cell? ⟨g18, 1, none⟩ = some (.int .i64 hi) := (blk_cell BKg18.out 1).trans rfl); (try have hcg20_0 : W_.cell? ⟨g20, 0, none⟩ = some (.int .i64 0) := (blk_cell BKg20.out 0).trans rfl); (try have hcg20_1 : W_.cell? ⟨g20, 1, none⟩ = some (.int .i64 0) := (blk_cell BKg20.out 1).trans rfl)) | ((with_reducible refine gate_store (t := 55) (p := 20) rfl ?_); go_must (refine wpList_store_row rfl 55 _ _ rfl g20 #[.int .i64 lo2, .int .i64 hi2] rfl rfl 55 (#[.int .i64 0, .int .i64 0]) BKg20.out rfl rfl (by simp [Value.oneCell']) ?_; (try clear hcg3_0 hcg3_1 hcg3_2); (try clear hcg7_0 hcg7_1 hcg7_2); (try clear hcg18_0 hcg18_1); (try clear hcg20_0 hcg20_1); (try clear HT); (try replace BKg3 := Aside0.mk (blk_setRow BKg3.out BKg20.out (by decide) (#[.int .i64 lo2, .int .i64 hi2]))); (try replace BKg7 := Aside0.mk (blk_setRow BKg7.out BKg20.out (by decide) (#[.int .i64 lo2, .int .i64 hi2]))); (try replace HX := Aside0.mk (RX.setRow (us := #[.int .i64 lo2, .int .i64 hi2]) HX.out BKg20.out (by decide))); (try replace HL := Aside0.mk (row_setRow HL.out BKg20.out (by decide) (#[.int .i64 lo2, .int .i64 hi2]))); (try replace HM := Aside0.mk (row_setRow HM.out BKg20.out (by decide) (#[.int .i64 lo2, .int .i64 hi2]))); (try replace HW := Aside0.mk (row_setRow HW.out BKg20.out (by decide) (#[.int .i64 lo2, .int .i64 hi2]))); (try replace HU := Aside0.mk (row_setRow HU.out BKg20.out (by decide) (#[.int .i64 lo2, .int .i64 hi2]))); (try replace BKg18 := Aside0.mk ((setRow_other W_ g20 g18 (#[.int .i64 lo2, .int .i64 hi2]) (by first | exact Nat.ne_of_lt NEg18_g20.out | exact Nat.ne_of_gt NEg20_g18.out)).trans BKg18.out)); replace HB := Aside0.mk (below_setRow HB.out GEg20.out (#[.int .i64 lo2, .int .i64 hi2])); replace BKg20 := Aside0.mk (setRow_heap W_ g20 _ (#[.int .i64 lo2, .int .i64 hi2]) _ _ BKg20.out); generalize W_.setRow g20 (#[.int .i64 lo2, .int .i64 hi2]) = W_ at *; (try have hcg3_0 : W_.cell? ⟨g3, 0, none⟩ = some (.slice A0 l0.length c0) := (blk_cell BKg3.out 0).trans rfl); (try have hcg3_1 : W_.cell? ⟨g3, 1, none⟩ = some (.slice A1 l1.length c1) := (blk_cell BKg3.out 1).trans rfl); (try have hcg3_2 : W_.cell? ⟨g3, 2, none⟩ = some (.int .i64 wg) := (blk_cell BKg3.out 2).trans rfl); (try have hcg7_0 : W_.cell? ⟨g7, 0, none⟩ = some (.slice AX xs.length cX) := (blk_cell BKg7.out 0).trans rfl); (try have hcg7_1 : W_.cell? ⟨g7, 1, none⟩ = some (.slice A1 l1.length c1) := (blk_cell BKg7.out 1).trans rfl); (try have hcg7_2 : W_.cell? ⟨g7, 2, none⟩ = some (.int .i64 wx) := (blk_cell BKg7.out 2).trans rfl); (try have hcg18_0 : W_.cell? ⟨g18, 0, none⟩ = some (.int .i64 lo) := (blk_cell BKg18.out 0).trans rfl); (try have hcg18_1 : W_.cell? ⟨g18, 1, none⟩ = some (.int .i64 hi) := (blk_cell BKg18.out 1).trans rfl); (try have hcg20_0 : W_.cell? ⟨g20, 0, none⟩ = some (.int .i64 lo2) := (blk_cell BKg20.out 0).trans rfl); (try have hcg20_1 : W_.cell? ⟨g20, 1, none⟩ = some (.int .i64 hi2) := (blk_cell BKg20.out 1).trans rfl))) | (go_at_call 22; go_must (first | ((with_reducible refine (whose_c _ HT.out HE.out HSW.out).mono ?_); rintro e W_ ⟨v_, rfl, ho, hb⟩; (try clear hcg3_0 hcg3_1 hcg3_2); (try clear hcg7_0 hcg7_1 hcg7_2); (try clear hcg18_0 hcg18_1); (try clear hcg20_0 hcg20_1); (try replace HB := Aside0.mk (below_step HB.out hb)); (try replace HT := Aside0.mk (HT.out.below hb)); (try replace BKg3 := Aside0.mk (blk_below BKg3.out hb)); (try replace BKg7 := Aside0.mk (blk_below BKg7.out hb)); (try replace HX := Aside0.mk (HX.out.below hb)); (try replace HL := Aside0.mk (Kd.R_below HL.out hb)); (try replace HM := Aside0.mk (Kd.R_below HM.out hb)); (try replace HW := Aside0.mk (Kd.R_below HW.out hb)); (try replace HU := Aside0.mk (Kd.R_below HU.out hb)); (try replace BKg18 := Aside0.mk (blk_below BKg18.out hb)); (try replace BKg20 := Aside0.mk (blk_below BKg20.out hb)); have HW := Aside0.mk ho; obtain ⟨AHW, cHW, eHW⟩ := Kd.R_slice HW.out; subst eHW; clear ho; clear hb; (try have hcg3_0 : W_.cell? ⟨g3, 0, none⟩ = some (.slice A0 l0.length c0) := (blk_cell BKg3.out 0).trans rfl); (try have hcg3_1 : W_.cell? ⟨g3, 1, none⟩ = some (.slice A1 l1.length c1) := (blk_cell BKg3.out 1).trans rfl); (try have hcg3_2 : W_.cell? ⟨g3, 2, none⟩ = some (.int .i64 wg) := (blk_cell BKg3.out 2).trans rfl); (try have hcg7_0 : W_.cell? ⟨g7, 0, none⟩ = some (.slice AX xs.length cX) := (blk_cell BKg7.out 0).trans rfl); (try have hcg7_1 : W_.cell? ⟨g7, 1, none⟩ = some (.slice A1 l1.length c1) := (blk_cell BKg7.out 1).trans rfl); (try have hcg7_2 : W_.cell? ⟨g7, 2, none⟩ = some (.int .i64 wx) := (blk_cell BKg7.out 2).trans rfl); (try have hcg18_0 : W_.cell? ⟨g18, 0, none⟩ = some (.int .i64 lo) := (blk_cell BKg18.out 0).trans rfl); (try have hcg18_1 : W_.cell? ⟨g18, 1, none⟩ = some (.int .i64 hi) := (blk_cell BKg18.out 1).trans rfl); (try have hcg20_0 : W_.cell? ⟨g20, 0, none⟩ = some (.int .i64 lo2) := (blk_cell BKg20.out 0).trans rfl); (try have hcg20_1 : W_.cell? ⟨g20, 1, none⟩ = some (.int .i64 hi2) := (blk_cell BKg20.out 1).trans rfl)) | ((with_reducible refine (whose_c _ HT.out HEX.out HSU.out).mono ?_); rintro e W_ ⟨v_, rfl, ho, hb⟩; (try clear hcg3_0 hcg3_1 hcg3_2); (try clear hcg7_0 hcg7_1 hcg7_2); (try clear hcg18_0 hcg18_1); (try clear hcg20_0 hcg20_1); (try replace HB := Aside0.mk (below_step HB.out hb)); (try replace HT := Aside0.mk (HT.out.below hb)); (try replace BKg3 := Aside0.mk (blk_below BKg3.out hb)); (try replace BKg7 := Aside0.mk (blk_below BKg7.out hb)); (try replace HX := Aside0.mk (HX.out.below hb)); (try replace HL := Aside0.mk (Kd.R_below HL.out hb)); (try replace HM := Aside0.mk (Kd.R_below HM.out hb)); (try replace HW := Aside0.mk (Kd.R_below HW.out hb)); (try replace HU := Aside0.mk (Kd.R_below HU.out hb)); (try replace BKg18 := Aside0.mk (blk_below BKg18.out hb)); (try replace BKg20 := Aside0.mk (blk_below BKg20.out hb)); have HU := Aside0.mk ho; obtain ⟨AHU, cHU, eHU⟩ := Kd.R_slice HU.out; subst eHU; clear ho; clear hb; (try have hcg3_0 : W_.cell? ⟨g3, 0, none⟩ = some (.slice A0 l0.length c0) := (blk_cell BKg3.out 0).trans rfl); (try have hcg3_1 : W_.cell? ⟨g3, 1, none⟩ = some (.slice A1 l1.length c1) := (blk_cell BKg3.out 1).trans rfl); (try have hcg3_2 : W_.cell? ⟨g3, 2, none⟩ = some (.int .i64 wg) := (blk_cell BKg3.out 2).trans rfl); (try have hcg7_0 : W_.cell? ⟨g7, 0, none⟩ = some (.slice AX xs.length cX) := (blk_cell BKg7.out 0).trans rfl); (try have hcg7_1 : W_.cell? ⟨g7, 1, none⟩ = some (.slice A1 l1.length c1) := (blk_cell BKg7.out 1).trans rfl); (try have hcg7_2 : W_.cell? ⟨g7, 2, none⟩ = some (.int .i64 wx) := (blk_cell BKg7.out 2).trans rfl); (try have hcg18_0 : W_.cell? ⟨g18, 0, none⟩ = some (.int .i64 lo) := (blk_cell BKg18.out 0).trans rfl); (try have hcg18_1 : W_.cell? ⟨g18, 1, none⟩ = some (.int .i64 hi) := (blk_cell BKg18.out 1).trans rfl); (try have hcg20_0 : W_.cell? ⟨g20, 0, none⟩ = some (.int .i64 lo2) := (blk_cell BKg20.out 0).trans rfl); (try have hcg20_1 : W_.cell? ⟨g20, 1, none⟩ = some (.int .i64 hi2) := (blk_cell BKg20.out 1).trans rfl)))) | (go_at_call 37; go_must (first | ((with_reducible refine (ast_c _ HT.out HE.out HSD.out).mono ?_); rintro e W_ ⟨rfl, hb⟩; (try clear hcg3_0 hcg3_1 hcg3_2); (try clear hcg7_0 hcg7_1 hcg7_2); (try clear hcg18_0 hcg18_1); (try clear hcg20_0 hcg20_1); (try replace HB := Aside0.mk (below_step HB.out hb)); (try replace HT := Aside0.mk (HT.out.below hb)); (try replace BKg3 := Aside0.mk (blk_below BKg3.out hb)); (try replace BKg7 := Aside0.mk (blk_below BKg7.out hb)); (try replace HX := Aside0.mk (HX.out.below hb)); (try replace HL := Aside0.mk (Kd.R_below HL.out hb)); (try replace HM := Aside0.mk (Kd.R_below HM.out hb)); (try replace HW := Aside0.mk (Kd.R_below HW.out hb)); (try replace HU := Aside0.mk (Kd.R_below HU.out hb)); (try replace BKg18 := Aside0.mk (blk_below BKg18.out hb)); (try replace BKg20 := Aside0.mk (blk_below BKg20.out hb)); skip; clear hb; (try have hcg3_0 : W_.cell? ⟨g3, 0, none⟩ = some (.slice A0 l0.length c0) := (blk_cell BKg3.out 0).trans rfl); (try have hcg3_1 : W_.cell? ⟨g3, 1, none⟩ = some (.slice A1 l1.length c1) := (blk_cell BKg3.out 1).trans rfl); (try have hcg3_2 : W_.cell? ⟨g3, 2, none⟩ = some (.int .i64 wg) := (blk_cell BKg3.out 2).trans rfl); (try have hcg7_0 : W_.cell? ⟨g7, 0, none⟩ = some (.slice AX xs.length cX) := (blk_cell BKg7.out 0).trans rfl); (try have hcg7_1 : W_.cell? ⟨g7, 1, none⟩ = some (.slice A1 l1.length c1) := (blk_cell BKg7.out 1).trans rfl); (try have hcg7_2 : W_.cell? ⟨g7, 2, none⟩ = some (.int .i64 wx) := (blk_cell BKg7.out 2).trans rfl); (try have hcg18_0 : W_.cell? ⟨g18, 0, none⟩ = some (.int .i64 lo) := (blk_cell BKg18.out 0).trans rfl); (try have hcg18_1 : W_.cell? ⟨g18, 1, none⟩ = some (.int .i64 hi) := (blk_cell BKg18.out 1).trans rfl); (try have hcg20_0 : W_.cell? ⟨g20, 0, none⟩ = some (.int .i64 lo2) := (blk_cell BKg20.out 0).trans rfl); (try have hcg20_1 : W_.cell? ⟨g20, 1, none⟩ = some (.int .i64 hi2) := (blk_cell BKg20.out 1).trans rfl)) | ((with_reducible refine (ast_c _ HT.out HEX.out HSE.out).mono ?_); rintro e W_ ⟨rfl, hb⟩; (try clear hcg3_0 hcg3_1 hcg3_2); (try clear hcg7_0 hcg7_1 hcg7_2); (try clear hcg18_0 hcg18_1); (try clear hcg20_0 hcg20_1); (try replace HB := Aside0.mk (below_step HB.out hb)); (try replace HT := Aside0.mk (HT.out.below hb)); (try replace BKg3 := Aside0.mk (blk_below BKg3.out hb)); (try replace BKg7 := Aside0.mk (blk_below BKg7.out hb)); (try replace HX := Aside0.mk (HX.out.below hb)); (try replace HL := Aside0.mk (Kd.R_below HL.out hb)); (try replace HM := Aside0.mk (Kd.R_below HM.out hb)); (try replace HW := Aside0.mk (Kd.R_below HW.out hb)); (try replace HU := Aside0.mk (Kd.R_below HU.out hb)); (try replace BKg18 := Aside0.mk (blk_below BKg18.out hb)); (try replace BKg20 := Aside0.mk (blk_below BKg20.out hb)); skip; clear hb; (try have hcg3_0 : W_.cell? ⟨g3, 0, none⟩ = some (.slice A0 l0.length c0) := (blk_cell BKg3.out 0).trans rfl); (try have hcg3_1 : W_.cell? ⟨g3, 1, none⟩ = some (.slice A1 l1.length c1) := (blk_cell BKg3.out 1).trans rfl); (try have hcg3_2 : W_.cell? ⟨g3, 2, none⟩ = some (.int .i64 wg) := (blk_cell BKg3.out 2).trans rfl); (try have hcg7_0 : W_.cell? ⟨g7, 0, none⟩ = some (.slice AX xs.length cX) := (blk_cell BKg7.out 0).trans rfl); (try have hcg7_1 : W_.cell? ⟨g7, 1, none⟩ = some (.slice A1 l1.length c1) := (blk_cell BKg7.out 1).trans rfl); (try have hcg7_2 : W_.cell? ⟨g7, 2, none⟩ = some (.int .i64 wx) := (blk_cell BKg7.out 2).trans rfl); (try have hcg18_0 : W_.cell? ⟨g18, 0, none⟩ = some (.int .i64 lo) := (blk_cell BKg18.out 0).trans rfl); (try have hcg18_1 : W_.cell? ⟨g18, 1, none⟩ = some (.int .i64 hi) := (blk_cell BKg18.out 1).trans rfl); (try have hcg20_0 : W_.cell? ⟨g20, 0, none⟩ = some (.int .i64 lo2) := (blk_cell BKg20.out 0).trans rfl); (try have hcg20_1 : W_.cell? ⟨g20, 1, none⟩ = some (.int .i64 hi2) := (blk_cell BKg20.out 1).trans rfl)))) | (go_at_call 52; go_must (first | ((with_reducible refine (posserlaw03_subsets.calls k AHW cHW ws AHU cHU us true _ (Kd.R_reads' HW.out).2.2 (Kd.R_reads' HW.out).2.1 (Kd.R_reads' HU.out).2.2 (Kd.R_reads' HU.out).2.1 HS1.out).mono ?_); rintro e Wq ⟨rfl, ⟨nd, rfl⟩⟩; have hb := pw_below_drewN (Below.refl W_.heap.size W_) nd; (try clear hcg3_0 hcg3_1 hcg3_2); (try clear hcg7_0 hcg7_1 hcg7_2); (try clear hcg18_0 hcg18_1); (try clear hcg20_0 hcg20_1); (try replace HB := Aside0.mk (below_step HB.out hb)); (try replace HT := Aside0.mk (HT.out.below hb)); (try replace BKg3 := Aside0.mk (blk_below BKg3.out hb)); (try replace BKg7 := Aside0.mk (blk_below BKg7.out hb)); (try replace HX := Aside0.mk (HX.out.below hb)); (try replace HL := Aside0.mk (Kd.R_below HL.out hb)); (try replace HM := Aside0.mk (Kd.R_below HM.out hb)); (try replace HW := Aside0.mk (Kd.R_below HW.out hb)); (try replace HU := Aside0.mk (Kd.R_below HU.out hb)); (try replace BKg18 := Aside0.mk (blk_below BKg18.out hb)); (try replace BKg20 := Aside0.mk (blk_below BKg20.out hb)); clear hb; generalize W_.drewN nd = W_ at *; (try have hcg3_0 : W_.cell? ⟨g3, 0, none⟩ = some (.slice A0 l0.length c0) := (blk_cell BKg3.out 0).trans rfl); (try have hcg3_1 : W_.cell? ⟨g3, 1, none⟩ = some (.slice A1 l1.length c1) := (blk_cell BKg3.out 1).trans rfl); (try have hcg3_2 : W_.cell? ⟨g3, 2, none⟩ = some (.int .i64 wg) := (blk_cell BKg3.out 2).trans rfl); (try have hcg7_0 : W_.cell? ⟨g7, 0, none⟩ = some (.slice AX xs.length cX) := (blk_cell BKg7.out 0).trans rfl); (try have hcg7_1 : W_.cell? ⟨g7, 1, none⟩ = some (.slice A1 l1.length c1) := (blk_cell BKg7.out 1).trans rfl); (try have hcg7_2 : W_.cell? ⟨g7, 2, none⟩ = some (.int .i64 wx) := (blk_cell BKg7.out 2).trans rfl); (try have hcg18_0 : W_.cell? ⟨g18, 0, none⟩ = some (.int .i64 lo) := (blk_cell BKg18.out 0).trans rfl); (try have hcg18_1 : W_.cell? ⟨g18, 1, none⟩ = some (.int .i64 hi) := (blk_cell BKg18.out 1).trans rfl); (try have hcg20_0 : W_.cell? ⟨g20, 0, none⟩ = some (.int .i64 lo2) := (blk_cell BKg20.out 0).trans rfl); (try have hcg20_1 : W_.cell? ⟨g20, 1, none⟩ = some (.int .i64 hi2) := (blk_cell BKg20.out 1).trans rfl)))) | (go_at_call 21; go_must (refine (awake_calls _).mono ?_; rintro e W_ ⟨rfl, hb⟩; (try clear hcg3_0 hcg3_1 hcg3_2); (try clear hcg7_0 hcg7_1 hcg7_2); (try clear hcg18_0 hcg18_1); (try clear hcg20_0 hcg20_1); (try replace HB := Aside0.mk (below_step HB.out hb)); (try replace HT := Aside0.mk (HT.out.below hb)); (try replace BKg3 := Aside0.mk (blk_below BKg3.out hb)); (try replace BKg7 := Aside0.mk (blk_below BKg7.out hb)); (try replace HX := Aside0.mk (HX.out.below hb)); (try replace HL := Aside0.mk (Kd.R_below HL.out hb)); (try replace HM := Aside0.mk (Kd.R_below HM.out hb)); (try replace HW := Aside0.mk (Kd.R_below HW.out hb)); (try replace HU := Aside0.mk (Kd.R_below HU.out hb)); (try replace BKg18 := Aside0.mk (blk_below BKg18.out hb)); (try replace BKg20 := Aside0.mk (blk_below BKg20.out hb)); skip; clear hb; (try have hcg3_0 : W_.cell? ⟨g3, 0, none⟩ = some (.slice A0 l0.length c0) := (blk_cell BKg3.out 0).trans rfl); (try have hcg3_1 : W_.cell? ⟨g3, 1, none⟩ = some (.slice A1 l1.length c1) := (blk_cell BKg3.out 1).trans rfl); (try have hcg3_2 : W_.cell? ⟨g3, 2, none⟩ = some (.int .i64 wg) := (blk_cell BKg3.out 2).trans rfl); (try have hcg7_0 : W_.cell? ⟨g7, 0, none⟩ = some (.slice AX xs.length cX) := (blk_cell BKg7.out 0).trans rfl); (try have hcg7_1 : W_.cell? ⟨g7, 1, none⟩ = some (.slice A1 l1.length c1) := (blk_cell BKg7.out 1).trans rfl); (try have hcg7_2 : W_.cell? ⟨g7, 2, none⟩ = some (.int .i64 wx) := (blk_cell BKg7.out 2).trans rfl); (try have hcg18_0 : W_.cell? ⟨g18, 0, none⟩ = some (.int .i64 lo) := (blk_cell BKg18.out 0).trans rfl); (try have hcg18_1 : W_.cell? ⟨g18, 1, none⟩ = some (.int .i64 hi) := (blk_cell BKg18.out 1).trans rfl); (try have hcg20_0 : W_.cell? ⟨g20, 0, none⟩ = some (.int .i64 lo2) := (blk_cell BKg20.out 0).trans rfl); (try have hcg20_1 : W_.cell? ⟨g20, 1, none⟩ = some (.int .i64 hi2) := (blk_cell BKg20.out 1).trans rfl))))
    go_ret
    exact ⟨rfl, HB.out⟩
  all_goals (rcases hex with hex | hex)
  all_goals (have HE := Aside0.mk he; have HEX := Aside0.mk hex; clear he hex)
  all_goals (
    go_wp2_with (first | (go_at_call 23; go_must (first | ((with_reducible refine (tab_c _ (HRT.out.below HB.out) HL0.out HL1.out).mono ?_); rintro e W_ ⟨B0, d0, B1, d1, rfl, ht, hb⟩; (try clear hcg3_0 hcg3_1 hcg3_2); (try clear hcg7_0 hcg7_1 hcg7_2); (try replace HB := Aside0.mk (below_step HB.out hb)); (try replace HT := Aside0.mk (HT.out.below hb)); (try replace BKg3 := Aside0.mk (blk_below BKg3.out hb)); (try replace BKg7 := Aside0.mk (blk_below BKg7.out hb)); (try replace HX := Aside0.mk (HX.out.below hb)); (try replace HL := Aside0.mk (Kd.R_below HL.out hb)); (try replace HM := Aside0.mk (Kd.R_below HM.out hb)); (try replace HW := Aside0.mk (Kd.R_below HW.out hb)); (try replace HU := Aside0.mk (Kd.R_below HU.out hb)); (try replace BKg18 := Aside0.mk (blk_below BKg18.out hb)); (try replace BKg20 := Aside0.mk (blk_below BKg20.out hb)); (try clear HT); have HT := Aside0.mk ht; clear ht; clear hb; (try have hcg3_0 : W_.cell? ⟨g3, 0, none⟩ = some (.slice A0 l0.length c0) := (blk_cell BKg3.out 0).trans rfl); (try have hcg3_1 : W_.cell? ⟨g3, 1, none⟩ = some (.slice A1 l1.length c1) := (blk_cell BKg3.out 1).trans rfl); (try have hcg3_2 : W_.cell? ⟨g3, 2, none⟩ = some (.int .i64 wg) := (blk_cell BKg3.out 2).trans rfl); (try have hcg7_0 : W_.cell? ⟨g7, 0, none⟩ = some (.slice AX xs.length cX) := (blk_cell BKg7.out 0).trans rfl); (try have hcg7_1 : W_.cell? ⟨g7, 1, none⟩ = some (.slice A1 l1.length c1) := (blk_cell BKg7.out 1).trans rfl); (try have hcg7_2 : W_.cell? ⟨g7, 2, none⟩ = some (.int .i64 wx) := (blk_cell BKg7.out 2).trans rfl)) | ((with_reducible refine (tab_c _ (rtabW HRT.out HB.out HX.out HX30.out) HLX.out HL1.out).mono ?_); rintro e W_ ⟨B0, d0, B1, d1, rfl, ht, hb⟩; (try clear hcg3_0 hcg3_1 hcg3_2); (try clear hcg7_0 hcg7_1 hcg7_2); (try replace HB := Aside0.mk (below_step HB.out hb)); (try replace HT := Aside0.mk (HT.out.below hb)); (try replace BKg3 := Aside0.mk (blk_below BKg3.out hb)); (try replace BKg7 := Aside0.mk (blk_below BKg7.out hb)); (try replace HX := Aside0.mk (HX.out.below hb)); (try replace HL := Aside0.mk (Kd.R_below HL.out hb)); (try replace HM := Aside0.mk (Kd.R_below HM.out hb)); (try replace HW := Aside0.mk (Kd.R_below HW.out hb)); (try replace HU := Aside0.mk (Kd.R_below HU.out hb)); (try replace BKg18 := Aside0.mk (blk_below BKg18.out hb)); (try replace BKg20 := Aside0.mk (blk_below BKg20.out hb)); (try clear HT); have HT := Aside0.mk ht; clear ht; clear hb; (try have hcg3_0 : W_.cell? ⟨g3, 0, none⟩ = some (.slice A0 l0.length c0) := (blk_cell BKg3.out 0).trans rfl); (try have hcg3_1 : W_.cell? ⟨g3, 1, none⟩ = some (.slice A1 l1.length c1) := (blk_cell BKg3.out 1).trans rfl); (try have hcg3_2 : W_.cell? ⟨g3, 2, none⟩ = some (.int .i64 wg) := (blk_cell BKg3.out 2).trans rfl); (try have hcg7_0 : W_.cell? ⟨g7, 0, none⟩ = some (.slice AX xs.length cX) := (blk_cell BKg7.out 0).trans rfl); (try have hcg7_1 : W_.cell? ⟨g7, 1, none⟩ = some (.slice A1 l1.length c1) := (blk_cell BKg7.out 1).trans rfl); (try have hcg7_2 : W_.cell? ⟨g7, 2, none⟩ = some (.int .i64 wx) := (blk_cell BKg7.out 2).trans rfl)))) | (go_at_call 32; go_must (first | ((with_reducible refine (leave_c _ HT.out HCK.out HSL.out).mono ?_); rintro e W_ ⟨v_, rfl, ho, hb⟩; (try clear hcg3_0 hcg3_1 hcg3_2); (try clear hcg7_0 hcg7_1 hcg7_2); (try replace HB := Aside0.mk (below_step HB.out hb)); (try replace HT := Aside0.mk (HT.out.below hb)); (try replace BKg3 := Aside0.mk (blk_below BKg3.out hb)); (try replace BKg7 := Aside0.mk (blk_below BKg7.out hb)); (try replace HX := Aside0.mk (HX.out.below hb)); (try replace HL := Aside0.mk (Kd.R_below HL.out hb)); (try replace HM := Aside0.mk (Kd.R_below HM.out hb)); (try replace HW := Aside0.mk (Kd.R_below HW.out hb)); (try replace HU := Aside0.mk (Kd.R_below HU.out hb)); (try replace BKg18 := Aside0.mk (blk_below BKg18.out hb)); (try replace BKg20 := Aside0.mk (blk_below BKg20.out hb)); have HL := Aside0.mk ho; obtain ⟨AHL, cHL, eHL⟩ := Kd.R_slice HL.out; subst eHL; clear ho; clear hb; (try have hcg3_0 : W_.cell? ⟨g3, 0, none⟩ = some (.slice A0 l0.length c0) := (blk_cell BKg3.out 0).trans rfl); (try have hcg3_1 : W_.cell? ⟨g3, 1, none⟩ = some (.slice A1 l1.length c1) := (blk_cell BKg3.out 1).trans rfl); (try have hcg3_2 : W_.cell? ⟨g3, 2, none⟩ = some (.int .i64 wg) := (blk_cell BKg3.out 2).trans rfl); (try have hcg7_0 : W_.cell? ⟨g7, 0, none⟩ = some (.slice AX xs.length cX) := (blk_cell BKg7.out 0).trans rfl); (try have hcg7_1 : W_.cell? ⟨g7, 1, none⟩ = some (.slice A1 l1.length c1) := (blk_cell BKg7.out 1).trans rfl); (try have hcg7_2 : W_.cell? ⟨g7, 2, none⟩ = some (.int .i64 wx) := (blk_cell BKg7.out 2).trans rfl)) | ((with_reducible refine (leave_c _ HT.out HCX.out HSM.out).mono ?_); rintro e W_ ⟨v_, rfl, ho, hb⟩; (try clear hcg3_0 hcg3_1 hcg3_2); (try clear hcg7_0 hcg7_1 hcg7_2); (try replace HB := Aside0.mk (below_step HB.out hb)); (try replace HT := Aside0.mk (HT.out.below hb)); (try replace BKg3 := Aside0.mk (blk_below BKg3.out hb)); (try replace BKg7 := Aside0.mk (blk_below BKg7.out hb)); (try replace HX := Aside0.mk (HX.out.below hb)); (try replace HL := Aside0.mk (Kd.R_below HL.out hb)); (try replace HM := Aside0.mk (Kd.R_below HM.out hb)); (try replace HW := Aside0.mk (Kd.R_below HW.out hb)); (try replace HU := Aside0.mk (Kd.R_below HU.out hb)); (try replace BKg18 := Aside0.mk (blk_below BKg18.out hb)); (try replace BKg20 := Aside0.mk (blk_below BKg20.out hb)); have HM := Aside0.mk ho; obtain ⟨AHM, cHM, eHM⟩ := Kd.R_slice HM.out; subst eHM; clear ho; clear hb; (try have hcg3_0 : W_.cell? ⟨g3, 0, none⟩ = some (.slice A0 l0.length c0) := (blk_cell BKg3.out 0).trans rfl); (try have hcg3_1 : W_.cell? ⟨g3, 1, none⟩ = some (.slice A1 l1.length c1) := (blk_cell BKg3.out 1).trans rfl); (try have hcg3_2 : W_.cell? ⟨g3, 2, none⟩ = some (.int .i64 wg) := (blk_cell BKg3.out 2).trans rfl); (try have hcg7_0 : W_.cell? ⟨g7, 0, none⟩ = some (.slice AX xs.length cX) := (blk_cell BKg7.out 0).trans rfl); (try have hcg7_1 : W_.cell? ⟨g7, 1, none⟩ = some (.slice A1 l1.length c1) := (blk_cell BKg7.out 1).trans rfl); (try have hcg7_2 : W_.cell? ⟨g7, 2, none⟩ = some (.int .i64 wx) := (blk_cell BKg7.out 2).trans rfl)))) | (go_at_call 22; go_must (first | ((with_reducible refine (whose_n _ HT.out HE.out).mono ?_); rintro e W_ ⟨rfl, hb⟩; (try clear hcg3_0 hcg3_1 hcg3_2); (try clear hcg7_0 hcg7_1 hcg7_2); (try replace HB := Aside0.mk (below_step HB.out hb)); (try replace HT := Aside0.mk (HT.out.below hb)); (try replace BKg3 := Aside0.mk (blk_below BKg3.out hb)); (try replace BKg7 := Aside0.mk (blk_below BKg7.out hb)); (try replace HX := Aside0.mk (HX.out.below hb)); (try replace HL := Aside0.mk (Kd.R_below HL.out hb)); (try replace HM := Aside0.mk (Kd.R_below HM.out hb)); (try replace HW := Aside0.mk (Kd.R_below HW.out hb)); (try replace HU := Aside0.mk (Kd.R_below HU.out hb)); (try replace BKg18 := Aside0.mk (blk_below BKg18.out hb)); (try replace BKg20 := Aside0.mk (blk_below BKg20.out hb)); skip; clear hb; (try have hcg3_0 : W_.cell? ⟨g3, 0, none⟩ = some (.slice A0 l0.length c0) := (blk_cell BKg3.out 0).trans rfl); (try have hcg3_1 : W_.cell? ⟨g3, 1, none⟩ = some (.slice A1 l1.length c1) := (blk_cell BKg3.out 1).trans rfl); (try have hcg3_2 : W_.cell? ⟨g3, 2, none⟩ = some (.int .i64 wg) := (blk_cell BKg3.out 2).trans rfl); (try have hcg7_0 : W_.cell? ⟨g7, 0, none⟩ = some (.slice AX xs.length cX) := (blk_cell BKg7.out 0).trans rfl); (try have hcg7_1 : W_.cell? ⟨g7, 1, none⟩ = some (.slice A1 l1.length c1) := (blk_cell BKg7.out 1).trans rfl); (try have hcg7_2 : W_.cell? ⟨g7, 2, none⟩ = some (.int .i64 wx) := (blk_cell BKg7.out 2).trans rfl)) | ((with_reducible refine (whose_n _ HT.out HEX.out).mono ?_); rintro e W_ ⟨rfl, hb⟩; (try clear hcg3_0 hcg3_1 hcg3_2); (try clear hcg7_0 hcg7_1 hcg7_2); (try replace HB := Aside0.mk (below_step HB.out hb)); (try replace HT := Aside0.mk (HT.out.below hb)); (try replace BKg3 := Aside0.mk (blk_below BKg3.out hb)); (try replace BKg7 := Aside0.mk (blk_below BKg7.out hb)); (try replace HX := Aside0.mk (HX.out.below hb)); (try replace HL := Aside0.mk (Kd.R_below HL.out hb)); (try replace HM := Aside0.mk (Kd.R_below HM.out hb)); (try replace HW := Aside0.mk (Kd.R_below HW.out hb)); (try replace HU := Aside0.mk (Kd.R_below HU.out hb)); (try replace BKg18 := Aside0.mk (blk_below BKg18.out hb)); (try replace BKg20 := Aside0.mk (blk_below BKg20.out hb)); skip; clear hb; (try have hcg3_0 : W_.cell? ⟨g3, 0, none⟩ = some (.slice A0 l0.length c0) := (blk_cell BKg3.out 0).trans rfl); (try have hcg3_1 : W_.cell? ⟨g3, 1, none⟩ = some (.slice A1 l1.length c1) := (blk_cell BKg3.out 1).trans rfl); (try have hcg3_2 : W_.cell? ⟨g3, 2, none⟩ = some (.int .i64 wg) := (blk_cell BKg3.out 2).trans rfl); (try have hcg7_0 : W_.cell? ⟨g7, 0, none⟩ = some (.slice AX xs.length cX) := (blk_cell BKg7.out 0).trans rfl); (try have hcg7_1 : W_.cell? ⟨g7, 1, none⟩ = some (.slice A1 l1.length c1) := (blk_cell BKg7.out 1).trans rfl); (try have hcg7_2 : W_.cell? ⟨g7, 2, none⟩ = some (.int .i64 wx) := (blk_cell BKg7.out 2).trans rfl)) | ((with_reducible refine (whose_c _ HT.out HEX.out rfl).mono ?_); rintro e W_ ⟨v_, rfl, ho, hb⟩; (try clear hcg3_0 hcg3_1 hcg3_2); (try clear hcg7_0 hcg7_1 hcg7_2); (try replace HB := Aside0.mk (below_step HB.out hb)); (try replace HT := Aside0.mk (HT.out.below hb)); (try replace BKg3 := Aside0.mk (blk_below BKg3.out hb)); (try replace BKg7 := Aside0.mk (blk_below BKg7.out hb)); (try replace HX := Aside0.mk (HX.out.below hb)); (try replace HL := Aside0.mk (Kd.R_below HL.out hb)); (try replace HM := Aside0.mk (Kd.R_below HM.out hb)); (try replace HW := Aside0.mk (Kd.R_below HW.out hb)); (try replace HU := Aside0.mk (Kd.R_below HU.out hb)); (try replace BKg18 := Aside0.mk (blk_below BKg18.out hb)); (try replace BKg20 := Aside0.mk (blk_below BKg20.out hb)); have HU := Aside0.mk ho; obtain ⟨AHU, cHU, eHU⟩ := Kd.R_slice HU.out; subst eHU; clear ho; clear hb; (try have hcg3_0 : W_.cell? ⟨g3, 0, none⟩ = some (.slice A0 l0.length c0) := (blk_cell BKg3.out 0).trans rfl); (try have hcg3_1 : W_.cell? ⟨g3, 1, none⟩ = some (.slice A1 l1.length c1) := (blk_cell BKg3.out 1).trans rfl); (try have hcg3_2 : W_.cell? ⟨g3, 2, none⟩ = some (.int .i64 wg) := (blk_cell BKg3.out 2).trans rfl); (try have hcg7_0 : W_.cell? ⟨g7, 0, none⟩ = some (.slice AX xs.length cX) := (blk_cell BKg7.out 0).trans rfl); (try have hcg7_1 : W_.cell? ⟨g7, 1, none⟩ = some (.slice A1 l1.length c1) := (blk_cell BKg7.out 1).trans rfl); (try have hcg7_2 : W_.cell? ⟨g7, 2, none⟩ = some (.int .i64 wx) := (blk_cell BKg7.out 2).trans rfl)))) | (go_at_call 21; go_must (refine (awake_calls _).mono ?_; rintro e W_ ⟨rfl, hb⟩; (try clear hcg3_0 hcg3_1 hcg3_2); (try clear hcg7_0 hcg7_1 hcg7_2); (try replace HB := Aside0.mk (below_step HB.out hb)); (try replace HT := Aside0.mk (HT.out.below hb)); (try replace BKg3 := Aside0.mk (blk_below BKg3.out hb)); (try replace BKg7 := Aside0.mk (blk_below BKg7.out hb)); (try replace HX := Aside0.mk (HX.out.below hb)); (try replace HL := Aside0.mk (Kd.R_below HL.out hb)); (try replace HM := Aside0.mk (Kd.R_below HM.out hb)); (try replace HW := Aside0.mk (Kd.R_below HW.out hb)); (try replace HU := Aside0.mk (Kd.R_below HU.out hb)); (try replace BKg18 := Aside0.mk (blk_below BKg18.out hb)); (try replace BKg20 := Aside0.mk (blk_below BKg20.out hb)); skip; clear hb; (try have hcg3_0 : W_.cell? ⟨g3, 0, none⟩ = some (.slice A0 l0.length c0) := (blk_cell BKg3.out 0).trans rfl); (try have hcg3_1 : W_.cell? ⟨g3, 1, none⟩ = some (.slice A1 l1.length c1) := (blk_cell BKg3.out 1).trans rfl); (try have hcg3_2 : W_.cell? ⟨g3, 2, none⟩ = some (.int .i64 wg) := (blk_cell BKg3.out 2).trans rfl); (try have hcg7_0 : W_.cell? ⟨g7, 0, none⟩ = some (.slice AX xs.length cX) := (blk_cell BKg7.out 0).trans rfl); (try have hcg7_1 : W_.cell? ⟨g7, 1, none⟩ = some (.slice A1 l1.length c1) := (blk_cell BKg7.out 1).trans rfl); (try have hcg7_2 : W_.cell? ⟨g7, 2, none⟩ = some (.int .i64 wx) := (blk_cell BKg7.out 2).trans rfl))))
    go_ret
    exact ⟨rfl, HB.out⟩
  )
end Go.Proofs.Ytnbbbeghgomnoaa.X
namespace Go.Proofs.Ytnbbbeghgomnoaa.X
open Go.RowKit Go.Proofs.YtnbbbeghgomnoaaW.PrintWords Go.Proofs.YtnbbbeghgomnoaaW.PrintLast Go.Proofs.YtnbbbeghgomnoaaW.PrintMore
theorem getD_set_ {α : Type} (l : List α) (p i : Nat) (v z : α) (hp : p < l.length) : (l.set p v).getD i z = if i = p then v else l.getD i z := by
  rw [List.getD_eq_getElem?_getD, List.getD_eq_getElem?_getD, List.getElem?_set]
  by_cases h : p = i
  · subst h
    rw [if_pos rfl, if_pos hp, if_pos rfl]; rfl
  · rw [if_neg h, if_neg (fun e => h e.symm)]
theorem u8_parts {a : Int} (h0 : 0 ≤ a) (h1 : a ≤ 255) : (0 ≤ Int.tmod (wrap64 a) 3 ∧ Int.tmod (wrap64 a) 3 ≤ 2) ∧ 0 ≤ Int.tmod (wrap64 (Int.tdiv (wrap64 a) 3)) 3 ∧ Int.tmod (wrap64 (Int.tdiv (wrap64 a) 3)) 3 ≤ 2 := by
  rw [wrap64_id a (by omega) (by omega), Int.tmod_eq_emod_of_nonneg h0, Int.tdiv_eq_ediv_of_nonneg h0, wrap64_id _ (by omega) (by omega), Int.tmod_eq_emod_of_nonneg (by omega)]
  omega
theorem okW_rng {x : S109} (h : okW x = true) : 0 ≤ x.f1.f0 ∧ x.f1.f0 ≤ x.f1.f1 ∧ x.f1.f1 ≤ 7 ∧ okIn x.f0 0 9 = true := by
  unfold okW at h
  simp only [Bool.and_eq_true, decide_eq_true_eq] at h
  exact ⟨h.1.1.2, h.1.2, h.2, h.1.1.1⟩
theorem More_fin {k : Nat} {A0 : Option Addr} {c0 : Nat} {l0 : List S85} {A1 : Option Addr} {c1 : Nat} {l1 : List S71} {wg a1 a2 : Int} {W : World} (C0 : Kd.C k85 W A0 l0.length l0) (g0 : l0.length ≤ c0) (C1 : Kd.C k71 W A1 l1.length l1) (g1 : l1.length ≤ c1) {K : Nat} (hv : VR l0 l1 wg) (hc : checkT (l0.map cvW) (l1.map cvP) wg = 0) (hK : ∀ k, K ≤ k → posserlaw03_ready.f k l0 l1 wg = some true) {p : Nat} (hp : Int.tmod (wrap64 a1) (wrap64 ((l0.length : Int) + 1)) = (p : Int)) (hpl : p ≤ l0.length) {xs : List S85} {wx : Int}
    (hA : p = l0.length → xs = l0 ∧ mn 5 (wrap64 (wg + Int.tmod (wrap64 a2) 3)) = wx) (hB : p < l0.length → xs = l0.set p ⟨(l0.getD p z85).f0, ⟨mx 0 (wrap64 ((l0.getD p z85).f1.f0 - Int.tmod (wrap64 a2) 3)), mn 7 (wrap64 ((l0.getD p z85).f1.f1 + Int.tmod (wrap64 (Int.tdiv (wrap64 a2) 3)) 3))⟩⟩ ∧ wg = wx) (hw : Wdr (l0.map cvW) (xs.map cvW)) (hww : wg ≤ wx) (hv' : Val (xs.map cvW) (l1.map cvP) wx) :
    Calls Try.prog 12 #[.agg #[.slice A0 l0.length c0, .slice A1 l1.length c1, .int .i64 wg], .int .u8 a1, .int .u8 a2] W fun e w' => e = .returned (.bool true) ∧ Below W.heap.size W w' := by
  have hn0 := hv.n0
  have hn1 := hv.n1
  have hcx := checkT_of hv'
  have hlv := hw.leave (L1 := l1.map cvP) (by rw [List.length_map]; exact hn0) hv.val.ps
  have hxl : xs.length ≤ 30 := by
    have := hw.len
    simp only [List.length_map] at this
    omega
  have hsub : ∀ x, x ∈ truthsL (l0.map cvW) (l1.map cvP) wg → x ∈ truthsL (xs.map cvW) (l1.map cvP) wx := fun x hx => hw.truths hww _ hx
  rcases ask_cases hc with ⟨he, _⟩ | ⟨he, hts⟩
  · refine More_ok K wg a1 a2 C0 g0 C1 g1 hv.thn rfl rfl (hK K (Nat.le_refl _)) hp hpl hA hB rfl hc hcx rfl rfl hlv hxl (ws := []) (us := []) (lo := 0) (hi := 0) (lo2 := 0) (hi2 := 0) (.inl ⟨he, ?_⟩)
    rcases ask_cases hcx with ⟨h, _⟩ | ⟨h, _⟩
    · exact .inr h
    · exact .inl h
  · have hts' : truthsL (xs.map cvW) (l1.map cvP) wx ≠ [] := by
      obtain ⟨x, hx⟩ := List.exists_mem_of_ne_nil _ hts
      exact List.ne_nil_of_mem (hsub x hx)
    have hex : askE (xs.map cvW) (l1.map cvP) wx = 0 := by
      rcases ask_cases hcx with ⟨_, h⟩ | ⟨h, _⟩
      · exact absurd h hts'
      · exact h
    have row : ∀ (n0 : Nat) (ts : List (List Int)) (i : Nat), i < (l1.map cvP).length → ((whoseL n0 (l1.map cvP).length ts).getD i []).length ≤ n0 := fun n0 ts i hi => by
      rw [whoseL_get _ _ _ _ hi]; exact sel_le _ _
    obtain ⟨S, hS⟩ := subsets_yes (whoseL (l0.map cvW).length (l1.map cvP).length (truthsL (l0.map cvW) (l1.map cvP) wg)) (whoseL (xs.map cvW).length (l1.map cvP).length (truthsL (xs.map cvW) (l1.map cvP) wx)) (by rw [whoseL_len, whoseL_len]) (by rw [whoseL_len, List.length_map]; omega)
      (fun i hi => by
        rw [whoseL_len] at hi
        have := row (l0.map cvW).length (truthsL (l0.map cvW) (l1.map cvP) wg) i hi
        have e : (l0.map cvW).length = l0.length := List.length_map ..
        omega)
      (fun i hi => by
        rw [whoseL_len] at hi
        have := row (xs.map cvW).length (truthsL (xs.map cvW) (l1.map cvP) wx) i hi
        have e : (xs.map cvW).length = xs.length := List.length_map ..
        omega)
      (fun i hi v hvm => by
        rw [whoseL_len] at hi
        obtain ⟨x, hx, e⟩ := (whose_mem hi (fun x hx => truths_own hx i hi) v).1 hvm
        exact (whose_mem hi (fun x hx => truths_own hx i hi) v).2 ⟨x, hsub x hx, e⟩)
    have sp1 := boundsL_spec (fun x => lostN (l1.map cvP) (pad x)) hts
    have sp2 := boundsL_spec (fun x => lostN (l1.map cvP) (pad x)) hts'
    obtain ⟨_, ⟨xa, ma, ea⟩, ⟨xb, mb, eb⟩⟩ := sp1
    have q1 := sp2.1 xa (hsub xa ma)
    have q2 := sp2.1 xb (hsub xb mb)
    rw [ea] at q1
    rw [eb] at q2
    exact More_ok (K + S) wg a1 a2 C0 g0 C1 g1 hv.thn rfl rfl (hK (K + S) (by omega)) hp hpl hA hB rfl hc hcx rfl rfl hlv hxl (.inr ⟨he, hex, rfl, rfl, rfl, rfl, hS (K + S) (by omega), q1.1, q2.2⟩)
theorem BundleMore_walk (A0 : Option Addr) (c0 : Nat) (l0 : List S85) (A1 : Option Addr) (c1 : Nat) (l1 : List S71) (wg a1 a2 : Int) (W : World) (C0 : Kd.C k85 W A0 l0.length l0) (g0 : l0.length ≤ c0) (C1 : Kd.C k71 W A1 l1.length l1) (g1 : l1.length ≤ c1) (w1 : (Lit.int .u8 a1).wf = true) (w2 : (Lit.int .u8 a2).wf = true) :
    Calls Try.prog 12 #[.agg #[.slice A0 l0.length c0, .slice A1 l1.length c1, .int .i64 wg], .int .u8 a1, .int .u8 a2] W fun e w' => e = .returned (.bool true) ∧ Below W.heap.size W w' := by
  obtain ⟨b0, b1⟩ := u8_rng w1
  obtain ⟨d0, d1⟩ := u8_rng w2
  rcases rdy_cases l0 l1 wg with ⟨K, hK⟩ | ⟨hv, hc, K, hK⟩
  · exact More_no K wg a1 a2 C0 g0 C1 g1 (hK K (Nat.le_refl _))
  · have hn0 := hv.n0
    have hpl : a1.toNat % (l0.length + 1) < l0.length + 1 := Nat.mod_lt _ (by omega)
    have ep : Int.tmod (wrap64 a1) (wrap64 ((l0.length : Int) + 1)) = ((a1.toNat % (l0.length + 1) : Nat) : Int) := by
      rw [wrap64_id ((l0.length : Int) + 1) (by omega) (by omega), tmod_nat a1 ((l0.length : Int) + 1) b0 (by omega) (by omega)]; rfl
    generalize a1.toNat % (l0.length + 1) = p at hpl ep
    obtain ⟨⟨r0, r1⟩, s0, s1⟩ := u8_parts d0 d1
    have hval := checkT_zero hc
    have hg0 := hval.wg0
    have hg1 := hval.wg1
    have hp0 := hv.val.ps
    by_cases hk : p = l0.length
    · have e := wrap64_id (wg + Int.tmod (wrap64 a2) 3) (by omega) (by omega)
      have hm := mn_le 5 (wg + Int.tmod (wrap64 a2) 3)
      have hle : wg ≤ mn 5 (wrap64 (wg + Int.tmod (wrap64 a2) 3)) := by rw [e]; omega
      have hW : Wdr (l0.map cvW) (l0.map cvW) := ⟨rfl, fun _ => rfl, fun _ _ => Int.le_refl _, fun _ _ => Int.le_refl _⟩
      exact More_fin (k := K) C0 g0 C1 g1 hv hc hK ep (by omega) (fun _ => ⟨rfl, rfl⟩) (fun h => absurd hk (by omega)) hW hle (hW.val hval hval.ws (by omega) (by rw [e]; omega))
    · have hpl' : p < l0.length := by omega
      obtain ⟨x, hx⟩ : ∃ x, l0.getD p z85 = x := ⟨_, rfl⟩
      have hxm : cvW x ∈ l0.map cvW := List.mem_map.2 ⟨x, by rw [← hx]; exact getD_mem l0 p z85 hpl', rfl⟩
      obtain ⟨o0, o1, o2, o3⟩ := okW_rng (List.all_eq_true.1 hval.ws _ hxm)
      have o0 : 0 ≤ x.f1.f0 := o0
      have o1 : x.f1.f0 ≤ x.f1.f1 := o1
      have o2 : x.f1.f1 ≤ 7 := o2
      have e1 := wrap64_id (x.f1.f0 - Int.tmod (wrap64 a2) 3) (by omega) (by omega)
      have e2 := wrap64_id (x.f1.f1 + Int.tmod (wrap64 (Int.tdiv (wrap64 a2) 3)) 3) (by omega) (by omega)
      have hm1 := mx_ge 0 (x.f1.f0 - Int.tmod (wrap64 a2) 3)
      have hm2 := mn_le 7 (x.f1.f1 + Int.tmod (wrap64 (Int.tdiv (wrap64 a2) 3)) 3)
      obtain ⟨lo, hlo⟩ : ∃ lo, mx 0 (wrap64 (x.f1.f0 - Int.tmod (wrap64 a2) 3)) = lo := ⟨_, rfl⟩
      obtain ⟨hi, hhi⟩ : ∃ hi, mn 7 (wrap64 (x.f1.f1 + Int.tmod (wrap64 (Int.tdiv (wrap64 a2) 3)) 3)) = hi := ⟨_, rfl⟩
      have q1 : 0 ≤ lo ∧ lo ≤ x.f1.f0 := by rw [← hlo, e1]; omega
      have q2 : x.f1.f1 ≤ hi ∧ hi ≤ 7 := by rw [← hhi, e2]; omega
      have hget : ∀ i, ((l0.set p ⟨x.f0, ⟨lo, hi⟩⟩).map cvW).getD i z109 = if i = p then ⟨x.f0, ⟨lo, hi⟩⟩ else (l0.map cvW).getD i z109 := fun i => by
        rw [cvW_getD, cvW_getD, getD_set_ _ _ _ _ _ hpl']
        by_cases h : i = p
        · rw [if_pos h, if_pos h]; rfl
        · rw [if_neg h, if_neg h]
      have hpx : (l0.map cvW).getD p z109 = cvW x := by rw [cvW_getD, hx]
      have hW : Wdr (l0.map cvW) ((l0.set p ⟨x.f0, ⟨lo, hi⟩⟩).map cvW) := by
        refine ⟨by simp, fun i => ?_, fun i _ => ?_, fun i _ => ?_⟩
        · rw [hget]
          by_cases h : i = p
          · rw [if_pos h, h, hpx]; rfl
          · rw [if_neg h]
        · rw [hget]
          by_cases h : i = p
          · rw [if_pos h, h, hpx]; exact q1.2
          · rw [if_neg h]; exact Int.le_refl _
        · rw [hget]
          by_cases h : i = p
          · rw [if_pos h, h, hpx]; exact q2.1
          · rw [if_neg h]; exact Int.le_refl _
      refine More_fin (k := K) C0 g0 C1 g1 hv hc hK ep (by omega) (fun h => absurd h hk) (fun _ => ⟨by rw [hx, hlo, hhi], rfl⟩) hW (Int.le_refl _) (hW.val hval ?_ hg0 hg1)
      rw [List.all_eq_true]
      intro z hz
      obtain ⟨y, hy, rfl⟩ := List.mem_map.1 hz
      rcases List.mem_or_eq_of_mem_set hy with h | h
      · exact List.all_eq_true.1 hval.ws _ (List.mem_map.2 ⟨y, h, rfl⟩)
      · subst h
        unfold okW
        show (okIn x.f0 0 9 && decide (0 ≤ lo) && decide (lo ≤ hi) && decide (hi ≤ 7)) = true
        have o3 : okIn x.f0 0 9 = true := o3
        rw [o3, decide_eq_true (by omega), decide_eq_true (by omega), decide_eq_true (by omega)]; rfl
end Go.Proofs.Ytnbbbeghgomnoaa.X
namespace Go.Proofs.Ytnbbbeghgomnoaa.bundleMore
open Go.ChangeShapes Go.WideShapes Go.ChangeAt Go.RowKit
open Go.ChangeMaps (open_string shut_string)
open Go.Proofs.Ytnbbbeghgomnoaa.X
theorem own : ownKnob Try.prog.godebug = none := by kernel_rfl
theorem laidOut : laidOutB Try.prog = true := by kernel_rfl
set_option maxRecDepth 100000 in
theorem lifted (os : Os) (started : os.Started) (H : Type) (enc : TypeId × Value → H) :
    ReturnsInHanded {} Try.checked os 12 .any (Rows.bundleMoreSpec.pre6 enc Try.prog Try.f12 Rows.bundleMoreRow.domain false) (Rows.bundleMoreSpec.post enc Try.prog Try.f12 false true false false) := by
  refine returnsInHanded_of_change_sized (C := Try.checked) own started (by kernel_rfl) Try.func12
    (ChangeSpec.witness6 (enc := enc) (C := Try.checked) false ⟨#[], #[.agg #[.slice none 0 0, .slice none 0 0, .int .i64 0], .int .u8 0, .int .u8 0], []⟩ 8 (by kernel_rfl) (by kernel_rfl) (by kernel_rfl) (by kernel_rfl)) ?_
  intro W base args ds gs before hval0 hW hcnd hsz0 _
  have hsz : (DataW.weightsEach Try.prog (Try.f12.params.toList ++ Rows.bundleMoreSpec.plain.varTypes Try.prog) (ds ++ gs)).all (· ≤ reachBytes) = true := hsz0
  have hval : ∀ (j : Nat) t v, Try.f12.params[j]? = some t → args[j]? = some v → Value.okWide Try.prog W .any base t v := hval0
  have hW' := hW
  obtain ⟨p, q, hA0, hV, rfl, hfz, hnd⟩ := hW
  have hA : DataW.TrodAll enc Try.prog W 0 (fun _ => true) true Try.f12.params.toList args.toList ds p := hA0
  rw [Try.params12] at hA hval hsz
  obtain ⟨v0, vs0, d0, ds0, p0, q0, hargs, rfl, rfl, h0, r0⟩ := trodAll_cons hA
  obtain ⟨v1, vs1, d1, ds1, p1, q1, rfl, rfl, rfl, h1, r1⟩ := trodAll_cons r0
  obtain ⟨v2, vs2, d2, ds2, p2, q2, rfl, rfl, rfl, h2, r2⟩ := trodAll_cons r1
  obtain ⟨rfl, rfl, rfl⟩ := trodAll_nil r2
  obtain rfl : args = #[v0, v1, v2] := by cases args; simp_all
  obtain ⟨rfl, rfl⟩ := trodVars_none hV
  have k0 := h0
  have lt0 : ∀ x ∈ p0, x.block < W.heap.size := by obtain ⟨m, hm⟩ := k0; exact DataW.trod_lt m _ _ _ hm
  obtain ⟨A0, c0, l0, A1, c1, l1, wg, rfl, C0, g0, C1, g1⟩ := open_table (hval 0 25 v0 rfl rfl) h0
  obtain ⟨a1, rfl, rfl, rfl, w1⟩ := open_int Try.underlying5 (hval 1 5 v1 rfl rfl) h1
  obtain ⟨a2, rfl, rfl, rfl, w2⟩ := open_int Try.underlying5 (hval 2 5 v2 rfl rfl) h2
  clear hA0 hval0 hsz0 hsz
  refine (BundleMore_walk A0 c0 l0 A1 c1 l1 wg a1 a2 W C0 g0 C1 g1 w1 w2).mono fun e W' ⟨he, bel⟩ => ?_
  subst he
  exact ⟨_, rfl, _, _, _, [], _, [], hW', trodAll_mk1 (shut_bool Try.underlying4 _), (trodAll_cons_mk (Below.trod laidOut (by kernel_rfl) (of_decide_eq_true (by kernel_rfl)) k0 bel lt0) (trodAll_cons_mk (shut_int Try.underlying5 w1) (trodAll_cons_mk (shut_int Try.underlying5 w2) trodAll_mk0))), rfl, bel.frame _, fun h => by cases h⟩
theorem over : Rows.bundleMoreRow.holds Try.pinned (OpenSpec.ofChange Rows.bundleMoreSpec) :=
  OpenClaim.holds_of_wide 12 Try.f12 rfl rfl rfl rfl rfl rfl rfl ⟨rfl, rfl, rfl, rfl, rfl⟩ rfl rfl rfl rfl rfl (by kernel_rfl) Try.func12 (by kernel_rfl)
    (of_decide_eq_true (by kernel_rfl)) (by unfold Func.isWrapper; first | (rw [if_pos (by decide +kernel)]; kernel_rfl) | (rw [if_neg (by decide +kernel)]; exact ⟨rfl, rfl⟩))
    (fun os started H enc _ => lifted os started H enc)
theorem proved : Rows.BundleMoreSaid := over
end Go.Proofs.Ytnbbbeghgomnoaa.bundleMore
namespace Go.Proofs.Ytnbbbeghgomnoaa
theorem bundleMore_holds : Rows.BundleMoreSaid := bundleMore.proved
#print axioms bundleMore_holds
end Go.Proofs.Ytnbbbeghgomnoaa
