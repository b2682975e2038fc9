/-
  For every table that the statement lets in, the women before the first wrong count counted right with some owners, and with this one they did not.
-/
import Derived.Test.YtnbbbeghgomnoaaQBase05
import Derived.Below
import Derived.Deep.Draws
import Derived.Deep.AppendLies
import Derived.Maps.AppendAt
import Derived.OwnWalk
import Derived.Laws.BytesArg
import Derived.Laws.MakeOwn
import Derived.Laws.OwnMore
import Derived.Deep.OwnRows
import Derived.Tactics
import Derived.Lib.ConvBytes
import Derived.Laws.Slices
import Derived.WalkKit
import Derived.KernelRfl
import Derived.RowKit3
import Derived.Deep.LoopGhost
import Derived.Deep.QuietTactic
import Derived.BigQuiet
import Derived.WideLaws
import Derived.Deep.DeepCutAuto
import Derived.Deep.CutBlock
import Derived.Deep.RegionHeld3
import Derived.Laws.Rows
import Derived.Lib.AppendStr
import Derived.ArgAppend
import Derived.Laws.IdiomCopy
import Derived.RowKit
import Derived.Test.YtnbbbeghgomnoaaProg
import Derived.OrdersHeld
import Derived.Laws.BitsLemmas
import Derived.Test.YtnbbbeghgomnoaaRows
import Derived.ProofKit
import Derived.OpenShut
import Derived.ShutString
import Derived.ChangeOld
import Derived.SizedLaws
set_option linter.unusedVariables false
set_option linter.unusedSimpArgs false
set_option linter.unusedVariables false
set_option linter.unusedSimpArgs false
namespace Go.Proofs.YtnbbbeghgomnoaaW.PrintWords
open Go.RowKit
section
variable {P : Program} {ops : Array Oper} {rest : List Oper} {o : Oper} {a : Act} {Q : Exit → Act → World → Prop}
end
section
variable {P : Program}
end
section
variable {P : Program} {ops : Array Oper} {rest : List Oper} {o : Oper} {a : Act} {Q : Exit → Act → World → Prop}
end
section
variable {P : Program} {ops : Array Oper} {rest : List Oper} {o : Oper} {a : Act} {Q : Exit → Act → World → Prop}
end
section
variable {P : Program} {ops : Array Oper} {o : Oper} {a : Act} {Q : Exit → Act → World → Prop} {K : Act → World → Prop}
end
section
variable {α : Type} {enc : α → Value} {d : α}
end
section
variable {α : Type} {P : Program} {ops : Array Oper} {rest : List Oper} {o : Oper} {a : Act} {Q : Exit → Act → World → Prop}
end
section
variable {P : Program}
end
section
variable {α : Type} {R R' : α → List Value → Prop} {e : TypeId} {size : Nat} {w w1 : World} {base : Nat} {v : Value} {ps : List α}
end
section
variable {P : Program} {ops : Array Oper} {rest : List Oper} {o : Oper} {a : Act} {Q : Exit → Act → World → Prop} {α : Type} {R : α → List Value → Prop}
end
section
variable {P : Program} {ops : Array Oper} {o : Oper} {a : Act} {Q : Exit → Act → World → Prop} {K : Act → World → Prop} {α : Type} {R : α → List Value → Prop}
end
section
variable {α : Type} {P : Program}
end
section
variable {P : Program} {ops : Array Oper} {rest : List Oper} {o : Oper} {a : Act} {Q : Exit → Act → World → Prop}
end
namespace Kd
section
variable {α : Type} {d : Kd α} {e : Nat} {w w1 : World} {base : Nat} {ok ok' : Nat → Prop} {v : Value} {xs : List α}
end
section
variable {P : Program} {ops : Array Oper} {rest : List Oper} {o : Oper} {a : Act} {Q : Exit → Act → World → Prop} {α : Type}
end
section
variable {P : Program} {ops : Array Oper} {o : Oper} {a : Act} {Q : Exit → Act → World → Prop} {Kc : Act → World → Prop} {α : Type}
end
end Kd
namespace Kd
section
variable {α : Type} {F : Kd α → Kd α} {sz : Nat} {E : List Nat} {hs : ∀ n, (upto F sz E n).sz = sz} {hE : ∀ n q, q ∈ (upto F sz E n).E → q ∈ E}
end
end Kd
namespace Kd
end Kd
namespace Kd
section
variable {α β : Type} {d : Kd α} {d' : Kd β} {e e' : Nat} {w w1 W : World} {base b b' : Nat} {ok ok' okv oku : Nat → Prop} {v u : Value} {xs : List α} {ys : List β}
end
section
variable {w W : World} {A : Option Addr} {n : Nat}
variable {α : Type} {enc : α → Value} {h1 : ∀ x, (enc x).oneCell' = true} {e base g cap : Nat} {ok : Nat → Prop} {xs : List α}
end
section
variable {P : Program} {ops : Array Oper} {rest : List Oper} {o : Oper} {a : Act} {Q : Exit → Act → World → Prop}
variable {α : Type}
end
end Kd
section
variable {P : Program}
end
section
variable {w w1 : World} {base n size : Nat} {e : TypeId} {v : Value} {xs : List Value}
theorem setCells_far {g : Nat} : ∀ (vs : List Value) (o : Nat) {w : World} (k : Nat), k ≠ g → (w.setCells g o vs).heap[k]? = w.heap[k]?
 | [], _, _, _, _ => rfl
 | v :: r, o, w, k, hk => by
  rw [World.setCells, setCells_far r (o + 1) k hk]
  exact Below.heap_setCell w ⟨g, o, none⟩ v k hk
theorem setCells_same (g : Nat) : ∀ (vs : List Value) (o : Nat) (w : World), (w.setCells g o vs).os = w.os ∧ (w.setCells g o vs).tape = w.tape ∧ (w.setCells g o vs).output = w.output ∧ (w.setCells g o vs).heap.size = w.heap.size
 | [], _, _ => ⟨rfl, rfl, rfl, rfl⟩
 | v :: r, o, w => by
  obtain ⟨h1, h2, h3, h4⟩ := setCells_same g r (o + 1) (w.setCell ⟨g, o, none⟩ v)
  rw [World.setCells]
  exact ⟨h1, h2, h3, by rw [h4]; simp [World.setCell]⟩
theorem setCells_row {g : Nat} {e : TypeId} : ∀ (vs : List Value) (o : Nat) (w : World) (cur : Array Value), w.heap[g]? = some (.cells cur e (0, 0)) → o + vs.length ≤ cur.size →
  ∃ cur', (w.setCells g o vs).heap[g]? = some (.cells cur' e (0, 0)) ∧ cur'.size = cur.size ∧ cur'.toList = cur.toList.take o ++ vs ++ cur.toList.drop (o + vs.length)
 | [], o, w, cur, h, _ => ⟨cur, h, rfl, by simp⟩
 | v :: r, o, w, cur, h, hl => by
  have h2 := blk_set h o v
  simp only [List.length_cons] at hl
  obtain ⟨cur', h3, h4, h5⟩ := setCells_row r (o + 1) (w.setCell ⟨g, o, none⟩ v) _ h2 (by simp; omega)
  refine ⟨cur', h3, by rw [h4]; simp, ?_⟩
  rw [h5, Array.toList_setIfInBounds]
  have ho : o < cur.toList.length := by rw [Array.length_toList]; omega
  rw [List.take_set, List.drop_set_of_lt (by omega)]
  simp only [List.length_cons]
  rw [show o + 1 + r.length = o + (r.length + 1) by omega]
  congr 1
  rw [List.take_succ_eq_append_getElem ho, List.set_append_right _ _ (by rw [List.length_take]; omega)]
  have ho' : o < cur.size := by omega
  simp [Nat.min_eq_left (Nat.le_of_lt ho')]
end
section
variable {P : Program}
end
namespace Kd
section
variable {α : Type} {d : Kd α} {e : Nat} {w w1 W : World} {base : Nat} {ok ok' : Nat → Prop} {v : Value} {xs : List α}
end
section
variable {P : Program} {ops : Array Oper} {rest : List Oper} {o : Oper} {a : Act} {Q' : Exit → Act → World → Prop} {Kc : Act → World → Prop} {α : Type}
end
end Kd
namespace Kd
section
variable {α : Type} {d : Kd α} {e e' : Nat} {w w1 W : World} {base : Nat} {ok : Nat → Prop} {u v : Value} {xs : List α}
end
end Kd
theorem seg_get {α : Type} (a seg : List α) (o : Nat) (h : o + seg.length ≤ a.length) (q : Nat) :
  (a.take o ++ seg ++ a.drop (o + seg.length))[q]? = if q < o then a[q]? else if q < o + seg.length then seg[q - o]? else a[q]? := by
 have hl : (a.take o).length = o := by rw [List.length_take]; omega
 rw [List.append_assoc]
 by_cases h1 : q < o
 ·rw [if_pos h1, List.getElem?_append_left (by omega), List.getElem?_take, if_pos h1]
 ·rw [if_neg h1, List.getElem?_append_right (by omega), hl]
  by_cases h2 : q < o + seg.length
  ·rw [if_pos h2, List.getElem?_append_left (by omega)]
  ·rw [if_neg h2, List.getElem?_append_right (by omega), List.getElem?_drop]
   congr 1
   omega
namespace Kd
section
variable {α : Type} {d : Kd α} {e base g n cap : Nat} {ok okp : Nat → Prop} {W : World} {xs : List α}
theorem R_elem (h : d.R e W base ok (.slice (some ⟨g, 0, none⟩) n cap) xs) (z : α) (i : Int) (h0 : 0 ≤ i) (h1 : i < n) :
  ∃ c, c.length = d.sz ∧ d.M W base (fun k => ok k ∧ k ≠ g) (xs.getD i.toNat z) c ∧ (∀ j u, c[j]? = some u → W.cell? ⟨g, i.toNat * d.sz + j, none⟩ = some u) ∧ ∀ j, W.frozen? ⟨g, i.toNat * d.sz + j, none⟩ = false := by
 obtain ⟨hn, hnc, hC⟩ := R_reads' h
 obtain ⟨_, inner, ho, hr⟩ := h
 have hil : i.toNat < xs.length := by omega
 have hseg : i.toNat * d.sz + d.sz ≤ inner.length := by rw [hr.1, ← Nat.succ_mul]; exact Nat.mul_le_mul_right _ hil
 have hM := hr.2 i.toNat _ (List.getElem?_eq_getElem hil)
 refine ⟨(inner.drop (i.toNat * d.sz)).take d.sz, by rw [List.length_take, List.length_drop]; omega, ?_, fun j u hu => ?_, fun j => ?_⟩
 ·rw [List.getD_eq_getElem?_getD, List.getElem?_eq_getElem hil]
  exact d.M_mono (fun k hk => ⟨hk.1, fun he => hk.2 (by rw [he]; simp [Value.ownBlock])⟩) hM
 ·rw [List.getElem?_take] at hu
  split at hu
  ·rw [List.getElem?_drop] at hu
   have := ho.cells (g := g) (by simp [Value.ownBlock]) _ u hu
   rwa [add_plain] at this
  ·cases hu
 ·obtain ⟨cells, hc⟩ := own_typed ho g (by simp [Value.ownBlock])
  exact blk_frozen hc _
theorem R_seg (h : d.R e W base ok (.slice (some ⟨g, 0, none⟩) n cap) xs) (i : Int) (h0 : 0 ≤ i) (h1 : i < n) {c seg : List Value} {j : Nat} (hcl : c.length = d.sz) (hcc : ∀ j u, c[j]? = some u → W.cell? ⟨g, i.toNat * d.sz + j, none⟩ = some u)
  (hj : j + seg.length ≤ d.sz) {x' : α} (hM : d.M W base okp x' (c.take j ++ seg ++ c.drop (j + seg.length))) (hokp : ∀ k, okp k → ok k ∧ k ≠ g) :
  d.R e (W.setCells g (i.toNat * d.sz + j) seg) base ok (.slice (some ⟨g, 0, none⟩) n cap) (xs.set i.toNat x') ∧ W.grownBy (W.setCells g (i.toNat * d.sz + j) seg) (some g) := by
 obtain ⟨hn, hnc, _⟩ := R_reads' h
 obtain ⟨hok, inner, ho, hr⟩ := h
 have hil : i.toNat < xs.length := by omega
 have hseg : i.toNat * d.sz + d.sz ≤ inner.length := by rw [hr.1, ← Nat.succ_mul]; exact Nat.mul_le_mul_right _ hil
 have hin : inner.length = n * d.sz := by rw [hr.1, hn]
 obtain ⟨ho1, ho2⟩ := ho
 rcases ho2 with ⟨hv, _⟩ | ⟨g', cap', cur, hv, hb, hh, hnc', hcm, hcs, ht⟩
 ·cases hv
 injection hv with ha _ hc
 injection ha with ha
 injection ha with hg
 subst hg; subst hc
 have hfit : i.toNat * d.sz + j + seg.length ≤ cur.size := by
  have : n * d.sz ≤ cap * d.sz := Nat.mul_le_mul_right _ hnc
  omega
 obtain ⟨cur', h3, h4, h5⟩ := setCells_row seg (i.toNat * d.sz + j) W cur hh hfit
 obtain ⟨s1, s2, s3, s4⟩ := setCells_same g seg (i.toNat * d.sz + j) W
 have hfar : ∀ k, k ≠ g → (W.setCells g (i.toNat * d.sz + j) seg).heap[k]? = W.heap[k]? := fun k hk => setCells_far seg _ k hk
 have hcin : ∀ q, q < d.sz → c[q]? = inner[i.toNat * d.sz + q]? := by
  intro q hq
  have hq' : q < c.length := by omega
  have h6 := hcc q _ (List.getElem?_eq_getElem hq')
  rw [cell_of_row W g _ cur e (0, 0) hh] at h6
  rw [List.getElem?_eq_getElem hq', ← h6, ← ht, List.getElem?_take, if_pos (by rw [← hn]; omega), Array.getElem?_toList]
 refine ⟨⟨hok, inner.take (i.toNat * d.sz + j) ++ seg ++ inner.drop (i.toNat * d.sz + j + seg.length), ⟨?_, .inr ⟨g, cap, cur', by rw [List.length_set, hn], hb, h3, by rw [List.length_set, ← hn]; exact hnc, hcm, by rw [h4, hcs], ?_⟩⟩, ?_⟩,
  ⟨s1, s2, s3, by rw [s4]; exact Nat.le_refl _, fun k _ hk => hfar k (fun he => hk (by rw [he]))⟩⟩
 ·rw [List.length_set]
  simp only [List.length_append, List.length_take, List.length_drop]
  rw [hr.1] at hseg ⊢
  omega
 ·rw [List.length_set, ← hn]
  apply List.ext_getElem?
  intro q
  rw [List.getElem?_take, h5]
  rw [seg_get cur.toList seg (i.toNat * d.sz + j) (by rw [Array.length_toList]; omega) q, seg_get inner seg (i.toNat * d.sz + j) (by omega) q]
  have hcur : ∀ q, q < n * d.sz → cur.toList[q]? = inner[q]? := by
   intro q hq
   rw [← ht, List.getElem?_take, if_pos (by rw [← hn]; exact hq)]
  by_cases hq : q < n * d.sz
  ·rw [if_pos hq, hcur q hq]
  ·rw [if_neg hq, if_neg (by omega), if_neg (by omega), List.getElem?_eq_none (by omega)]
 ·refine ⟨?_, fun m p hm => ?_⟩
  ·rw [List.length_set]
   simp only [List.length_append, List.length_take, List.length_drop]
   rw [hr.1] at hseg ⊢
   omega
  ·have hml : m < xs.length := by
    have := (List.getElem?_eq_some_iff.1 hm).1
    rwa [List.length_set] at this
   have hmfit : m * d.sz + d.sz ≤ inner.length := by rw [hr.1, ← Nat.succ_mul]; exact Nat.mul_le_mul_right _ hml
   have hgo : some g = (Value.slice (some ⟨g, 0, none⟩) n cap).ownBlock := by simp [Value.ownBlock]
   by_cases hmi : m = i.toNat
   ·subst hmi
    rw [List.getElem?_set_self (by omega)] at hm
    injection hm with hm
    subst hm
    have hcells : ((inner.take (i.toNat * d.sz + j) ++ seg ++ inner.drop (i.toNat * d.sz + j + seg.length)).drop (i.toNat * d.sz)).take d.sz = c.take j ++ seg ++ c.drop (j + seg.length) := by
     apply List.ext_getElem?
     intro q
     rw [List.getElem?_take, List.getElem?_drop, seg_get inner seg _ (by omega), seg_get c seg j (by omega) q]
     by_cases hq : q < d.sz
     ·rw [if_pos hq, hcin q hq]
      by_cases hq1 : q < j
      ·rw [if_pos (by omega), if_pos hq1]
      ·rw [if_neg (by omega), if_neg hq1]
       by_cases hq2 : q < j + seg.length
       ·rw [if_pos (by omega), if_pos hq2]
        congr 1
        omega
       ·rw [if_neg (by omega), if_neg hq2]
     ·rw [if_neg hq, if_neg (by omega), if_neg (by omega), List.getElem?_eq_none (by omega)]
    rw [hcells]
    refine d.M_mono (fun k hk => ?_) (d.M_move (w1 := W.setCells g (i.toNat * d.sz + j) seg) (fun k hk => hfar k (hokp k hk).2) hM)
    exact ⟨(hokp k hk).1, fun he => (hokp k hk).2 (by rw [← hgo] at he; injection he)⟩
   ·rw [List.getElem?_set_ne (by omega)] at hm
    have hold := hr.2 m p hm
    have hcells : ((inner.take (i.toNat * d.sz + j) ++ seg ++ inner.drop (i.toNat * d.sz + j + seg.length)).drop (m * d.sz)).take d.sz = (inner.drop (m * d.sz)).take d.sz := by
     apply List.ext_getElem?
     intro q
     rw [List.getElem?_take, List.getElem?_take, List.getElem?_drop, List.getElem?_drop, seg_get inner seg _ (by omega)]
     by_cases hq : q < d.sz
     ·rw [if_pos hq, if_pos hq]
      rcases Nat.lt_or_gt_of_ne hmi with hlt | hgt
      ·have : m * d.sz + d.sz ≤ i.toNat * d.sz := by rw [← Nat.succ_mul]; exact Nat.mul_le_mul_right _ hlt
       rw [if_pos (by omega)]
      ·have : i.toNat * d.sz + d.sz ≤ m * d.sz := by rw [← Nat.succ_mul]; exact Nat.mul_le_mul_right _ hgt
       rw [if_neg (by omega), if_neg (by omega)]
     ·rw [if_neg hq, if_neg hq]
    rw [hcells]
    refine d.M_move (fun k hk => hfar k (fun he => hk.2 (by rw [he]; exact hgo))) hold
end
end Kd
namespace Kd
section
variable {α : Type} {F : Kd α → Kd α} {sz : Nat} {E : List Nat} {hs : ∀ n, (upto F sz E n).sz = sz} {hE : ∀ n q, q ∈ (upto F sz E n).E → q ∈ E}
end
end Kd
namespace Kd
section
variable {P : Program} {ops : Array Oper} {rest : List Oper} {o : Oper} {a : Act} {Q : Exit → Act → World → Prop} {α : Type}
theorem R_append_rows (d : Kd α) {Rr : α → List Value → Prop} {w0 W : World} (base : Nat) (hgd : o.guard = none) (s x : Operand) (t e : TypeId) (z : Value) (bytes : Nat)
  (ho : o.op = .call { callee := .builtin .append, args := #[s, x], argTypes := #[t, t] })
  (ht : P.underlying t = some (.slice e)) (hinfo : (P.info? e).map (fun i => (i.zero, i.size, i.bytes)) = some (some z, d.sz, bytes)) (hz : z.cells.size = d.sz) (hs0 : 0 < d.sz) (hb0 : 0 < bytes)
  (v : Value) (xs ys : List α) (A : Option Addr) (m c : Nat) (ok okp : Nat → Prop) (hs : a.eval s = v) (hx : a.eval x = .slice A m c)
  (HO : d.R e W base ok v xs) (HR : ReadsRow Rr d.sz W A m ys) (hKM : ∀ x cs, Rr x cs → d.M W base okp x cs) (hokp : ∀ k, okp k → ok k ∧ some k ≠ v.ownBlock) (hfresh : ∀ k, W.heap.size ≤ k → ok k)
  (HB : Below base w0 W) (hbase : base ≤ W.heap.size) (hl : (xs.length + m) * bytes ≤ 140737488355328)
  (h : ∀ v1 w1, d.R e w1 base ok v1 (xs ++ ys) → Below base w0 w1 → W.grownBy w1 v.ownBlock → (v1.ownBlock = v.ownBlock ∨ ∃ b, v1.ownBlock = some b ∧ W.heap.size ≤ b) → wpList P ops Q rest (a.put o.dst v1) w1) :
  wpList P ops Q (o :: rest) a W := by
 obtain ⟨i0, hi, hzz⟩ := Option.map_eq_some_iff.1 hinfo
 simp only [Prod.mk.injEq] at hzz
 obtain ⟨hz0, hz1, hz2⟩ := hzz
 have hm : ys.length = m := HR.1
 have hlen : xs.length + m ≤ 140737488355328 := Nat.le_trans (Nat.le_mul_of_pos_right _ hb0) hl
 obtain ⟨hok, inner, hown, hr⟩ := HO
 have hrun : ∃ v1 w1, (Builtin.append_ #[t, t] o.type #[v, .slice A m c]).run P W = .ok v1 w1 ∧ d.R e w1 base ok v1 (xs ++ ys) ∧ W.grownBy w1 v.ownBlock ∧ (v1.ownBlock = v.ownBlock ∨ ∃ b, v1.ownBlock = some b ∧ W.heap.size ≤ b) := by
  rcases A with _ | ad
  ·have h0 : m = 0 := by
    rcases Nat.eq_zero_or_pos m with h0 | h0
    ·exact h0
    ·obtain ⟨ad, h, _⟩ := HR.2.2 h0
     cases h
   subst h0
   obtain rfl : ys = [] := List.eq_nil_of_length_eq_zero hm
   refine ⟨v, W, ?_, by rw [List.append_nil]; exact ⟨hok, inner, hown, hr⟩, World.grownBy.refl W _, .inl rfl⟩
   rcases hown.2 with ⟨rfl, hn⟩ | ⟨g, cap, cur, rfl, _, _, hnc, _⟩
   ·simp [Builtin.append_, run_underlying ht, sizeOf, typeInfo, hi, Builtin.lenOf, Builtin.firstCells]
   ·simp [Builtin.append_, run_underlying ht, sizeOf, typeInfo, hi, Builtin.lenOf, Builtin.firstCells, hnc, storeCells]
  ·obtain ⟨news, hnr, hnc⟩ := ReadsRow.inner_ HR
   have hnM : Reps (d.M W base okp) d.sz ys news := hnr.imp_ (fun p c hp => hKM p c hp)
   have hone : ∀ u ∈ news, u.oneCell' = true := by
    intro u hu
    obtain ⟨q, hq, rfl⟩ := List.mem_iff_getElem.1 hu
    have hql : q / d.sz < ys.length := by
     rw [Nat.div_lt_iff_lt_mul hs0]
     rw [← hnM.1]
     exact hq
    have hc := hnM.2 (q / d.sz) _ (List.getElem?_eq_getElem hql)
    refine d.K_one (d.K_of_M hc) _ ?_
    rw [List.mem_iff_getElem?]
    refine ⟨q % d.sz, ?_⟩
    rw [List.getElem?_take, if_pos (Nat.mod_lt _ hs0), List.getElem?_drop, Nat.mul_comm, Nat.div_add_mod, List.getElem?_eq_getElem hq]
   obtain ⟨v1, w1, hrun, h2, hg, _, hat⟩ := run_append_own_at (P := P) W base t o.type e i0 z d.sz bytes ht hi hz0 hz1 hz2 hz hs0 v xs.length inner hown ad m c news (by rw [hnM.1, hm]) hnc hone (by simp only [maxLen]; omega) hl hbase
   have hat' : v1.ownBlock = v.ownBlock ∨ ∃ b, v1.ownBlock = some b ∧ W.heap.size ≤ b := by
    rcases hat with hat | hat
    ·exact .inl hat
    ·exact .inr ⟨_, hat, Nat.le_refl _⟩
   have hne : ∀ k, some k ≠ v.ownBlock → k < W.heap.size → some k ≠ v1.ownBlock := by
    intro k hk hlt
    rcases hat' with hat | ⟨b, hb, hle⟩
    ·rw [hat]; exact hk
    ·rw [hb]
     intro he
     injection he with he
     omega
   have step : ∀ {q : α} {c : List Value} {o : Nat → Prop}, d.M W base o q c → (∀ k, o k → ok k ∧ some k ≠ v.ownBlock) → d.M w1 base (fun k => ok k ∧ some k ≠ v1.ownBlock) q c := by
    intro q c o hq ho
    have h1 := d.M_move (w1 := w1) (fun k hk => hg.block k hk.2.2.1 (ho k hk.1).2) (d.M_bound hq)
    exact d.M_mono (fun k hk => ⟨(ho k hk.1).1, hne k (ho k hk.1).2 hk.2.2.1⟩) h1
   refine ⟨v1, w1, hrun, ⟨fun k hk => ?_, inner ++ news, by rw [List.length_append, hm]; exact h2, reps_append (hr.imp_ (fun _ _ hq => step hq (fun _ hk => hk))) (hnM.imp_ (fun _ _ hq => step hq hokp))⟩, hg, hat'⟩
   rcases hat' with hat | ⟨b, hb, hle⟩
   ·exact hok k (hat ▸ hk)
   ·rw [hb] at hk
    injection hk with hk
    exact hfresh k (by omega)
 obtain ⟨v1, w1, hr1, h1, hg, hat⟩ := hrun
 refine wpList_plain hgd fun K hK => ?_
 unfold Oper.wp execOp
 simp only [ho, resolve, invoke, builtin, Sem.run_bind, Sem.run_pure, Result.andThen_ok, List.map_toArray, List.map_cons, List.map_nil, hs, hx, hr1]
 exact hK _ _ (h v1 w1 h1 (HB.grown hg hbase (own_base hown)) hg hat)
end
end Kd
namespace Kd
section
variable {P : Program} {ops : Array Oper} {rest : List Oper} {o : Oper} {a : Act} {Q : Exit → Act → World → Prop} {α : Type}
end
end Kd
namespace Kd
section
variable {α : Type} {k : Kd α} {w : World} {A : Option Addr} {xs : List α} {m c : Nat}
end
end Kd
section
variable {P : Program}
end
namespace Kd
section
variable {α β : Type} {d : Kd α} {d' : Kd β} {e e' base base' n : Nat} {ok ok' : Nat → Prop} {w W w1 W1 : World} {v u : Value} {xs : List α} {ys : List β} {A : Option Addr} {c : Nat}
end
section
variable {α : Type} {enc : α → Value} {h1 : ∀ x, (enc x).oneCell' = true} {w W : World} {A : Option Addr} {n g : Nat} {xs : List α}
end
end Kd
namespace Kd
section
variable {α : Type} {d : Kd α} {e base g : Nat} {ok : Nat → Prop} {w w1 : World} {v : Value} {xs : List α} {o : Obj}
end
end Kd
section
variable {P : Program} {ops : Array Oper} {rest : List Oper} {o : Oper} {a : Act} {Q : Exit → Act → World → Prop}
end
namespace Kd
section
variable {α : Type} {enc : α → Value} {h1 : ∀ x, (enc x).oneCell' = true} {e base g n cap : Nat} {ok : Nat → Prop} {W : World} {xs : List α}
end
end Kd
section
variable {P : Program} {ops : Array Oper} {rest : List Oper} {o : Oper} {a : Act} {Q : Exit → Act → World → Prop}
theorem store_event {W w1 : World} (hgd : o.guard = none) {t : TypeId} {p : Tmp} {v : Operand} (_ho : o.op = .store t (.tmp p) v) (hN : o.dst = none)
  (hrun : (execOp a.eval o).run P W = .ok .skip w1) (h : ∀ w', w' = w1 → wpList P ops Q rest a w') : wpList P ops Q (o :: rest) a W := by
 refine wpList_plain hgd fun K hK => ?_
 unfold Oper.wp
 rw [hrun]
 show K (a.put o.dst undef) w1
 rw [hN]
 exact hK _ _ (h _ rfl)
end
namespace Kd
section
variable {α : Type} {enc : α → Value} {h1 : ∀ x, (enc x).oneCell' = true} {e base g n cap : Nat} {ok : Nat → Prop} {W : World} {xs : List α}
end
end Kd
section
variable {P : Program} {ops : Array Oper} {rest : List Oper} {o : Oper} {a : Act} {Q : Exit → Act → World → Prop} {W : World}
end
section
variable {P : Program} {ops : Array Oper} {o : Oper} {a : Act} {Q : Exit → Act → World → Prop} {Kc : Act → World → Prop}
namespace Kd
variable {α : Type}
end Kd
end
section
variable {P : Program} {tmps : Array Value} {w : World}
end
namespace Kd
section
variable {P : Program} {α : Type}
end
section
variable {P : Program} {ops : Array Oper} {rest : List Oper} {o : Oper} {a : Act} {Q : Exit → Act → World → Prop} {Kc : Act → World → Prop} {α : Type}
end
end Kd
end Go.Proofs.YtnbbbeghgomnoaaW.PrintWords
namespace Go.Proofs.YtnbbbeghgomnoaaW.PrintLast
open Go.Proofs.YtnbbbeghgomnoaaW.PrintWords (Aside0)
def freeT (T : List (List Nat × List Nat)) (l : List Bool) (i : Nat) : Bool := match T[i]? with
 | some r => r.2.all (fun j => l.getD j true)
 | none => false
def closedT (T : List (List Nat × List Nat)) (l : List Bool) : Bool := (List.range T.length).all fun j => !l.getD j false || match T[j]? with
 | some r => r.1.all (fun k => l.getD k false)
 | none => true
def reachT (T : List (List Nat × List Nat)) (i : Nat) : Nat → Nat → Bool
 | 0, _ => false
 | fuel + 1, d => match T[d]? with
  | some r => r.1.any fun j => j == i || reachT T i fuel j
  | none => false
def lastT (T : List (List Nat × List Nat)) (l : List Bool) (ds : List Nat) (i : Nat) : Bool := ds.all fun d => l.getD d true || reachT T i T.length d
section
variable {md : Region.Mode} {ops : Array Oper} {T : Bool × List (List Nat × List Nat)} {l l' li lj lk : Array Bool} {ds : List Nat} {i j k : Nat}
theorem needs_any (o : Oper) (p : Nat → Bool) : o.after.any (fun e => Region.binds md e && p e.on) = (needsOf md o).any p := by
 unfold needsOf
 rw [← Array.any_toList]
 induction o.after.toList with
 | nil => rfl
 | cons e r ih =>
  rw [List.any_cons, ih, List.filter_cons]
  cases h : Region.binds md e <;> simp
theorem free_eq : Region.free md ops l i = freeT (rtab md ops).2 l.toList i := by
 unfold Region.free freeT
 cases h : ops[i]? with
 | none => rw [rtab_none h]
 | some oi =>
  rw [rtab_some h]
  simp only [clashOf]
  rw [List.all_filter]
  congr 1
  funext j
  rw [gd]
  cases hj : ops[j]? with
  | none => cases (j == i) <;> cases (l.toList.getD j true) <;> simp
  | some oj =>
   cases (j == i) <;> cases (l.toList.getD j true) <;> cases (oj.after.any (fun e => Region.binds md e && e.on == i) || oi.apart ops oj) <;> simp_all
theorem closed_eq : Region.closedB md ops l = closedT (rtab md ops).2 l.toList := by
 unfold Region.closedB closedT
 rw [rtab_length]
 congr 1
 funext j
 rw [gd]
 cases h : ops[j]? with
 | none => rw [rtab_none h]
 | some o =>
  rw [rtab_some h]
  simp only
  rw [← needs_all]
  simp only [gd]
theorem reach_eq : ∀ (fuel d : Nat), Region.reachB md ops i fuel d = reachT (rtab md ops).2 i fuel d
 | 0, _ => rfl
 | fuel + 1, d => by
  unfold Region.reachB reachT
  cases h : ops[d]? with
  | none => rw [rtab_none h]
  | some o =>
   rw [rtab_some h]
   simp only
   rw [← needs_any]
   congr 1
   funext e
   rw [reach_eq fuel]
theorem last_eq : Region.lastB md ops l ds i = lastT (rtab md ops).2 l.toList ds i := by
 unfold Region.lastB lastT
 rw [rtab_length]
 congr 1
 funext d
 rw [gd, reach_eq]
theorem set_of (h : (l.toList.set i true == l'.toList) = true) : (l.setIfInBounds i true == l') = true := by
 rw [beq_iff_eq] at h ⊢
 apply Array.ext'
 rw [Array.toList_setIfInBounds]
 exact h
def anyT (T : Bool × List (List Nat × List Nat)) (l l' : List Bool) (i : Nat) : Bool := T.1 && freeT T.2 l i && readyAt T.2 l i && (l.set i true == l')
theorem any_of (hT : rtab md ops = T) (h : anyT T l.toList l'.toList i = true) : anyB md ops l l' i = true := by
 simp only [anyT, Bool.and_eq_true] at h
 obtain ⟨⟨⟨h1, h2⟩, h3⟩, h4⟩ := h
 have h5 := readyAt_mem h3 hT
 have h6 := set_of h4
 subst hT
 simp only [anyB, Bool.and_eq_true]
 exact ⟨⟨⟨h1, by rw [free_eq]; exact h2⟩, h5⟩, h6⟩
def takeT (T : Bool × List (List Nat × List Nat)) (ds : List Nat) (l l' : List Bool) (i : Nat) : Bool := T.1 && freeT T.2 l i && readyAt T.2 l i && closedT T.2 l && lastT T.2 l ds i && (l.set i true == l')
theorem take_of (hT : rtab md ops = T) (h : takeT T ds l.toList l'.toList i = true) : takeB md ops ds l l' i = true := by
 simp only [takeT, Bool.and_eq_true] at h
 obtain ⟨⟨⟨⟨⟨h1, h2⟩, h3⟩, h4⟩, h5⟩, h6⟩ := h
 have h7 := readyAt_mem h3 hT
 have h8 := set_of h6
 subst hT
 simp only [takeB, Bool.and_eq_true]
 exact ⟨⟨⟨⟨⟨h1, by rw [free_eq]; exact h2⟩, h7⟩, by rw [closed_eq]; exact h4⟩, by rw [last_eq]; exact h5⟩, h8⟩
theorem one_of (hT : rtab md ops = T) (h : (readyT T.2 l.toList == [i] && l.toList.set i true == l'.toList) = true) : readyB md ops l l' i = true := by
 simp only [Bool.and_eq_true] at h
 obtain ⟨h1, h2⟩ := h
 subst hT
 simp only [readyB, Bool.and_eq_true]
 exact ⟨by rw [ready_eq]; exact h1, set_of h2⟩
theorem done_of (hT : rtab md ops = T) (h : (readyT T.2 l.toList == []) = true) : (Region.ready md ops l == []) = true := by
 subst hT
 rw [ready_eq]
 exact h
def upM (B : List Nat) (d : Nat) : List Nat → Nat
 | [] => 0
 | n :: r => (2 ^ n ||| (if n < d then B.getD n 0 else 0)) ||| upM B d r
def waitsOk (T : List (List Nat × List Nat)) (B : List Nat) : Bool := (List.range T.length).all fun d => match T[d]? with
 | some r => (B.getD d 0 ||| upM B d r.1) == upM B d r.1
 | none => false
theorem upM_bit {B : List Nat} {d i : Nat} : ∀ {ns : List Nat}, (upM B d ns).testBit i = true → ∃ n ∈ ns, n = i ∨ (n < d ∧ (B.getD n 0).testBit i = true)
 | [], h => by simp [upM] at h
 | n :: r, h => by
  unfold upM at h
  rw [Nat.testBit_or, Nat.testBit_or, Bool.or_eq_true, Bool.or_eq_true] at h
  rcases h with (h | h) | h
  ·rw [Nat.testBit_two_pow] at h
   exact ⟨n, List.mem_cons_self, .inl (by simpa using h)⟩
  ·by_cases hn : n < d
   ·rw [if_pos hn] at h
    exact ⟨n, List.mem_cons_self, .inr ⟨hn, h⟩⟩
   ·rw [if_neg hn] at h
    simp at h
  ·obtain ⟨m, hm, h2⟩ := upM_bit h
   exact ⟨m, List.mem_cons_of_mem _ hm, h2⟩
theorem reach_bit {T : List (List Nat × List Nat)} {B : List Nat} (hB : waitsOk T B = true) : ∀ (fuel d : Nat), d < fuel → d < T.length → (B.getD d 0).testBit i = true → reachT T i fuel d = true
 | 0, d, h, _, _ => by omega
 | fuel + 1, d, h, hd, hb => by
  have h1 := List.all_eq_true.1 hB d (List.mem_range.2 hd)
  cases hr : T[d]? with
  | none => rw [hr] at h1; simp at h1
  | some r =>
   rw [hr] at h1
   simp only [beq_iff_eq] at h1
   have h2 : (upM B d r.1).testBit i = true := by rw [← h1, Nat.testBit_or, hb, Bool.true_or]
   obtain ⟨n, hn, h3⟩ := upM_bit h2
   unfold reachT
   rw [hr]
   simp only
   rw [List.any_eq_true]
   refine ⟨n, hn, ?_⟩
   rcases h3 with rfl | ⟨h4, h5⟩
   ·simp
   ·rw [reach_bit hB fuel n (by omega) (by omega) h5, Bool.or_true]
def lastW (T : List (List Nat × List Nat)) (B : List Nat) (l : List Bool) (ds : List Nat) (i : Nat) : Bool := ds.all fun d => l.getD d true || (decide (d < T.length) && (B.getD d 0).testBit i)
def takeW (T : Bool × List (List Nat × List Nat)) (B : List Nat) (ds : List Nat) (l l' : List Bool) (i : Nat) : Bool := T.1 && freeT T.2 l i && readyAt T.2 l i && closedT T.2 l && lastW T.2 B l ds i && (l.set i true == l')
theorem take_ofW {B : List Nat} (hT : rtab md ops = T) (hB : waitsOk T.2 B = true) (h : takeW T B ds l.toList l'.toList i = true) : takeB md ops ds l l' i = true := by
 refine take_of hT ?_
 simp only [takeW, takeT, Bool.and_eq_true] at h ⊢
 obtain ⟨⟨⟨⟨⟨h1, h2⟩, h3⟩, h4⟩, h5⟩, h6⟩ := h
 refine ⟨⟨⟨⟨⟨h1, h2⟩, h3⟩, h4⟩, ?_⟩, h6⟩
 unfold lastW at h5
 unfold lastT
 rw [List.all_eq_true] at h5 ⊢
 intro d hd
 have h7 := h5 d hd
 rw [Bool.or_eq_true, Bool.and_eq_true, decide_eq_true_eq] at h7
 rcases h7 with h7 | ⟨h8, h9⟩
 ·rw [h7, Bool.true_or]
 ·rw [reach_bit hB _ d h8 h8 h9, Bool.or_true]
theorem with_tabW {P : Program} {Q : Exit → Act → World → Prop} {S : World → Prop} {n : Nat} {a : Act} {w : World} {B : List Nat} (hT : rtab md ops = T) (hB : waitsOk T.2 B = true) (h : Aside0 (rtab md ops = T) → Aside0 (waitsOk T.2 B = true) → wpAnyLast P md ops Q S ds n l a w) : wpAnyLast P md ops Q S ds n l a w := h ⟨hT⟩ ⟨hB⟩
end
def opsIn : Code → Nat → Option (Array Oper)
 | .region id ops _, k => if id == k then some ops else none
 | .seq a b, k => match opsIn a k with
  | some o => some o
  | none => opsIn b k
 | .cond _ a b, k => match opsIn a k with
  | some o => some o
  | none => opsIn b k
 | .block _ c, k => opsIn c k
 | .loop c, k => opsIn c k
 | .scope c, k => opsIn c k
 | .rangeFunc _ _ a b, k => match opsIn a k with
  | some o => some o
  | none => opsIn b k
 | _, _ => none
def opsOf (f : Func) (k : Nat) : Array Oper := ((f.body.bind fun c => opsIn c k)).getD #[]
end Go.Proofs.YtnbbbeghgomnoaaW.PrintLast
namespace Go.Proofs.YtnbbbeghgomnoaaW.PrintWords
open Go.RowKit
namespace Kd
theorem heap_int (k : IntKind) : Heap (Kd.int k) := ⟨fun _ h => h⟩
theorem heap_slice {α : Type} {d : Kd α} (e : Nat) (hd : Heap d) : Heap (slice e d) := ⟨by
 rintro w w1 x cs hb ⟨A, c, rfl, hl, hr⟩
 exact ⟨A, c, rfl, hl, hd.C hb hr⟩⟩
theorem heap_pair {α β : Type} {a : Kd α} {b : Kd β} (ha : Heap a) (hb' : Heap b) : Heap (pair a b) := ⟨by
 rintro w w1 x cs hb ⟨c0, c1, rfl, h0, h1⟩
 exact ⟨c0, c1, rfl, ha.K hb h0, hb'.K hb h1⟩⟩
theorem heap_iso {α β : Type} {d : Kd α} (f : β → α) (hd : Heap d) : Heap (iso d f) := ⟨fun hb h => hd.K hb h⟩
section
variable {α : Type} {d : Kd α} {e base g n c : Nat} {ok : Nat → Prop} {w w0 W : World} {A : Option Addr} {xs : List α}
end
end Kd
end Go.Proofs.YtnbbbeghgomnoaaW.PrintWords
namespace Go.Proofs.YtnbbbeghgomnoaaW.PrintWords
open Go.RowKit
namespace Foot
variable {P Q : World → Prop} {W W1 : World} {ok ok' : Nat → Prop}
theorem old (h : Foot P W ok) (hb : Below W.heap.size W W1) : Foot P W1 (fun k => ok k ∧ k < W.heap.size) := (h.bound).step (fun k _ hlt => hb.block k hlt)
end Foot
namespace Kd
section
variable {α β : Type} {d : Kd α} {e base n n' cc g N : Nat} {ok ok' okp S : Nat → Prop} {w w0 w1 W W1 : World} {A A' : Option Addr} {u v v1 : Value} {xs : List α} {xs' : List β} {d' : Kd β} {x : α} {c : List Value}
theorem F_now (h : F d W ok A n xs) : d.C W A n xs := Foot.now h
theorem F_mono (h : F d W ok A n xs) (hok : ∀ k, ok k → ok' k) : F d W ok' A n xs := Foot.mono h hok
theorem F_bound (h : F d W ok A n xs) : F d W (fun k => ok k ∧ k < W.heap.size) A n xs := Foot.bound h
theorem F_step (h : F d W ok A n xs) (hm : ∀ k, ok k → k < W.heap.size → W1.heap[k]? = W.heap[k]?) : F d W1 ok A n xs := Foot.step h hm
theorem F_below (h : F d W ok A n xs) (hb : Below W.heap.size W W1) : F d W1 ok A n xs := F_step h (fun k _ hlt => hb.block k hlt)
theorem F_alloc (h : F d W ok A n xs) (o : Obj) : F d (W.alloc o) ok A n xs := F_below h (below_alloc (Below.refl _ _) o)
theorem F_drew (h : F d W ok A n xs) : F d W.drew ok A n xs := F_below h (below_drew (Below.refl _ _))
theorem F_drewN (h : F d W ok A n xs) (m : Nat) : F d (W.drewN m) ok A n xs := F_below h (pw_below_drewN (Below.refl _ _) m)
theorem F_far (h : F d W ok A n xs) {p : Addr} (hok : ∀ k, ok k → k ≠ p.block) (u : Value) : F d (W.setCell p u) ok A n xs := F_step h (fun k hk _ => Below.heap_setCell W p u k (hok k hk))
theorem F_elder' (h : F d W ok A n xs) (hbase : ∀ k, v.ownBlock = some k → W.heap.size ≤ k) (hb : Below W.heap.size W W1) : F d W1 (fun k => ok k ∧ some k ≠ v.ownBlock) A n xs :=
 F_mono (Foot.old h hb) (fun k hk => ⟨hk.1, fun he => by have := hbase k he.symm; have := hk.2; omega⟩)
theorem F_elderB (h : F d W ok A n xs) (a : Nat) (ha : W.heap.size ≤ a) : F d W (fun k => ok k ∧ k ≠ a) A n xs := F_mono (F_bound h) (fun k hk => ⟨hk.1, by have := hk.2; omega⟩)
theorem F_after (h : F d W (fun k => ok k ∧ some k ≠ v.ownBlock) A n xs) (hg : W.grownBy W1 v.ownBlock) (hat : v1.ownBlock = v.ownBlock ∨ ∃ b, v1.ownBlock = some b ∧ W.heap.size ≤ b) : F d W1 (fun k => ok k ∧ some k ≠ v1.ownBlock) A n xs := by
 refine F_mono (Foot.step (F_bound h) (fun k hk hlt => hg.block k hlt hk.1.2)) (fun k hk => ⟨hk.1.1, ?_⟩)
 rcases hat with hat | ⟨b, hb, hle⟩
 ·rw [hat]; exact hk.1.2
 ·rw [hb]
  intro he
  injection he with he
  have := hk.2
  omega
theorem F_old (h : F d W ok A n xs) (hb : Below W.heap.size W W1) : F d W1 (fun k => ok k ∧ k < W.heap.size) A n xs := Foot.old h hb
theorem F_told (h : F d W1 (fun k => ok k ∧ k < N) A n xs) (hbase : ∀ k, v.ownBlock = some k → N ≤ k) : F d W1 (fun k => (ok k ∧ some k ≠ v.ownBlock) ∧ k < N) A n xs :=
 F_mono h (fun k hk => ⟨⟨hk.1, fun he => Nat.lt_irrefl _ (Nat.lt_of_lt_of_le hk.2 (hbase k he.symm))⟩, hk.2⟩)
theorem C_F (hd : Heap d) (h : d.C w A n xs) : F d w (fun k => k < w.heap.size) A n xs := fun _ hW => hd.C (fun k hlt => hW k hlt hlt) h
end
end Kd
end Go.Proofs.YtnbbbeghgomnoaaW.PrintWords
namespace Go.Proofs.YtnbbbeghgomnoaaW.PrintWords
open Go.RowKit
namespace Kd
section
variable {α : Type} {d : Kd α} {e base n cc g : Nat} {ok ok' okp S : Nat → Prop} {w w1 W W1 : World} {A : Option Addr} {u v v1 : Value} {xs : List α} {x : α} {c : List Value}
theorem N_lt (h : N d e w base ok v xs) : ∀ k, v.ownBlock = some k → k < w.heap.size := by
 obtain ⟨_, rows, _, hR, _⟩ := h
 exact R_lt hR
theorem N_base (h : N d e w base ok v xs) : ∀ k, v.ownBlock = some k → base ≤ k := by
 obtain ⟨_, rows, _, hR, _⟩ := h
 exact R_base hR
theorem N_bound (h : N d e w base ok v xs) : N d e w base (fun k => ok k ∧ k < w.heap.size) v xs := by
 have hlt := N_lt h
 obtain ⟨h0, rows, hl, hR, hf⟩ := h
 exact ⟨fun k hk => ⟨h0 k hk, hlt k hk⟩, rows, hl, hR, fun j x c hx hc => FK_mono (FK_bound (hf j x c hx hc)) (fun k hk => ⟨⟨hk.1.1, hk.2⟩, hk.1.2⟩)⟩
theorem N_elder' (h : N d e W base ok v xs) (hbase : ∀ k, u.ownBlock = some k → W.heap.size ≤ k) (hb : Below W.heap.size W w1) : N d e w1 base (fun k => ok k ∧ some k ≠ u.ownBlock) v xs :=
 N_mono (N_below (N_bound h) hb) (fun k hk => ⟨hk.1, fun he => by have := hbase k he.symm; have := hk.2; omega⟩)
theorem N_old (h : N d e W base ok v xs) (hb : Below W.heap.size W w1) : N d e w1 base (fun k => ok k ∧ k < W.heap.size) v xs := N_below (N_bound h) hb
theorem N_told {b : Nat} (h : N d e w1 base (fun k => ok k ∧ k < b) v xs) (hbase : ∀ k, u.ownBlock = some k → b ≤ k) : N d e w1 base (fun k => (ok k ∧ some k ≠ u.ownBlock) ∧ k < b) v xs :=
 N_mono h (fun k hk => ⟨⟨hk.1, fun e => Nat.lt_irrefl _ (Nat.lt_of_lt_of_le hk.2 (hbase k e.symm))⟩, hk.2⟩)
end
end Kd
end Go.Proofs.YtnbbbeghgomnoaaW.PrintWords
namespace Go.Proofs.YtnbbbeghgomnoaaW.PrintMore
open Go.RowKit Go.Proofs.YtnbbbeghgomnoaaW.PrintWords
namespace Kd
open Go.Proofs.YtnbbbeghgomnoaaW.PrintWords.Kd
end Kd
namespace Kd
open Go.Proofs.YtnbbbeghgomnoaaW.PrintWords.Kd
section
variable {α : Type} {d : Kd α} {e base g N : Nat} {ok : Nat → Prop} {W w1 : World} {u v : Value} {xs : List α}
end
end Kd
end Go.Proofs.YtnbbbeghgomnoaaW.PrintMore
namespace Go.Proofs.YtnbbbeghgomnoaaW.PrintWords
open Go.RowKit
section
variable {P : Program} {ops : Array Oper} {rest : List Oper} {o : Oper} {a : Act} {Q : Exit → Act → World → Prop} {W : World}
end
theorem shl_small {k : IntKind} {x y j : Int} (h : shl k x y = j) (hy : y ≤ k.bits) : k.wrap (x * 2 ^ y.toNat) = j := by rw [← h]; unfold shl; rw [Nat.min_eq_left (by omega)]
theorem shr_small {k : IntKind} {x y j : Int} (h : shr k x y = j) (hy : y ≤ k.bits) : x / 2 ^ y.toNat = j := by rw [← h]; unfold shr; rw [Nat.min_eq_left (by omega)]
namespace Kd
section
variable {α : Type} {d : Kd α} {e base : Nat} {ok : Nat → Prop} {W w1 : World} {v : Value} {xs : List α}
end
section
variable {α : Type} {d : Kd α} {e base g n cap : Nat} {ok oki okp : Nat → Prop} {W : World} {xs : List α} {i : Int} {c : List Value}
end
section
variable {α : Type} {d : Kd α} {e base b b' g N : Nat} {ok ok1 : Nat → Prop} {W W2 w1 : World} {u v : Value} {xs ys : List α} {S : Nat → Prop}
end
end Kd
end Go.Proofs.YtnbbbeghgomnoaaW.PrintWords
namespace Go.Proofs.YtnbbbeghgomnoaaW.PrintWords
open Go.RowKit
namespace Kd
section
variable {α β : Type} {d : Kd α} {e base base' n m c g N' lo hi : Nat} {ok ok' S : Nat → Prop} {w W w1 : World} {A : Option Addr} {ad : Addr} {u v v1 : Value} {xs : List α}
theorem V_map (h : V d e W base ok v xs) (hF : ∀ A, F d W ok A xs.length xs → F d w1 ok' A xs.length xs) : V d e w1 base' ok' v xs := by
 obtain ⟨A, c, hv, hl, hf⟩ := h
 exact ⟨A, c, hv, hl, hF A hf⟩
theorem V_mk (hl : xs.length ≤ c) (hf : F d W ok A xs.length xs) : V d e W base ok (.slice A xs.length c) xs := ⟨A, c, rfl, hl, hf⟩
theorem V_slice (h : V d e W base ok v xs) : ∃ A c, v = .slice A xs.length c := by
 obtain ⟨A, c, hv, _⟩ := h
 exact ⟨A, c, hv⟩
theorem V_at (h : V d e W base ok (.slice A n c) xs) : n = xs.length ∧ n ≤ c ∧ F d W ok A xs.length xs := by
 obtain ⟨A', c', hv, hl, hf⟩ := h
 injection hv with ha hn hc
 subst ha; subst hc
 exact ⟨hn, by rw [hn]; exact hl, hf⟩
theorem V_reads' (h : V d e W base ok (.slice A n c) xs) : n = xs.length ∧ n ≤ c ∧ d.C W A xs.length xs := ⟨(V_at h).1, (V_at h).2.1, F_now (V_at h).2.2⟩
theorem V_mono (h : V d e W base ok v xs) (hok : ∀ k, ok k → ok' k) : V d e W base ok' v xs := V_map h (fun _ hf => F_mono hf hok)
theorem V_lower (h : V d e W base ok v xs) (_ : base' ≤ base) : V d e W base' ok v xs := h
theorem V_below (h : V d e W base ok v xs) (hb : Below W.heap.size W w1) : V d e w1 base ok v xs := V_map h (fun _ hf => F_below hf hb)
theorem V_alloc (h : V d e W base ok v xs) (o : Obj) : V d e (W.alloc o) base ok v xs := V_map h (fun _ hf => F_alloc hf o)
theorem V_drew (h : V d e W base ok v xs) : V d e W.drew base ok v xs := V_map h (fun _ hf => F_drew hf)
theorem V_drewN (h : V d e W base ok v xs) (m : Nat) : V d e (W.drewN m) base ok v xs := V_map h (fun _ hf => F_drewN hf m)
theorem V_far (h : V d e W base ok v xs) {p : Addr} (hok : ∀ k, ok k → k ≠ p.block) (u : Value) : V d e (W.setCell p u) base ok v xs := V_map h (fun _ hf => F_far hf hok u)
theorem V_after (h : V d e W base (fun k => ok k ∧ some k ≠ u.ownBlock) v xs) (hg : W.grownBy w1 u.ownBlock) (hat : v1.ownBlock = u.ownBlock ∨ ∃ b, v1.ownBlock = some b ∧ W.heap.size ≤ b) : V d e w1 base (fun k => ok k ∧ some k ≠ v1.ownBlock) v xs := V_map h (fun _ hf => F_after hf hg hat)
theorem V_afterv (h : V d e W base (fun k => ok k ∧ some k ≠ v.ownBlock) u xs) (hg : W.grownBy w1 v.ownBlock) (hat : v1.ownBlock = v.ownBlock ∨ ∃ b, v1.ownBlock = some b ∧ W.heap.size ≤ b) : V d e w1 base (fun k => ok k ∧ some k ≠ v1.ownBlock) u xs := V_after h hg hat
theorem V_elder' (h : V d e W base ok v xs) (hbase : ∀ k, u.ownBlock = some k → W.heap.size ≤ k) (hb : Below W.heap.size W w1) : V d e w1 base (fun k => ok k ∧ some k ≠ u.ownBlock) v xs := V_map h (fun _ hf => F_elder' hf hbase hb)
theorem V_elderB (h : V d e W base ok v xs) (a : Nat) (ha : W.heap.size ≤ a) : V d e W base (fun k => ok k ∧ k ≠ a) v xs := V_map h (fun _ hf => F_elderB hf a ha)
theorem V_old (h : V d e W base ok v xs) (hb : Below W.heap.size W w1) : V d e w1 base (fun k => ok k ∧ k < W.heap.size) v xs := V_map h (fun _ hf => F_old hf hb)
theorem V_told (h : V d e w1 base (fun k => ok k ∧ k < N') v xs) (hbase : ∀ k, u.ownBlock = some k → N' ≤ k) : V d e w1 base (fun k => (ok k ∧ some k ≠ u.ownBlock) ∧ k < N') v xs := V_map h (fun _ hf => F_told hf hbase)
end
end Kd
end Go.Proofs.YtnbbbeghgomnoaaW.PrintWords
namespace Go.Proofs.Ytnbbbeghgomnoaa.X
open Go.RowKit Go.Proofs.YtnbbbeghgomnoaaW.PrintWords Go.Proofs.YtnbbbeghgomnoaaW.PrintLast Go.Proofs.YtnbbbeghgomnoaaW.PrintMore
attribute [local go_sem] max2_int min2_int max_two min_two max_three min_three max_four min_four
set_option linter.unusedVariables false
set_option linter.unusedSimpArgs false
theorem info85 : (Try.prog.info? 85).map (fun i => (i.zero, i.size, i.bytes)) = some (some (.agg #[(.int .i64 0), (.int .i64 0), (.int .i64 0)]), 3, 24) := by kernel_rfl
theorem k71_heap : Kd.Heap k71 := Kd.heap_iso _ (Kd.heap_pair (Kd.heap_slice 3 (Kd.heap_int .i64)) (Kd.heap_int .i64))
theorem k65_openM {w : World} {base : Nat} {ok : Nat → Prop} {x : S65} {cs : List Value} (h : k65.M w base ok x cs) : cs = [.int .i64 x.f0, .int .i64 x.f1] := by
 obtain ⟨_, _, rfl, rfl, rfl⟩ := h
 exact rfl
theorem k65_mkM (w : World) (base : Nat) (ok : Nat → Prop) (x : S65)  : k65.M w base ok x [.int .i64 x.f0, .int .i64 x.f1] := ⟨[.int .i64 x.f0], [.int .i64 x.f1], rfl, rfl, rfl⟩
theorem k85_openM {w : World} {base : Nat} {ok : Nat → Prop} {x : S85} {cs : List Value} (h : k85.M w base ok x cs) : cs = [.int .i64 x.f0, .int .i64 x.f1.f0, .int .i64 x.f1.f1] := by
 obtain ⟨_, _, rfl, rfl, s1⟩ := h
 obtain rfl := k65_openM s1
 exact rfl
theorem k85_mkM (w : World) (base : Nat) (ok : Nat → Prop) (x : S85)  : k85.M w base ok x [.int .i64 x.f0, .int .i64 x.f1.f0, .int .i64 x.f1.f1] := ⟨[.int .i64 x.f0], [.int .i64 x.f1.f0, .int .i64 x.f1.f1], rfl, rfl, (k65_mkM w base ok x.f1 )⟩
end Go.Proofs.Ytnbbbeghgomnoaa.X
namespace Go.Proofs.Ytnbbbeghgomnoaa.X
open Go.RowKit Go.Proofs.YtnbbbeghgomnoaaW.PrintWords Go.Proofs.YtnbbbeghgomnoaaW.PrintLast Go.Proofs.YtnbbbeghgomnoaaW.PrintMore
section
variable {w W0 W W' : World} {g g' : Nat} {o : Obj}
theorem sCb1 {g0 : Nat} {α : Type} {d : Kd α} {A : Option Addr} {n : Nat} {xs : List α} (h : Aside0 (Kd.C d w A n xs)) (hb : Aside0 (Below w.heap.size w W0)) (h0 : Aside0 (w.heap.size ≤ g0)) (k : Below w.heap.size w W0 → w.heap.size ≤ g0 → Below w.heap.size w W := by intro k_ h0_; repeat (first | exact k_ | apply below_alloc | apply pw_below_drewN | apply below_drew1 | refine below_set ?_ h0_)) : Kd.C d W A n xs := Kd.C_below h.out (k hb.out h0.out)
theorem sbs3 {g0 : Nat} {g1 : Nat} {g2 : Nat} (h : Aside0 (Below w.heap.size w W0)) (h0 : Aside0 (w.heap.size ≤ g0)) (h1 : Aside0 (w.heap.size ≤ g1)) (h2 : Aside0 (w.heap.size ≤ g2)) (hb : Below W.heap.size W W') (k : Below w.heap.size w W0 → w.heap.size ≤ g0 → w.heap.size ≤ g1 → w.heap.size ≤ g2 → Below w.heap.size w W := by intro k_ h0_ h1_ h2_; repeat (first | exact k_ | apply below_alloc | apply pw_below_drewN | apply below_drew1 | refine below_set ?_ h0_ | refine below_set ?_ h1_ | refine below_set ?_ h2_)) : Below w.heap.size w W' := below_step (k h.out h0.out h1.out h2.out) hb
theorem sN_ {α : Type} {d : Kd α} {e base : Nat} {ok : Nat → Prop} {v : Value} {xs : List α} (h : Aside0 (Kd.N d e W0 base ok v xs)) (k : Kd.N d e W0 base ok v xs → Kd.N d e W base ok v xs := by intro k_; (with_reducible repeat (first | apply Kd.N_alloc | apply Kd.N_drewN | apply Kd.N_drew)); exact k_) : Kd.N d e W base ok v xs := k h.out
end
section
variable {P : Program} {ops : Array Oper} {Q : Exit → Act → World → Prop} {md : Region.Mode} {S : World → Prop} {ds : List Nat}
end
section
variable {P : Program} {ops : Array Oper} {rest : List Oper} {Q : Exit → Act → World → Prop} {a : Act} {o : Oper} {W : World}
end
end Go.Proofs.Ytnbbbeghgomnoaa.X
namespace Go.Proofs.Ytnbbbeghgomnoaa.X
open Go.RowKit Go.Proofs.YtnbbbeghgomnoaaW.PrintWords Go.Proofs.YtnbbbeghgomnoaaW.PrintLast Go.Proofs.YtnbbbeghgomnoaaW.PrintMore
attribute [local go_sem] max2_int min2_int max_two min_two max_three min_three max_four min_four
set_option linter.unusedVariables false
set_option linter.unusedSimpArgs false
def posserlaw03_ready.f (k : Nat) (l0_0 : List (S85)) (l0_1 : List (S71)) (a0_2 : Int) : Option (Bool) := (posserlaw03_Thin.f k l0_0 l0_1 a0_2).bind fun t444 => (if t444 = true then ((posserref03_Fault.f k l0_0 l0_1 a0_2).bind fun t445 => (some (t445 == 0))) else (some false))
set_option maxHeartbeats 8000000 in
set_option maxRecDepth 100000 in
theorem posserlaw03_ready.calls (k : Nat) (A0_0 : Option Addr) (c0_0 : Nat) (l0_0 : List (S85)) (A0_1 : Option Addr) (c0_1 : Nat) (l0_1 : List (S71)) (a0_2 : Int) (r : Bool) (w : World) (hr0_0 : Kd.C k85 w A0_0 l0_0.length l0_0) (hc0_0 : l0_0.length ≤ c0_0) (hr0_1 : Kd.C k71 w A0_1 l0_1.length l0_1) (hc0_1 : l0_1.length ≤ c0_1) (h : posserlaw03_ready.f k l0_0 l0_1 a0_2 = some r) :
  Calls Try.prog 47 #[.agg #[.slice A0_0 l0_0.length c0_0, .slice A0_1 l0_1.length c0_1, .int .i64 a0_2]] w fun e w' => e = .returned (.bool r) ∧ Below w.heap.size w w' := by
 have hu25 := Try.underlying25
 have HR0_0 := Aside0.mk hr0_0
 have HC0_0 := Aside0.mk hc0_0
 clear hr0_0 hc0_0
 have HR0_1 := Aside0.mk hr0_1
 have HC0_1 := Aside0.mk hc0_1
 clear hr0_1 hc0_1
 have HB := Aside0.mk (Below.refl w.heap.size w)
 have H : ((posserlaw03_Thin.f k l0_0 l0_1 a0_2).bind fun t444 => (if t444 = true then ((posserref03_Fault.f k l0_0 l0_1 a0_2).bind fun t445 => (some (t445 == 0))) else (some false))) = some r := h
 clear h
 replace H := Option.bind_eq_some_iff.mp H
 obtain ⟨t444, A20, H⟩ := H
 replace H : (if t444 = true then ((posserref03_Fault.f k l0_0 l0_1 a0_2).bind fun t445 => (some (t445 == 0))) else (some false)) = some r := H
 have A2 := Aside0.mk A20
 clear A20
 by_cases c3 : t444 = true
 ·subst c3
  have H1 : ((posserref03_Fault.f k l0_0 l0_1 a0_2).bind fun t445 => (some (t445 == 0))) = some r := by rw [if_pos rfl] at H; exact H
  clear H
  have H := H1
  clear H1
  replace H := Option.bind_eq_some_iff.mp H
  obtain ⟨t445, A40, H⟩ := H
  replace H : (some (t445 == 0)) = some r := H
  have A4 := Aside0.mk A40
  clear A40
  obtain rfl := Option.some.inj H
  go_enter Try.func47, Try.ntmps47
  go_wp2_with (first | ((with_reducible refine gate_dst (N := 1) rfl ?_); refine sbox (N := 1) #[.slice A0_0 l0_0.length c0_0, .slice A0_1 l0_1.length c0_1, .int .i64 a0_2] 25 ?_; intro gb443 hg w5 hbox hb; have BK443 := Aside0.mk (hbox); have GW443 := Aside0.mk (sge hg HB : w.heap.size ≤ gb443); have GE443 := Aside0.mk (sge hg HB : w.heap.size ≤ gb443); replace HB := Aside0.mk (sbs HB hb); clear hb hbox hg; have hcz6_0 := sc 0 BK443; have hcz6_1 := sc 1 BK443; have hcz6_2 := sc 2 BK443; have hfz6_0 := blk_frozen BK443.out 0; have hfz6_1 := blk_frozen BK443.out 1; have hfz6_2 := blk_frozen BK443.out 2) | ((with_reducible refine gate_callee (f := 20) rfl ?_); refine goesL_ (some 4) rfl rfl Try.func20 (by kernel_rfl) rfl #[.agg #[.slice A0_0 l0_0.length c0_0, .slice A0_1 l0_1.length c0_1, .int .i64 a0_2]] rfl (by (try simp only [List.map_toArray, List.map_cons, List.map_nil]); first | done | rfl | (simp only [List.length_drop, List.length_take]; rfl)) ?_; (with_reducible refine (posserlaw03_Thin.calls k _ _ l0_0 _ _ l0_1 a0_2 true _ ?side1 ?side2 ?side3 ?side4 A2.out).mono ?_); (case side1 => exact sCb HR0_0 HB); (case side2 => exact HC0_0.out); (case side3 => exact sCb HR0_1 HB); (case side4 => exact HC0_1.out); rintro e w7 ⟨rfl, hb⟩; refine ⟨_, rfl, ?_⟩; replace BK443 := Aside0.mk (sbb BK443 hb); replace HB := Aside0.mk (sbs1 HB GE443 hb); (try clear hb); (try clear hb2); (try clear hk); (try clear hi); have hcz8_0 := sc 0 BK443; have hcz8_1 := sc 1 BK443; have hcz8_2 := sc 2 BK443; have hfz8_0 := blk_frozen BK443.out 0; have hfz8_1 := blk_frozen BK443.out 1; have hfz8_2 := blk_frozen BK443.out 2) | (go_at_call 75; (with_reducible refine (posserref03_Fault.calls k _ _ l0_0 _ _ l0_1 a0_2 t445 _ ?side1 ?side2 ?side3 ?side4 A4.out).mono ?_); (case side1 => exact sCb HR0_0 HB); (case side2 => exact HC0_0.out); (case side3 => exact sCb HR0_1 HB); (case side4 => exact HC0_1.out); rintro e w9 ⟨rfl, hb⟩; replace BK443 := Aside0.mk (sbb BK443 hb); replace HB := Aside0.mk (sbs1 HB GE443 hb); (try clear hb); (try clear hb2); (try clear hk); (try clear hi)))
  go_ret
  exact ⟨by first | rfl | (simp [errW_none, errW_some] <;> rfl) | (simp [*, errW_none, errW_some] <;> rfl), (sbe1 HB GE443)⟩
 ·replace c3 := Bool.eq_false_iff.mpr c3
  subst c3
  have H1 : (some false) = some r := by rw [if_neg (show ¬ (false = true) by decide)] at H; exact H
  clear H
  have H := H1
  clear H1
  obtain rfl := Option.some.inj H
  go_enter Try.func47, Try.ntmps47
  go_wp2_with (first | ((with_reducible refine gate_dst (N := 1) rfl ?_); refine sbox (N := 1) #[.slice A0_0 l0_0.length c0_0, .slice A0_1 l0_1.length c0_1, .int .i64 a0_2] 25 ?_; intro gb443 hg w10 hbox hb; have BK443 := Aside0.mk (hbox); have GW443 := Aside0.mk (sge hg HB : w.heap.size ≤ gb443); have GE443 := Aside0.mk (sge hg HB : w.heap.size ≤ gb443); replace HB := Aside0.mk (sbs HB hb); clear hb hbox hg; have hcz11_0 := sc 0 BK443; have hcz11_1 := sc 1 BK443; have hcz11_2 := sc 2 BK443; have hfz11_0 := blk_frozen BK443.out 0; have hfz11_1 := blk_frozen BK443.out 1; have hfz11_2 := blk_frozen BK443.out 2) | ((with_reducible refine gate_callee (f := 20) rfl ?_); refine goesL_ (some 4) rfl rfl Try.func20 (by kernel_rfl) rfl #[.agg #[.slice A0_0 l0_0.length c0_0, .slice A0_1 l0_1.length c0_1, .int .i64 a0_2]] rfl (by (try simp only [List.map_toArray, List.map_cons, List.map_nil]); first | done | rfl | (simp only [List.length_drop, List.length_take]; rfl)) ?_; (with_reducible refine (posserlaw03_Thin.calls k _ _ l0_0 _ _ l0_1 a0_2 false _ ?side1 ?side2 ?side3 ?side4 A2.out).mono ?_); (case side1 => exact sCb HR0_0 HB); (case side2 => exact HC0_0.out); (case side3 => exact sCb HR0_1 HB); (case side4 => exact HC0_1.out); rintro e w12 ⟨rfl, hb⟩; refine ⟨_, rfl, ?_⟩; replace BK443 := Aside0.mk (sbb BK443 hb); replace HB := Aside0.mk (sbs1 HB GE443 hb); (try clear hb); (try clear hb2); (try clear hk); (try clear hi)))
  go_ret
  exact ⟨by first | rfl | (simp [errW_none, errW_some] <;> rfl) | (simp [*, errW_none, errW_some] <;> rfl), (sbe1 HB GE443)⟩
end Go.Proofs.Ytnbbbeghgomnoaa.X
namespace Go.Proofs.Ytnbbbeghgomnoaa.X
open Go.RowKit Go.Proofs.YtnbbbeghgomnoaaW.PrintWords Go.Proofs.YtnbbbeghgomnoaaW.PrintLast Go.Proofs.YtnbbbeghgomnoaaW.PrintMore
attribute [local go_sem] max2_int min2_int max_two min_two max_three min_three max_four min_four
set_option linter.unusedVariables false
set_option linter.unusedSimpArgs false
def posserlaw03_some.l0 : Nat → Int → Int → List (S85) → List (S71) → Int → Option ((List (S85)) × (List (S71)) × Int)
 | 0, _, _, _, _, _ => none
 | k + 1, x1, x6, x1014000, x1014001, x1014002 => if x6 < (x1014000.length : Int) then (if 0 ≤ (IntKind.u64.wrap (x6)) then (if (Int.tmod (shr .i64 x1 (IntKind.u64.wrap (x6))) 2) = 0 then (if 0 ≤ x6 then (posserlaw03_some.l0 k x1 (wrap64 (x6 + 1)) (x1014000.set (x6 : Int).toNat (⟨(rd_T85 x1014000 x6).f0, (⟨0, 7⟩ : S65)⟩ : S85)) x1014001 x1014002) else (none)) else (posserlaw03_some.l0 k x1 (wrap64 (x6 + 1)) x1014000 x1014001 x1014002)) else (none)) else (some (x1014000, x1014001, x1014002))
def posserlaw03_some.f (k : Nat) (l0_0 : List (S85)) (l0_1 : List (S71)) (a0_2 : Int) (a1 : Int) : Option ((List (S85)) × (List (S71)) × Int) := (some (([] : List (S85)) : List (S85))).bind fun y1014 => (if y1014.length + l0_0.length < 5864062014805 then (posserlaw03_some.l0 k a1 0 (y1014 ++ l0_0) l0_1 0) else (none))
set_option maxHeartbeats 8000000 in
set_option maxRecDepth 100000 in
theorem posserlaw03_some.calls (k : Nat) (A0_0 : Option Addr) (c0_0 : Nat) (l0_0 : List (S85)) (P0_1_ : Nat → Prop) (A0_1 : Option Addr) (c0_1 : Nat) (l0_1 : List (S71)) (a0_2 : Int) (a1 : Int) (r1 : List (S85)) (r2 : List (S71)) (r3 : Int) (w : World) (hr0_0 : Kd.C k85 w A0_0 l0_0.length l0_0) (hc0_0 : l0_0.length ≤ c0_0) (hs0_1 : Kd.V k71 71 w w.heap.size (fun k_ => P0_1_ k_) (.slice A0_1 l0_1.length c0_1) l0_1) (h : posserlaw03_some.f k l0_0 l0_1 a0_2 a1 = some (r1, r2, r3)) :
  Calls Try.prog 57 #[.agg #[.slice A0_0 l0_0.length c0_0, .slice A0_1 l0_1.length c0_1, .int .i64 a0_2], .int .i64 a1] w fun e w' => ∃ v0_ v1_ : Value, e = .returned (.agg #[v0_, v1_, .int .i64 r3]) ∧ Kd.R k85 85 w' w.heap.size (fun k_ => (w.heap.size ≤ k_)) v0_ r1 ∧ Kd.V k71 71 w' w.heap.size (fun k_ => (P0_1_ k_ ∨ w.heap.size ≤ k_) ∧ some k_ ≠ (v0_ : Value).ownBlock) v1_ r2 ∧ Below w.heap.size w w' := by
 have hu25 := Try.underlying25
 have hu65 := Try.underlying65
 have HR0_0 := Aside0.mk hr0_0
 have HC0_0 := Aside0.mk hc0_0
 clear hr0_0 hc0_0
 have HO0_1 := Aside0.mk (show Kd.V k71 71 w w.heap.size (fun k_ => (P0_1_ k_ ∨ w.heap.size ≤ k_)) (.slice A0_1 l0_1.length c0_1) l0_1 from Kd.V_mono hs0_1 (fun k_ hk => .inl hk))
 have HB := Aside0.mk (Below.refl w.heap.size w)
 have H : ((some (([] : List (S85)) : List (S85))).bind fun y1014 => (if y1014.length + l0_0.length < 5864062014805 then (posserlaw03_some.l0 k a1 0 (y1014 ++ l0_0) l0_1 0) else (none))) = some (r1, r2, r3) := h
 clear h
 obtain ⟨y1014, hy1014⟩ : ∃ y_ : List (S85), y_ = (([] : List (S85))) := ⟨_, rfl⟩
 replace H : (if y1014.length + l0_0.length < 5864062014805 then (posserlaw03_some.l0 k a1 0 (y1014 ++ l0_0) l0_1 0) else (none)) = some (r1, r2, r3) := by first | (rw [hy1014]; with_reducible exact H) | (have H2_ := (Option.bind_some _ _).symm.trans H; rw [hy1014]; with_reducible exact H2_) | (have H2_ := (Option.bind_some _ _).symm.trans H; with_reducible exact H2_) | with_reducible exact H | (rw [hy1014]; exact H) | exact H
 have Ny1014 := Aside0.mk hy1014
 clear hy1014
 by_cases c3 : y1014.length + l0_0.length < 5864062014805
 ·rw [if_pos c3] at H
  have LMc3 := Aside0.mk c3
  clear c3
  obtain ⟨y1017, hy1017⟩ : ∃ y_ : List (S85), y_ = (y1014 ++ l0_0) := ⟨_, rfl⟩
  replace H : (posserlaw03_some.l0 k a1 0 y1017 l0_1 0) = some (r1, r2, r3) := by first | (rw [hy1017]; with_reducible exact H) | (have H2_ := (Option.bind_some _ _).symm.trans H; rw [hy1017]; with_reducible exact H2_) | (have H2_ := (Option.bind_some _ _).symm.trans H; with_reducible exact H2_) | with_reducible exact H | (rw [hy1017]; exact H) | exact H
  have Ny1017 := Aside0.mk hy1017
  clear hy1017
  have H' := Aside0.mk H
  clear H
  go_enter Try.func57, Try.ntmps57
  go_wp2_with (first | ((with_reducible refine gate_dst (N := 2) rfl ?_); refine sbox (N := 2) #[.slice A0_0 l0_0.length c0_0, .slice A0_1 l0_1.length c0_1, .int .i64 a0_2] 25 ?_; intro gb1011 hg w4 hbox hb; have BK1011 := Aside0.mk (hbox); have GW1011 := Aside0.mk (sge hg HB : w.heap.size ≤ gb1011); have GE1011 := Aside0.mk (sge hg HB : w.heap.size ≤ gb1011); replace HO0_1 := Aside0.mk (Kd.V_below (Kd.V_elderB (by (with_reducible repeat (first | apply Kd.V_alloc | apply Kd.V_drewN | apply Kd.V_drew)); exact HO0_1.out) gb1011 (Nat.le_of_eq hg.symm)) hb); replace HB := Aside0.mk (sbs HB hb); clear hb hbox hg) | ((with_reducible refine gate_dst (N := 4) rfl ?_); refine sbox (N := 4) #[.slice none 0 0, .slice none 0 0, .int .i64 0] 25 ?_; intro gb1012 hg w5 hbox hb; have BK1012 := Aside0.mk (hbox); have GW1012 := Aside0.mk (sge1 hg HB GE1011 : w.heap.size ≤ gb1012); have GE1012 := Aside0.mk (sge1 hg HB GE1011 : w.heap.size ≤ gb1012); have NB1011_1012 := Aside0.mk (snl hg BK1011 : gb1011 ≠ gb1012); have NB1012_1011 := Aside0.mk (snr hg BK1011 : gb1012 ≠ gb1011); replace HO0_1 := Aside0.mk (Kd.V_below (Kd.V_elderB (by (with_reducible repeat (first | apply Kd.V_alloc | apply Kd.V_drewN | apply Kd.V_drew)); exact HO0_1.out) gb1012 (Nat.le_of_eq hg.symm)) hb); replace BK1011 := Aside0.mk (sbb BK1011 hb); replace HB := Aside0.mk (sbs1 HB GE1011 hb); clear hb hbox hg; have hnb6 := NB1011_1012.out; have hnc6 := NB1012_1011.out; have hcz7_0 := sc 0 BK1011; have hcz7_1 := sc 1 BK1011; have hcz7_2 := sc 2 BK1011; have hfz7_0 := blk_frozen BK1011.out 0; have hfz7_1 := blk_frozen BK1011.out 1; have hfz7_2 := blk_frozen BK1011.out 2) | ((with_reducible refine gate_dst (N := 5) rfl ?_); refine sbox (N := 5) #[.slice none 0 0, .slice none 0 0, .int .i64 0] 25 ?_; intro gb1013 hg w8 hbox hb; have BK1013 := Aside0.mk (hbox); have GW1013 := Aside0.mk (sge2 hg HB GE1011 GE1012 : w.heap.size ≤ gb1013); have GE1013 := Aside0.mk (sge2 hg HB GE1011 GE1012 : w.heap.size ≤ gb1013); have NB1011_1013 := Aside0.mk (snl hg BK1011 : gb1011 ≠ gb1013); have NB1013_1011 := Aside0.mk (snr hg BK1011 : gb1013 ≠ gb1011); have NB1012_1013 := Aside0.mk (snl hg BK1012 : gb1012 ≠ gb1013); have NB1013_1012 := Aside0.mk (snr hg BK1012 : gb1013 ≠ gb1012); replace HO0_1 := Aside0.mk (Kd.V_below (Kd.V_elderB (by (with_reducible repeat (first | apply Kd.V_alloc | apply Kd.V_drewN | apply Kd.V_drew)); exact HO0_1.out) gb1013 (Nat.le_of_eq hg.symm)) hb); replace BK1011 := Aside0.mk (sbb BK1011 hb); replace BK1012 := Aside0.mk (sbb BK1012 hb); replace HB := Aside0.mk (sbs2 HB GE1011 GE1012 hb); clear hb hbox hg; have hnb9 := NB1013_1011.out; have hnc9 := NB1011_1013.out; have hnb10 := NB1013_1012.out; have hnc10 := NB1012_1013.out; have hcz11_0 := sc 0 BK1013; have hcz11_1 := sc 1 BK1013; have hcz11_2 := sc 2 BK1013; have hfz11_0 := blk_frozen BK1013.out 0; have hfz11_1 := blk_frozen BK1013.out 1; have hfz11_2 := blk_frozen BK1013.out 2) | ((with_reducible refine gate_dst (N := 8) rfl ?_); refine Kd.R_lit k85 _ 85 ?hg (N := 8) ?hd (xs := ([] : List (S85))) (inner := []) (ok := fun _ => True) (okp := fun _ => True) ?hr ?hp (fun _ hk => hk) trivial (Below.refl _ _) (Nat.le_refl _) (by simp) ?_; (case hd => rfl); (case hg => rfl); (case hr => first | (go_simp; done) | (go_simp; rfl)); (case hp => exact (Reps.none _ _)); intro v1015 w12 ho13 hb hg_ hnew_; clear hg_ hnew_; (first | rw [← Ny1014.out] at ho13 | (simp only [Int.reduceToNat] at ho13; rw [← Ny1014.out] at ho13)); have n0_ := Aside0.mk (Kd.V_elder' (by (with_reducible repeat (first | apply Kd.V_alloc | apply Kd.V_drewN | apply Kd.V_drew)); exact (Kd.V_mono (Kd.V_far (p := ⟨gb1013, 2, none⟩) (Kd.V_far (p := ⟨gb1013, 1, none⟩) (Kd.V_far (p := ⟨gb1013, 0, none⟩) (Kd.V_mono HO0_1.out (fun k_ hk => (⟨hk, hk.2⟩ : _ ∧ k_ ≠ gb1013))) (fun _ hk => hk.2) (.slice A0_0 l0_0.length c0_0)) (fun _ hk => hk.2) (.slice A0_1 l0_1.length c0_1)) (fun _ hk => hk.2) (.int .i64 a0_2)) (fun _ h_ => h_.1))) (Kd.R_base ho13) hb); have n1_ := Aside0.mk (Kd.R_lower (Kd.R_newM (M := fun k_ => (w.heap.size ≤ k_)) ho13 (below_size (sbe3 HB GE1011 GE1012 GE1013)) (fun k_ h_ => h_)) (below_size (sbe3 HB GE1011 GE1012 GE1013))); have n2_ := Aside0.mk (blk_below (g := gb1011) (o := .cells #[.slice A0_0 l0_0.length c0_0, .slice A0_1 l0_1.length c0_1, .int .i64 a0_2] 25 (0, 0)) (by (with_reducible repeat (first | refine blk_drewN ?_ _ | refine blk_drew ?_ | refine blk_alloc ?_ _)); refine blk_far ?_ NB1011_1013.out _; (with_reducible repeat (first | refine blk_drewN ?_ _ | refine blk_drew ?_ | refine blk_alloc ?_ _)); refine blk_far ?_ NB1011_1013.out _; (with_reducible repeat (first | refine blk_drewN ?_ _ | refine blk_drew ?_ | refine blk_alloc ?_ _)); refine blk_far ?_ NB1011_1013.out _; (with_reducible repeat (first | refine blk_drewN ?_ _ | refine blk_drew ?_ | refine blk_alloc ?_ _)); exact BK1011.out) hb); have n3_ := Aside0.mk (blk_below (g := gb1012) (o := .cells #[.slice none 0 0, .slice none 0 0, .int .i64 0] 25 (0, 0)) (by (with_reducible repeat (first | refine blk_drewN ?_ _ | refine blk_drew ?_ | refine blk_alloc ?_ _)); refine blk_far ?_ NB1012_1013.out _; (with_reducible repeat (first | refine blk_drewN ?_ _ | refine blk_drew ?_ | refine blk_alloc ?_ _)); refine blk_far ?_ NB1012_1013.out _; (with_reducible repeat (first | refine blk_drewN ?_ _ | refine blk_drew ?_ | refine blk_alloc ?_ _)); refine blk_far ?_ NB1012_1013.out _; (with_reducible repeat (first | refine blk_drewN ?_ _ | refine blk_drew ?_ | refine blk_alloc ?_ _)); exact BK1012.out) hb); have n4_ := Aside0.mk (blk_below (g := gb1013) (o := .cells #[.slice A0_0 l0_0.length c0_0, .slice A0_1 l0_1.length c0_1, .int .i64 a0_2] 25 (0, 0)) (by (with_reducible repeat (first | refine blk_drewN ?_ _ | refine blk_drew ?_ | refine blk_alloc ?_ _)); refine blk_put (cs := #[.slice A0_0 l0_0.length c0_0, .slice A0_1 l0_1.length c0_1, .int .i64 0]) ?_ 2 _ rfl; (with_reducible repeat (first | refine blk_drewN ?_ _ | refine blk_drew ?_ | refine blk_alloc ?_ _)); refine blk_put (cs := #[.slice A0_0 l0_0.length c0_0, .slice none 0 0, .int .i64 0]) ?_ 1 _ rfl; (with_reducible repeat (first | refine blk_drewN ?_ _ | refine blk_drew ?_ | refine blk_alloc ?_ _)); refine blk_put (cs := #[.slice none 0 0, .slice none 0 0, .int .i64 0]) ?_ 0 _ rfl; (with_reducible repeat (first | refine blk_drewN ?_ _ | refine blk_drew ?_ | refine blk_alloc ?_ _)); exact BK1013.out) hb); have n5_ := Aside0.mk (sbs3 HB GE1011 GE1012 GE1013 hb); clear HO0_1; clear BK1011; clear BK1012; clear BK1013; clear HB; have HO0_1 := n0_; have HO1016 := n1_; have BK1011 := n2_; have BK1012 := n3_; have BK1013 := n4_; have HB := n5_; clear n0_ n1_ n2_ n3_ n4_ n5_; clear hb ho13; have hcz14_0 := sc 0 BK1011; have hcz14_1 := sc 1 BK1011; have hcz14_2 := sc 2 BK1011; have hfz14_0 := blk_frozen BK1011.out 0; have hfz14_1 := blk_frozen BK1011.out 1; have hfz14_2 := blk_frozen BK1011.out 2) | ((with_reducible refine gate_builtin (b := .append) (xs := #[.tmp 8, .tmp 10]) rfl ?_); at_builtin; refine Kd.R_append_rows k85 (w0 := w) w.heap.size rfl (.tmp 8) (.tmp 10) 22 85 (.agg #[(.int .i64 0), (.int .i64 0), (.int .i64 0)]) 24 rfl Try.underlying22 info85 rfl (by decide) (by omega) v1015 y1014 l0_0 _ _ _ (fun k_ => (w.heap.size ≤ k_)) (fun _ => False) rfl rfl ?aO ?aR (fun _ _ h => h) (fun _ h => h.elim) ?aF ?aB ?aS ?aL ?_; (case aR => exact sCb HR0_0 HB); (case aB => exact (sbe3 HB GE1011 GE1012 GE1013)); (case aF => exact (fun k_ hk => (Nat.le_trans (below_size (sbe3 HB GE1011 GE1012 GE1013)) hk))); (case aO => exact (by (with_reducible repeat (first | apply Kd.R_alloc | apply Kd.R_drewN | apply Kd.R_drew)); exact Kd.R_mono HO1016.out (fun _ hk => hk.1))); (case aS => exact (below_size (sbe3 HB GE1011 GE1012 GE1013))); (case aL => have := LMc3.out; omega); intro v1018 w15 ho hb hg hat; rw [← Ny1017.out] at ho; have n0_ := Aside0.mk (Kd.V_afterv (ok := (fun k_ => (P0_1_ k_ ∨ w.heap.size ≤ k_) ∧ k_ ≠ gb1011 ∧ k_ ≠ gb1012 ∧ k_ ≠ gb1013)) (by (with_reducible repeat (first | apply Kd.V_alloc | apply Kd.V_drewN | apply Kd.V_drew)); exact Kd.V_mono HO0_1.out (fun _ hk => ⟨⟨hk.1.1.1.1, ⟨hk.1.1.1.2, ⟨hk.1.1.2, hk.1.2⟩⟩⟩, hk.2⟩)) hg hat); have n1_ := Aside0.mk (blk_grown (g := gb1011) (o := .cells #[.slice A0_0 l0_0.length c0_0, .slice A0_1 l0_1.length c0_1, .int .i64 a0_2] 25 (0, 0)) (sbk BK1011) hg (Kd.R_ne HO1016.out BK1011.out (by decide))); have n2_ := Aside0.mk (blk_grown (g := gb1012) (o := .cells #[.slice none 0 0, .slice none 0 0, .int .i64 0] 25 (0, 0)) (sbk BK1012) hg (Kd.R_ne HO1016.out BK1012.out (by decide))); have n3_ := Aside0.mk (blk_grown (g := gb1013) (o := .cells #[.slice A0_0 l0_0.length c0_0, .slice A0_1 l0_1.length c0_1, .int .i64 a0_2] 25 (0, 0)) (sbk BK1013) hg (Kd.R_ne HO1016.out BK1013.out (by decide))); have n4_ := Aside0.mk (hb); have n5_ := Aside0.mk (ho); clear HO0_1; clear BK1011; clear BK1012; clear BK1013; clear HB; clear HO1016; have HO0_1 := n0_; have BK1011 := n1_; have BK1012 := n2_; have BK1013 := n3_; have HB := n4_; have HO1019 := n5_; clear n0_ n1_ n2_ n3_ n4_ n5_; clear ho hb hg hat; obtain ⟨Ao16, co16, eo16⟩ := Kd.R_slice HO1019.out; subst eo16; have hcz17_0 := sc 0 BK1013; have hcz17_1 := sc 1 BK1013; have hcz17_2 := sc 2 BK1013; have hfz17_0 := blk_frozen BK1013.out 0; have hfz17_1 := blk_frozen BK1013.out 1; have hfz17_2 := blk_frozen BK1013.out 2))
  go_loopg [6] k (fun kq v6 w' => ∃ (x6_1 : Int) (x1014000_1 : List (S85)) (u1014000 : Value), v6 = .int .i64 x6_1 ∧ Aside0 (posserlaw03_some.l0 kq a1 x6_1 x1014000_1 l0_1 0 = some (r1, r2, r3)) ∧ Aside0 (kq ≤ k) ∧ Aside0 (Kd.V k71 71 w' w.heap.size (fun k_ => (P0_1_ k_ ∨ w.heap.size ≤ k_) ∧ some k_ ≠ (u1014000 : Value).ownBlock ∧ k_ ≠ gb1011 ∧ k_ ≠ gb1012 ∧ k_ ≠ gb1013) (.slice A0_1 l0_1.length c0_1) l0_1) ∧ Aside0 (Kd.R k85 85 w' w.heap.size (fun k_ => (w.heap.size ≤ k_)) u1014000 x1014000_1) ∧ Aside0 (Kd.V k71 71 w' w.heap.size (fun k_ => (P0_1_ k_ ∨ w.heap.size ≤ k_) ∧ some k_ ≠ (u1014000 : Value).ownBlock ∧ k_ ≠ gb1011 ∧ k_ ≠ gb1012 ∧ k_ ≠ gb1013) (.slice A0_1 l0_1.length c0_1) l0_1) ∧ Aside0 (w'.heap[gb1011]? = some (.cells #[(.slice A0_0 l0_0.length c0_0), (.slice A0_1 l0_1.length c0_1), .int .i64 a0_2] 25 (0, 0))) ∧ Aside0 (w'.heap[gb1012]? = some (.cells #[(.slice none 0 0), (.slice none 0 0), .int .i64 0] 25 (0, 0))) ∧ Aside0 (w'.heap[gb1013]? = some (.cells #[u1014000, (.slice A0_1 l0_1.length c0_1), .int .i64 0] 25 (0, 0))) ∧ Aside0 (Below w.heap.size w w'))
  case atStart => exact ⟨(0), (y1017), (.slice Ao16 y1017.length co16), (by first | rfl | (simp; done) | (simp [*]; done)), H', ⟨Nat.le_refl _⟩, ⟨by (with_reducible repeat (first | apply Kd.V_alloc | apply Kd.V_drewN | apply Kd.V_drew)); exact Kd.V_mono (Kd.V_far (p := ⟨gb1013, 2, none⟩) (Kd.V_far (p := ⟨gb1013, 0, none⟩) (Kd.V_mono HO0_1.out (fun k_ hk => (⟨hk, hk.1.2.2.2⟩ : _ ∧ k_ ≠ gb1013))) (fun _ hk => hk.2) (.slice Ao16 y1017.length co16)) (fun _ hk => hk.2) (.int .i64 0)) (fun _ hk => ⟨hk.1.1.1, ⟨hk.1.2, ⟨hk.1.1.2.1, ⟨hk.1.1.2.2.1, hk.1.1.2.2.2⟩⟩⟩⟩)⟩, ⟨by (with_reducible repeat (first | apply Kd.R_alloc | apply Kd.R_drewN | apply Kd.R_drew)); exact Kd.R_mono (Kd.R_far (p := ⟨gb1013, 2, none⟩) (Kd.R_far (p := ⟨gb1013, 0, none⟩) (Kd.R_types HO1019.out BK1013.out (by decide)) (fun _ hk => hk.2) (.slice Ao16 y1017.length co16)) (fun _ hk => hk.2) (.int .i64 0)) (fun _ hk => hk.1)⟩, ⟨by (with_reducible repeat (first | apply Kd.V_alloc | apply Kd.V_drewN | apply Kd.V_drew)); exact Kd.V_mono (Kd.V_far (p := ⟨gb1013, 2, none⟩) (Kd.V_far (p := ⟨gb1013, 0, none⟩) (Kd.V_mono HO0_1.out (fun k_ hk => (⟨hk, hk.1.2.2.2⟩ : _ ∧ k_ ≠ gb1013))) (fun _ hk => hk.2) (.slice Ao16 y1017.length co16)) (fun _ hk => hk.2) (.int .i64 0)) (fun _ hk => ⟨hk.1.1.1, ⟨hk.1.2, ⟨hk.1.1.2.1, ⟨hk.1.1.2.2.1, hk.1.1.2.2.2⟩⟩⟩⟩)⟩, ⟨by (with_reducible repeat (first | refine blk_drewN ?_ _ | refine blk_drew ?_ | refine blk_alloc ?_ _)); refine blk_far ?_ NB1011_1013.out _; (with_reducible repeat (first | refine blk_drewN ?_ _ | refine blk_drew ?_ | refine blk_alloc ?_ _)); refine blk_far ?_ NB1011_1013.out _; (with_reducible repeat (first | refine blk_drewN ?_ _ | refine blk_drew ?_ | refine blk_alloc ?_ _)); exact BK1011.out⟩, ⟨by (with_reducible repeat (first | refine blk_drewN ?_ _ | refine blk_drew ?_ | refine blk_alloc ?_ _)); refine blk_far ?_ NB1012_1013.out _; (with_reducible repeat (first | refine blk_drewN ?_ _ | refine blk_drew ?_ | refine blk_alloc ?_ _)); refine blk_far ?_ NB1012_1013.out _; (with_reducible repeat (first | refine blk_drewN ?_ _ | refine blk_drew ?_ | refine blk_alloc ?_ _)); exact BK1012.out⟩, ⟨by (with_reducible repeat (first | refine blk_drewN ?_ _ | refine blk_drew ?_ | refine blk_alloc ?_ _)); refine blk_put (cs := #[.slice Ao16 y1017.length co16, .slice A0_1 l0_1.length c0_1, .int .i64 a0_2]) ?_ 2 _ rfl; (with_reducible repeat (first | refine blk_drewN ?_ _ | refine blk_drew ?_ | refine blk_alloc ?_ _)); refine blk_put (cs := #[.slice A0_0 l0_0.length c0_0, .slice A0_1 l0_1.length c0_1, .int .i64 a0_2]) ?_ 0 _ rfl; (with_reducible repeat (first | refine blk_drewN ?_ _ | refine blk_drew ?_ | refine blk_alloc ?_ _)); exact BK1013.out⟩, ⟨(sbe3 HB GE1011 GE1012 GE1013)⟩⟩
  case round =>
   clear H'
   try clear c1
   try clear p2
   try clear c3
   try clear c5
   try clear c6
   try clear c9
   try clear c10
   try clear hcz11_0
   try clear hcz11_1
   try clear hcz11_2
   try clear hcz14_0
   try clear hcz14_1
   try clear hcz14_2
   try clear hcz17_0
   try clear hcz17_1
   try clear hcz17_2
   try clear hcz7_0
   try clear hcz7_1
   try clear hcz7_2
   try clear hfz11_0
   try clear hfz11_1
   try clear hfz11_2
   try clear hfz14_0
   try clear hfz14_1
   try clear hfz14_2
   try clear hfz17_0
   try clear hfz17_1
   try clear hfz17_2
   try clear hfz7_0
   try clear hfz7_1
   try clear hfz7_2
   obtain ⟨x6_1, x1014000_1, u1014000, rfl, HA, HK1, HO_1012001, HO_1014000, HO_1014001, BK1011, BK1012, BK1013, HB⟩ := hrel
   cases gk with
   | zero => exact absurd HA.out (by simp [posserlaw03_some.l0])
   | succ k1 =>
    have H := HA.out
    clear HA
    simp only [posserlaw03_some.l0] at H
    by_cases c18 : x6_1 < (x1014000_1.length : Int)
    ·rw [if_pos c18] at H
     have c18b0 : decide (x6_1 < (x1014000_1.length : Int)) = true := decide_eq_true c18
     clear c18
     obtain ⟨ji19, hji19⟩ : ∃ j_ : Int, (IntKind.u64.wrap (x6_1)) = j_ := ⟨_, rfl⟩
     replace H : (if 0 ≤ (ji19) then (if (Int.tmod (shr .i64 a1 (ji19)) 2) = 0 then (if 0 ≤ x6_1 then (posserlaw03_some.l0 k1 a1 (wrap64 (x6_1 + 1)) (x1014000_1.set (x6_1 : Int).toNat (⟨(rd_T85 x1014000_1 x6_1).f0, (⟨0, 7⟩ : S65)⟩ : S85)) l0_1 0) else (none)) else (posserlaw03_some.l0 k1 a1 (wrap64 (x6_1 + 1)) x1014000_1 l0_1 0)) else (none)) = some (r1, r2, r3) := by first | (rw [hji19] at H; exact H) | (simp only [hji19] at H ⊢; exact H)
     by_cases c20 : 0 ≤ (ji19)
     ·rw [if_pos c20] at H
      have c20b0 := eq_true c20
      have c20b1 : decide (0 ≤ (ji19)) = true := decide_eq_true c20
      clear c20
      obtain ⟨ji21, hji21⟩ : ∃ j_ : Int, (shr .i64 a1 (ji19)) = j_ := ⟨_, rfl⟩
      replace H : (if (Int.tmod (ji21) 2) = 0 then (if 0 ≤ x6_1 then (posserlaw03_some.l0 k1 a1 (wrap64 (x6_1 + 1)) (x1014000_1.set (x6_1 : Int).toNat (⟨(rd_T85 x1014000_1 x6_1).f0, (⟨0, 7⟩ : S65)⟩ : S85)) l0_1 0) else (none)) else (posserlaw03_some.l0 k1 a1 (wrap64 (x6_1 + 1)) x1014000_1 l0_1 0)) = some (r1, r2, r3) := by first | (rw [hji21] at H; exact H) | (simp only [hji21] at H ⊢; exact H)
      have hji21_ : (a1 / 2 ^ min (ji19).toNat 64) = ji21 := hji21
      have hji21z : (ji19) ≤ 64 → (a1 / 2 ^ (ji19).toNat) = ji21 := shr_small hji21
      by_cases c22 : (Int.tmod (ji21) 2) = 0
      ·rw [if_pos c22] at H
       have c22b0 : ((Int.tmod (ji21) 2) == 0) = true := beq_iff_eq.mpr c22
       have c22b1 : ((Int.tmod (ji21) 2) != 0) = false := bne_eq_false_iff_eq.mpr c22
       clear c22
       by_cases c23 : 0 ≤ x6_1
       ·rw [if_pos c23] at H
        have c23b0 : decide (0 ≤ x6_1) = true := decide_eq_true c23
        clear c23
        obtain ⟨y1020, hy1020⟩ : ∃ y_ : List (S85), y_ = (x1014000_1.set (x6_1 : Int).toNat (⟨(rd_T85 x1014000_1 x6_1).f0, (⟨0, 7⟩ : S65)⟩ : S85)) := ⟨_, rfl⟩
        replace H : (posserlaw03_some.l0 k1 a1 (wrap64 (x6_1 + 1)) y1020 l0_1 0) = some (r1, r2, r3) := by first | (rw [hy1020]; with_reducible exact H) | (have H2_ := (Option.bind_some _ _).symm.trans H; rw [hy1020]; with_reducible exact H2_) | (have H2_ := (Option.bind_some _ _).symm.trans H; with_reducible exact H2_) | with_reducible exact H | (rw [hy1020]; exact H) | exact H
        have Ny1020 := Aside0.mk hy1020
        clear hy1020
        have H' := Aside0.mk H
        clear H
        have hnb25 := NB1013_1011.out
        have hnc25 := NB1011_1013.out
        have hnb26 := NB1013_1012.out
        have hnc26 := NB1012_1013.out
        have hcz27_0 := sc 0 BK1013
        have hcz27_1 := sc 1 BK1013
        have hcz27_2 := sc 2 BK1013
        have hfz27_0 := blk_frozen BK1013.out 0
        have hfz27_1 := blk_frozen BK1013.out 1
        have hfz27_2 := blk_frozen BK1013.out 2
        obtain ⟨Ao28, co28, eo28⟩ := Kd.R_slice HO_1014000.out
        subst eo28
        have p24 : 0 ≤ (x6_1 : Int) := of_decide_eq_true (by first | (with_reducible assumption) | assumption)
        have q24 : (x6_1 : Int) < ((x1014000_1.length : Int) : Int) := of_decide_eq_true (by first | (with_reducible assumption) | assumption)
        obtain ⟨go24, co24, eo24, gb24, gl24, cl24, HG24⟩ := Kd.R_form HO_1014000.out (by omega)
        (first | cases eo24 | (injection eo24 with ea_ en_ ec_; (first | subst ea_ | (injection ea_ with ea_; subst ea_)); subst ec_; clear en_))
        have GB24 := Aside0.mk gb24
        have GG24 := Aside0.mk HG24
        clear gb24 gl24 HG24
        obtain ⟨ce24, hcl24, hM24, hcc24, hfr24⟩ := Kd.R_elem HO_1014000.out z85 (x6_1 : Int) p24 q24
        obtain rfl := k85_openM hM24
        have hx24_0 : wr.cell? ⟨go24, (x6_1 : Int).toNat * 3, none⟩ = some (.int .i64 ((rd_T85 x1014000_1 x6_1).f0)) := hcc24 0 _ rfl
        have hx24_1 : wr.cell? ⟨go24, (x6_1 : Int).toNat * 3 + 1, none⟩ = some (.int .i64 ((rd_T85 x1014000_1 x6_1).f1.f0)) := hcc24 1 _ rfl
        have hx24_2 : wr.cell? ⟨go24, (x6_1 : Int).toNat * 3 + 2, none⟩ = some (.int .i64 ((rd_T85 x1014000_1 x6_1).f1.f1)) := hcc24 2 _ rfl
        have hf24_0 : wr.frozen? ⟨go24, (x6_1 : Int).toNat * 3, none⟩ = false := hfr24 0
        have hf24_1 : wr.frozen? ⟨go24, (x6_1 : Int).toNat * 3 + 1, none⟩ = false := hfr24 1
        have hf24_2 : wr.frozen? ⟨go24, (x6_1 : Int).toNat * 3 + 2, none⟩ = false := hfr24 2
        clear hcl24 hcc24 hfr24 hM24
        replace p24 := eq_true p24
        replace q24 := eq_true q24
        have HX29 := Aside0.mk (show Kd.R k85 85 wr w.heap.size (fun k_ => (w.heap.size ≤ k_)) (.slice (some ⟨go24, 0, none⟩) x1014000_1.length co28) x1014000_1 from (sR HO_1014000))
        obtain ⟨ce29, hcl29, hM29, hcc29, hfr29⟩ := Kd.R_elem HX29.out z85 (x6_1 : Int) (of_decide_eq_true (by first | (with_reducible assumption) | assumption)) (by have h_ : (x6_1 : Int) < ((x1014000_1.length : Int) : Int) := of_decide_eq_true (by first | (with_reducible assumption) | assumption); first | exact h_ | (have e_ := (Kd.R_reads' HO_1014000.out).1; omega) | simpa using h_)
        obtain rfl := k85_openM hM29
        have HP29 := Kd.R_seg HX29.out (x6_1 : Int) (of_decide_eq_true (by first | (with_reducible assumption) | assumption)) (by have h_ : (x6_1 : Int) < ((x1014000_1.length : Int) : Int) := of_decide_eq_true (by first | (with_reducible assumption) | assumption); first | exact h_ | (have e_ := (Kd.R_reads' HO_1014000.out).1; omega) | simpa using h_) (seg := [.int .i64 0, .int .i64 7]) (j := 1) hcl29 hcc29 (show 3 ≤ 3 from by decide) (x' := (⟨(rd_T85 x1014000_1 x6_1).f0, (⟨0, 7⟩ : S65)⟩ : S85)) (k85_mkM _ _ _ (⟨(rd_T85 x1014000_1 x6_1).f0, (⟨0, 7⟩ : S65)⟩ : S85) ) (fun _ hk => hk)
        have hx29_1 := hcc29 1 _ rfl
        (try simp only [show (k85).sz = 3 from rfl, Nat.mul_one, Nat.add_zero] at hx29_1)
        have hf29_1 := hfr29 1
        (try simp only [show (k85).sz = 3 from rfl, Nat.mul_one, Nat.add_zero] at hf29_1)
        have hx29_2 := hcc29 2 _ rfl
        (try simp only [show (k85).sz = 3 from rfl, Nat.mul_one, Nat.add_zero] at hx29_2)
        have hf29_2 := hfr29 2
        (try simp only [show (k85).sz = 3 from rfl, Nat.mul_one, Nat.add_zero] at hf29_2)
        clear hcl29 hcc29 hfr29 hM29
        go_wp2_with (first | ((with_reducible refine gate_store (t := 65) (p := 32) rfl ?_); refine store_event (t := 65) (p := 32) (v := ?vo_w30) (w1 := ((wr.setCell ⟨go24, (x6_1 : Int).toNat * 3 + 1, none⟩ (.int .i64 0)).setCell ⟨go24, (x6_1 : Int).toNat * 3 + 2, none⟩ (.int .i64 7))) ?hg ?ho ?hn ?hr ?_; (case ho => rfl); (case hg => rfl); (case hn => rfl); (case hr => first | (go_simp; done) | (go_simp; rfl)); intro w30 hw; have hg : wr.grownBy w30 (some go24) := (by rw [hw]; exact HP29.2); have hp_ : Kd.R k85 85 w30 w.heap.size (fun k_ => (w.heap.size ≤ k_)) (.slice (some ⟨go24, 0, none⟩) x1014000_1.length co28) y1020 := (by rw [hw, Ny1020.out]; exact HP29.1); clear HP29; have n0_ := Aside0.mk (Kd.V_afterv (v := (.slice (some ⟨go24, 0, none⟩) x1014000_1.length co28)) (v1 := (.slice (some ⟨go24, 0, none⟩) x1014000_1.length co28)) (ok := (fun k_ => (P0_1_ k_ ∨ w.heap.size ≤ k_) ∧ k_ ≠ gb1011 ∧ k_ ≠ gb1012 ∧ k_ ≠ gb1013)) (by (with_reducible repeat (first | apply Kd.V_alloc | apply Kd.V_drewN | apply Kd.V_drew)); exact Kd.V_mono HO_1012001.out (fun _ hk => ⟨⟨hk.1, ⟨hk.2.2.1, ⟨hk.2.2.2.1, hk.2.2.2.2⟩⟩⟩, hk.2.1⟩)) hg (.inl rfl)); have n1_ := Aside0.mk (hp_); have n2_ := Aside0.mk (Kd.V_afterv (v := (.slice (some ⟨go24, 0, none⟩) x1014000_1.length co28)) (v1 := (.slice (some ⟨go24, 0, none⟩) x1014000_1.length co28)) (ok := (fun k_ => (P0_1_ k_ ∨ w.heap.size ≤ k_) ∧ k_ ≠ gb1011 ∧ k_ ≠ gb1012 ∧ k_ ≠ gb1013)) (by (with_reducible repeat (first | apply Kd.V_alloc | apply Kd.V_drewN | apply Kd.V_drew)); exact Kd.V_mono HO_1014001.out (fun _ hk => ⟨⟨hk.1, ⟨hk.2.2.1, ⟨hk.2.2.2.1, hk.2.2.2.2⟩⟩⟩, hk.2.1⟩)) hg (.inl rfl)); have n3_ := Aside0.mk (blk_grown (g := gb1011) (o := .cells #[.slice A0_0 l0_0.length c0_0, .slice A0_1 l0_1.length c0_1, .int .i64 a0_2] 25 (0, 0)) (sbk BK1011) hg (Kd.R_ne HO_1014000.out BK1011.out (by decide))); have n4_ := Aside0.mk (blk_grown (g := gb1012) (o := .cells #[.slice none 0 0, .slice none 0 0, .int .i64 0] 25 (0, 0)) (sbk BK1012) hg (Kd.R_ne HO_1014000.out BK1012.out (by decide))); have n5_ := Aside0.mk (blk_grown (g := gb1013) (o := .cells #[.slice (some ⟨go24, 0, none⟩) x1014000_1.length co28, .slice A0_1 l0_1.length c0_1, .int .i64 0] 25 (0, 0)) (sbk BK1013) hg (Kd.R_ne HO_1014000.out BK1013.out (by decide))); have n6_ := Aside0.mk ((by rw [hw]; exact below_set (below_set (HB.out) GB24.out) GB24.out : Below w.heap.size w w30)); clear HO_1012001; clear HO_1014000; clear HO_1014001; clear BK1011; clear BK1012; clear BK1013; clear HB; have HO_1012001 := n0_; have HO_1014000 := n1_; have HO_1014001 := n2_; have BK1011 := n3_; have BK1012 := n4_; have BK1013 := n5_; have HB := n6_; clear n0_ n1_ n2_ n3_ n4_ n5_ n6_; clear hg hw hp_))
        go_roundg k1
        case measure => have := HK1.out; omega
        case rel => exact ⟨(wrap64 (x6_1 + 1)), (y1020), (.slice (some ⟨go24, 0, none⟩) x1014000_1.length co28), (by first | rfl | (simp; done) | (simp [*]; done)), H', ⟨by have := HK1.out; omega⟩, ⟨by (with_reducible repeat (first | apply Kd.V_alloc | apply Kd.V_drewN | apply Kd.V_drew)); exact Kd.V_mono HO_1012001.out (fun _ hk => ⟨hk.1.1, ⟨hk.2, ⟨hk.1.2.1, ⟨hk.1.2.2.1, hk.1.2.2.2⟩⟩⟩⟩)⟩, ⟨by (with_reducible repeat (first | apply Kd.R_alloc | apply Kd.R_drewN | apply Kd.R_drew)); exact HO_1014000.out⟩, ⟨by (with_reducible repeat (first | apply Kd.V_alloc | apply Kd.V_drewN | apply Kd.V_drew)); exact Kd.V_mono HO_1014001.out (fun _ hk => ⟨hk.1.1, ⟨hk.2, ⟨hk.1.2.1, ⟨hk.1.2.2.1, hk.1.2.2.2⟩⟩⟩⟩)⟩, ⟨by (with_reducible repeat (first | refine blk_drewN ?_ _ | refine blk_drew ?_ | refine blk_alloc ?_ _)); exact BK1011.out⟩, ⟨by (with_reducible repeat (first | refine blk_drewN ?_ _ | refine blk_drew ?_ | refine blk_alloc ?_ _)); exact BK1012.out⟩, ⟨by (with_reducible repeat (first | refine blk_drewN ?_ _ | refine blk_drew ?_ | refine blk_alloc ?_ _)); exact BK1013.out⟩, ⟨(sbe3 HB GE1011 GE1012 GE1013)⟩⟩
       ·rw [if_neg c23] at H
        exact absurd H (by simp)
      ·rw [if_neg c22] at H
       have c22b0 : ((Int.tmod (ji21) 2) == 0) = false := beq_eq_false_iff_ne.mpr c22
       have c22b1 : ((Int.tmod (ji21) 2) != 0) = true := bne_iff_ne.mpr c22
       have H' := Aside0.mk H
       clear H
       have hnb31 := NB1013_1011.out
       have hnc31 := NB1011_1013.out
       have hnb32 := NB1013_1012.out
       have hnc32 := NB1012_1013.out
       have hcz33_0 := sc 0 BK1013
       have hcz33_1 := sc 1 BK1013
       have hcz33_2 := sc 2 BK1013
       have hfz33_0 := blk_frozen BK1013.out 0
       have hfz33_1 := blk_frozen BK1013.out 1
       have hfz33_2 := blk_frozen BK1013.out 2
       obtain ⟨Ao34, co34, eo34⟩ := Kd.R_slice HO_1014000.out
       subst eo34
       go_wp2
       go_roundg k1
       case measure => have := HK1.out; omega
       case rel => exact ⟨(wrap64 (x6_1 + 1)), (x1014000_1), (.slice Ao34 x1014000_1.length co34), (by first | rfl | (simp; done) | (simp [*]; done)), H', ⟨by have := HK1.out; omega⟩, ⟨by (with_reducible repeat (first | apply Kd.V_alloc | apply Kd.V_drewN | apply Kd.V_drew)); exact HO_1012001.out⟩, ⟨by (with_reducible repeat (first | apply Kd.R_alloc | apply Kd.R_drewN | apply Kd.R_drew)); exact HO_1014000.out⟩, ⟨by (with_reducible repeat (first | apply Kd.V_alloc | apply Kd.V_drewN | apply Kd.V_drew)); exact HO_1014001.out⟩, ⟨by (with_reducible repeat (first | refine blk_drewN ?_ _ | refine blk_drew ?_ | refine blk_alloc ?_ _)); exact BK1011.out⟩, ⟨by (with_reducible repeat (first | refine blk_drewN ?_ _ | refine blk_drew ?_ | refine blk_alloc ?_ _)); exact BK1012.out⟩, ⟨by (with_reducible repeat (first | refine blk_drewN ?_ _ | refine blk_drew ?_ | refine blk_alloc ?_ _)); exact BK1013.out⟩, ⟨(sbe3 HB GE1011 GE1012 GE1013)⟩⟩
     ·rw [if_neg c20] at H
      exact absurd H (by simp)
    ·rw [if_neg c18] at H
     have c18b0 : decide (x6_1 < (x1014000_1.length : Int)) = false := decide_eq_false c18
     clear c18
     simp only [Option.some.injEq, Prod.mk.injEq] at H
     obtain ⟨rfl, rfl, rfl⟩ := H
     have hnb35 := NB1013_1011.out
     have hnc35 := NB1011_1013.out
     have hnb36 := NB1013_1012.out
     have hnc36 := NB1012_1013.out
     have hcz37_0 := sc 0 BK1013
     have hcz37_1 := sc 1 BK1013
     have hcz37_2 := sc 2 BK1013
     have hfz37_0 := blk_frozen BK1013.out 0
     have hfz37_1 := blk_frozen BK1013.out 1
     have hfz37_2 := blk_frozen BK1013.out 2
     obtain ⟨Ao38, co38, eo38⟩ := Kd.R_slice HO_1014000.out
     subst eo38
     have hnb39 := NB1012_1011.out
     have hnc39 := NB1011_1012.out
     have hcz40_0 := sc 0 BK1012
     have hcz40_1 := sc 1 BK1012
     have hcz40_2 := sc 2 BK1012
     have hfz40_0 := blk_frozen BK1012.out 0
     have hfz40_1 := blk_frozen BK1012.out 1
     have hfz40_2 := blk_frozen BK1012.out 2
     go_wp2
     refine bodyPost_ret (results_cell_row rfl _ _ gb1012 25 #[.slice Ao38 x1014000_1.length co38, .slice A0_1 l0_1.length c0_1, .int .i64 0] (0, 0) _ rfl (by (with_reducible repeat (first | refine blk_drewN ?_ _ | refine blk_drew ?_ | refine blk_alloc ?_ _)); refine blk_put (cs := #[.slice Ao38 x1014000_1.length co38, .slice A0_1 l0_1.length c0_1, .int .i64 0]) ?_ 2 _ rfl; (with_reducible repeat (first | refine blk_drewN ?_ _ | refine blk_drew ?_ | refine blk_alloc ?_ _)); refine blk_put (cs := #[.slice Ao38 x1014000_1.length co38, .slice none 0 0, .int .i64 0]) ?_ 1 _ rfl; (with_reducible repeat (first | refine blk_drewN ?_ _ | refine blk_drew ?_ | refine blk_alloc ?_ _)); refine blk_put (cs := #[.slice none 0 0, .slice none 0 0, .int .i64 0]) ?_ 0 _ rfl; (with_reducible repeat (first | refine blk_drewN ?_ _ | refine blk_drew ?_ | refine blk_alloc ?_ _)); exact BK1012.out) Try.underlying25 rfl (by kernel_rfl)) rfl ?_
     exact ⟨_, _, by first | rfl | (simp [errW_none, errW_some] <;> rfl) | (simp [*, errW_none, errW_some] <;> rfl), by (with_reducible repeat (first | apply Kd.R_alloc | apply Kd.R_drewN | apply Kd.R_drew)); exact Kd.R_mono (Kd.R_far (p := ⟨gb1012, 2, none⟩) (Kd.R_far (p := ⟨gb1012, 1, none⟩) (Kd.R_far (p := ⟨gb1012, 0, none⟩) (Kd.R_types HO_1014000.out BK1012.out (by decide)) (fun _ hk => hk.2) (.slice Ao38 x1014000_1.length co38)) (fun _ hk => hk.2) (.slice A0_1 l0_1.length c0_1)) (fun _ hk => hk.2) (.int .i64 0)) (fun _ hk => hk.1), by (with_reducible repeat (first | apply Kd.V_alloc | apply Kd.V_drewN | apply Kd.V_drew)); exact Kd.V_mono (Kd.V_far (p := ⟨gb1012, 2, none⟩) (Kd.V_far (p := ⟨gb1012, 1, none⟩) (Kd.V_far (p := ⟨gb1012, 0, none⟩) (Kd.V_mono HO_1014001.out (fun k_ hk => (⟨hk, hk.2.2.2.1⟩ : _ ∧ k_ ≠ gb1012))) (fun _ hk => hk.2) (.slice Ao38 x1014000_1.length co38)) (fun _ hk => hk.2) (.slice A0_1 l0_1.length c0_1)) (fun _ hk => hk.2) (.int .i64 0)) (fun _ hk => ⟨hk.1.1, hk.1.2.1⟩), (sbe3 HB GE1011 GE1012 GE1013)⟩
 ·rw [if_neg c3] at H
  exact absurd H (by simp)
end Go.Proofs.Ytnbbbeghgomnoaa.X
namespace Go.Proofs.Ytnbbbeghgomnoaa.X
open Go.RowKit Go.Proofs.YtnbbbeghgomnoaaW.PrintWords Go.Proofs.YtnbbbeghgomnoaaW.PrintLast Go.Proofs.YtnbbbeghgomnoaaW.PrintMore
attribute [local go_sem] max2_int min2_int max_two min_two max_three min_three max_four min_four
set_option linter.unusedVariables false
set_option linter.unusedSimpArgs false
set_option maxHeartbeats 8000000 in
set_option maxRecDepth 100000 in
theorem posserref03_Full.calls (A0_0 : Option Addr) (c0_0 : Nat) (l0_0 : List (S85)) (A0_1 : Option Addr) (c0_1 : Nat) (l0_1 : List (S71)) (a0_2 : Int) (r : Int) (w : World) (hr0_0 : Kd.C k85 w A0_0 l0_0.length l0_0) (hc0_0 : l0_0.length ≤ c0_0) (hr0_1 : Kd.C k71 w A0_1 l0_1.length l0_1) (hc0_1 : l0_1.length ≤ c0_1) (h : posserref03_Full.f l0_0 l0_1 a0_2 = some r) :
  Calls Try.prog 58 #[.agg #[.slice A0_0 l0_0.length c0_0, .slice A0_1 l0_1.length c0_1, .int .i64 a0_2]] w fun e w' => e = .returned (.int .i64 r) ∧ Below w.heap.size w w' := by
 have hu25 := Try.underlying25
 have HR0_0 := Aside0.mk hr0_0
 have HC0_0 := Aside0.mk hc0_0
 clear hr0_0 hc0_0
 have HR0_1 := Aside0.mk hr0_1
 have HC0_1 := Aside0.mk hc0_1
 clear hr0_1 hc0_1
 have HB := Aside0.mk (Below.refl w.heap.size w)
 have H : (if 0 ≤ (IntKind.u64.wrap ((l0_0.length : Int))) then (some (wrap64 ((shl .i64 1 (IntKind.u64.wrap ((l0_0.length : Int)))) - 1))) else (none)) = some r := h
 clear h
 obtain ⟨ji2, hji2⟩ : ∃ j_ : Int, (IntKind.u64.wrap ((l0_0.length : Int))) = j_ := ⟨_, rfl⟩
 replace H : (if 0 ≤ (ji2) then (some (wrap64 ((shl .i64 1 (ji2)) - 1))) else (none)) = some r := by first | (rw [hji2] at H; exact H) | (simp only [hji2] at H ⊢; exact H)
 by_cases c3 : 0 ≤ (ji2)
 ·rw [if_pos c3] at H
  have c3b0 := eq_true c3
  have c3b1 : decide (0 ≤ (ji2)) = true := decide_eq_true c3
  clear c3
  obtain ⟨ji4, hji4⟩ : ∃ j_ : Int, (shl .i64 1 (ji2)) = j_ := ⟨_, rfl⟩
  replace H : (some (wrap64 ((ji4) - 1))) = some r := by first | (rw [hji4] at H; exact H) | (simp only [hji4] at H ⊢; exact H)
  have hji4_ : (IntKind.i64.wrap (1 * 2 ^ min (ji2).toNat 64)) = ji4 := hji4
  have hji4z : (ji2) ≤ 64 → (IntKind.i64.wrap (1 * 2 ^ (ji2).toNat)) = ji4 := shl_small hji4
  have hji4u : (IntKind.i64.wrap (2 ^ min (ji2).toNat 64)) = ji4 := by have h_ := hji4_; rw [Int.one_mul] at h_; exact h_
  have hji4v : (ji2) ≤ 64 → (IntKind.i64.wrap (2 ^ (ji2).toNat)) = ji4 := fun hle_ => by have h_ := hji4z hle_; rw [Int.one_mul] at h_; exact h_
  have hji4y : (wrap64 (1 * 2 ^ min (ji2).toNat 64)) = ji4 := (i64_w _).symm.trans hji4_
  have hji4x : (ji2) ≤ 64 → (wrap64 (1 * 2 ^ (ji2).toNat)) = ji4 := fun h_ => (i64_w _).symm.trans (hji4z h_)
  obtain rfl := Option.some.inj H
  go_enter Try.func58, Try.ntmps58
  go_wp2_with (first | ((with_reducible refine gate_dst (N := 1) rfl ?_); refine sbox (N := 1) #[.slice A0_0 l0_0.length c0_0, .slice A0_1 l0_1.length c0_1, .int .i64 a0_2] 25 ?_; intro gb136 hg w5 hbox hb; have BK136 := Aside0.mk (hbox); have GW136 := Aside0.mk (sge hg HB : w.heap.size ≤ gb136); have GE136 := Aside0.mk (sge hg HB : w.heap.size ≤ gb136); replace HB := Aside0.mk (sbs HB hb); clear hb hbox hg; have hcz6_0 := sc 0 BK136; have hcz6_1 := sc 1 BK136; have hcz6_2 := sc 2 BK136; have hfz6_0 := blk_frozen BK136.out 0; have hfz6_1 := blk_frozen BK136.out 1; have hfz6_2 := blk_frozen BK136.out 2))
  go_ret
  exact ⟨by first | rfl | (simp [errW_none, errW_some] <;> rfl) | (simp only [← hji2, ← hji4]; first | rfl | (simp [errW_none, errW_some] <;> rfl)) | (simp [*, errW_none, errW_some] <;> rfl), (sbe1 HB GE136)⟩
 ·rw [if_neg c3] at H
  exact absurd H (by simp)
end Go.Proofs.Ytnbbbeghgomnoaa.X
namespace Go.Proofs.Ytnbbbeghgomnoaa.X
open Go.RowKit Go.Proofs.YtnbbbeghgomnoaaW.PrintWords Go.Proofs.YtnbbbeghgomnoaaW.PrintLast Go.Proofs.YtnbbbeghgomnoaaW.PrintMore
attribute [local go_sem] max2_int min2_int max_two min_two max_three min_three max_four min_four
set_option linter.unusedVariables false
set_option linter.unusedSimpArgs false
def posserlaw03_BundleFirst.f (k : Nat) (l0_0 : List (S85)) (l0_1 : List (S71)) (a0_2 : Int) : Option (Bool) := (posserlaw03_ready.f k l0_0 l0_1 a0_2).bind fun t1022 => (if t1022 = true then ((posserlaw03_Table.f l0_0 l0_1 a0_2).bind fun bt1023 => ((bundle_First.f bt1023.1 bt1023.2.1 bt1023.2.2).bind fun bt1030 => (if bt1030.2 = 0 then ((posserref03_In.f bt1030.1 0 (wrap64 ((l0_0.length : Int) - 1))).bind fun t1032 => (if t1032 = true then (if 0 ≤ (IntKind.u64.wrap (bt1030.1)) then ((posserlaw03_some.f k l0_0 l0_1 a0_2 (wrap64 ((shl .i64 1 (IntKind.u64.wrap (bt1030.1))) - 1))).bind fun bt1033 => ((posserlaw03_Table.f bt1033.1 bt1033.2.1 bt1033.2.2).bind fun bt1040 => ((bundle_Whose.f bt1040.1 bt1040.2.1 bt1040.2.2).bind fun bt1047 => ((posserlaw03_some.f k l0_0 l0_1 a0_2 (wrap64 ((shl .i64 2 (IntKind.u64.wrap (bt1030.1))) - 1))).bind fun bt1051 => ((posserlaw03_Table.f bt1051.1 bt1051.2.1 bt1051.2.2).bind fun bt1058 => ((bundle_Whose.f bt1058.1 bt1058.2.1 bt1058.2.2).bind fun bt1065 => (if bt1047.2 = 0 then (if bt1065.2 = 11 then ((posserlaw03_awake.f).bind fun t1069 => (some t1069)) else (none)) else (none)))))))) else (none)) else (none))) else ((posserref03_Full.f l0_0 l0_1 a0_2).bind fun t1070 => ((posserlaw03_some.f k l0_0 l0_1 a0_2 t1070).bind fun bt1071 => ((posserlaw03_Table.f bt1071.1 bt1071.2.1 bt1071.2.2).bind fun bt1078 => ((bundle_Whose.f bt1078.1 bt1078.2.1 bt1078.2.2).bind fun bt1085 => (if bt1030.2 = 7 then (if bt1085.2 = 0 then ((posserlaw03_awake.f).bind fun t1089 => (some t1089)) else (none)) else (none))))))))) else ((posserlaw03_awake.f).bind fun t1090 => (some t1090)))
def posserlaw03_BundleFirst.T5 : Bool × List (List Nat × List Nat) := (true, [([], []), ([], []), ([1], [1]), ([0, 2, 2], [0, 2]), ([3, 3], [3]), ([4, 4], [4]), ([5], [5]), ([6], [6]), ([6], [6]), ([7, 5, 0, 1, 2, 3, 4, 5, 6, 7], [7]), ([8, 9, 0, 1, 2, 3, 4, 5, 6, 7, 8, 9], [8])])
def posserlaw03_BundleFirst.B5 : List Nat := [0, 0, 2, 7, 15, 31, 63, 127, 127, 255, 1023]
theorem posserlaw03_BundleFirst.tab5 : rtab .any (opsOf Try.f16 5) = posserlaw03_BundleFirst.T5 := by kernel_rfl
theorem posserlaw03_BundleFirst.bits5 : waitsOk posserlaw03_BundleFirst.T5.2 posserlaw03_BundleFirst.B5 = true := by kernel_rfl
set_option maxHeartbeats 8000000 in
set_option maxRecDepth 100000 in
theorem posserlaw03_BundleFirst.calls (k : Nat) (A0_0 : Option Addr) (c0_0 : Nat) (l0_0 : List (S85)) (A0_1 : Option Addr) (c0_1 : Nat) (l0_1 : List (S71)) (a0_2 : Int) (r : Bool) (w : World) (hr0_0 : Kd.C k85 w A0_0 l0_0.length l0_0) (hc0_0 : l0_0.length ≤ c0_0) (hr0_1 : Kd.C k71 w A0_1 l0_1.length l0_1) (hc0_1 : l0_1.length ≤ c0_1) (h : posserlaw03_BundleFirst.f k l0_0 l0_1 a0_2 = some r) :
  Calls Try.prog 16 #[.agg #[.slice A0_0 l0_0.length c0_0, .slice A0_1 l0_1.length c0_1, .int .i64 a0_2]] w fun e w' => e = .returned (.bool r) ∧ Below w.heap.size w w' := by
 have hu25 := Try.underlying25
 have HR0_0 := Aside0.mk hr0_0
 have HC0_0 := Aside0.mk hc0_0
 clear hr0_0 hc0_0
 have HR0_1 := Aside0.mk hr0_1
 have HC0_1 := Aside0.mk hc0_1
 clear hr0_1 hc0_1
 have HB := Aside0.mk (Below.refl w.heap.size w)
 have H : ((posserlaw03_ready.f k l0_0 l0_1 a0_2).bind fun t1022 => (if t1022 = true then ((posserlaw03_Table.f l0_0 l0_1 a0_2).bind fun bt1023 => ((bundle_First.f bt1023.1 bt1023.2.1 bt1023.2.2).bind fun bt1030 => (if bt1030.2 = 0 then ((posserref03_In.f bt1030.1 0 (wrap64 ((l0_0.length : Int) - 1))).bind fun t1032 => (if t1032 = true then (if 0 ≤ (IntKind.u64.wrap (bt1030.1)) then ((posserlaw03_some.f k l0_0 l0_1 a0_2 (wrap64 ((shl .i64 1 (IntKind.u64.wrap (bt1030.1))) - 1))).bind fun bt1033 => ((posserlaw03_Table.f bt1033.1 bt1033.2.1 bt1033.2.2).bind fun bt1040 => ((bundle_Whose.f bt1040.1 bt1040.2.1 bt1040.2.2).bind fun bt1047 => ((posserlaw03_some.f k l0_0 l0_1 a0_2 (wrap64 ((shl .i64 2 (IntKind.u64.wrap (bt1030.1))) - 1))).bind fun bt1051 => ((posserlaw03_Table.f bt1051.1 bt1051.2.1 bt1051.2.2).bind fun bt1058 => ((bundle_Whose.f bt1058.1 bt1058.2.1 bt1058.2.2).bind fun bt1065 => (if bt1047.2 = 0 then (if bt1065.2 = 11 then ((posserlaw03_awake.f).bind fun t1069 => (some t1069)) else (none)) else (none)))))))) else (none)) else (none))) else ((posserref03_Full.f l0_0 l0_1 a0_2).bind fun t1070 => ((posserlaw03_some.f k l0_0 l0_1 a0_2 t1070).bind fun bt1071 => ((posserlaw03_Table.f bt1071.1 bt1071.2.1 bt1071.2.2).bind fun bt1078 => ((bundle_Whose.f bt1078.1 bt1078.2.1 bt1078.2.2).bind fun bt1085 => (if bt1030.2 = 7 then (if bt1085.2 = 0 then ((posserlaw03_awake.f).bind fun t1089 => (some t1089)) else (none)) else (none))))))))) else ((posserlaw03_awake.f).bind fun t1090 => (some t1090)))) = some r := h
 clear h
 replace H := Option.bind_eq_some_iff.mp H
 obtain ⟨t1022, A20, H⟩ := H
 replace H : (if t1022 = true then ((posserlaw03_Table.f l0_0 l0_1 a0_2).bind fun bt1023 => ((bundle_First.f bt1023.1 bt1023.2.1 bt1023.2.2).bind fun bt1030 => (if bt1030.2 = 0 then ((posserref03_In.f bt1030.1 0 (wrap64 ((l0_0.length : Int) - 1))).bind fun t1032 => (if t1032 = true then (if 0 ≤ (IntKind.u64.wrap (bt1030.1)) then ((posserlaw03_some.f k l0_0 l0_1 a0_2 (wrap64 ((shl .i64 1 (IntKind.u64.wrap (bt1030.1))) - 1))).bind fun bt1033 => ((posserlaw03_Table.f bt1033.1 bt1033.2.1 bt1033.2.2).bind fun bt1040 => ((bundle_Whose.f bt1040.1 bt1040.2.1 bt1040.2.2).bind fun bt1047 => ((posserlaw03_some.f k l0_0 l0_1 a0_2 (wrap64 ((shl .i64 2 (IntKind.u64.wrap (bt1030.1))) - 1))).bind fun bt1051 => ((posserlaw03_Table.f bt1051.1 bt1051.2.1 bt1051.2.2).bind fun bt1058 => ((bundle_Whose.f bt1058.1 bt1058.2.1 bt1058.2.2).bind fun bt1065 => (if bt1047.2 = 0 then (if bt1065.2 = 11 then ((posserlaw03_awake.f).bind fun t1069 => (some t1069)) else (none)) else (none)))))))) else (none)) else (none))) else ((posserref03_Full.f l0_0 l0_1 a0_2).bind fun t1070 => ((posserlaw03_some.f k l0_0 l0_1 a0_2 t1070).bind fun bt1071 => ((posserlaw03_Table.f bt1071.1 bt1071.2.1 bt1071.2.2).bind fun bt1078 => ((bundle_Whose.f bt1078.1 bt1078.2.1 bt1078.2.2).bind fun bt1085 => (if bt1030.2 = 7 then (if bt1085.2 = 0 then ((posserlaw03_awake.f).bind fun t1089 => (some t1089)) else (none)) else (none))))))))) else ((posserlaw03_awake.f).bind fun t1090 => (some t1090))) = some r := H
 have A2 := Aside0.mk A20
 clear A20
 by_cases c3 : t1022 = true
 ·subst c3
  have H1 : ((posserlaw03_Table.f l0_0 l0_1 a0_2).bind fun bt1023 => ((bundle_First.f bt1023.1 bt1023.2.1 bt1023.2.2).bind fun bt1030 => (if bt1030.2 = 0 then ((posserref03_In.f bt1030.1 0 (wrap64 ((l0_0.length : Int) - 1))).bind fun t1032 => (if t1032 = true then (if 0 ≤ (IntKind.u64.wrap (bt1030.1)) then ((posserlaw03_some.f k l0_0 l0_1 a0_2 (wrap64 ((shl .i64 1 (IntKind.u64.wrap (bt1030.1))) - 1))).bind fun bt1033 => ((posserlaw03_Table.f bt1033.1 bt1033.2.1 bt1033.2.2).bind fun bt1040 => ((bundle_Whose.f bt1040.1 bt1040.2.1 bt1040.2.2).bind fun bt1047 => ((posserlaw03_some.f k l0_0 l0_1 a0_2 (wrap64 ((shl .i64 2 (IntKind.u64.wrap (bt1030.1))) - 1))).bind fun bt1051 => ((posserlaw03_Table.f bt1051.1 bt1051.2.1 bt1051.2.2).bind fun bt1058 => ((bundle_Whose.f bt1058.1 bt1058.2.1 bt1058.2.2).bind fun bt1065 => (if bt1047.2 = 0 then (if bt1065.2 = 11 then ((posserlaw03_awake.f).bind fun t1069 => (some t1069)) else (none)) else (none)))))))) else (none)) else (none))) else ((posserref03_Full.f l0_0 l0_1 a0_2).bind fun t1070 => ((posserlaw03_some.f k l0_0 l0_1 a0_2 t1070).bind fun bt1071 => ((posserlaw03_Table.f bt1071.1 bt1071.2.1 bt1071.2.2).bind fun bt1078 => ((bundle_Whose.f bt1078.1 bt1078.2.1 bt1078.2.2).bind fun bt1085 => (if bt1030.2 = 7 then (if bt1085.2 = 0 then ((posserlaw03_awake.f).bind fun t1089 => (some t1089)) else (none)) else (none))))))))) = some r := by rw [if_pos rfl] at H; exact H
  clear H
  have H := H1
  clear H1
  replace H := Option.bind_eq_some_iff.mp H
  obtain ⟨⟨t1023, t1026, t1029⟩, A40, H⟩ := H
  replace H : ((bundle_First.f t1023 t1026 t1029).bind fun bt1030 => (if bt1030.2 = 0 then ((posserref03_In.f bt1030.1 0 (wrap64 ((l0_0.length : Int) - 1))).bind fun t1032 => (if t1032 = true then (if 0 ≤ (IntKind.u64.wrap (bt1030.1)) then ((posserlaw03_some.f k l0_0 l0_1 a0_2 (wrap64 ((shl .i64 1 (IntKind.u64.wrap (bt1030.1))) - 1))).bind fun bt1033 => ((posserlaw03_Table.f bt1033.1 bt1033.2.1 bt1033.2.2).bind fun bt1040 => ((bundle_Whose.f bt1040.1 bt1040.2.1 bt1040.2.2).bind fun bt1047 => ((posserlaw03_some.f k l0_0 l0_1 a0_2 (wrap64 ((shl .i64 2 (IntKind.u64.wrap (bt1030.1))) - 1))).bind fun bt1051 => ((posserlaw03_Table.f bt1051.1 bt1051.2.1 bt1051.2.2).bind fun bt1058 => ((bundle_Whose.f bt1058.1 bt1058.2.1 bt1058.2.2).bind fun bt1065 => (if bt1047.2 = 0 then (if bt1065.2 = 11 then ((posserlaw03_awake.f).bind fun t1069 => (some t1069)) else (none)) else (none)))))))) else (none)) else (none))) else ((posserref03_Full.f l0_0 l0_1 a0_2).bind fun t1070 => ((posserlaw03_some.f k l0_0 l0_1 a0_2 t1070).bind fun bt1071 => ((posserlaw03_Table.f bt1071.1 bt1071.2.1 bt1071.2.2).bind fun bt1078 => ((bundle_Whose.f bt1078.1 bt1078.2.1 bt1078.2.2).bind fun bt1085 => (if bt1030.2 = 7 then (if bt1085.2 = 0 then ((posserlaw03_awake.f).bind fun t1089 => (some t1089)) else (none)) else (none)))))))) = some r := H
  have A4 := Aside0.mk A40
  clear A40
  replace H := Option.bind_eq_some_iff.mp H
  obtain ⟨⟨t1030, t1031⟩, A50, H⟩ := H
  replace H : (if t1031 = 0 then ((posserref03_In.f t1030 0 (wrap64 ((l0_0.length : Int) - 1))).bind fun t1032 => (if t1032 = true then (if 0 ≤ (IntKind.u64.wrap (t1030)) then ((posserlaw03_some.f k l0_0 l0_1 a0_2 (wrap64 ((shl .i64 1 (IntKind.u64.wrap (t1030))) - 1))).bind fun bt1033 => ((posserlaw03_Table.f bt1033.1 bt1033.2.1 bt1033.2.2).bind fun bt1040 => ((bundle_Whose.f bt1040.1 bt1040.2.1 bt1040.2.2).bind fun bt1047 => ((posserlaw03_some.f k l0_0 l0_1 a0_2 (wrap64 ((shl .i64 2 (IntKind.u64.wrap (t1030))) - 1))).bind fun bt1051 => ((posserlaw03_Table.f bt1051.1 bt1051.2.1 bt1051.2.2).bind fun bt1058 => ((bundle_Whose.f bt1058.1 bt1058.2.1 bt1058.2.2).bind fun bt1065 => (if bt1047.2 = 0 then (if bt1065.2 = 11 then ((posserlaw03_awake.f).bind fun t1069 => (some t1069)) else (none)) else (none)))))))) else (none)) else (none))) else ((posserref03_Full.f l0_0 l0_1 a0_2).bind fun t1070 => ((posserlaw03_some.f k l0_0 l0_1 a0_2 t1070).bind fun bt1071 => ((posserlaw03_Table.f bt1071.1 bt1071.2.1 bt1071.2.2).bind fun bt1078 => ((bundle_Whose.f bt1078.1 bt1078.2.1 bt1078.2.2).bind fun bt1085 => (if t1031 = 7 then (if bt1085.2 = 0 then ((posserlaw03_awake.f).bind fun t1089 => (some t1089)) else (none)) else (none))))))) = some r := H
  have A5 := Aside0.mk A50
  clear A50
  by_cases c6 : t1031 = 0
  ·rw [if_pos c6] at H
   have c6b0 : (t1031 == 0) = true := beq_iff_eq.mpr c6
   have c6b1 : (t1031 != 0) = false := bne_eq_false_iff_eq.mpr c6
   clear c6
   replace H := Option.bind_eq_some_iff.mp H
   obtain ⟨t1032, A70, H⟩ := H
   replace H : (if t1032 = true then (if 0 ≤ (IntKind.u64.wrap (t1030)) then ((posserlaw03_some.f k l0_0 l0_1 a0_2 (wrap64 ((shl .i64 1 (IntKind.u64.wrap (t1030))) - 1))).bind fun bt1033 => ((posserlaw03_Table.f bt1033.1 bt1033.2.1 bt1033.2.2).bind fun bt1040 => ((bundle_Whose.f bt1040.1 bt1040.2.1 bt1040.2.2).bind fun bt1047 => ((posserlaw03_some.f k l0_0 l0_1 a0_2 (wrap64 ((shl .i64 2 (IntKind.u64.wrap (t1030))) - 1))).bind fun bt1051 => ((posserlaw03_Table.f bt1051.1 bt1051.2.1 bt1051.2.2).bind fun bt1058 => ((bundle_Whose.f bt1058.1 bt1058.2.1 bt1058.2.2).bind fun bt1065 => (if bt1047.2 = 0 then (if bt1065.2 = 11 then ((posserlaw03_awake.f).bind fun t1069 => (some t1069)) else (none)) else (none)))))))) else (none)) else (none)) = some r := H
   have A7 := Aside0.mk A70
   clear A70
   by_cases c8 : t1032 = true
   ·subst c8
    have H1 : (if 0 ≤ (IntKind.u64.wrap (t1030)) then ((posserlaw03_some.f k l0_0 l0_1 a0_2 (wrap64 ((shl .i64 1 (IntKind.u64.wrap (t1030))) - 1))).bind fun bt1033 => ((posserlaw03_Table.f bt1033.1 bt1033.2.1 bt1033.2.2).bind fun bt1040 => ((bundle_Whose.f bt1040.1 bt1040.2.1 bt1040.2.2).bind fun bt1047 => ((posserlaw03_some.f k l0_0 l0_1 a0_2 (wrap64 ((shl .i64 2 (IntKind.u64.wrap (t1030))) - 1))).bind fun bt1051 => ((posserlaw03_Table.f bt1051.1 bt1051.2.1 bt1051.2.2).bind fun bt1058 => ((bundle_Whose.f bt1058.1 bt1058.2.1 bt1058.2.2).bind fun bt1065 => (if bt1047.2 = 0 then (if bt1065.2 = 11 then ((posserlaw03_awake.f).bind fun t1069 => (some t1069)) else (none)) else (none)))))))) else (none)) = some r := by rw [if_pos rfl] at H; exact H
    clear H
    have H := H1
    clear H1
    obtain ⟨ji9, hji9⟩ : ∃ j_ : Int, (IntKind.u64.wrap (t1030)) = j_ := ⟨_, rfl⟩
    replace H : (if 0 ≤ (ji9) then ((posserlaw03_some.f k l0_0 l0_1 a0_2 (wrap64 ((shl .i64 1 (ji9)) - 1))).bind fun bt1033 => ((posserlaw03_Table.f bt1033.1 bt1033.2.1 bt1033.2.2).bind fun bt1040 => ((bundle_Whose.f bt1040.1 bt1040.2.1 bt1040.2.2).bind fun bt1047 => ((posserlaw03_some.f k l0_0 l0_1 a0_2 (wrap64 ((shl .i64 2 (ji9)) - 1))).bind fun bt1051 => ((posserlaw03_Table.f bt1051.1 bt1051.2.1 bt1051.2.2).bind fun bt1058 => ((bundle_Whose.f bt1058.1 bt1058.2.1 bt1058.2.2).bind fun bt1065 => (if bt1047.2 = 0 then (if bt1065.2 = 11 then ((posserlaw03_awake.f).bind fun t1069 => (some t1069)) else (none)) else (none)))))))) else (none)) = some r := by first | (rw [hji9] at H; exact H) | (simp only [hji9] at H ⊢; exact H)
    (try rw [hji9] at A2)
    (try rw [hji9] at A4)
    (try rw [hji9] at A5)
    (try rw [hji9] at A7)
    by_cases c10 : 0 ≤ (ji9)
    ·rw [if_pos c10] at H
     have c10b0 := eq_true c10
     have c10b1 : decide (0 ≤ (ji9)) = true := decide_eq_true c10
     clear c10
     obtain ⟨ji11, hji11⟩ : ∃ j_ : Int, (shl .i64 1 (ji9)) = j_ := ⟨_, rfl⟩
     replace H : ((posserlaw03_some.f k l0_0 l0_1 a0_2 (wrap64 ((ji11) - 1))).bind fun bt1033 => ((posserlaw03_Table.f bt1033.1 bt1033.2.1 bt1033.2.2).bind fun bt1040 => ((bundle_Whose.f bt1040.1 bt1040.2.1 bt1040.2.2).bind fun bt1047 => ((posserlaw03_some.f k l0_0 l0_1 a0_2 (wrap64 ((shl .i64 2 (ji9)) - 1))).bind fun bt1051 => ((posserlaw03_Table.f bt1051.1 bt1051.2.1 bt1051.2.2).bind fun bt1058 => ((bundle_Whose.f bt1058.1 bt1058.2.1 bt1058.2.2).bind fun bt1065 => (if bt1047.2 = 0 then (if bt1065.2 = 11 then ((posserlaw03_awake.f).bind fun t1069 => (some t1069)) else (none)) else (none)))))))) = some r := by first | (rw [hji11] at H; exact H) | (simp only [hji11] at H ⊢; exact H)
     (try rw [hji11] at A2)
     (try rw [hji11] at A4)
     (try rw [hji11] at A5)
     (try rw [hji11] at A7)
     have hji11_ : (IntKind.i64.wrap (1 * 2 ^ min (ji9).toNat 64)) = ji11 := hji11
     have hji11z : (ji9) ≤ 64 → (IntKind.i64.wrap (1 * 2 ^ (ji9).toNat)) = ji11 := shl_small hji11
     have hji11u : (IntKind.i64.wrap (2 ^ min (ji9).toNat 64)) = ji11 := by have h_ := hji11_; rw [Int.one_mul] at h_; exact h_
     have hji11v : (ji9) ≤ 64 → (IntKind.i64.wrap (2 ^ (ji9).toNat)) = ji11 := fun hle_ => by have h_ := hji11z hle_; rw [Int.one_mul] at h_; exact h_
     have hji11y : (wrap64 (1 * 2 ^ min (ji9).toNat 64)) = ji11 := (i64_w _).symm.trans hji11_
     have hji11x : (ji9) ≤ 64 → (wrap64 (1 * 2 ^ (ji9).toNat)) = ji11 := fun h_ => (i64_w _).symm.trans (hji11z h_)
     replace H := Option.bind_eq_some_iff.mp H
     obtain ⟨⟨t1033, t1036, t1039⟩, A120, H⟩ := H
     replace H : ((posserlaw03_Table.f t1033 t1036 t1039).bind fun bt1040 => ((bundle_Whose.f bt1040.1 bt1040.2.1 bt1040.2.2).bind fun bt1047 => ((posserlaw03_some.f k l0_0 l0_1 a0_2 (wrap64 ((shl .i64 2 (ji9)) - 1))).bind fun bt1051 => ((posserlaw03_Table.f bt1051.1 bt1051.2.1 bt1051.2.2).bind fun bt1058 => ((bundle_Whose.f bt1058.1 bt1058.2.1 bt1058.2.2).bind fun bt1065 => (if bt1047.2 = 0 then (if bt1065.2 = 11 then ((posserlaw03_awake.f).bind fun t1069 => (some t1069)) else (none)) else (none))))))) = some r := H
     have A12 := Aside0.mk A120
     clear A120
     replace H := Option.bind_eq_some_iff.mp H
     obtain ⟨⟨t1040, t1043, t1046⟩, A130, H⟩ := H
     replace H : ((bundle_Whose.f t1040 t1043 t1046).bind fun bt1047 => ((posserlaw03_some.f k l0_0 l0_1 a0_2 (wrap64 ((shl .i64 2 (ji9)) - 1))).bind fun bt1051 => ((posserlaw03_Table.f bt1051.1 bt1051.2.1 bt1051.2.2).bind fun bt1058 => ((bundle_Whose.f bt1058.1 bt1058.2.1 bt1058.2.2).bind fun bt1065 => (if bt1047.2 = 0 then (if bt1065.2 = 11 then ((posserlaw03_awake.f).bind fun t1069 => (some t1069)) else (none)) else (none)))))) = some r := H
     have A13 := Aside0.mk A130
     clear A130
     replace H := Option.bind_eq_some_iff.mp H
     obtain ⟨⟨t1047, t1050⟩, A140, H⟩ := H
     replace H : ((posserlaw03_some.f k l0_0 l0_1 a0_2 (wrap64 ((shl .i64 2 (ji9)) - 1))).bind fun bt1051 => ((posserlaw03_Table.f bt1051.1 bt1051.2.1 bt1051.2.2).bind fun bt1058 => ((bundle_Whose.f bt1058.1 bt1058.2.1 bt1058.2.2).bind fun bt1065 => (if t1050 = 0 then (if bt1065.2 = 11 then ((posserlaw03_awake.f).bind fun t1069 => (some t1069)) else (none)) else (none))))) = some r := H
     have A14 := Aside0.mk A140
     clear A140
     have c15b0 := eq_true (of_decide_eq_true (by first | (with_reducible assumption) | assumption) : 0 ≤ (ji9))
     obtain ⟨ji16, hji16⟩ : ∃ j_ : Int, (shl .i64 2 (ji9)) = j_ := ⟨_, rfl⟩
     replace H : ((posserlaw03_some.f k l0_0 l0_1 a0_2 (wrap64 ((ji16) - 1))).bind fun bt1051 => ((posserlaw03_Table.f bt1051.1 bt1051.2.1 bt1051.2.2).bind fun bt1058 => ((bundle_Whose.f bt1058.1 bt1058.2.1 bt1058.2.2).bind fun bt1065 => (if t1050 = 0 then (if bt1065.2 = 11 then ((posserlaw03_awake.f).bind fun t1069 => (some t1069)) else (none)) else (none))))) = some r := by first | (rw [hji16] at H; exact H) | (simp only [hji16] at H ⊢; exact H)
     (try rw [hji16] at A2)
     (try rw [hji16] at A4)
     (try rw [hji16] at A5)
     (try rw [hji16] at A7)
     (try rw [hji16] at A12)
     (try rw [hji16] at A13)
     (try rw [hji16] at A14)
     have hji16_ : (IntKind.i64.wrap (2 * 2 ^ min (ji9).toNat 64)) = ji16 := hji16
     have hji16z : (ji9) ≤ 64 → (IntKind.i64.wrap (2 * 2 ^ (ji9).toNat)) = ji16 := shl_small hji16
     have hji16y : (wrap64 (2 * 2 ^ min (ji9).toNat 64)) = ji16 := (i64_w _).symm.trans hji16_
     have hji16x : (ji9) ≤ 64 → (wrap64 (2 * 2 ^ (ji9).toNat)) = ji16 := fun h_ => (i64_w _).symm.trans (hji16z h_)
     replace H := Option.bind_eq_some_iff.mp H
     obtain ⟨⟨t1051, t1054, t1057⟩, A170, H⟩ := H
     replace H : ((posserlaw03_Table.f t1051 t1054 t1057).bind fun bt1058 => ((bundle_Whose.f bt1058.1 bt1058.2.1 bt1058.2.2).bind fun bt1065 => (if t1050 = 0 then (if bt1065.2 = 11 then ((posserlaw03_awake.f).bind fun t1069 => (some t1069)) else (none)) else (none)))) = some r := H
     have A17 := Aside0.mk A170
     clear A170
     replace H := Option.bind_eq_some_iff.mp H
     obtain ⟨⟨t1058, t1061, t1064⟩, A180, H⟩ := H
     replace H : ((bundle_Whose.f t1058 t1061 t1064).bind fun bt1065 => (if t1050 = 0 then (if bt1065.2 = 11 then ((posserlaw03_awake.f).bind fun t1069 => (some t1069)) else (none)) else (none))) = some r := H
     have A18 := Aside0.mk A180
     clear A180
     replace H := Option.bind_eq_some_iff.mp H
     obtain ⟨⟨t1065, t1068⟩, A190, H⟩ := H
     replace H : (if t1050 = 0 then (if t1068 = 11 then ((posserlaw03_awake.f).bind fun t1069 => (some t1069)) else (none)) else (none)) = some r := H
     have A19 := Aside0.mk A190
     clear A190
     by_cases c20 : t1050 = 0
     ·rw [if_pos c20] at H
      have c20b0 : (t1050 == 0) = true := beq_iff_eq.mpr c20
      have c20b1 : (t1050 != 0) = false := bne_eq_false_iff_eq.mpr c20
      clear c20
      by_cases c21 : t1068 = 11
      ·rw [if_pos c21] at H
       have c21b0 : (t1068 == 11) = true := beq_iff_eq.mpr c21
       have c21b1 : (t1068 != 11) = false := bne_eq_false_iff_eq.mpr c21
       clear c21
       replace H := Option.bind_eq_some_iff.mp H
       obtain ⟨t1069, A220, H⟩ := H
       replace H : (some t1069) = some r := H
       have A22 := Aside0.mk A220
       clear A220
       obtain rfl := Option.some.inj H
       go_enter Try.func16, Try.ntmps16
       go_wp2_with (first | ((with_reducible refine gate_dst (N := 1) rfl ?_); refine sbox (N := 1) #[.slice A0_0 l0_0.length c0_0, .slice A0_1 l0_1.length c0_1, .int .i64 a0_2] 25 ?_; intro gb1021 hg w23 hbox hb; have BK1021 := Aside0.mk (hbox); have GW1021 := Aside0.mk (sge hg HB : w.heap.size ≤ gb1021); have GE1021 := Aside0.mk (sge hg HB : w.heap.size ≤ gb1021); replace HB := Aside0.mk (sbs HB hb); clear hb hbox hg; have hcz24_0 := sc 0 BK1021; have hcz24_1 := sc 1 BK1021; have hcz24_2 := sc 2 BK1021; have hfz24_0 := blk_frozen BK1021.out 0; have hfz24_1 := blk_frozen BK1021.out 1; have hfz24_2 := blk_frozen BK1021.out 2) | ((with_reducible refine gate_callee (f := 47) rfl ?_); refine goesL_ (some 12) rfl rfl Try.func47 (by kernel_rfl) rfl #[.agg #[.slice A0_0 l0_0.length c0_0, .slice A0_1 l0_1.length c0_1, .int .i64 a0_2]] rfl (by (try simp only [List.map_toArray, List.map_cons, List.map_nil]); first | done | rfl | (simp only [List.length_drop, List.length_take]; rfl)) ?_; (with_reducible refine (posserlaw03_ready.calls k _ _ l0_0 _ _ l0_1 a0_2 true _ ?side1 ?side2 ?side3 ?side4 A2.out).mono ?_); (case side1 => exact sCb HR0_0 HB); (case side2 => exact HC0_0.out); (case side3 => exact sCb HR0_1 HB); (case side4 => exact HC0_1.out); rintro e w25 ⟨rfl, hb⟩; refine ⟨_, rfl, ?_⟩; replace BK1021 := Aside0.mk (sbb BK1021 hb); replace HB := Aside0.mk (sbs1 HB GE1021 hb); (try clear hb); (try clear hb2); (try clear hk); (try clear hi); have hcz26_0 := sc 0 BK1021; have hcz26_1 := sc 1 BK1021; have hcz26_2 := sc 2 BK1021; have hfz26_0 := blk_frozen BK1021.out 0; have hfz26_1 := blk_frozen BK1021.out 1; have hfz26_2 := blk_frozen BK1021.out 2) | ((with_reducible refine gate_callee (f := 23) rfl ?_); refine goesL_ (some 17) rfl rfl Try.func23 (by kernel_rfl) rfl #[.agg #[.slice A0_0 l0_0.length c0_0, .slice A0_1 l0_1.length c0_1, .int .i64 a0_2]] rfl (by (try simp only [List.map_toArray, List.map_cons, List.map_nil]); first | done | rfl | (simp only [List.length_drop, List.length_take]; rfl)) ?_; (with_reducible refine (posserlaw03_Table.calls _ _ l0_0 _ _ l0_1 a0_2 t1023 t1026 t1029 _ ?side1 ?side2 ?side3 ?side4 A4.out).mono ?_); (case side1 => exact sCb HR0_0 HB); (case side2 => exact HC0_0.out); (case side3 => exact sCb HR0_1 HB); (case side4 => exact HC0_1.out); rintro e w27 ⟨v1024, v1027, rfl, ho0, ho1, hb⟩; refine ⟨_, rfl, ?_⟩; have HO1025 := Aside0.mk (Kd.R_lower (Kd.R_mono (ok' := fun k_ => True) ho0 (fun _ hk_ => trivial)) (below_size (sbe1 HB GE1021))); have HO1028 := Aside0.mk (Kd.N_lower (Kd.N_mono (ok' := fun k_ => some k_ ≠ (v1024 : Value).ownBlock ∧ k_ ≠ gb1021) ho1 (fun k_ hk_ => ⟨hk_.2, (Kd.freshB (g := gb1021) (o := .cells #[.slice A0_0 l0_0.length c0_0, .slice A0_1 l0_1.length c0_1, .int .i64 a0_2] 25 (0, 0)) (sbk BK1021) k_ hk_.1)⟩)) (below_size (sbe1 HB GE1021))); replace BK1021 := Aside0.mk (sbb BK1021 hb); replace HB := Aside0.mk (sbs1 HB GE1021 hb); (try clear hb); (try clear hb2); (try clear hk); (try clear hi); (try clear ho0); (try clear ho1); obtain ⟨Ao28, co28, eo28⟩ := Kd.R_slice HO1025.out; subst eo28; obtain ⟨Ao29, co29, eo29⟩ := Kd.N_slice HO1028.out; subst eo29) | ((with_reducible refine gate_callee (f := 31) rfl ?_); refine goesL_ (some 18) rfl rfl Try.func31 (by kernel_rfl) rfl #[.agg #[.slice Ao28 t1023.length co28, .slice Ao29 t1026.length co29, .int .i64 t1029]] rfl (by (try simp only [List.map_toArray, List.map_cons, List.map_nil]); first | done | rfl | (simp only [List.length_drop, List.length_take]; rfl)) ?_; (with_reducible refine (bundle_First.calls _ _ t1023 _ _ t1026 t1029 t1030 t1031 _ ?side1 ?side2 ?side3 ?side4 A5.out).mono ?_); (case side1 => repeat (first | exact (Kd.R_reads' HO1025.out).2.2 | (with_reducible refine Kd.C_alloc ?_ _) | (with_reducible refine Kd.C_drewN ?_ _) | (with_reducible refine Kd.C_drew ?_))); (case side2 => exact (Kd.R_reads' HO1025.out).2.1); (case side3 => repeat (first | exact (Kd.N_reads' HO1028.out).2.2 | (with_reducible refine Kd.C_alloc ?_ _) | (with_reducible refine Kd.C_drewN ?_ _) | (with_reducible refine Kd.C_drew ?_))); (case side4 => exact (Kd.N_reads' HO1028.out).2.1); rintro e w30 ⟨rfl, hb⟩; refine ⟨_, rfl, ?_⟩; replace HO1025 := Aside0.mk (Kd.R_below (sR HO1025) hb); replace HO1028 := Aside0.mk (Kd.N_below (sN_ HO1028) hb); replace BK1021 := Aside0.mk (sbb BK1021 hb); replace HB := Aside0.mk (sbs1 HB GE1021 hb); (try clear hb); (try clear hb2); (try clear hk); (try clear hi); have hcz31_0 := sc 0 BK1021; have hcz31_1 := sc 1 BK1021; have hcz31_2 := sc 2 BK1021; have hfz31_0 := blk_frozen BK1021.out 0; have hfz31_1 := blk_frozen BK1021.out 1; have hfz31_2 := blk_frozen BK1021.out 2) | ((with_reducible refine gate_callee (f := 49) rfl ?_); refine goesL_ (some 46) rfl rfl Try.func49 (by kernel_rfl) rfl #[.int .i64 t1030, .int .i64 0, .int .i64 (wrap64 ((l0_0.length : Int) - 1))] rfl (by (try simp only [List.map_toArray, List.map_cons, List.map_nil]); first | done | rfl | (simp only [List.length_drop, List.length_take]; rfl)) ?_; (with_reducible refine (posserref03_In.calls t1030 0 (wrap64 ((l0_0.length : Int) - 1)) true _ A7.out).mono ?_); rintro e w' ⟨rfl, ⟨nd, rfl⟩⟩; refine ⟨_, rfl, ?_⟩) | ((with_reducible refine gate_callee (f := 57) rfl ?_); refine goesL_ (some 54) rfl rfl Try.func57 (by kernel_rfl) rfl #[.agg #[.slice A0_0 l0_0.length c0_0, .slice A0_1 l0_1.length c0_1, .int .i64 a0_2], .int .i64 (wrap64 ((ji11) - 1))] rfl (by (try simp only [List.map_toArray, List.map_cons, List.map_nil]); first | done | (simp only [hji11]; rfl) | rfl | (simp only [List.length_drop, List.length_take]; rfl)) ?_; (with_reducible refine (posserlaw03_some.calls k _ _ l0_0 (fun k_ => k_ < w.heap.size) _ _ l0_1 a0_2 (wrap64 ((ji11) - 1)) t1033 t1036 t1039 _ ?side1 ?side2 ?side3 A12.out).mono ?_); (case side1 => exact sCb1 HR0_0 HB GE1021); (case side2 => exact HC0_0.out); (case side3 => exact Kd.V_mk HC0_1.out (Kd.F_below (Kd.C_F k71_heap HR0_1.out) (sbe1 HB GE1021))); rintro e w32 ⟨v1034, v1037, rfl, ho0, ho1, hb⟩; refine ⟨_, rfl, ?_⟩; have HO1035 := Aside0.mk (Kd.R_lower (Kd.R_mono (ok' := fun k_ => True) ho0 (fun _ hk_ => trivial)) (below_size (sbe1 HB GE1021))); have HO1038 := Aside0.mk (Kd.V_lower (Kd.V_mono (ok' := fun k_ => some k_ ≠ (v1034 : Value).ownBlock ∧ some k_ ≠ (.slice Ao28 t1023.length co28 : Value).ownBlock ∧ some k_ ≠ (.slice Ao29 t1026.length co29 : Value).ownBlock ∧ k_ ≠ gb1021) ho1 (fun k_ hk_ => ⟨hk_.2, Or.elim hk_.1 (fun hs_ => fun e_ => Nat.not_le.2 hs_ (Kd.R_base HO1025.out k_ e_.symm)) (fun hn_ => (Kd.fresh' (Kd.R_lt (sR HO1025)) k_ hn_)), Or.elim hk_.1 (fun hs_ => fun e_ => Nat.not_le.2 hs_ (Kd.N_base HO1028.out k_ e_.symm)) (fun hn_ => (Kd.fresh' (Kd.N_lt (sN_ HO1028)) k_ hn_)), Or.elim hk_.1 (fun hs_ => fun e_ => Nat.not_le.2 hs_ (by rw [e_]; exact GW1021.out)) (fun hn_ => (Kd.freshB (g := gb1021) (o := .cells #[.slice A0_0 l0_0.length c0_0, .slice A0_1 l0_1.length c0_1, .int .i64 a0_2] 25 (0, 0)) (sbk BK1021) k_ hn_))⟩)) (below_size (sbe1 HB GE1021))); replace HO1025 := Aside0.mk (Kd.R_below (sR HO1025) hb); replace HO1028 := Aside0.mk (Kd.N_elder' (sN_ HO1028) (Kd.R_base ho0) hb); replace BK1021 := Aside0.mk (sbb BK1021 hb); replace HB := Aside0.mk (sbs1 HB GE1021 hb); (try clear hb); (try clear hb2); (try clear hk); (try clear hi); (try clear ho0); (try clear ho1); obtain ⟨Ao33, co33, eo33⟩ := Kd.R_slice HO1035.out; subst eo33; obtain ⟨Ao34, co34, eo34⟩ := Kd.V_slice HO1038.out; subst eo34) | ((with_reducible refine gate_callee (f := 23) rfl ?_); refine goesL_ (some 55) rfl rfl Try.func23 (by kernel_rfl) rfl #[.agg #[.slice Ao33 t1033.length co33, .slice Ao34 t1036.length co34, .int .i64 t1039]] rfl (by (try simp only [List.map_toArray, List.map_cons, List.map_nil]); first | done | rfl | (simp only [List.length_drop, List.length_take]; rfl)) ?_; (with_reducible refine (posserlaw03_Table.calls _ _ t1033 _ _ t1036 t1039 t1040 t1043 t1046 _ ?side1 ?side2 ?side3 ?side4 A13.out).mono ?_); (case side1 => repeat (first | exact (Kd.R_reads' HO1035.out).2.2 | (with_reducible refine Kd.C_alloc ?_ _) | (with_reducible refine Kd.C_drewN ?_ _) | (with_reducible refine Kd.C_drew ?_))); (case side2 => exact (Kd.R_reads' HO1035.out).2.1); (case side3 => repeat (first | exact (Kd.V_reads' HO1038.out).2.2 | (with_reducible refine Kd.C_alloc ?_ _) | (with_reducible refine Kd.C_drewN ?_ _) | (with_reducible refine Kd.C_drew ?_))); (case side4 => exact (Kd.V_reads' HO1038.out).2.1); rintro e w35 ⟨v1041, v1044, rfl, ho0, ho1, hb⟩; refine ⟨_, rfl, ?_⟩; have HO1042 := Aside0.mk (Kd.R_lower (Kd.R_new' (Kd.R_mono (ok' := fun k_ => True) ho0 (fun _ hk_ => trivial)) (Kd.R_lt (sR HO1025))) (below_size (sbe1 HB GE1021))); have HO1045 := Aside0.mk (Kd.N_lower (Kd.N_mono (ok' := fun k_ => some k_ ≠ (v1041 : Value).ownBlock ∧ some k_ ≠ (.slice Ao28 t1023.length co28 : Value).ownBlock ∧ some k_ ≠ (.slice Ao29 t1026.length co29 : Value).ownBlock ∧ some k_ ≠ (.slice Ao33 t1033.length co33 : Value).ownBlock ∧ k_ ≠ gb1021) ho1 (fun k_ hk_ => ⟨hk_.2, (Kd.fresh' (Kd.R_lt (sR HO1025)) k_ hk_.1), (Kd.fresh' (Kd.N_lt (sN_ HO1028)) k_ hk_.1), (Kd.fresh' (Kd.R_lt (sR HO1035)) k_ hk_.1), (Kd.freshB (g := gb1021) (o := .cells #[.slice A0_0 l0_0.length c0_0, .slice A0_1 l0_1.length c0_1, .int .i64 a0_2] 25 (0, 0)) (sbk BK1021) k_ hk_.1)⟩)) (below_size (sbe1 HB GE1021))); replace HO1025 := Aside0.mk (Kd.R_elder' (sR HO1025) (Kd.R_base ho0) hb); replace HO1028 := Aside0.mk (Kd.N_mono (Kd.N_told (Kd.N_told (Kd.N_old (sN_ HO1028) hb) (Kd.R_base ho0)) (Kd.N_base ho1)) (fun _ h_ => h_.1)); replace HO1035 := Aside0.mk (Kd.R_below (sR HO1035) hb); replace HO1038 := Aside0.mk (Kd.V_mono (Kd.V_told (Kd.V_told (Kd.V_old (by (with_reducible repeat (first | apply Kd.V_alloc | apply Kd.V_drewN | apply Kd.V_drew)); exact HO1038.out) hb) (Kd.R_base ho0)) (Kd.N_base ho1)) (fun _ h_ => h_.1)); replace BK1021 := Aside0.mk (sbb BK1021 hb); replace HB := Aside0.mk (sbs1 HB GE1021 hb); (try clear hb); (try clear hb2); (try clear hk); (try clear hi); (try clear ho0); (try clear ho1); obtain ⟨Ao36, co36, eo36⟩ := Kd.R_slice HO1042.out; subst eo36; obtain ⟨Ao37, co37, eo37⟩ := Kd.N_slice HO1045.out; subst eo37) | ((with_reducible refine gate_callee (f := 22) rfl ?_); refine goesL_ (some 56) rfl rfl Try.func22 (by kernel_rfl) rfl #[.agg #[.slice Ao36 t1040.length co36, .slice Ao37 t1043.length co37, .int .i64 t1046]] rfl (by (try simp only [List.map_toArray, List.map_cons, List.map_nil]); first | done | rfl | (simp only [List.length_drop, List.length_take]; rfl)) ?_; (with_reducible refine (bundle_Whose.calls _ _ t1040 _ _ t1043 t1046 t1047 t1050 _ ?side1 ?side2 ?side3 ?side4 A14.out).mono ?_); (case side1 => repeat (first | exact (Kd.R_reads' HO1042.out).2.2 | (with_reducible refine Kd.C_alloc ?_ _) | (with_reducible refine Kd.C_drewN ?_ _) | (with_reducible refine Kd.C_drew ?_))); (case side2 => exact (Kd.R_reads' HO1042.out).2.1); (case side3 => repeat (first | exact (Kd.N_reads' HO1045.out).2.2 | (with_reducible refine Kd.C_alloc ?_ _) | (with_reducible refine Kd.C_drewN ?_ _) | (with_reducible refine Kd.C_drew ?_))); (case side4 => exact (Kd.N_reads' HO1045.out).2.1); rintro e w38 ⟨v1048, rfl, ho0, hb⟩; refine ⟨_, rfl, ?_⟩; have HO1049 := Aside0.mk (Kd.N_lower (Kd.N_mono (ok' := fun k_ => some k_ ≠ (.slice Ao28 t1023.length co28 : Value).ownBlock ∧ some k_ ≠ (.slice Ao29 t1026.length co29 : Value).ownBlock ∧ some k_ ≠ (.slice Ao33 t1033.length co33 : Value).ownBlock ∧ some k_ ≠ (.slice Ao36 t1040.length co36 : Value).ownBlock ∧ some k_ ≠ (.slice Ao37 t1043.length co37 : Value).ownBlock ∧ k_ ≠ gb1021) ho0 (fun k_ hk_ => ⟨(Kd.fresh' (Kd.R_lt (sR HO1025)) k_ hk_), (Kd.fresh' (Kd.N_lt (sN_ HO1028)) k_ hk_), (Kd.fresh' (Kd.R_lt (sR HO1035)) k_ hk_), (Kd.fresh' (Kd.R_lt (sR HO1042)) k_ hk_), (Kd.fresh' (Kd.N_lt (sN_ HO1045)) k_ hk_), (Kd.freshB (g := gb1021) (o := .cells #[.slice A0_0 l0_0.length c0_0, .slice A0_1 l0_1.length c0_1, .int .i64 a0_2] 25 (0, 0)) (sbk BK1021) k_ hk_)⟩)) (below_size (sbe1 HB GE1021))); replace HO1025 := Aside0.mk (Kd.R_below (sR HO1025) hb); replace HO1028 := Aside0.mk (Kd.N_elder' (sN_ HO1028) (Kd.N_base ho0) hb); replace HO1035 := Aside0.mk (Kd.R_below (sR HO1035) hb); replace HO1038 := Aside0.mk (Kd.V_elder' (by (with_reducible repeat (first | apply Kd.V_alloc | apply Kd.V_drewN | apply Kd.V_drew)); exact HO1038.out) (Kd.N_base ho0) hb); replace HO1042 := Aside0.mk (Kd.R_below (sR HO1042) hb); replace HO1045 := Aside0.mk (Kd.N_elder' (sN_ HO1045) (Kd.N_base ho0) hb); replace BK1021 := Aside0.mk (sbb BK1021 hb); replace HB := Aside0.mk (sbs1 HB GE1021 hb); (try clear hb); (try clear hb2); (try clear hk); (try clear hi); (try clear ho0); have hcz39_0 := sc 0 BK1021; have hcz39_1 := sc 1 BK1021; have hcz39_2 := sc 2 BK1021; have hfz39_0 := blk_frozen BK1021.out 0; have hfz39_1 := blk_frozen BK1021.out 1; have hfz39_2 := blk_frozen BK1021.out 2) | ((with_reducible refine gate_callee (f := 57) rfl ?_); refine goesL_ (some 65) rfl rfl Try.func57 (by kernel_rfl) rfl #[.agg #[.slice A0_0 l0_0.length c0_0, .slice A0_1 l0_1.length c0_1, .int .i64 a0_2], .int .i64 (wrap64 ((ji16) - 1))] rfl (by (try simp only [List.map_toArray, List.map_cons, List.map_nil]); first | done | (simp only [hji16]; rfl) | rfl | (simp only [List.length_drop, List.length_take]; rfl)) ?_; (with_reducible refine (posserlaw03_some.calls k _ _ l0_0 (fun k_ => k_ < w.heap.size) _ _ l0_1 a0_2 (wrap64 ((ji16) - 1)) t1051 t1054 t1057 _ ?side1 ?side2 ?side3 A17.out).mono ?_); (case side1 => exact sCb HR0_0 HB); (case side2 => exact HC0_0.out); (case side3 => exact Kd.V_mk HC0_1.out (Kd.F_below (Kd.C_F k71_heap HR0_1.out) (sbe1 HB GE1021))); rintro e w40 ⟨v1052, v1055, rfl, ho0, ho1, hb⟩; refine ⟨_, rfl, ?_⟩; have HO1053 := Aside0.mk (Kd.R_lower (Kd.R_new' (Kd.R_mono (ok' := fun k_ => True) ho0 (fun _ hk_ => trivial)) (Kd.R_lt (sR HO1035))) (below_size (sbe1 HB GE1021))); have HO1056 := Aside0.mk (Kd.V_lower (Kd.V_mono (ok' := fun k_ => some k_ ≠ (v1052 : Value).ownBlock ∧ some k_ ≠ (.slice Ao28 t1023.length co28 : Value).ownBlock ∧ some k_ ≠ (.slice Ao29 t1026.length co29 : Value).ownBlock ∧ some k_ ≠ (.slice Ao33 t1033.length co33 : Value).ownBlock ∧ some k_ ≠ (.slice Ao36 t1040.length co36 : Value).ownBlock ∧ some k_ ≠ (.slice Ao37 t1043.length co37 : Value).ownBlock ∧ some k_ ≠ (v1048 : Value).ownBlock ∧ k_ ≠ gb1021) ho1 (fun k_ hk_ => ⟨hk_.2, Or.elim hk_.1 (fun hs_ => fun e_ => Nat.not_le.2 hs_ (Kd.R_base HO1025.out k_ e_.symm)) (fun hn_ => (Kd.fresh' (Kd.R_lt (sR HO1025)) k_ hn_)), Or.elim hk_.1 (fun hs_ => fun e_ => Nat.not_le.2 hs_ (Kd.N_base HO1028.out k_ e_.symm)) (fun hn_ => (Kd.fresh' (Kd.N_lt (sN_ HO1028)) k_ hn_)), Or.elim hk_.1 (fun hs_ => fun e_ => Nat.not_le.2 hs_ (Kd.R_base HO1035.out k_ e_.symm)) (fun hn_ => (Kd.fresh' (Kd.R_lt (sR HO1035)) k_ hn_)), Or.elim hk_.1 (fun hs_ => fun e_ => Nat.not_le.2 hs_ (Kd.R_base HO1042.out k_ e_.symm)) (fun hn_ => (Kd.fresh' (Kd.R_lt (sR HO1042)) k_ hn_)), Or.elim hk_.1 (fun hs_ => fun e_ => Nat.not_le.2 hs_ (Kd.N_base HO1045.out k_ e_.symm)) (fun hn_ => (Kd.fresh' (Kd.N_lt (sN_ HO1045)) k_ hn_)), Or.elim hk_.1 (fun hs_ => fun e_ => Nat.not_le.2 hs_ (Kd.N_base HO1049.out k_ e_.symm)) (fun hn_ => (Kd.fresh' (Kd.N_lt (sN_ HO1049)) k_ hn_)), Or.elim hk_.1 (fun hs_ => fun e_ => Nat.not_le.2 hs_ (by rw [e_]; exact GW1021.out)) (fun hn_ => (Kd.freshB (g := gb1021) (o := .cells #[.slice A0_0 l0_0.length c0_0, .slice A0_1 l0_1.length c0_1, .int .i64 a0_2] 25 (0, 0)) (sbk BK1021) k_ hn_))⟩)) (below_size (sbe1 HB GE1021))); replace HO1025 := Aside0.mk (Kd.R_below (sR HO1025) hb); replace HO1028 := Aside0.mk (Kd.N_elder' (sN_ HO1028) (Kd.R_base ho0) hb); replace HO1035 := Aside0.mk (Kd.R_elder' (sR HO1035) (Kd.R_base ho0) hb); replace HO1038 := Aside0.mk (Kd.V_elder' (by (with_reducible repeat (first | apply Kd.V_alloc | apply Kd.V_drewN | apply Kd.V_drew)); exact HO1038.out) (Kd.R_base ho0) hb); replace HO1042 := Aside0.mk (Kd.R_below (sR HO1042) hb); replace HO1045 := Aside0.mk (Kd.N_elder' (sN_ HO1045) (Kd.R_base ho0) hb); replace HO1049 := Aside0.mk (Kd.N_elder' (sN_ HO1049) (Kd.R_base ho0) hb); replace BK1021 := Aside0.mk (sbb BK1021 hb); replace HB := Aside0.mk (sbs1 HB GE1021 hb); (try clear hb); (try clear hb2); (try clear hk); (try clear hi); (try clear ho0); (try clear ho1); obtain ⟨Ao41, co41, eo41⟩ := Kd.R_slice HO1053.out; subst eo41; obtain ⟨Ao42, co42, eo42⟩ := Kd.V_slice HO1056.out; subst eo42) | ((with_reducible refine gate_callee (f := 23) rfl ?_); refine goesL_ (some 66) rfl rfl Try.func23 (by kernel_rfl) rfl #[.agg #[.slice Ao41 t1051.length co41, .slice Ao42 t1054.length co42, .int .i64 t1057]] rfl (by (try simp only [List.map_toArray, List.map_cons, List.map_nil]); first | done | rfl | (simp only [List.length_drop, List.length_take]; rfl)) ?_; (with_reducible refine (posserlaw03_Table.calls _ _ t1051 _ _ t1054 t1057 t1058 t1061 t1064 _ ?side1 ?side2 ?side3 ?side4 A18.out).mono ?_); (case side1 => repeat (first | exact (Kd.R_reads' HO1053.out).2.2 | (with_reducible refine Kd.C_alloc ?_ _) | (with_reducible refine Kd.C_drewN ?_ _) | (with_reducible refine Kd.C_drew ?_))); (case side2 => exact (Kd.R_reads' HO1053.out).2.1); (case side3 => repeat (first | exact (Kd.V_reads' HO1056.out).2.2 | (with_reducible refine Kd.C_alloc ?_ _) | (with_reducible refine Kd.C_drewN ?_ _) | (with_reducible refine Kd.C_drew ?_))); (case side4 => exact (Kd.V_reads' HO1056.out).2.1); rintro e w43 ⟨v1059, v1062, rfl, ho0, ho1, hb⟩; refine ⟨_, rfl, ?_⟩; have HO1060 := Aside0.mk (Kd.R_lower (Kd.R_new' (Kd.R_new' (Kd.R_mono (ok' := fun k_ => True) ho0 (fun _ hk_ => trivial)) (Kd.R_lt (sR HO1025))) (Kd.R_lt (sR HO1042))) (below_size (sbe1 HB GE1021))); have HO1063 := Aside0.mk (Kd.N_lower (Kd.N_mono (ok' := fun k_ => some k_ ≠ (v1059 : Value).ownBlock ∧ some k_ ≠ (.slice Ao28 t1023.length co28 : Value).ownBlock ∧ some k_ ≠ (.slice Ao29 t1026.length co29 : Value).ownBlock ∧ some k_ ≠ (.slice Ao33 t1033.length co33 : Value).ownBlock ∧ some k_ ≠ (.slice Ao36 t1040.length co36 : Value).ownBlock ∧ some k_ ≠ (.slice Ao37 t1043.length co37 : Value).ownBlock ∧ some k_ ≠ (v1048 : Value).ownBlock ∧ some k_ ≠ (.slice Ao41 t1051.length co41 : Value).ownBlock ∧ k_ ≠ gb1021) ho1 (fun k_ hk_ => ⟨hk_.2, (Kd.fresh' (Kd.R_lt (sR HO1025)) k_ hk_.1), (Kd.fresh' (Kd.N_lt (sN_ HO1028)) k_ hk_.1), (Kd.fresh' (Kd.R_lt (sR HO1035)) k_ hk_.1), (Kd.fresh' (Kd.R_lt (sR HO1042)) k_ hk_.1), (Kd.fresh' (Kd.N_lt (sN_ HO1045)) k_ hk_.1), (Kd.fresh' (Kd.N_lt (sN_ HO1049)) k_ hk_.1), (Kd.fresh' (Kd.R_lt (sR HO1053)) k_ hk_.1), (Kd.freshB (g := gb1021) (o := .cells #[.slice A0_0 l0_0.length c0_0, .slice A0_1 l0_1.length c0_1, .int .i64 a0_2] 25 (0, 0)) (sbk BK1021) k_ hk_.1)⟩)) (below_size (sbe1 HB GE1021))); replace HO1025 := Aside0.mk (Kd.R_elder' (sR HO1025) (Kd.R_base ho0) hb); replace HO1028 := Aside0.mk (Kd.N_mono (Kd.N_told (Kd.N_told (Kd.N_old (sN_ HO1028) hb) (Kd.R_base ho0)) (Kd.N_base ho1)) (fun _ h_ => h_.1)); replace HO1035 := Aside0.mk (Kd.R_below (sR HO1035) hb); replace HO1038 := Aside0.mk (Kd.V_mono (Kd.V_told (Kd.V_told (Kd.V_old (by (with_reducible repeat (first | apply Kd.V_alloc | apply Kd.V_drewN | apply Kd.V_drew)); exact HO1038.out) hb) (Kd.R_base ho0)) (Kd.N_base ho1)) (fun _ h_ => h_.1)); replace HO1042 := Aside0.mk (Kd.R_elder' (sR HO1042) (Kd.R_base ho0) hb); replace HO1045 := Aside0.mk (Kd.N_mono (Kd.N_told (Kd.N_told (Kd.N_old (sN_ HO1045) hb) (Kd.R_base ho0)) (Kd.N_base ho1)) (fun _ h_ => h_.1)); replace HO1049 := Aside0.mk (Kd.N_mono (Kd.N_told (Kd.N_told (Kd.N_old (sN_ HO1049) hb) (Kd.R_base ho0)) (Kd.N_base ho1)) (fun _ h_ => h_.1)); replace HO1053 := Aside0.mk (Kd.R_below (sR HO1053) hb); replace HO1056 := Aside0.mk (Kd.V_mono (Kd.V_told (Kd.V_told (Kd.V_old (by (with_reducible repeat (first | apply Kd.V_alloc | apply Kd.V_drewN | apply Kd.V_drew)); exact HO1056.out) hb) (Kd.R_base ho0)) (Kd.N_base ho1)) (fun _ h_ => h_.1)); replace BK1021 := Aside0.mk (sbb BK1021 hb); replace HB := Aside0.mk (sbs1 HB GE1021 hb); (try clear hb); (try clear hb2); (try clear hk); (try clear hi); (try clear ho0); (try clear ho1); obtain ⟨Ao44, co44, eo44⟩ := Kd.R_slice HO1060.out; subst eo44; obtain ⟨Ao45, co45, eo45⟩ := Kd.N_slice HO1063.out; subst eo45) | ((with_reducible refine gate_callee (f := 22) rfl ?_); refine goesL_ (some 67) rfl rfl Try.func22 (by kernel_rfl) rfl #[.agg #[.slice Ao44 t1058.length co44, .slice Ao45 t1061.length co45, .int .i64 t1064]] rfl (by (try simp only [List.map_toArray, List.map_cons, List.map_nil]); first | done | rfl | (simp only [List.length_drop, List.length_take]; rfl)) ?_; (with_reducible refine (bundle_Whose.calls _ _ t1058 _ _ t1061 t1064 t1065 t1068 _ ?side1 ?side2 ?side3 ?side4 A19.out).mono ?_); (case side1 => repeat (first | exact (Kd.R_reads' HO1060.out).2.2 | (with_reducible refine Kd.C_alloc ?_ _) | (with_reducible refine Kd.C_drewN ?_ _) | (with_reducible refine Kd.C_drew ?_))); (case side2 => exact (Kd.R_reads' HO1060.out).2.1); (case side3 => repeat (first | exact (Kd.N_reads' HO1063.out).2.2 | (with_reducible refine Kd.C_alloc ?_ _) | (with_reducible refine Kd.C_drewN ?_ _) | (with_reducible refine Kd.C_drew ?_))); (case side4 => exact (Kd.N_reads' HO1063.out).2.1); rintro e w46 ⟨v1066, rfl, ho0, hb⟩; refine ⟨_, rfl, ?_⟩; have HO1067 := Aside0.mk (Kd.N_lower (Kd.N_mono (ok' := fun k_ => some k_ ≠ (.slice Ao28 t1023.length co28 : Value).ownBlock ∧ some k_ ≠ (.slice Ao29 t1026.length co29 : Value).ownBlock ∧ some k_ ≠ (.slice Ao33 t1033.length co33 : Value).ownBlock ∧ some k_ ≠ (.slice Ao36 t1040.length co36 : Value).ownBlock ∧ some k_ ≠ (.slice Ao37 t1043.length co37 : Value).ownBlock ∧ some k_ ≠ (v1048 : Value).ownBlock ∧ some k_ ≠ (.slice Ao41 t1051.length co41 : Value).ownBlock ∧ some k_ ≠ (.slice Ao44 t1058.length co44 : Value).ownBlock ∧ some k_ ≠ (.slice Ao45 t1061.length co45 : Value).ownBlock ∧ k_ ≠ gb1021) ho0 (fun k_ hk_ => ⟨(Kd.fresh' (Kd.R_lt (sR HO1025)) k_ hk_), (Kd.fresh' (Kd.N_lt (sN_ HO1028)) k_ hk_), (Kd.fresh' (Kd.R_lt (sR HO1035)) k_ hk_), (Kd.fresh' (Kd.R_lt (sR HO1042)) k_ hk_), (Kd.fresh' (Kd.N_lt (sN_ HO1045)) k_ hk_), (Kd.fresh' (Kd.N_lt (sN_ HO1049)) k_ hk_), (Kd.fresh' (Kd.R_lt (sR HO1053)) k_ hk_), (Kd.fresh' (Kd.R_lt (sR HO1060)) k_ hk_), (Kd.fresh' (Kd.N_lt (sN_ HO1063)) k_ hk_), (Kd.freshB (g := gb1021) (o := .cells #[.slice A0_0 l0_0.length c0_0, .slice A0_1 l0_1.length c0_1, .int .i64 a0_2] 25 (0, 0)) (sbk BK1021) k_ hk_)⟩)) (below_size (sbe1 HB GE1021))); replace HO1025 := Aside0.mk (Kd.R_below (sR HO1025) hb); replace HO1028 := Aside0.mk (Kd.N_elder' (sN_ HO1028) (Kd.N_base ho0) hb); replace HO1035 := Aside0.mk (Kd.R_below (sR HO1035) hb); replace HO1038 := Aside0.mk (Kd.V_elder' (by (with_reducible repeat (first | apply Kd.V_alloc | apply Kd.V_drewN | apply Kd.V_drew)); exact HO1038.out) (Kd.N_base ho0) hb); replace HO1042 := Aside0.mk (Kd.R_below (sR HO1042) hb); replace HO1045 := Aside0.mk (Kd.N_elder' (sN_ HO1045) (Kd.N_base ho0) hb); replace HO1049 := Aside0.mk (Kd.N_elder' (sN_ HO1049) (Kd.N_base ho0) hb); replace HO1053 := Aside0.mk (Kd.R_below (sR HO1053) hb); replace HO1056 := Aside0.mk (Kd.V_elder' (by (with_reducible repeat (first | apply Kd.V_alloc | apply Kd.V_drewN | apply Kd.V_drew)); exact HO1056.out) (Kd.N_base ho0) hb); replace HO1060 := Aside0.mk (Kd.R_below (sR HO1060) hb); replace HO1063 := Aside0.mk (Kd.N_elder' (sN_ HO1063) (Kd.N_base ho0) hb); replace BK1021 := Aside0.mk (sbb BK1021 hb); replace HB := Aside0.mk (sbs1 HB GE1021 hb); (try clear hb); (try clear hb2); (try clear hk); (try clear hi); (try clear ho0)) | (go_at_call 21; (with_reducible refine (posserlaw03_awake.calls  t1069 _ A22.out).mono ?_); rintro e w47 ⟨rfl, hb⟩; replace HO1025 := Aside0.mk (Kd.R_below (sR HO1025) hb); replace HO1028 := Aside0.mk (Kd.N_below (sN_ HO1028) hb); replace HO1035 := Aside0.mk (Kd.R_below (sR HO1035) hb); replace HO1038 := Aside0.mk (Kd.V_below (by (with_reducible repeat (first | apply Kd.V_alloc | apply Kd.V_drewN | apply Kd.V_drew)); exact HO1038.out) hb); replace HO1042 := Aside0.mk (Kd.R_below (sR HO1042) hb); replace HO1045 := Aside0.mk (Kd.N_below (sN_ HO1045) hb); replace HO1049 := Aside0.mk (Kd.N_below (sN_ HO1049) hb); replace HO1053 := Aside0.mk (Kd.R_below (sR HO1053) hb); replace HO1056 := Aside0.mk (Kd.V_below (by (with_reducible repeat (first | apply Kd.V_alloc | apply Kd.V_drewN | apply Kd.V_drew)); exact HO1056.out) hb); replace HO1060 := Aside0.mk (Kd.R_below (sR HO1060) hb); replace HO1063 := Aside0.mk (Kd.N_below (sN_ HO1063) hb); replace HO1067 := Aside0.mk (Kd.N_below (sN_ HO1067) hb); replace BK1021 := Aside0.mk (sbb BK1021 hb); replace HB := Aside0.mk (sbs1 HB GE1021 hb); (try clear hb); (try clear hb2); (try clear hk); (try clear hi)))
       go_ret
       exact ⟨by first | rfl | (simp [errW_none, errW_some] <;> rfl) | (simp only [← hji9, ← hji11, ← hji16]; first | rfl | (simp [errW_none, errW_some] <;> rfl)) | (simp [*, errW_none, errW_some] <;> rfl), (sbe1 HB GE1021)⟩
      ·rw [if_neg c21] at H
       exact absurd H (by simp)
     ·rw [if_neg c20] at H
      exact absurd H (by simp)
    ·rw [if_neg c10] at H
     exact absurd H (by simp)
   ·replace c8 := Bool.eq_false_iff.mpr c8
    subst c8
    have H1 : (none) = some r := by rw [if_neg (show ¬ (false = true) by decide)] at H; exact H
    clear H
    have H := H1
    clear H1
    exact absurd H (by simp)
  ·rw [if_neg c6] at H
   have c6b0 : (t1031 == 0) = false := beq_eq_false_iff_ne.mpr c6
   have c6b1 : (t1031 != 0) = true := bne_iff_ne.mpr c6
   replace H := Option.bind_eq_some_iff.mp H
   obtain ⟨t1070, A480, H⟩ := H
   replace H : ((posserlaw03_some.f k l0_0 l0_1 a0_2 t1070).bind fun bt1071 => ((posserlaw03_Table.f bt1071.1 bt1071.2.1 bt1071.2.2).bind fun bt1078 => ((bundle_Whose.f bt1078.1 bt1078.2.1 bt1078.2.2).bind fun bt1085 => (if t1031 = 7 then (if bt1085.2 = 0 then ((posserlaw03_awake.f).bind fun t1089 => (some t1089)) else (none)) else (none))))) = some r := H
   have A48 := Aside0.mk A480
   clear A480
   replace H := Option.bind_eq_some_iff.mp H
   obtain ⟨⟨t1071, t1074, t1077⟩, A490, H⟩ := H
   replace H : ((posserlaw03_Table.f t1071 t1074 t1077).bind fun bt1078 => ((bundle_Whose.f bt1078.1 bt1078.2.1 bt1078.2.2).bind fun bt1085 => (if t1031 = 7 then (if bt1085.2 = 0 then ((posserlaw03_awake.f).bind fun t1089 => (some t1089)) else (none)) else (none)))) = some r := H
   have A49 := Aside0.mk A490
   clear A490
   replace H := Option.bind_eq_some_iff.mp H
   obtain ⟨⟨t1078, t1081, t1084⟩, A500, H⟩ := H
   replace H : ((bundle_Whose.f t1078 t1081 t1084).bind fun bt1085 => (if t1031 = 7 then (if bt1085.2 = 0 then ((posserlaw03_awake.f).bind fun t1089 => (some t1089)) else (none)) else (none))) = some r := H
   have A50 := Aside0.mk A500
   clear A500
   replace H := Option.bind_eq_some_iff.mp H
   obtain ⟨⟨t1085, t1088⟩, A510, H⟩ := H
   replace H : (if t1031 = 7 then (if t1088 = 0 then ((posserlaw03_awake.f).bind fun t1089 => (some t1089)) else (none)) else (none)) = some r := H
   have A51 := Aside0.mk A510
   clear A510
   by_cases c52 : t1031 = 7
   ·rw [if_pos c52] at H
    have c52b0 : (t1031 == 7) = true := beq_iff_eq.mpr c52
    have c52b1 : (t1031 != 7) = false := bne_eq_false_iff_eq.mpr c52
    clear c52
    by_cases c53 : t1088 = 0
    ·rw [if_pos c53] at H
     have c53b0 : (t1088 == 0) = true := beq_iff_eq.mpr c53
     have c53b1 : (t1088 != 0) = false := bne_eq_false_iff_eq.mpr c53
     clear c53
     replace H := Option.bind_eq_some_iff.mp H
     obtain ⟨t1089, A540, H⟩ := H
     replace H : (some t1089) = some r := H
     have A54 := Aside0.mk A540
     clear A540
     obtain rfl := Option.some.inj H
     go_enter Try.func16, Try.ntmps16
     try go_wp2_with (first | ((with_reducible refine gate_dst (N := 1) rfl ?_); refine sbox (N := 1) #[.slice A0_0 l0_0.length c0_0, .slice A0_1 l0_1.length c0_1, .int .i64 a0_2] 25 ?_; intro gb1021 hg w55 hbox hb; have BK1021 := Aside0.mk (hbox); have GW1021 := Aside0.mk (sge hg HB : w.heap.size ≤ gb1021); have GE1021 := Aside0.mk (sge hg HB : w.heap.size ≤ gb1021); replace HB := Aside0.mk (sbs HB hb); clear hb hbox hg; have hcz56_0 := sc 0 BK1021; have hcz56_1 := sc 1 BK1021; have hcz56_2 := sc 2 BK1021; have hfz56_0 := blk_frozen BK1021.out 0; have hfz56_1 := blk_frozen BK1021.out 1; have hfz56_2 := blk_frozen BK1021.out 2) | ((with_reducible refine gate_callee (f := 47) rfl ?_); refine goesL_ (some 12) rfl rfl Try.func47 (by kernel_rfl) rfl #[.agg #[.slice A0_0 l0_0.length c0_0, .slice A0_1 l0_1.length c0_1, .int .i64 a0_2]] rfl (by (try simp only [List.map_toArray, List.map_cons, List.map_nil]); first | done | rfl | (simp only [List.length_drop, List.length_take]; rfl)) ?_; (with_reducible refine (posserlaw03_ready.calls k _ _ l0_0 _ _ l0_1 a0_2 true _ ?side1 ?side2 ?side3 ?side4 A2.out).mono ?_); (case side1 => exact sCb HR0_0 HB); (case side2 => exact HC0_0.out); (case side3 => exact sCb HR0_1 HB); (case side4 => exact HC0_1.out); rintro e w57 ⟨rfl, hb⟩; refine ⟨_, rfl, ?_⟩; replace BK1021 := Aside0.mk (sbb BK1021 hb); replace HB := Aside0.mk (sbs1 HB GE1021 hb); (try clear hb); (try clear hb2); (try clear hk); (try clear hi); have hcz58_0 := sc 0 BK1021; have hcz58_1 := sc 1 BK1021; have hcz58_2 := sc 2 BK1021; have hfz58_0 := blk_frozen BK1021.out 0; have hfz58_1 := blk_frozen BK1021.out 1; have hfz58_2 := blk_frozen BK1021.out 2) | ((with_reducible refine gate_callee (f := 23) rfl ?_); refine goesL_ (some 17) rfl rfl Try.func23 (by kernel_rfl) rfl #[.agg #[.slice A0_0 l0_0.length c0_0, .slice A0_1 l0_1.length c0_1, .int .i64 a0_2]] rfl (by (try simp only [List.map_toArray, List.map_cons, List.map_nil]); first | done | rfl | (simp only [List.length_drop, List.length_take]; rfl)) ?_; (with_reducible refine (posserlaw03_Table.calls _ _ l0_0 _ _ l0_1 a0_2 t1023 t1026 t1029 _ ?side1 ?side2 ?side3 ?side4 A4.out).mono ?_); (case side1 => exact sCb HR0_0 HB); (case side2 => exact HC0_0.out); (case side3 => exact sCb HR0_1 HB); (case side4 => exact HC0_1.out); rintro e w59 ⟨v1024, v1027, rfl, ho0, ho1, hb⟩; refine ⟨_, rfl, ?_⟩; have HO1025 := Aside0.mk (Kd.R_lower (Kd.R_mono (ok' := fun k_ => True) ho0 (fun _ hk_ => trivial)) (below_size (sbe1 HB GE1021))); have HO1028 := Aside0.mk (Kd.N_lower (Kd.N_mono (ok' := fun k_ => some k_ ≠ (v1024 : Value).ownBlock ∧ k_ ≠ gb1021) ho1 (fun k_ hk_ => ⟨hk_.2, (Kd.freshB (g := gb1021) (o := .cells #[.slice A0_0 l0_0.length c0_0, .slice A0_1 l0_1.length c0_1, .int .i64 a0_2] 25 (0, 0)) (sbk BK1021) k_ hk_.1)⟩)) (below_size (sbe1 HB GE1021))); replace BK1021 := Aside0.mk (sbb BK1021 hb); replace HB := Aside0.mk (sbs1 HB GE1021 hb); (try clear hb); (try clear hb2); (try clear hk); (try clear hi); (try clear ho0); (try clear ho1); obtain ⟨Ao60, co60, eo60⟩ := Kd.R_slice HO1025.out; subst eo60; obtain ⟨Ao61, co61, eo61⟩ := Kd.N_slice HO1028.out; subst eo61) | ((with_reducible refine gate_callee (f := 31) rfl ?_); refine goesL_ (some 18) rfl rfl Try.func31 (by kernel_rfl) rfl #[.agg #[.slice Ao60 t1023.length co60, .slice Ao61 t1026.length co61, .int .i64 t1029]] rfl (by (try simp only [List.map_toArray, List.map_cons, List.map_nil]); first | done | rfl | (simp only [List.length_drop, List.length_take]; rfl)) ?_; (with_reducible refine (bundle_First.calls _ _ t1023 _ _ t1026 t1029 t1030 t1031 _ ?side1 ?side2 ?side3 ?side4 A5.out).mono ?_); (case side1 => repeat (first | exact (Kd.R_reads' HO1025.out).2.2 | (with_reducible refine Kd.C_alloc ?_ _) | (with_reducible refine Kd.C_drewN ?_ _) | (with_reducible refine Kd.C_drew ?_))); (case side2 => exact (Kd.R_reads' HO1025.out).2.1); (case side3 => repeat (first | exact (Kd.N_reads' HO1028.out).2.2 | (with_reducible refine Kd.C_alloc ?_ _) | (with_reducible refine Kd.C_drewN ?_ _) | (with_reducible refine Kd.C_drew ?_))); (case side4 => exact (Kd.N_reads' HO1028.out).2.1); rintro e w62 ⟨rfl, hb⟩; refine ⟨_, rfl, ?_⟩; replace HO1025 := Aside0.mk (Kd.R_below (sR HO1025) hb); replace HO1028 := Aside0.mk (Kd.N_below (sN_ HO1028) hb); replace BK1021 := Aside0.mk (sbb BK1021 hb); replace HB := Aside0.mk (sbs1 HB GE1021 hb); (try clear hb); (try clear hb2); (try clear hk); (try clear hi)))
     replace HO1025 := Aside0.mk (Kd.R_drew HO1025.out)
     replace HO1028 := Aside0.mk (Kd.N_drew HO1028.out)
     replace BK1021 := Aside0.mk (blk_drew BK1021.out)
     replace HB := Aside0.mk (below_drew1 HB.out)
     refine start_ (n := 11) (S := fun w' => w'.cell? ⟨gb1021, 0, none⟩ = some (.slice A0_0 l0_0.length c0_0) ∧ w'.cell? ⟨gb1021, 1, none⟩ = some (.slice A0_1 l0_1.length c0_1) ∧ w'.cell? ⟨gb1021, 2, none⟩ = some (.int .i64 a0_2)) (ds := []) (lm 11 0) (by kernel_rfl) rfl (by kernel_rfl) ⟨(blk_cell BK1021.out 0).trans rfl, (blk_cell BK1021.out 1).trans rfl, (blk_cell BK1021.out 2).trans rfl⟩ (fun hHeld => ?_); refine with_tabW posserlaw03_BundleFirst.tab5 posserlaw03_BundleFirst.bits5 (fun HT_ HW_ => ?_)
     generalize w62.drew = w63 at HO1025 HO1028 BK1021 HB hHeld ⊢
     refine take_ (i := 0) (N := some 24) (v := ?_) (a' := ?_) (lm 11 1) rfl rfl (take_ofW HT_.out HW_.out (by kernel_rfl)) (fun _ _ _ h => h) (Or.inl ⟨by rfl, ?_⟩) hHeld ?_ ?_
     rotate_left
     ·rintro w' ⟨s0, s1, s2⟩
      go_simp
      with_reducible rfl
     rotate_left
     ·simp only [Act.put, List.setIfInBounds_toArray, List.set_cons_zero, List.set_cons_succ, i64_w, i32_w]
      rfl
     refine take_ (i := 1) (N := some 25) (v := ?_) (a' := ?_) (lm 11 3) rfl rfl (take_ofW HT_.out HW_.out (by kernel_rfl)) (fun _ _ _ h => h) (Or.inl ⟨by rfl, ?_⟩) hHeld ?_ ?_
     rotate_left
     ·rintro w' ⟨s0, s1, s2⟩
      go_simp
      with_reducible rfl
     rotate_left
     ·simp only [Act.put, List.setIfInBounds_toArray, List.set_cons_zero, List.set_cons_succ, i64_w, i32_w]
      rfl
     refine one_ (i := 2) (N := some 26) (lm 11 7) rfl rfl (one_of HT_.out (by kernel_rfl)) (by decide) (fun K hK => ?_)
     refine goes_ Try.func58 (by kernel_rfl) rfl #[.agg #[.slice A0_0 l0_0.length c0_0, .slice A0_1 l0_1.length c0_1, .int .i64 a0_2]] (by rfl) rfl rfl (by (try simp only [List.map_toArray, List.map_cons, List.map_nil]); first | done | rfl | (simp only [List.length_drop, List.length_take]; rfl)) ?_
     with_reducible refine (posserref03_Full.calls _ _ l0_0 _ _ l0_1 a0_2 t1070 _ ?side1 ?side2 ?side3 ?side4 A48.out).mono ?_
     (case side1 => exact sCb HR0_0 HB)
     (case side2 => exact HC0_0.out)
     (case side3 => exact sCb HR0_1 HB)
     (case side4 => exact HC0_1.out)
     rintro e w64 ⟨rfl, hb⟩
     refine ⟨_, rfl, ?_⟩
     replace HO1025 := Aside0.mk (Kd.R_below (sR HO1025) hb)
     replace HO1028 := Aside0.mk (Kd.N_below (sN_ HO1028) hb)
     replace BK1021 := Aside0.mk (sbb BK1021 hb)
     replace HB := Aside0.mk (sbs1 HB GE1021 hb)
     (try clear hb)
     (try clear hb2)
     (try clear hk)
     (try clear hi)
     refine hK.out _ _ ⟨(blk_cell BK1021.out 0).trans rfl, (blk_cell BK1021.out 1).trans rfl, (blk_cell BK1021.out 2).trans rfl⟩ (fun hHeld => ?_)
     clear hK K
     refine sN ?_
     refine one_ (i := 3) (N := some 27) (lm 11 15) rfl rfl (one_of HT_.out (by kernel_rfl)) (by decide) (fun K hK => ?_)
     refine goes_ Try.func57 (by kernel_rfl) rfl #[.agg #[.slice A0_0 l0_0.length c0_0, .slice A0_1 l0_1.length c0_1, .int .i64 a0_2], .int .i64 t1070] (by rfl) rfl rfl (by (try simp only [List.map_toArray, List.map_cons, List.map_nil]); first | done | rfl | (simp only [List.length_drop, List.length_take]; rfl)) ?_
     with_reducible refine (posserlaw03_some.calls k _ _ l0_0 (fun k_ => k_ < w.heap.size) _ _ l0_1 a0_2 t1070 t1071 t1074 t1077 _ ?side1 ?side2 ?side3 A49.out).mono ?_
     (case side1 => exact sCb HR0_0 HB)
     (case side2 => exact HC0_0.out)
     (case side3 => exact Kd.V_mk HC0_1.out (Kd.F_below (Kd.C_F k71_heap HR0_1.out) (sbe1 HB GE1021)))
     rintro e w65 ⟨v1072, v1075, rfl, ho0, ho1, hb⟩
     refine ⟨_, rfl, ?_⟩
     have HO1073 := Aside0.mk (Kd.R_lower (Kd.R_mono (ok' := fun k_ => True) ho0 (fun _ hk_ => trivial)) (below_size (sbe1 HB GE1021)))
     have HO1076 := Aside0.mk (Kd.V_lower (Kd.V_mono (ok' := fun k_ => some k_ ≠ (v1072 : Value).ownBlock ∧ some k_ ≠ (.slice Ao60 t1023.length co60 : Value).ownBlock ∧ some k_ ≠ (.slice Ao61 t1026.length co61 : Value).ownBlock ∧ k_ ≠ gb1021) ho1 (fun k_ hk_ => ⟨hk_.2, Or.elim hk_.1 (fun hs_ => fun e_ => Nat.not_le.2 hs_ (Kd.R_base HO1025.out k_ e_.symm)) (fun hn_ => (Kd.fresh' (Kd.R_lt (sR HO1025)) k_ hn_)), Or.elim hk_.1 (fun hs_ => fun e_ => Nat.not_le.2 hs_ (Kd.N_base HO1028.out k_ e_.symm)) (fun hn_ => (Kd.fresh' (Kd.N_lt (sN_ HO1028)) k_ hn_)), Or.elim hk_.1 (fun hs_ => fun e_ => Nat.not_le.2 hs_ (by rw [e_]; exact GW1021.out)) (fun hn_ => (Kd.freshB (g := gb1021) (o := .cells #[.slice A0_0 l0_0.length c0_0, .slice A0_1 l0_1.length c0_1, .int .i64 a0_2] 25 (0, 0)) (sbk BK1021) k_ hn_))⟩)) (below_size (sbe1 HB GE1021)))
     replace HO1025 := Aside0.mk (Kd.R_below (sR HO1025) hb)
     replace HO1028 := Aside0.mk (Kd.N_elder' (sN_ HO1028) (Kd.R_base ho0) hb)
     replace BK1021 := Aside0.mk (sbb BK1021 hb)
     replace HB := Aside0.mk (sbs1 HB GE1021 hb)
     (try clear hb)
     (try clear hb2)
     (try clear hk)
     (try clear hi)
     (try clear ho0)
     (try clear ho1)
     obtain ⟨Ao66, co66, eo66⟩ := Kd.R_slice HO1073.out
     (first | subst eo66 | (injection eo66 with f1_ f2_ f3_; have f4_ := f1_.symm; have f5_ := f3_.symm; clear f1_ f2_ f3_; subst f4_; subst f5_))
     obtain ⟨Ao67, co67, eo67⟩ := Kd.V_slice HO1076.out
     (first | subst eo67 | (injection eo67 with f1_ f2_ f3_; have f4_ := f1_.symm; have f5_ := f3_.symm; clear f1_ f2_ f3_; subst f4_; subst f5_))
     refine hK.out _ _ ⟨(blk_cell BK1021.out 0).trans rfl, (blk_cell BK1021.out 1).trans rfl, (blk_cell BK1021.out 2).trans rfl⟩ (fun hHeld => ?_)
     clear hK K
     refine sN ?_
     refine one_ (i := 4) (N := some 28) (lm 11 31) rfl rfl (one_of HT_.out (by kernel_rfl)) (by decide) (fun K hK => ?_)
     refine goes_ Try.func23 (by kernel_rfl) rfl #[.agg #[.slice Ao66 t1071.length co66, .slice Ao67 t1074.length co67, .int .i64 t1077]] (by rfl) rfl rfl (by (try simp only [List.map_toArray, List.map_cons, List.map_nil]); first | done | rfl | (simp only [List.length_drop, List.length_take]; rfl)) ?_
     with_reducible refine (posserlaw03_Table.calls _ _ t1071 _ _ t1074 t1077 t1078 t1081 t1084 _ ?side1 ?side2 ?side3 ?side4 A50.out).mono ?_
     (case side1 => repeat (first | exact (Kd.R_reads' HO1073.out).2.2 | (with_reducible refine Kd.C_alloc ?_ _) | (with_reducible refine Kd.C_drewN ?_ _) | (with_reducible refine Kd.C_drew ?_)))
     (case side2 => exact (Kd.R_reads' HO1073.out).2.1)
     (case side3 => repeat (first | exact (Kd.V_reads' HO1076.out).2.2 | (with_reducible refine Kd.C_alloc ?_ _) | (with_reducible refine Kd.C_drewN ?_ _) | (with_reducible refine Kd.C_drew ?_)))
     (case side4 => exact (Kd.V_reads' HO1076.out).2.1)
     rintro e w68 ⟨v1079, v1082, rfl, ho0, ho1, hb⟩
     refine ⟨_, rfl, ?_⟩
     have HO1080 := Aside0.mk (Kd.R_lower (Kd.R_new' (Kd.R_mono (ok' := fun k_ => True) ho0 (fun _ hk_ => trivial)) (Kd.R_lt (sR HO1025))) (below_size (sbe1 HB GE1021)))
     have HO1083 := Aside0.mk (Kd.N_lower (Kd.N_mono (ok' := fun k_ => some k_ ≠ (v1079 : Value).ownBlock ∧ some k_ ≠ (.slice Ao60 t1023.length co60 : Value).ownBlock ∧ some k_ ≠ (.slice Ao61 t1026.length co61 : Value).ownBlock ∧ some k_ ≠ (.slice Ao66 t1071.length co66 : Value).ownBlock ∧ k_ ≠ gb1021) ho1 (fun k_ hk_ => ⟨hk_.2, (Kd.fresh' (Kd.R_lt (sR HO1025)) k_ hk_.1), (Kd.fresh' (Kd.N_lt (sN_ HO1028)) k_ hk_.1), (Kd.fresh' (Kd.R_lt (sR HO1073)) k_ hk_.1), (Kd.freshB (g := gb1021) (o := .cells #[.slice A0_0 l0_0.length c0_0, .slice A0_1 l0_1.length c0_1, .int .i64 a0_2] 25 (0, 0)) (sbk BK1021) k_ hk_.1)⟩)) (below_size (sbe1 HB GE1021)))
     replace HO1025 := Aside0.mk (Kd.R_elder' (sR HO1025) (Kd.R_base ho0) hb)
     replace HO1028 := Aside0.mk (Kd.N_mono (Kd.N_told (Kd.N_told (Kd.N_old (sN_ HO1028) hb) (Kd.R_base ho0)) (Kd.N_base ho1)) (fun _ h_ => h_.1))
     replace HO1073 := Aside0.mk (Kd.R_below (sR HO1073) hb)
     replace HO1076 := Aside0.mk (Kd.V_mono (Kd.V_told (Kd.V_told (Kd.V_old (by (with_reducible repeat (first | apply Kd.V_alloc | apply Kd.V_drewN | apply Kd.V_drew)); exact HO1076.out) hb) (Kd.R_base ho0)) (Kd.N_base ho1)) (fun _ h_ => h_.1))
     replace BK1021 := Aside0.mk (sbb BK1021 hb)
     replace HB := Aside0.mk (sbs1 HB GE1021 hb)
     (try clear hb)
     (try clear hb2)
     (try clear hk)
     (try clear hi)
     (try clear ho0)
     (try clear ho1)
     obtain ⟨Ao69, co69, eo69⟩ := Kd.R_slice HO1080.out
     (first | subst eo69 | (injection eo69 with f1_ f2_ f3_; have f4_ := f1_.symm; have f5_ := f3_.symm; clear f1_ f2_ f3_; subst f4_; subst f5_))
     obtain ⟨Ao70, co70, eo70⟩ := Kd.N_slice HO1083.out
     (first | subst eo70 | (injection eo70 with f1_ f2_ f3_; have f4_ := f1_.symm; have f5_ := f3_.symm; clear f1_ f2_ f3_; subst f4_; subst f5_))
     refine hK.out _ _ ⟨(blk_cell BK1021.out 0).trans rfl, (blk_cell BK1021.out 1).trans rfl, (blk_cell BK1021.out 2).trans rfl⟩ (fun hHeld => ?_)
     clear hK K
     refine sN ?_
     refine one_ (i := 5) (N := some 29) (lm 11 63) rfl rfl (one_of HT_.out (by kernel_rfl)) (by decide) (fun K hK => ?_)
     refine goes_ Try.func22 (by kernel_rfl) rfl #[.agg #[.slice Ao69 t1078.length co69, .slice Ao70 t1081.length co70, .int .i64 t1084]] (by rfl) rfl rfl (by (try simp only [List.map_toArray, List.map_cons, List.map_nil]); first | done | rfl | (simp only [List.length_drop, List.length_take]; rfl)) ?_
     with_reducible refine (bundle_Whose.calls _ _ t1078 _ _ t1081 t1084 t1085 t1088 _ ?side1 ?side2 ?side3 ?side4 A51.out).mono ?_
     (case side1 => repeat (first | exact (Kd.R_reads' HO1080.out).2.2 | (with_reducible refine Kd.C_alloc ?_ _) | (with_reducible refine Kd.C_drewN ?_ _) | (with_reducible refine Kd.C_drew ?_)))
     (case side2 => exact (Kd.R_reads' HO1080.out).2.1)
     (case side3 => repeat (first | exact (Kd.N_reads' HO1083.out).2.2 | (with_reducible refine Kd.C_alloc ?_ _) | (with_reducible refine Kd.C_drewN ?_ _) | (with_reducible refine Kd.C_drew ?_)))
     (case side4 => exact (Kd.N_reads' HO1083.out).2.1)
     rintro e w71 ⟨v1086, rfl, ho0, hb⟩
     refine ⟨_, rfl, ?_⟩
     have HO1087 := Aside0.mk (Kd.N_lower (Kd.N_mono (ok' := fun k_ => some k_ ≠ (.slice Ao60 t1023.length co60 : Value).ownBlock ∧ some k_ ≠ (.slice Ao61 t1026.length co61 : Value).ownBlock ∧ some k_ ≠ (.slice Ao66 t1071.length co66 : Value).ownBlock ∧ some k_ ≠ (.slice Ao69 t1078.length co69 : Value).ownBlock ∧ some k_ ≠ (.slice Ao70 t1081.length co70 : Value).ownBlock ∧ k_ ≠ gb1021) ho0 (fun k_ hk_ => ⟨(Kd.fresh' (Kd.R_lt (sR HO1025)) k_ hk_), (Kd.fresh' (Kd.N_lt (sN_ HO1028)) k_ hk_), (Kd.fresh' (Kd.R_lt (sR HO1073)) k_ hk_), (Kd.fresh' (Kd.R_lt (sR HO1080)) k_ hk_), (Kd.fresh' (Kd.N_lt (sN_ HO1083)) k_ hk_), (Kd.freshB (g := gb1021) (o := .cells #[.slice A0_0 l0_0.length c0_0, .slice A0_1 l0_1.length c0_1, .int .i64 a0_2] 25 (0, 0)) (sbk BK1021) k_ hk_)⟩)) (below_size (sbe1 HB GE1021)))
     replace HO1025 := Aside0.mk (Kd.R_below (sR HO1025) hb)
     replace HO1028 := Aside0.mk (Kd.N_elder' (sN_ HO1028) (Kd.N_base ho0) hb)
     replace HO1073 := Aside0.mk (Kd.R_below (sR HO1073) hb)
     replace HO1076 := Aside0.mk (Kd.V_elder' (by (with_reducible repeat (first | apply Kd.V_alloc | apply Kd.V_drewN | apply Kd.V_drew)); exact HO1076.out) (Kd.N_base ho0) hb)
     replace HO1080 := Aside0.mk (Kd.R_below (sR HO1080) hb)
     replace HO1083 := Aside0.mk (Kd.N_elder' (sN_ HO1083) (Kd.N_base ho0) hb)
     replace BK1021 := Aside0.mk (sbb BK1021 hb)
     replace HB := Aside0.mk (sbs1 HB GE1021 hb)
     (try clear hb)
     (try clear hb2)
     (try clear hk)
     (try clear hi)
     (try clear ho0)
     refine hK.out _ _ ⟨(blk_cell BK1021.out 0).trans rfl, (blk_cell BK1021.out 1).trans rfl, (blk_cell BK1021.out 2).trans rfl⟩ (fun hHeld => ?_)
     clear hK K
     refine sN ?_
     refine sP (i := 6) (N := some 23) (lm 11 127) ?_ (hc := any_of HT_.out (by kernel_rfl))
     refine sP (i := 7) (N := some 30) (lm 11 255) ?_ (hc := any_of HT_.out (by kernel_rfl))
     refine sP (i := 8) (N := some 31) (lm 11 511) ?_ (hc := any_of HT_.out (by kernel_rfl))
     refine sP (i := 9) (N := some 5) (lm 11 1023) ?_ (hc := any_of HT_.out (by kernel_rfl))
     refine sP (i := 10) (N := some 6) (lm 11 2047) ?_ (hc := any_of HT_.out (by kernel_rfl))
     refine done_ (done_of HT_.out (by kernel_rfl)) ?_
     try go_wp2_with (first | (go_at_call 21; (with_reducible refine (posserlaw03_awake.calls  t1089 _ A54.out).mono ?_); rintro e w72 ⟨rfl, hb⟩; replace HO1025 := Aside0.mk (Kd.R_below (sR HO1025) hb); replace HO1028 := Aside0.mk (Kd.N_below (sN_ HO1028) hb); replace HO1073 := Aside0.mk (Kd.R_below (sR HO1073) hb); replace HO1076 := Aside0.mk (Kd.V_below (by (with_reducible repeat (first | apply Kd.V_alloc | apply Kd.V_drewN | apply Kd.V_drew)); exact HO1076.out) hb); replace HO1080 := Aside0.mk (Kd.R_below (sR HO1080) hb); replace HO1083 := Aside0.mk (Kd.N_below (sN_ HO1083) hb); replace HO1087 := Aside0.mk (Kd.N_below (sN_ HO1087) hb); replace BK1021 := Aside0.mk (sbb BK1021 hb); replace HB := Aside0.mk (sbs1 HB GE1021 hb); (try clear hb); (try clear hb2); (try clear hk); (try clear hi)))
     go_ret
     exact ⟨by first | rfl | (simp [errW_none, errW_some] <;> rfl) | (simp [*, errW_none, errW_some] <;> rfl), (sbe1 HB GE1021)⟩
    ·rw [if_neg c53] at H
     exact absurd H (by simp)
   ·rw [if_neg c52] at H
    exact absurd H (by simp)
 ·replace c3 := Bool.eq_false_iff.mpr c3
  subst c3
  have H1 : ((posserlaw03_awake.f).bind fun t1090 => (some t1090)) = some r := by rw [if_neg (show ¬ (false = true) by decide)] at H; exact H
  clear H
  have H := H1
  clear H1
  replace H := Option.bind_eq_some_iff.mp H
  obtain ⟨t1090, A730, H⟩ := H
  replace H : (some t1090) = some r := H
  have A73 := Aside0.mk A730
  clear A730
  obtain rfl := Option.some.inj H
  go_enter Try.func16, Try.ntmps16
  go_wp2_with (first | ((with_reducible refine gate_dst (N := 1) rfl ?_); refine sbox (N := 1) #[.slice A0_0 l0_0.length c0_0, .slice A0_1 l0_1.length c0_1, .int .i64 a0_2] 25 ?_; intro gb1021 hg w74 hbox hb; have BK1021 := Aside0.mk (hbox); have GW1021 := Aside0.mk (sge hg HB : w.heap.size ≤ gb1021); have GE1021 := Aside0.mk (sge hg HB : w.heap.size ≤ gb1021); replace HB := Aside0.mk (sbs HB hb); clear hb hbox hg; have hcz75_0 := sc 0 BK1021; have hcz75_1 := sc 1 BK1021; have hcz75_2 := sc 2 BK1021; have hfz75_0 := blk_frozen BK1021.out 0; have hfz75_1 := blk_frozen BK1021.out 1; have hfz75_2 := blk_frozen BK1021.out 2) | ((with_reducible refine gate_callee (f := 47) rfl ?_); refine goesL_ (some 12) rfl rfl Try.func47 (by kernel_rfl) rfl #[.agg #[.slice A0_0 l0_0.length c0_0, .slice A0_1 l0_1.length c0_1, .int .i64 a0_2]] rfl (by (try simp only [List.map_toArray, List.map_cons, List.map_nil]); first | done | rfl | (simp only [List.length_drop, List.length_take]; rfl)) ?_; (with_reducible refine (posserlaw03_ready.calls k _ _ l0_0 _ _ l0_1 a0_2 false _ ?side1 ?side2 ?side3 ?side4 A2.out).mono ?_); (case side1 => exact sCb HR0_0 HB); (case side2 => exact HC0_0.out); (case side3 => exact sCb HR0_1 HB); (case side4 => exact HC0_1.out); rintro e w76 ⟨rfl, hb⟩; refine ⟨_, rfl, ?_⟩; replace BK1021 := Aside0.mk (sbb BK1021 hb); replace HB := Aside0.mk (sbs1 HB GE1021 hb); (try clear hb); (try clear hb2); (try clear hk); (try clear hi)) | ((with_reducible refine gate_callee (f := 21) rfl ?_); refine goesL_ (some 14) rfl rfl Try.func21 (by kernel_rfl) rfl #[] rfl (by (try simp only [List.map_toArray, List.map_cons, List.map_nil]); first | done | rfl | (simp only [List.length_drop, List.length_take]; rfl)) ?_; (with_reducible refine (posserlaw03_awake.calls  t1090 _ A73.out).mono ?_); rintro e w77 ⟨rfl, hb⟩; refine ⟨_, rfl, ?_⟩; replace BK1021 := Aside0.mk (sbb BK1021 hb); replace HB := Aside0.mk (sbs1 HB GE1021 hb); (try clear hb); (try clear hb2); (try clear hk); (try clear hi)))
  go_ret
  exact ⟨by first | rfl | (simp [errW_none, errW_some] <;> rfl) | (simp [*, errW_none, errW_some] <;> rfl), (sbe1 HB GE1021)⟩
end Go.Proofs.Ytnbbbeghgomnoaa.X
namespace Go.Proofs.Ytnbbbeghgomnoaa.X
open Go.RowKit Go.Proofs.YtnbbbeghgomnoaaW.PrintWords Go.Proofs.YtnbbbeghgomnoaaW.PrintLast Go.Proofs.YtnbbbeghgomnoaaW.PrintMore
def rightsL (l0 : List S109) (l1 : List S110) : List Nat := (allL l0 l1).map fun x => bitsN (rightP l0 l1.length x) l0.length
def canB (rs : List Nat) (W : Nat) : Bool := rs.any fun r => decide (r &&& W = W)
def setOf (m : Nat) : List Int := sel (fun j => m.testBit j) 6
theorem setOf_mem (m j : Nat) : (setOf m).contains (j : Int) = (decide (j < 6) && m.testBit j) := by
 rw [Bool.eq_iff_iff, List.contains_iff_mem]
 unfold setOf
 rw [sel_mem, Bool.and_eq_true, decide_eq_true_eq]
 constructor
 ·rintro ⟨k, h1, h2, h3⟩
  obtain rfl : j = k := by omega
  exact ⟨h1, h2⟩
 ·rintro ⟨h1, h2⟩; exact ⟨j, h1, h2, rfl⟩
def restW (n m : Nat) : Nat := (2 ^ n - 1) ^^^ ((2 ^ n - 1) &&& m)
theorem restW_bit (n m j : Nat) : (restW n m).testBit j = (decide (j < n) && !m.testBit j) := by
 unfold restW
 rw [Nat.testBit_xor, Nat.testBit_and, Nat.testBit_two_pow_sub_one]
 cases decide (j < n) <;> cases m.testBit j <;> rfl
theorem cond_right (l0 : List S109) (n1 : Nat) (x : List Int) (m : Nat) (h : l0.length ≤ 5) : decide (bitsN (rightP l0 n1 x) l0.length &&& restW l0.length m = restW l0.length m) = condL l0 n1 (setOf m) x := by
 rw [Bool.eq_iff_iff, decide_eq_true_eq]
 unfold condL
 rw [List.all_eq_true]
 constructor
 ·intro he v hv
  obtain ⟨j, hj, hb, rfl⟩ := (sel_mem _ _ _).1 hv
  rw [setOf_mem, decide_eq_true (by omega), Bool.true_and]
  have h2 := congrArg (fun z => z.testBit j) he
  rw [Nat.testBit_and, bitsN_bit, restW_bit, decide_eq_true hj] at h2
  unfold rightP at h2
  rw [hb] at h2
  cases hm : m.testBit j
  ·rw [hm] at h2; cases h2
  ·rfl
 ·intro ha
  refine Nat.eq_of_testBit_eq fun j => ?_
  rw [Nat.testBit_and, bitsN_bit, restW_bit]
  by_cases hj : j < l0.length
  ·rw [decide_eq_true hj]
   unfold rightP
   cases hb : bad l0 n1 (pad x) j
   ·simp
   ·have := ha (j : Int) ((sel_mem _ _ _).2 ⟨j, hj, hb, rfl⟩)
    rw [setOf_mem, decide_eq_true (by omega), Bool.true_and] at this
    rw [this]; rfl
  ·rw [decide_eq_false hj]; rfl
theorem can_poss (l0 : List S109) (l1 : List S110) (m : Nat) (h : l0.length ≤ 5) : canB (rightsL l0 l1) (restW l0.length m) = possL l0 l1 (setOf m) := by
 unfold canB rightsL possL
 rw [List.any_map]
 refine congrArg (fun p => List.any (allL l0 l1) p) (funext fun x => ?_)
 exact cond_right l0 l1.length x m h
theorem aft_small : ∀ n, n < 6 → ∀ w, w < n → (aft n).drop (w + 1) = setOf ((2 ^ n - 1) ^^^ (2 ^ (w + 1) - 1)) ∧ restW n ((2 ^ n - 1) ^^^ (2 ^ (w + 1) - 1)) = 2 ^ (w + 1) - 1 ∧ wrap64 ((shl .i64 2 (IntKind.u64.wrap ((w : Nat) : Int))) - 1) = ((2 ^ (w + 1) - 1 : Nat) : Int) := by decide +kernel
end Go.Proofs.Ytnbbbeghgomnoaa.X
namespace Go.Proofs.Ytnbbbeghgomnoaa.X
open Go.RowKit Go.Proofs.YtnbbbeghgomnoaaW.PrintWords Go.Proofs.YtnbbbeghgomnoaaW.PrintLast Go.Proofs.YtnbbbeghgomnoaaW.PrintMore
def someW (L0 : List S109) (m : Nat) : List S109 := L0.mapIdx fun j x => if m.testBit j then x else ⟨x.f0, ⟨0, 7⟩⟩
def someL (l0 : List S85) (m : Nat) : List S85 := l0.mapIdx fun j x => if m.testBit j then x else ⟨x.f0, ⟨0, 7⟩⟩
def someTo (l0 : List S85) (m w : Nat) : List S85 := l0.mapIdx fun j x => if w ≤ j || m.testBit j then x else ⟨x.f0, ⟨0, 7⟩⟩
theorem someL_len (l0 : List S85) (m : Nat) : (someL l0 m).length = l0.length := by simp [someL]
theorem someW_len (L0 : List S109) (m : Nat) : (someW L0 m).length = L0.length := by simp [someW]
theorem someTo_get (l0 : List S85) (m w i : Nat) (h : i < (someTo l0 m w).length) (h' : i < l0.length) : (someTo l0 m w)[i] = if w ≤ i || m.testBit i then l0[i] else ⟨l0[i].f0, ⟨0, 7⟩⟩ := by simp only [someTo, List.getElem_mapIdx]
theorem someL_cv (l0 : List S85) (m : Nat) : (someL l0 m).map cvW = someW (l0.map cvW) m := by
 unfold someL someW
 apply List.ext_getElem
 ·simp
 ·intro i h1 h2
  simp only [List.getElem_map, List.getElem_mapIdx]
  split <;> rfl
theorem bit_small : ∀ m, m < 64 → ∀ w, w < 6 → (Int.tmod (shr .i64 ((m : Nat) : Int) (IntKind.u64.wrap ((w : Nat) : Int))) 2 = 0) = (m.testBit w = false) := by
 have h : ∀ m, m < 64 → ∀ w, w < 6 → decide (Int.tmod (shr .i64 ((m : Nat) : Int) (IntKind.u64.wrap ((w : Nat) : Int))) 2 = 0) = !m.testBit w := by decide +kernel
 intro m hm w hw
 have h1 := h m hm w hw
 apply propext
 cases hb : m.testBit w
 ·rw [hb] at h1; exact ⟨fun _ => rfl, fun _ => of_decide_eq_true h1⟩
 ·rw [hb] at h1; exact ⟨fun e => absurd e (of_decide_eq_false h1), fun e => by cases e⟩
theorem some_ev {l0 : List S85} {l1 : List S71} (wg : Int) (h0 : l0.length ≤ 5) (m : Nat) (hm : m < 64) : Evt (fun k => posserlaw03_some.f k l0 l1 wg (m : Int)) (someL l0 m, l1, 0) := by
 have hlen : ∀ w, (someTo l0 m w).length = l0.length := fun w => by simp [someTo]
 have main : ∀ (d w : Nat), w + d = l0.length → Evt (fun k => posserlaw03_some.l0 k (m : Int) (w : Int) (someTo l0 m w) l1 0) (someL l0 m, l1, 0) := by
  intro d
  induction d with
  | zero =>
   intro w hw
   obtain rfl : w = l0.length := by omega
   have he : someTo l0 m l0.length = someL l0 m := by
    unfold someTo someL
    apply List.ext_getElem
    ·simp
    ·intro i h1 h2
     have hi : i < l0.length := by simpa using h1
     simp only [List.getElem_mapIdx]
     rw [decide_eq_false (by omega), Bool.false_or]
   rw [← he]
   refine Evt.succ (Evt.const _) (fun k => ?_)
   simp only [posserlaw03_some.l0]
   rw [if_neg (by rw [hlen]; omega)]
  | succ d ih =>
   intro w hw
   have hlt : w < l0.length := by omega
   have hget : (someTo l0 m w).getD w z85 = l0[w] := by
    rw [List.getD_eq_getElem?_getD, List.getElem?_eq_getElem (by rw [hlen]; exact hlt)]
    unfold someTo
    simp only [List.getElem_mapIdx, Option.getD_some]
    rw [decide_eq_true (Nat.le_refl _), Bool.true_or, if_pos rfl]
   refine Evt.succ (ih (w + 1) (by omega)) (fun k => ?_)
   simp only [posserlaw03_some.l0]
   rw [if_pos (by rw [hlen]; omega), if_pos (by rw [u64_small w (by omega)]; omega), wrap_succ w _ hlt (by omega), rd_T85_nat, hget]
   cases hb : m.testBit w with
   | false =>
    rw [if_pos (Eq.mpr (bit_small m hm w (by omega)) hb), if_pos (by omega), Int.toNat_natCast]
    congr 1
    apply List.ext_getElem
    ·simp [someTo]
    ·intro i h1 h2
     have hil : i < l0.length := by rw [hlen] at h2; exact h2
     rw [List.getElem_set, someTo_get _ _ _ _ h2 hil]
     by_cases e : w = i
     ·subst e
      rw [if_pos rfl, hb, decide_eq_false (by omega)]; rfl
     ·rw [if_neg e, someTo_get _ _ _ _ (by rw [hlen]; exact hil) hil]
      have hd : decide (w ≤ i) = decide (w + 1 ≤ i) := by
       by_cases h : w ≤ i
       ·rw [decide_eq_true h, decide_eq_true (by omega)]
       ·rw [decide_eq_false h, decide_eq_false (by omega)]
      rw [hd]
   | true =>
    rw [if_neg (fun e => by have h_ := Eq.mp (bit_small m hm w (by omega)) e; rw [hb] at h_; cases h_)]
    congr 1
    unfold someTo
    apply List.ext_getElem
    ·simp
    ·intro i h1 h2
     simp only [List.getElem_mapIdx]
     by_cases e : w = i
     ·subst e
      rw [hb, Bool.or_true, Bool.or_true]
     ·have hd : decide (w ≤ i) = decide (w + 1 ≤ i) := by
       by_cases h : w ≤ i
       ·rw [decide_eq_true h, decide_eq_true (by omega)]
       ·rw [decide_eq_false h, decide_eq_false (by omega)]
      rw [hd]
 have hz : someTo l0 m 0 = l0 := by
  unfold someTo
  apply List.ext_getElem
  ·simp
  ·intro i h1 h2
   simp
 have h1 := main l0.length 0 (by omega)
 rw [hz] at h1
 refine h1.congr (fun k => ?_)
 show posserlaw03_some.f k l0 l1 wg (m : Int) = _
 unfold posserlaw03_some.f
 simp only [Option.bind_some]
 rw [if_pos (by simp; omega)]
 rfl
theorem someW_f0 (L0 : List S109) (m j : Nat) : ((someW L0 m).getD j z109).f0 = (L0.getD j z109).f0 := by
 unfold someW
 rw [List.getD_eq_getElem?_getD, List.getD_eq_getElem?_getD, List.getElem?_mapIdx]
 cases L0[j]? with
 | none => rfl
 | some x =>
  show (if m.testBit j then x else (⟨x.f0, ⟨0, 7⟩⟩ : S109)).f0 = x.f0
  split <;> rfl
theorem ofL_some (L0 : List S109) (m : Nat) (ms : List Int) : ofL (someW L0 m) ms = ofL L0 ms := by
 unfold ofL
 rw [someW_len]
 refine congrArg (fun p => sel p L0.length) (funext fun j => ?_)
 rw [someW_f0]
theorem optsL_some (L0 : List S109) (L1 : List S110) (m : Nat) : optsL (someW L0 m) L1 = optsL L0 L1 := funext fun i => ofL_some L0 m _
theorem allL_some (L0 : List S109) (L1 : List S110) (m : Nat) : allL (someW L0 m) L1 = allL L0 L1 := by
 unfold allL
 rw [optsL_some]
theorem okP_some (L0 : List S109) (m : Nat) (z : S110) : okP (someW L0 m) z = okP L0 z := by
 unfold okP
 rw [someW_len, ofL_some]
theorem check_some {L0 : List S109} {L1 : List S110} {wg : Int} (h : Val L0 L1 wg) (m : Nat) : checkT (someW L0 m) L1 0 = 0 := by
 unfold checkT
 have hw : (someW L0 m).all okW = true := by
  rw [List.all_eq_true]
  intro x hx
  obtain ⟨i, hi, rfl⟩ := List.mem_iff_getElem.1 hx
  have hi' : i < L0.length := by rw [someW_len] at hi; exact hi
  have hg : (someW L0 m)[i] = if m.testBit i then L0[i] else ⟨L0[i].f0, ⟨0, 7⟩⟩ := by simp only [someW, List.getElem_mapIdx]
  rw [hg]
  have hok := List.all_eq_true.1 h.ws L0[i] (List.getElem_mem hi')
  split
  ·exact hok
  ·unfold okW at hok ⊢
   simp only [Bool.and_eq_true] at hok ⊢
   exact ⟨⟨⟨hok.1.1.1, decide_eq_true (Int.le_refl 0)⟩, decide_eq_true (show (0 : Int) ≤ 7 by omega)⟩, decide_eq_true (show (7 : Int) ≤ 7 by omega)⟩
 have hp : L1.all (okP (someW L0 m)) = true := by
  have : okP (someW L0 m) = okP L0 := funext fun z => okP_some L0 m z
  rw [this]; exact h.ps
 have hn0 := h.n0
 have hn1 := h.n1
 have hm := h.mn
 rw [manyT_eq] at hm ⊢
 rw [allL_some, someW_len, if_neg (by omega), hw, hp, if_neg (by decide), if_neg (by omega)]
theorem bad_some {L0 : List S109} {n1 : Nat} (hn1 : n1 ≤ 7) (m : Nat) (x : List Int) (j : Nat) (hj : j < L0.length) : bad (someW L0 m) n1 (pad x) j = (m.testBit j && bad L0 n1 (pad x) j) := by
 have hg : (someW L0 m).getD j z109 = if m.testBit j then L0.getD j z109 else ⟨(L0.getD j z109).f0, ⟨0, 7⟩⟩ := by
  unfold someW
  rw [List.getD_eq_getElem?_getD, List.getD_eq_getElem?_getD, List.getElem?_mapIdx, List.getElem?_eq_getElem hj]; rfl
 unfold bad
 rw [hg]
 cases hb : m.testBit j with
 | true => simp
 | false =>
  rw [if_neg (by decide), Bool.false_and]
  have hc := cnt_le (pad x) n1 (j : Int)
  unfold came
  rw [decide_eq_true (show (0 : Int) ≤ _ by omega), decide_eq_true (show _ ≤ (7 : Int) by show ((cnt (pad x) n1 (j : Int) : Nat) : Int) ≤ 7; omega)]; rfl
theorem sel_nil (p : Nat → Bool) (n : Nat) : (sel p n).length = 0 ↔ ∀ j, j < n → p j = false := by
 rw [List.length_eq_zero_iff]
 constructor
 ·intro h j hj
  cases hp : p j
  ·rfl
  ·have : (j : Int) ∈ sel p n := (sel_mem _ _ _).2 ⟨j, hj, hp, rfl⟩
   rw [h] at this; cases this
 ·intro h
  cases hs : sel p n with
  | nil => rfl
  | cons a r =>
   have : a ∈ sel p n := by rw [hs]; exact List.mem_cons_self
   obtain ⟨k, h1, h2, _⟩ := (sel_mem _ _ _).1 this
   rw [h k h1] at h2; cases h2
theorem isT_some {L0 : List S109} {n1 : Nat} (hn1 : n1 ≤ 7) (m : Nat) (hm : m < 2 ^ L0.length) (x : List Int) : isT (someW L0 m) n1 0 x = decide (bitsN (rightP L0 n1 x) L0.length &&& m = m) := by
 unfold isT
 rw [someW_len, Bool.eq_iff_iff, decide_eq_true_eq, decide_eq_true_eq]
 have h1 : ((sel (bad (someW L0 m) n1 (pad x)) L0.length).length : Int) ≤ 0 ↔ (sel (bad (someW L0 m) n1 (pad x)) L0.length).length = 0 := by omega
 rw [h1, sel_nil]
 constructor
 ·intro h
  refine Nat.eq_of_testBit_eq fun j => ?_
  rw [Nat.testBit_and, bitsN_bit]
  by_cases hj : j < L0.length
  ·have := h j hj
   rw [bad_some hn1 m x j hj] at this
   rw [decide_eq_true hj]
   unfold rightP
   cases hb : m.testBit j
   ·simp
   ·rw [hb, Bool.true_and] at this
    rw [this]; rfl
  ·have : m.testBit j = false := Nat.testBit_lt_two_pow (Nat.lt_of_lt_of_le hm (Nat.pow_le_pow_right (by omega) (by omega)))
   rw [this, Bool.and_false]
 ·intro h j hj
  rw [bad_some hn1 m x j hj]
  have h2 := congrArg (fun z => z.testBit j) h
  rw [Nat.testBit_and, bitsN_bit, decide_eq_true hj] at h2
  unfold rightP at h2
  cases hb : m.testBit j
  ·rfl
  ·rw [hb] at h2
   cases hc : bad L0 n1 (pad x) j
   ·rfl
   ·rw [hc] at h2; cases h2
theorem ask_some {L0 : List S109} {L1 : List S110} {wg : Int} (h : Val L0 L1 wg) (m : Nat) (hm : m < 2 ^ L0.length) : askE (someW L0 m) L1 0 = if canB (rightsL L0 L1) m = true then 0 else 11 := by
 unfold askE
 have hc := check_some h m
 rw [if_neg (fun e => e hc)]
 have ht : truthsL (someW L0 m) L1 0 = [] ↔ canB (rightsL L0 L1) m = false := by
  unfold truthsL canB rightsL
  rw [allL_some, List.filter_eq_nil_iff, List.any_map, List.any_eq_false]
  constructor
  ·intro h2 x hx
   have := h2 x hx
   rw [isT_some h.n1 m hm] at this
   exact this
  ·intro h2 x hx
   rw [isT_some h.n1 m hm]
   exact h2 x hx
 cases hb : canB (rightsL L0 L1) m with
 | true =>
  rw [if_neg (fun e => by rw [ht.1 e] at hb; cases hb), if_pos rfl]
 | false =>
  rw [if_pos (ht.2 hb), if_neg (by decide)]
end Go.Proofs.Ytnbbbeghgomnoaa.X
namespace Go.Proofs.Ytnbbbeghgomnoaa.X
open Go.RowKit Go.Proofs.YtnbbbeghgomnoaaW.PrintWords Go.Proofs.YtnbbbeghgomnoaaW.PrintLast Go.Proofs.YtnbbbeghgomnoaaW.PrintMore
theorem ready_no {l0 : List S85} {l1 : List S71} (wg : Int) (h : ¬ (thinR l0 l1 = true ∧ checkT (l0.map cvW) (l1.map cvP) wg = 0)) : Evt (fun k => posserlaw03_ready.f k l0 l1 wg) false := by
 obtain ⟨K, hK⟩ := Thin_ev l0 l1 wg
 cases hth : thinR l0 l1 with
 | false =>
  refine ⟨K, fun k hk => ?_⟩
  have g1 := hK k hk
  dsimp only at g1 ⊢
  unfold posserlaw03_ready.f
  rw [g1, hth]; rfl
 | true =>
  obtain ⟨L, hL⟩ := Fault_ev wg (thinR_iff.1 hth)
  have hc : ¬ checkT (l0.map cvW) (l1.map cvP) wg = 0 := fun e => h ⟨hth, e⟩
  refine ⟨K + L, fun k hk => ?_⟩
  have g1 := hK k (by omega)
  have g2 := hL k (by omega)
  dsimp only at g1 g2 ⊢
  unfold posserlaw03_ready.f
  rw [g1, hth]
  simp only [Option.bind_some, if_true]
  rw [g2]
  simp only [Option.bind_some]
  exact congrArg some (beq_eq_false_iff_ne.2 hc)
theorem ready_yes {l0 : List S85} {l1 : List S71} {wg : Int} (h : VR l0 l1 wg) (hc : checkT (l0.map cvW) (l1.map cvP) wg = 0) : Evt (fun k => posserlaw03_ready.f k l0 l1 wg) true := by
 obtain ⟨K, hK⟩ := Thin_ev l0 l1 wg
 obtain ⟨L, hL⟩ := Fault_ev wg h.thn
 refine ⟨K + L, fun k hk => ?_⟩
 have g1 := hK k (by omega)
 have g2 := hL k (by omega)
 dsimp only at g1 g2 ⊢
 unfold posserlaw03_ready.f
 rw [g1, thinR_iff.2 h.thn]
 simp only [Option.bind_some, if_true]
 rw [g2, hc]; rfl
theorem Table_f {l0 : List S85} {l1 : List S71} (wg : Int) (h : Thn l0 l1) : posserlaw03_Table.f l0 l1 wg = some (l0.map cvW, l1.map cvP, wg) := by
 unfold posserlaw03_Table.f
 rw [thinR_iff.2 h]; rfl
end Go.Proofs.Ytnbbbeghgomnoaa.X
namespace Go.Proofs.Ytnbbbeghgomnoaa.X
open Go.RowKit Go.Proofs.YtnbbbeghgomnoaaW.PrintWords Go.Proofs.YtnbbbeghgomnoaaW.PrintLast Go.Proofs.YtnbbbeghgomnoaaW.PrintMore
theorem shl1_small : ∀ w, w < 6 → wrap64 ((shl .i64 1 (IntKind.u64.wrap ((w : Nat) : Int))) - 1) = ((2 ^ w - 1 : Nat) : Int) := by decide +kernel
theorem first_can {L0 : List S109} {L1 : List S110} (h0 : L0.length ≤ 5) (w : Nat) (hw : w < L0.length) : canB (rightsL L0 L1) (2 ^ (w + 1) - 1) = !firstP L0 L1 w := by
 obtain ⟨e1, e2, _⟩ := aft_small L0.length (by omega) w hw
 unfold firstP
 rw [Bool.not_not, e1, ← can_poss _ _ _ h0, e2]
theorem can_zero {L0 : List S109} {L1 : List S110} (h : L1.all (okP L0) = true) : canB (rightsL L0 L1) 0 = true := by
 unfold canB rightsL
 rw [List.any_map]
 cases hl : allL L0 L1 with
 | nil => exact absurd hl (allL_ne h)
 | cons a r => simp
theorem before_can {L0 : List S109} {L1 : List S110} (h0 : L0.length ≤ 5) (h : L1.all (okP L0) = true) (w : Nat) (hw : w ≤ L0.length) (hf : ∀ j, j < w → firstP L0 L1 j = false) : canB (rightsL L0 L1) (2 ^ w - 1) = true := by
 cases w with
 | zero => exact can_zero h
 | succ w =>
  rw [first_can h0 w (by omega), hf w (by omega)]; rfl
theorem some_thn {l0 : List S85} {l1 : List S71} (h : Thn l0 l1) (m : Nat) : Thn (someL l0 m) l1 := ⟨by rw [someL_len]; exact h.n0, h.n1, h.ms⟩
theorem whose_some {l0 : List S85} {l1 : List S71} {wg : Int} (h : VR l0 l1 wg) (m : Nat) (hm : m < 2 ^ l0.length) : ∃ r, bundle_Whose.f ((someL l0 m).map cvW) (l1.map cvP) 0 = some (r, if canB (rightsL (l0.map cvW) (l1.map cvP)) m = true then 0 else 11) := by
 have ha := ask_some h.val m (by rw [List.length_map]; exact hm)
 unfold bundle_Whose.f
 rw [if_pos (thinP_of (some_thn h.thn m)), someL_cv]
 by_cases hb : canB (rightsL (l0.map cvW) (l1.map cvP)) m = true
 ·rw [if_pos hb] at ha ⊢
  rw [if_pos ha]; exact ⟨_, rfl⟩
 ·rw [if_neg hb] at ha ⊢
  rw [if_neg (by rw [ha]; decide), ha]; exact ⟨_, rfl⟩
theorem find_range_some {p : Nat → Bool} {n w : Nat} (h : (List.range n).find? p = some w) : w < n ∧ p w = true ∧ ∀ j, j < w → p j = false := by
 have h1 := List.find?_eq_some_iff_append.1 h
 obtain ⟨hp, xs, ys, hab, hn⟩ := h1
 have hw : w ∈ List.range n := by rw [hab]; simp
 refine ⟨List.mem_range.1 hw, hp, fun j hj => ?_⟩
 have hj' : j ∈ List.range n := List.mem_range.2 (by have := List.mem_range.1 hw; omega)
 rw [hab] at hj'
 rcases List.mem_append.1 hj' with h2 | h2
 ·have := hn j h2
  simpa using this
 ·have hs : (List.range n).Pairwise (· < ·) := List.pairwise_lt_range
  rw [hab] at hs
  have h3 := (List.pairwise_append.1 hs).2.1
  rcases List.mem_cons.1 h2 with h4 | h4
  ·omega
  ·have := (List.pairwise_cons.1 h3).1 j h4
   omega
theorem BundleFirst_pure (l0 : List S85) (l1 : List S71) (wg : Int) : ∃ k, posserlaw03_BundleFirst.f k l0 l1 wg = some true := by
 by_cases hr : thinR l0 l1 = true ∧ checkT (l0.map cvW) (l1.map cvP) wg = 0
 ·obtain ⟨hth, hc⟩ := hr
  have ht := thinR_iff.1 hth
  have hv := VR.of ht hc
  have h0 := hv.n0
  have hp5 := pow_small l0.length h0
  have hlen : (l0.map cvW).length = l0.length := List.length_map _
  have h0' : (l0.map cvW).length ≤ 5 := by rw [hlen]; exact h0
  obtain ⟨K, hK⟩ := ready_yes hv hc
  have hF : bundle_First.f (l0.map cvW) (l1.map cvP) wg = some ((firstL (l0.map cvW) (l1.map cvP)).1, (firstL (l0.map cvW) (l1.map cvP)).2) := by
   unfold bundle_First.f
   rw [if_pos (thinP_of ht), if_pos hc]
  cases hf : (List.range (l0.map cvW).length).find? (firstP (l0.map cvW) (l1.map cvP)) with
  | some w =>
   obtain ⟨hw, hpw, hlo⟩ := find_range_some hf
   rw [hlen] at hw
   have hfl : firstL (l0.map cvW) (l1.map cvP) = ((w : Int), 0) := by
    unfold firstL
    rw [hf]
   have hpw1 : 2 ^ (w + 1) ≤ 2 ^ l0.length := Nat.pow_le_pow_right (by omega) (by omega)
   have hpw0 : 2 ^ w ≤ 2 ^ (w + 1) := Nat.pow_le_pow_right (by omega) (by omega)
   have hpos : 0 < 2 ^ w := Nat.two_pow_pos _
   obtain ⟨r1, hr1⟩ := whose_some hv (2 ^ w - 1) (by omega)
   obtain ⟨r2, hr2⟩ := whose_some hv (2 ^ (w + 1) - 1) (by omega)
   rw [before_can h0' hv.val.ps w (by omega) hlo, if_pos rfl] at hr1
   rw [first_can h0' w (by omega), hpw, if_neg (by decide)] at hr2
   obtain ⟨A, hA⟩ := some_ev (l1 := l1) wg h0 (2 ^ w - 1) (by omega)
   obtain ⟨B, hB⟩ := some_ev (l1 := l1) wg h0 (2 ^ (w + 1) - 1) (by omega)
   refine ⟨K + A + B, ?_⟩
   have g1 := hK (K + A + B) (by omega)
   have g2 := hA (K + A + B) (by omega)
   have g3 := hB (K + A + B) (by omega)
   dsimp only at g1 g2 g3
   generalize K + A + B = k at g1 g2 g3 ⊢
   have e1 := shl1_small w (by omega)
   have e2 := (aft_small l0.length (by omega) w hw).2.2
   unfold posserlaw03_BundleFirst.f
   rw [g1]
   simp only [Option.bind_some, if_true]
   rw [Table_f wg ht]
   simp only [Option.bind_some]
   rw [hF, hfl]
   simp only [Option.bind_some]
   rw [if_pos trivial, In_f]
   simp only [Option.bind_some]
   have hin : okIn (w : Int) 0 (wrap64 ((l0.length : Int) - 1)) = true := by
    rw [wrap64_id _ (by omega) (by omega)]
    unfold okIn
    rw [decide_eq_true (by omega), decide_eq_true (by omega)]; rfl
   rw [hin, if_pos rfl, if_pos (by rw [u64_small w (by omega)]; omega), e1, g2]
   simp only [Option.bind_some]
   rw [Table_f 0 (some_thn ht _)]
   simp only [Option.bind_some]
   rw [hr1]
   simp only [Option.bind_some]
   rw [e2, g3]
   simp only [Option.bind_some]
   rw [Table_f 0 (some_thn ht _)]
   simp only [Option.bind_some]
   rw [hr2]
   rfl
  | none =>
   have hfl : firstL (l0.map cvW) (l1.map cvP) = (0, 7) := by
    unfold firstL
    rw [hf]
   have hall : ∀ j, j < l0.length → firstP (l0.map cvW) (l1.map cvP) j = false := fun j hj => by
    have := List.find?_eq_none.1 hf j (List.mem_range.2 (by rw [hlen]; exact hj))
    simpa using this
   have hpos : 0 < 2 ^ l0.length := Nat.two_pow_pos _
   obtain ⟨r1, hr1⟩ := whose_some hv (2 ^ l0.length - 1) (by omega)
   rw [before_can h0' hv.val.ps l0.length (by omega) hall, if_pos rfl] at hr1
   obtain ⟨A, hA⟩ := some_ev (l1 := l1) wg h0 (2 ^ l0.length - 1) (by omega)
   refine ⟨K + A, ?_⟩
   have g1 := hK (K + A) (by omega)
   have g2 := hA (K + A) (by omega)
   dsimp only at g1 g2
   generalize K + A = k at g1 g2 ⊢
   unfold posserlaw03_BundleFirst.f
   rw [g1]
   simp only [Option.bind_some, if_true]
   rw [Table_f wg ht]
   simp only [Option.bind_some]
   rw [hF, hfl]
   simp only [Option.bind_some]
   rw [if_neg (by decide), Full_f l0 l1 wg h0]
   simp only [Option.bind_some]
   rw [g2]
   simp only [Option.bind_some]
   rw [Table_f 0 (some_thn ht _)]
   simp only [Option.bind_some]
   rw [hr1]
   rfl
 ·obtain ⟨K, hK⟩ := ready_no wg hr
  refine ⟨K, ?_⟩
  have g1 := hK K (Nat.le_refl _)
  dsimp only at g1
  unfold posserlaw03_BundleFirst.f
  rw [g1]; rfl
theorem BundleFirst_walk (A0 : Option Addr) (c0 : Nat) (l0 : List S85) (A1 : Option Addr) (c1 : Nat) (l1 : List S71) (wg : Int) (W : World) (C0 : Kd.C k85 W A0 l0.length l0) (g0 : l0.length ≤ c0) (C1 : Kd.C k71 W A1 l1.length l1) (g1 : l1.length ≤ c1) :
  Calls Try.prog 16 #[.agg #[.slice A0 l0.length c0, .slice A1 l1.length c1, .int .i64 wg]] W fun e w' => e = .returned (.bool true) ∧ Below W.heap.size W w' := by
 obtain ⟨k, hk⟩ := BundleFirst_pure l0 l1 wg
 exact posserlaw03_BundleFirst.calls k A0 c0 l0 A1 c1 l1 wg true W C0 g0 C1 g1 hk
end Go.Proofs.Ytnbbbeghgomnoaa.X
namespace Go.Proofs.Ytnbbbeghgomnoaa.bundleFirst
open Go.ChangeShapes Go.WideShapes Go.ChangeAt Go.RowKit
open Go.ChangeMaps (open_string shut_string)
open Go.Proofs.Ytnbbbeghgomnoaa.X
theorem own : ownKnob Try.prog.godebug = none := by kernel_rfl
theorem laidOut : laidOutB Try.prog = true := by kernel_rfl
set_option maxRecDepth 100000 in
theorem lifted (os : Os) (started : os.Started) (H : Type) (enc : TypeId × Value → H) :
  ReturnsInHanded {} Try.checked os 16 .any (Rows.bundleFirstSpec.pre6 enc Try.prog Try.f16 Rows.bundleFirstRow.domain false) (Rows.bundleFirstSpec.post enc Try.prog Try.f16 false true false false) := by
 refine returnsInHanded_of_change_sized (C := Try.checked) own started (by kernel_rfl) Try.func16
  (ChangeSpec.witness6 (enc := enc) (C := Try.checked) false ⟨#[], #[.agg #[.slice none 0 0, .slice none 0 0, .int .i64 0]], []⟩ 8 (by kernel_rfl) (by kernel_rfl) (by kernel_rfl) (by kernel_rfl)) ?_
 intro W base args ds gs before hval0 hW hcnd hsz0 _
 have hsz : (DataW.weightsEach Try.prog (Try.f16.params.toList ++ Rows.bundleFirstSpec.plain.varTypes Try.prog) (ds ++ gs)).all (· ≤ reachBytes) = true := hsz0
 have hval : ∀ (j : Nat) t v, Try.f16.params[j]? = some t → args[j]? = some v → Value.okWide Try.prog W .any base t v := hval0
 have hW' := hW
 obtain ⟨p, q, hA0, hV, rfl, hfz, hnd⟩ := hW
 have hA : DataW.TrodAll enc Try.prog W 0 (fun _ => true) true Try.f16.params.toList args.toList ds p := hA0
 rw [Try.params16] at hA hval hsz
 obtain ⟨v0, vs0, d0, ds0, p0, q0, hargs, rfl, rfl, h0, r0⟩ := trodAll_cons hA
 obtain ⟨rfl, rfl, rfl⟩ := trodAll_nil r0
 obtain rfl : args = #[v0] := by cases args; simp_all
 obtain ⟨rfl, rfl⟩ := trodVars_none hV
 have k0 := h0
 have lt0 : ∀ x ∈ p0, x.block < W.heap.size := by obtain ⟨m, hm⟩ := k0; exact DataW.trod_lt m _ _ _ hm
 obtain ⟨A0, c0, l0, A1, c1, l1, wg, rfl, C0, g0, C1, g1⟩ := open_table (hval 0 25 v0 rfl rfl) h0
 clear hA0 hval0 hsz0 hsz
 refine (BundleFirst_walk A0 c0 l0 A1 c1 l1 wg W C0 g0 C1 g1).mono fun e W' ⟨he, bel⟩ => ?_
 subst he
 exact ⟨_, rfl, _, _, _, [], _, [], hW', trodAll_mk1 (shut_bool Try.underlying4 _), (trodAll_cons_mk (Below.trod laidOut (by kernel_rfl) (of_decide_eq_true (by kernel_rfl)) k0 bel lt0) trodAll_mk0), rfl, bel.frame _, fun h => by cases h⟩
theorem over : Rows.bundleFirstRow.holds Try.pinned (OpenSpec.ofChange Rows.bundleFirstSpec) :=
 OpenClaim.holds_of_wide 16 Try.f16 rfl rfl rfl rfl rfl rfl rfl ⟨rfl, rfl, rfl, rfl, rfl⟩ rfl rfl rfl rfl rfl (by kernel_rfl) Try.func16 (by kernel_rfl)
  (of_decide_eq_true (by kernel_rfl)) (by unfold Func.isWrapper; first | (rw [if_pos (by decide +kernel)]; kernel_rfl) | (rw [if_neg (by decide +kernel)]; exact ⟨rfl, rfl⟩))
  (fun os started H enc _ => lifted os started H enc)
theorem proved : Rows.BundleFirstSaid := over
end Go.Proofs.Ytnbbbeghgomnoaa.bundleFirst
namespace Go.Proofs.Ytnbbbeghgomnoaa
theorem bundleFirst_holds : Rows.BundleFirstSaid := bundleFirst.proved
#print axioms bundleFirst_holds
end Go.Proofs.Ytnbbbeghgomnoaa
