/-
  Words and walks that the proof of BundleLeft leans on, part 1 of 2.
-/
import Derived.Test.YtnbbbeghgomnoaaQBase05
import Derived.Below
import Derived.Deep.Draws
import Derived.Deep.AppendLies
import Derived.Maps.AppendAt
import Derived.OwnWalk
import Derived.Laws.BytesArg
import Derived.Laws.MakeOwn
import Derived.Laws.OwnMore
import Derived.Deep.OwnRows
import Derived.Tactics
import Derived.Lib.ConvBytes
import Derived.Laws.Slices
import Derived.WalkKit
import Derived.KernelRfl
import Derived.RowKit3
import Derived.Deep.LoopGhost
import Derived.Deep.QuietTactic
import Derived.BigQuiet
import Derived.WideLaws
import Derived.Deep.DeepCutAuto
import Derived.Deep.CutBlock
import Derived.Deep.RegionHeld3
import Derived.Laws.Rows
import Derived.Lib.AppendStr
import Derived.ArgAppend
import Derived.Laws.IdiomCopy
import Derived.RowKit
import Derived.Test.YtnbbbeghgomnoaaProg
import Derived.OrdersHeld
import Derived.Laws.BitsLemmas
import Derived.Test.YtnbbbeghgomnoaaRows
import Derived.ProofKit
import Derived.OpenShut
import Derived.ShutString
import Derived.ChangeOld
import Derived.SizedLaws
set_option linter.unusedVariables false
set_option linter.unusedSimpArgs false
set_option linter.unusedVariables false
set_option linter.unusedSimpArgs false
namespace Go.Proofs.YtnbbbeghgomnoaaW.PrintWords
open Go.RowKit
section
variable {P : Program} {ops : Array Oper} {rest : List Oper} {o : Oper} {a : Act} {Q : Exit → Act → World → Prop}
end
section
variable {P : Program}
end
section
variable {P : Program} {ops : Array Oper} {rest : List Oper} {o : Oper} {a : Act} {Q : Exit → Act → World → Prop}
end
section
variable {P : Program} {ops : Array Oper} {rest : List Oper} {o : Oper} {a : Act} {Q : Exit → Act → World → Prop}
end
section
variable {P : Program} {ops : Array Oper} {o : Oper} {a : Act} {Q : Exit → Act → World → Prop} {K : Act → World → Prop}
end
section
variable {α : Type} {enc : α → Value} {d : α}
end
section
variable {α : Type} {P : Program} {ops : Array Oper} {rest : List Oper} {o : Oper} {a : Act} {Q : Exit → Act → World → Prop}
end
section
variable {P : Program}
end
section
variable {α : Type} {R R' : α → List Value → Prop} {e : TypeId} {size : Nat} {w w1 : World} {base : Nat} {v : Value} {ps : List α}
end
section
variable {P : Program} {ops : Array Oper} {rest : List Oper} {o : Oper} {a : Act} {Q : Exit → Act → World → Prop} {α : Type} {R : α → List Value → Prop}
end
section
variable {P : Program} {ops : Array Oper} {o : Oper} {a : Act} {Q : Exit → Act → World → Prop} {K : Act → World → Prop} {α : Type} {R : α → List Value → Prop}
end
section
variable {α : Type} {P : Program}
end
section
variable {P : Program} {ops : Array Oper} {rest : List Oper} {o : Oper} {a : Act} {Q : Exit → Act → World → Prop}
end
namespace Kd
section
variable {α : Type} {d : Kd α} {e : Nat} {w w1 : World} {base : Nat} {ok ok' : Nat → Prop} {v : Value} {xs : List α}
end
section
variable {P : Program} {ops : Array Oper} {rest : List Oper} {o : Oper} {a : Act} {Q : Exit → Act → World → Prop} {α : Type}
end
section
variable {P : Program} {ops : Array Oper} {o : Oper} {a : Act} {Q : Exit → Act → World → Prop} {Kc : Act → World → Prop} {α : Type}
end
end Kd
namespace Kd
section
variable {α : Type} {F : Kd α → Kd α} {sz : Nat} {E : List Nat} {hs : ∀ n, (upto F sz E n).sz = sz} {hE : ∀ n q, q ∈ (upto F sz E n).E → q ∈ E}
end
end Kd
namespace Kd
end Kd
namespace Kd
section
variable {α β : Type} {d : Kd α} {d' : Kd β} {e e' : Nat} {w w1 W : World} {base b b' : Nat} {ok ok' okv oku : Nat → Prop} {v u : Value} {xs : List α} {ys : List β}
end
section
variable {w W : World} {A : Option Addr} {n : Nat}
variable {α : Type} {enc : α → Value} {h1 : ∀ x, (enc x).oneCell' = true} {e base g cap : Nat} {ok : Nat → Prop} {xs : List α}
end
section
variable {P : Program} {ops : Array Oper} {rest : List Oper} {o : Oper} {a : Act} {Q : Exit → Act → World → Prop}
variable {α : Type}
end
end Kd
section
variable {P : Program}
end
section
variable {w w1 : World} {base n size : Nat} {e : TypeId} {v : Value} {xs : List Value}
theorem setCells_far {g : Nat} : ∀ (vs : List Value) (o : Nat) {w : World} (k : Nat), k ≠ g → (w.setCells g o vs).heap[k]? = w.heap[k]?
 | [], _, _, _, _ => rfl
 | v :: r, o, w, k, hk => by
  rw [World.setCells, setCells_far r (o + 1) k hk]
  exact Below.heap_setCell w ⟨g, o, none⟩ v k hk
theorem setCells_same (g : Nat) : ∀ (vs : List Value) (o : Nat) (w : World), (w.setCells g o vs).os = w.os ∧ (w.setCells g o vs).tape = w.tape ∧ (w.setCells g o vs).output = w.output ∧ (w.setCells g o vs).heap.size = w.heap.size
 | [], _, _ => ⟨rfl, rfl, rfl, rfl⟩
 | v :: r, o, w => by
  obtain ⟨h1, h2, h3, h4⟩ := setCells_same g r (o + 1) (w.setCell ⟨g, o, none⟩ v)
  rw [World.setCells]
  exact ⟨h1, h2, h3, by rw [h4]; simp [World.setCell]⟩
theorem setCells_row {g : Nat} {e : TypeId} : ∀ (vs : List Value) (o : Nat) (w : World) (cur : Array Value), w.heap[g]? = some (.cells cur e (0, 0)) → o + vs.length ≤ cur.size →
  ∃ cur', (w.setCells g o vs).heap[g]? = some (.cells cur' e (0, 0)) ∧ cur'.size = cur.size ∧ cur'.toList = cur.toList.take o ++ vs ++ cur.toList.drop (o + vs.length)
 | [], o, w, cur, h, _ => ⟨cur, h, rfl, by simp⟩
 | v :: r, o, w, cur, h, hl => by
  have h2 := blk_set h o v
  simp only [List.length_cons] at hl
  obtain ⟨cur', h3, h4, h5⟩ := setCells_row r (o + 1) (w.setCell ⟨g, o, none⟩ v) _ h2 (by simp; omega)
  refine ⟨cur', h3, by rw [h4]; simp, ?_⟩
  rw [h5, Array.toList_setIfInBounds]
  have ho : o < cur.toList.length := by rw [Array.length_toList]; omega
  rw [List.take_set, List.drop_set_of_lt (by omega)]
  simp only [List.length_cons]
  rw [show o + 1 + r.length = o + (r.length + 1) by omega]
  congr 1
  rw [List.take_succ_eq_append_getElem ho, List.set_append_right _ _ (by rw [List.length_take]; omega)]
  have ho' : o < cur.size := by omega
  simp [Nat.min_eq_left (Nat.le_of_lt ho')]
end
section
variable {P : Program}
end
namespace Kd
section
variable {α : Type} {d : Kd α} {e : Nat} {w w1 W : World} {base : Nat} {ok ok' : Nat → Prop} {v : Value} {xs : List α}
end
section
variable {P : Program} {ops : Array Oper} {rest : List Oper} {o : Oper} {a : Act} {Q' : Exit → Act → World → Prop} {Kc : Act → World → Prop} {α : Type}
end
end Kd
namespace Kd
section
variable {α : Type} {d : Kd α} {e e' : Nat} {w w1 W : World} {base : Nat} {ok : Nat → Prop} {u v : Value} {xs : List α}
end
end Kd
theorem seg_get {α : Type} (a seg : List α) (o : Nat) (h : o + seg.length ≤ a.length) (q : Nat) :
  (a.take o ++ seg ++ a.drop (o + seg.length))[q]? = if q < o then a[q]? else if q < o + seg.length then seg[q - o]? else a[q]? := by
 have hl : (a.take o).length = o := by rw [List.length_take]; omega
 rw [List.append_assoc]
 by_cases h1 : q < o
 ·rw [if_pos h1, List.getElem?_append_left (by omega), List.getElem?_take, if_pos h1]
 ·rw [if_neg h1, List.getElem?_append_right (by omega), hl]
  by_cases h2 : q < o + seg.length
  ·rw [if_pos h2, List.getElem?_append_left (by omega)]
  ·rw [if_neg h2, List.getElem?_append_right (by omega), List.getElem?_drop]
   congr 1
   omega
namespace Kd
section
variable {α : Type} {d : Kd α} {e base g n cap : Nat} {ok okp : Nat → Prop} {W : World} {xs : List α}
theorem R_elem (h : d.R e W base ok (.slice (some ⟨g, 0, none⟩) n cap) xs) (z : α) (i : Int) (h0 : 0 ≤ i) (h1 : i < n) :
  ∃ c, c.length = d.sz ∧ d.M W base (fun k => ok k ∧ k ≠ g) (xs.getD i.toNat z) c ∧ (∀ j u, c[j]? = some u → W.cell? ⟨g, i.toNat * d.sz + j, none⟩ = some u) ∧ ∀ j, W.frozen? ⟨g, i.toNat * d.sz + j, none⟩ = false := by
 obtain ⟨hn, hnc, hC⟩ := R_reads' h
 obtain ⟨_, inner, ho, hr⟩ := h
 have hil : i.toNat < xs.length := by omega
 have hseg : i.toNat * d.sz + d.sz ≤ inner.length := by rw [hr.1, ← Nat.succ_mul]; exact Nat.mul_le_mul_right _ hil
 have hM := hr.2 i.toNat _ (List.getElem?_eq_getElem hil)
 refine ⟨(inner.drop (i.toNat * d.sz)).take d.sz, by rw [List.length_take, List.length_drop]; omega, ?_, fun j u hu => ?_, fun j => ?_⟩
 ·rw [List.getD_eq_getElem?_getD, List.getElem?_eq_getElem hil]
  exact d.M_mono (fun k hk => ⟨hk.1, fun he => hk.2 (by rw [he]; simp [Value.ownBlock])⟩) hM
 ·rw [List.getElem?_take] at hu
  split at hu
  ·rw [List.getElem?_drop] at hu
   have := ho.cells (g := g) (by simp [Value.ownBlock]) _ u hu
   rwa [add_plain] at this
  ·cases hu
 ·obtain ⟨cells, hc⟩ := own_typed ho g (by simp [Value.ownBlock])
  exact blk_frozen hc _
theorem R_seg (h : d.R e W base ok (.slice (some ⟨g, 0, none⟩) n cap) xs) (i : Int) (h0 : 0 ≤ i) (h1 : i < n) {c seg : List Value} {j : Nat} (hcl : c.length = d.sz) (hcc : ∀ j u, c[j]? = some u → W.cell? ⟨g, i.toNat * d.sz + j, none⟩ = some u)
  (hj : j + seg.length ≤ d.sz) {x' : α} (hM : d.M W base okp x' (c.take j ++ seg ++ c.drop (j + seg.length))) (hokp : ∀ k, okp k → ok k ∧ k ≠ g) :
  d.R e (W.setCells g (i.toNat * d.sz + j) seg) base ok (.slice (some ⟨g, 0, none⟩) n cap) (xs.set i.toNat x') ∧ W.grownBy (W.setCells g (i.toNat * d.sz + j) seg) (some g) := by
 obtain ⟨hn, hnc, _⟩ := R_reads' h
 obtain ⟨hok, inner, ho, hr⟩ := h
 have hil : i.toNat < xs.length := by omega
 have hseg : i.toNat * d.sz + d.sz ≤ inner.length := by rw [hr.1, ← Nat.succ_mul]; exact Nat.mul_le_mul_right _ hil
 have hin : inner.length = n * d.sz := by rw [hr.1, hn]
 obtain ⟨ho1, ho2⟩ := ho
 rcases ho2 with ⟨hv, _⟩ | ⟨g', cap', cur, hv, hb, hh, hnc', hcm, hcs, ht⟩
 ·cases hv
 injection hv with ha _ hc
 injection ha with ha
 injection ha with hg
 subst hg; subst hc
 have hfit : i.toNat * d.sz + j + seg.length ≤ cur.size := by
  have : n * d.sz ≤ cap * d.sz := Nat.mul_le_mul_right _ hnc
  omega
 obtain ⟨cur', h3, h4, h5⟩ := setCells_row seg (i.toNat * d.sz + j) W cur hh hfit
 obtain ⟨s1, s2, s3, s4⟩ := setCells_same g seg (i.toNat * d.sz + j) W
 have hfar : ∀ k, k ≠ g → (W.setCells g (i.toNat * d.sz + j) seg).heap[k]? = W.heap[k]? := fun k hk => setCells_far seg _ k hk
 have hcin : ∀ q, q < d.sz → c[q]? = inner[i.toNat * d.sz + q]? := by
  intro q hq
  have hq' : q < c.length := by omega
  have h6 := hcc q _ (List.getElem?_eq_getElem hq')
  rw [cell_of_row W g _ cur e (0, 0) hh] at h6
  rw [List.getElem?_eq_getElem hq', ← h6, ← ht, List.getElem?_take, if_pos (by rw [← hn]; omega), Array.getElem?_toList]
 refine ⟨⟨hok, inner.take (i.toNat * d.sz + j) ++ seg ++ inner.drop (i.toNat * d.sz + j + seg.length), ⟨?_, .inr ⟨g, cap, cur', by rw [List.length_set, hn], hb, h3, by rw [List.length_set, ← hn]; exact hnc, hcm, by rw [h4, hcs], ?_⟩⟩, ?_⟩,
  ⟨s1, s2, s3, by rw [s4]; exact Nat.le_refl _, fun k _ hk => hfar k (fun he => hk (by rw [he]))⟩⟩
 ·rw [List.length_set]
  simp only [List.length_append, List.length_take, List.length_drop]
  rw [hr.1] at hseg ⊢
  omega
 ·rw [List.length_set, ← hn]
  apply List.ext_getElem?
  intro q
  rw [List.getElem?_take, h5]
  rw [seg_get cur.toList seg (i.toNat * d.sz + j) (by rw [Array.length_toList]; omega) q, seg_get inner seg (i.toNat * d.sz + j) (by omega) q]
  have hcur : ∀ q, q < n * d.sz → cur.toList[q]? = inner[q]? := by
   intro q hq
   rw [← ht, List.getElem?_take, if_pos (by rw [← hn]; exact hq)]
  by_cases hq : q < n * d.sz
  ·rw [if_pos hq, hcur q hq]
  ·rw [if_neg hq, if_neg (by omega), if_neg (by omega), List.getElem?_eq_none (by omega)]
 ·refine ⟨?_, fun m p hm => ?_⟩
  ·rw [List.length_set]
   simp only [List.length_append, List.length_take, List.length_drop]
   rw [hr.1] at hseg ⊢
   omega
  ·have hml : m < xs.length := by
    have := (List.getElem?_eq_some_iff.1 hm).1
    rwa [List.length_set] at this
   have hmfit : m * d.sz + d.sz ≤ inner.length := by rw [hr.1, ← Nat.succ_mul]; exact Nat.mul_le_mul_right _ hml
   have hgo : some g = (Value.slice (some ⟨g, 0, none⟩) n cap).ownBlock := by simp [Value.ownBlock]
   by_cases hmi : m = i.toNat
   ·subst hmi
    rw [List.getElem?_set_self (by omega)] at hm
    injection hm with hm
    subst hm
    have hcells : ((inner.take (i.toNat * d.sz + j) ++ seg ++ inner.drop (i.toNat * d.sz + j + seg.length)).drop (i.toNat * d.sz)).take d.sz = c.take j ++ seg ++ c.drop (j + seg.length) := by
     apply List.ext_getElem?
     intro q
     rw [List.getElem?_take, List.getElem?_drop, seg_get inner seg _ (by omega), seg_get c seg j (by omega) q]
     by_cases hq : q < d.sz
     ·rw [if_pos hq, hcin q hq]
      by_cases hq1 : q < j
      ·rw [if_pos (by omega), if_pos hq1]
      ·rw [if_neg (by omega), if_neg hq1]
       by_cases hq2 : q < j + seg.length
       ·rw [if_pos (by omega), if_pos hq2]
        congr 1
        omega
       ·rw [if_neg (by omega), if_neg hq2]
     ·rw [if_neg hq, if_neg (by omega), if_neg (by omega), List.getElem?_eq_none (by omega)]
    rw [hcells]
    refine d.M_mono (fun k hk => ?_) (d.M_move (w1 := W.setCells g (i.toNat * d.sz + j) seg) (fun k hk => hfar k (hokp k hk).2) hM)
    exact ⟨(hokp k hk).1, fun he => (hokp k hk).2 (by rw [← hgo] at he; injection he)⟩
   ·rw [List.getElem?_set_ne (by omega)] at hm
    have hold := hr.2 m p hm
    have hcells : ((inner.take (i.toNat * d.sz + j) ++ seg ++ inner.drop (i.toNat * d.sz + j + seg.length)).drop (m * d.sz)).take d.sz = (inner.drop (m * d.sz)).take d.sz := by
     apply List.ext_getElem?
     intro q
     rw [List.getElem?_take, List.getElem?_take, List.getElem?_drop, List.getElem?_drop, seg_get inner seg _ (by omega)]
     by_cases hq : q < d.sz
     ·rw [if_pos hq, if_pos hq]
      rcases Nat.lt_or_gt_of_ne hmi with hlt | hgt
      ·have : m * d.sz + d.sz ≤ i.toNat * d.sz := by rw [← Nat.succ_mul]; exact Nat.mul_le_mul_right _ hlt
       rw [if_pos (by omega)]
      ·have : i.toNat * d.sz + d.sz ≤ m * d.sz := by rw [← Nat.succ_mul]; exact Nat.mul_le_mul_right _ hgt
       rw [if_neg (by omega), if_neg (by omega)]
     ·rw [if_neg hq, if_neg hq]
    rw [hcells]
    refine d.M_move (fun k hk => hfar k (fun he => hk.2 (by rw [he]; exact hgo))) hold
end
end Kd
namespace Kd
section
variable {α : Type} {F : Kd α → Kd α} {sz : Nat} {E : List Nat} {hs : ∀ n, (upto F sz E n).sz = sz} {hE : ∀ n q, q ∈ (upto F sz E n).E → q ∈ E}
end
end Kd
namespace Kd
section
variable {P : Program} {ops : Array Oper} {rest : List Oper} {o : Oper} {a : Act} {Q : Exit → Act → World → Prop} {α : Type}
theorem R_append_rows (d : Kd α) {Rr : α → List Value → Prop} {w0 W : World} (base : Nat) (hgd : o.guard = none) (s x : Operand) (t e : TypeId) (z : Value) (bytes : Nat)
  (ho : o.op = .call { callee := .builtin .append, args := #[s, x], argTypes := #[t, t] })
  (ht : P.underlying t = some (.slice e)) (hinfo : (P.info? e).map (fun i => (i.zero, i.size, i.bytes)) = some (some z, d.sz, bytes)) (hz : z.cells.size = d.sz) (hs0 : 0 < d.sz) (hb0 : 0 < bytes)
  (v : Value) (xs ys : List α) (A : Option Addr) (m c : Nat) (ok okp : Nat → Prop) (hs : a.eval s = v) (hx : a.eval x = .slice A m c)
  (HO : d.R e W base ok v xs) (HR : ReadsRow Rr d.sz W A m ys) (hKM : ∀ x cs, Rr x cs → d.M W base okp x cs) (hokp : ∀ k, okp k → ok k ∧ some k ≠ v.ownBlock) (hfresh : ∀ k, W.heap.size ≤ k → ok k)
  (HB : Below base w0 W) (hbase : base ≤ W.heap.size) (hl : (xs.length + m) * bytes ≤ 140737488355328)
  (h : ∀ v1 w1, d.R e w1 base ok v1 (xs ++ ys) → Below base w0 w1 → W.grownBy w1 v.ownBlock → (v1.ownBlock = v.ownBlock ∨ ∃ b, v1.ownBlock = some b ∧ W.heap.size ≤ b) → wpList P ops Q rest (a.put o.dst v1) w1) :
  wpList P ops Q (o :: rest) a W := by
 obtain ⟨i0, hi, hzz⟩ := Option.map_eq_some_iff.1 hinfo
 simp only [Prod.mk.injEq] at hzz
 obtain ⟨hz0, hz1, hz2⟩ := hzz
 have hm : ys.length = m := HR.1
 have hlen : xs.length + m ≤ 140737488355328 := Nat.le_trans (Nat.le_mul_of_pos_right _ hb0) hl
 obtain ⟨hok, inner, hown, hr⟩ := HO
 have hrun : ∃ v1 w1, (Builtin.append_ #[t, t] o.type #[v, .slice A m c]).run P W = .ok v1 w1 ∧ d.R e w1 base ok v1 (xs ++ ys) ∧ W.grownBy w1 v.ownBlock ∧ (v1.ownBlock = v.ownBlock ∨ ∃ b, v1.ownBlock = some b ∧ W.heap.size ≤ b) := by
  rcases A with _ | ad
  ·have h0 : m = 0 := by
    rcases Nat.eq_zero_or_pos m with h0 | h0
    ·exact h0
    ·obtain ⟨ad, h, _⟩ := HR.2.2 h0
     cases h
   subst h0
   obtain rfl : ys = [] := List.eq_nil_of_length_eq_zero hm
   refine ⟨v, W, ?_, by rw [List.append_nil]; exact ⟨hok, inner, hown, hr⟩, World.grownBy.refl W _, .inl rfl⟩
   rcases hown.2 with ⟨rfl, hn⟩ | ⟨g, cap, cur, rfl, _, _, hnc, _⟩
   ·simp [Builtin.append_, run_underlying ht, sizeOf, typeInfo, hi, Builtin.lenOf, Builtin.firstCells]
   ·simp [Builtin.append_, run_underlying ht, sizeOf, typeInfo, hi, Builtin.lenOf, Builtin.firstCells, hnc, storeCells]
  ·obtain ⟨news, hnr, hnc⟩ := ReadsRow.inner_ HR
   have hnM : Reps (d.M W base okp) d.sz ys news := hnr.imp_ (fun p c hp => hKM p c hp)
   have hone : ∀ u ∈ news, u.oneCell' = true := by
    intro u hu
    obtain ⟨q, hq, rfl⟩ := List.mem_iff_getElem.1 hu
    have hql : q / d.sz < ys.length := by
     rw [Nat.div_lt_iff_lt_mul hs0]
     rw [← hnM.1]
     exact hq
    have hc := hnM.2 (q / d.sz) _ (List.getElem?_eq_getElem hql)
    refine d.K_one (d.K_of_M hc) _ ?_
    rw [List.mem_iff_getElem?]
    refine ⟨q % d.sz, ?_⟩
    rw [List.getElem?_take, if_pos (Nat.mod_lt _ hs0), List.getElem?_drop, Nat.mul_comm, Nat.div_add_mod, List.getElem?_eq_getElem hq]
   obtain ⟨v1, w1, hrun, h2, hg, _, hat⟩ := run_append_own_at (P := P) W base t o.type e i0 z d.sz bytes ht hi hz0 hz1 hz2 hz hs0 v xs.length inner hown ad m c news (by rw [hnM.1, hm]) hnc hone (by simp only [maxLen]; omega) hl hbase
   have hat' : v1.ownBlock = v.ownBlock ∨ ∃ b, v1.ownBlock = some b ∧ W.heap.size ≤ b := by
    rcases hat with hat | hat
    ·exact .inl hat
    ·exact .inr ⟨_, hat, Nat.le_refl _⟩
   have hne : ∀ k, some k ≠ v.ownBlock → k < W.heap.size → some k ≠ v1.ownBlock := by
    intro k hk hlt
    rcases hat' with hat | ⟨b, hb, hle⟩
    ·rw [hat]; exact hk
    ·rw [hb]
     intro he
     injection he with he
     omega
   have step : ∀ {q : α} {c : List Value} {o : Nat → Prop}, d.M W base o q c → (∀ k, o k → ok k ∧ some k ≠ v.ownBlock) → d.M w1 base (fun k => ok k ∧ some k ≠ v1.ownBlock) q c := by
    intro q c o hq ho
    have h1 := d.M_move (w1 := w1) (fun k hk => hg.block k hk.2.2.1 (ho k hk.1).2) (d.M_bound hq)
    exact d.M_mono (fun k hk => ⟨(ho k hk.1).1, hne k (ho k hk.1).2 hk.2.2.1⟩) h1
   refine ⟨v1, w1, hrun, ⟨fun k hk => ?_, inner ++ news, by rw [List.length_append, hm]; exact h2, reps_append (hr.imp_ (fun _ _ hq => step hq (fun _ hk => hk))) (hnM.imp_ (fun _ _ hq => step hq hokp))⟩, hg, hat'⟩
   rcases hat' with hat | ⟨b, hb, hle⟩
   ·exact hok k (hat ▸ hk)
   ·rw [hb] at hk
    injection hk with hk
    exact hfresh k (by omega)
 obtain ⟨v1, w1, hr1, h1, hg, hat⟩ := hrun
 refine wpList_plain hgd fun K hK => ?_
 unfold Oper.wp execOp
 simp only [ho, resolve, invoke, builtin, Sem.run_bind, Sem.run_pure, Result.andThen_ok, List.map_toArray, List.map_cons, List.map_nil, hs, hx, hr1]
 exact hK _ _ (h v1 w1 h1 (HB.grown hg hbase (own_base hown)) hg hat)
end
end Kd
namespace Kd
section
variable {P : Program} {ops : Array Oper} {rest : List Oper} {o : Oper} {a : Act} {Q : Exit → Act → World → Prop} {α : Type}
end
end Kd
namespace Kd
section
variable {α : Type} {k : Kd α} {w : World} {A : Option Addr} {xs : List α} {m c : Nat}
end
end Kd
section
variable {P : Program}
end
namespace Kd
section
variable {α β : Type} {d : Kd α} {d' : Kd β} {e e' base base' n : Nat} {ok ok' : Nat → Prop} {w W w1 W1 : World} {v u : Value} {xs : List α} {ys : List β} {A : Option Addr} {c : Nat}
end
section
variable {α : Type} {enc : α → Value} {h1 : ∀ x, (enc x).oneCell' = true} {w W : World} {A : Option Addr} {n g : Nat} {xs : List α}
end
end Kd
namespace Kd
section
variable {α : Type} {d : Kd α} {e base g : Nat} {ok : Nat → Prop} {w w1 : World} {v : Value} {xs : List α} {o : Obj}
end
end Kd
section
variable {P : Program} {ops : Array Oper} {rest : List Oper} {o : Oper} {a : Act} {Q : Exit → Act → World → Prop}
end
namespace Kd
section
variable {α : Type} {enc : α → Value} {h1 : ∀ x, (enc x).oneCell' = true} {e base g n cap : Nat} {ok : Nat → Prop} {W : World} {xs : List α}
end
end Kd
section
variable {P : Program} {ops : Array Oper} {rest : List Oper} {o : Oper} {a : Act} {Q : Exit → Act → World → Prop}
theorem store_event {W w1 : World} (hgd : o.guard = none) {t : TypeId} {p : Tmp} {v : Operand} (_ho : o.op = .store t (.tmp p) v) (hN : o.dst = none)
  (hrun : (execOp a.eval o).run P W = .ok .skip w1) (h : ∀ w', w' = w1 → wpList P ops Q rest a w') : wpList P ops Q (o :: rest) a W := by
 refine wpList_plain hgd fun K hK => ?_
 unfold Oper.wp
 rw [hrun]
 show K (a.put o.dst undef) w1
 rw [hN]
 exact hK _ _ (h _ rfl)
end
namespace Kd
section
variable {α : Type} {enc : α → Value} {h1 : ∀ x, (enc x).oneCell' = true} {e base g n cap : Nat} {ok : Nat → Prop} {W : World} {xs : List α}
end
end Kd
section
variable {P : Program} {ops : Array Oper} {rest : List Oper} {o : Oper} {a : Act} {Q : Exit → Act → World → Prop} {W : World}
end
section
variable {P : Program} {ops : Array Oper} {o : Oper} {a : Act} {Q : Exit → Act → World → Prop} {Kc : Act → World → Prop}
namespace Kd
variable {α : Type}
end Kd
end
section
variable {P : Program} {tmps : Array Value} {w : World}
end
namespace Kd
section
variable {P : Program} {α : Type}
end
section
variable {P : Program} {ops : Array Oper} {rest : List Oper} {o : Oper} {a : Act} {Q : Exit → Act → World → Prop} {Kc : Act → World → Prop} {α : Type}
end
end Kd
end Go.Proofs.YtnbbbeghgomnoaaW.PrintWords
namespace Go.Proofs.YtnbbbeghgomnoaaW.PrintLast
open Go.Proofs.YtnbbbeghgomnoaaW.PrintWords (Aside0)
def freeT (T : List (List Nat × List Nat)) (l : List Bool) (i : Nat) : Bool := match T[i]? with
 | some r => r.2.all (fun j => l.getD j true)
 | none => false
def closedT (T : List (List Nat × List Nat)) (l : List Bool) : Bool := (List.range T.length).all fun j => !l.getD j false || match T[j]? with
 | some r => r.1.all (fun k => l.getD k false)
 | none => true
def reachT (T : List (List Nat × List Nat)) (i : Nat) : Nat → Nat → Bool
 | 0, _ => false
 | fuel + 1, d => match T[d]? with
  | some r => r.1.any fun j => j == i || reachT T i fuel j
  | none => false
def lastT (T : List (List Nat × List Nat)) (l : List Bool) (ds : List Nat) (i : Nat) : Bool := ds.all fun d => l.getD d true || reachT T i T.length d
section
variable {md : Region.Mode} {ops : Array Oper} {T : Bool × List (List Nat × List Nat)} {l l' li lj lk : Array Bool} {ds : List Nat} {i j k : Nat}
theorem needs_any (o : Oper) (p : Nat → Bool) : o.after.any (fun e => Region.binds md e && p e.on) = (needsOf md o).any p := by
 unfold needsOf
 rw [← Array.any_toList]
 induction o.after.toList with
 | nil => rfl
 | cons e r ih =>
  rw [List.any_cons, ih, List.filter_cons]
  cases h : Region.binds md e <;> simp
theorem free_eq : Region.free md ops l i = freeT (rtab md ops).2 l.toList i := by
 unfold Region.free freeT
 cases h : ops[i]? with
 | none => rw [rtab_none h]
 | some oi =>
  rw [rtab_some h]
  simp only [clashOf]
  rw [List.all_filter]
  congr 1
  funext j
  rw [gd]
  cases hj : ops[j]? with
  | none => cases (j == i) <;> cases (l.toList.getD j true) <;> simp
  | some oj =>
   cases (j == i) <;> cases (l.toList.getD j true) <;> cases (oj.after.any (fun e => Region.binds md e && e.on == i) || oi.apart ops oj) <;> simp_all
theorem closed_eq : Region.closedB md ops l = closedT (rtab md ops).2 l.toList := by
 unfold Region.closedB closedT
 rw [rtab_length]
 congr 1
 funext j
 rw [gd]
 cases h : ops[j]? with
 | none => rw [rtab_none h]
 | some o =>
  rw [rtab_some h]
  simp only
  rw [← needs_all]
  simp only [gd]
theorem reach_eq : ∀ (fuel d : Nat), Region.reachB md ops i fuel d = reachT (rtab md ops).2 i fuel d
 | 0, _ => rfl
 | fuel + 1, d => by
  unfold Region.reachB reachT
  cases h : ops[d]? with
  | none => rw [rtab_none h]
  | some o =>
   rw [rtab_some h]
   simp only
   rw [← needs_any]
   congr 1
   funext e
   rw [reach_eq fuel]
theorem last_eq : Region.lastB md ops l ds i = lastT (rtab md ops).2 l.toList ds i := by
 unfold Region.lastB lastT
 rw [rtab_length]
 congr 1
 funext d
 rw [gd, reach_eq]
theorem set_of (h : (l.toList.set i true == l'.toList) = true) : (l.setIfInBounds i true == l') = true := by
 rw [beq_iff_eq] at h ⊢
 apply Array.ext'
 rw [Array.toList_setIfInBounds]
 exact h
def anyT (T : Bool × List (List Nat × List Nat)) (l l' : List Bool) (i : Nat) : Bool := T.1 && freeT T.2 l i && readyAt T.2 l i && (l.set i true == l')
theorem any_of (hT : rtab md ops = T) (h : anyT T l.toList l'.toList i = true) : anyB md ops l l' i = true := by
 simp only [anyT, Bool.and_eq_true] at h
 obtain ⟨⟨⟨h1, h2⟩, h3⟩, h4⟩ := h
 have h5 := readyAt_mem h3 hT
 have h6 := set_of h4
 subst hT
 simp only [anyB, Bool.and_eq_true]
 exact ⟨⟨⟨h1, by rw [free_eq]; exact h2⟩, h5⟩, h6⟩
def takeT (T : Bool × List (List Nat × List Nat)) (ds : List Nat) (l l' : List Bool) (i : Nat) : Bool := T.1 && freeT T.2 l i && readyAt T.2 l i && closedT T.2 l && lastT T.2 l ds i && (l.set i true == l')
theorem take_of (hT : rtab md ops = T) (h : takeT T ds l.toList l'.toList i = true) : takeB md ops ds l l' i = true := by
 simp only [takeT, Bool.and_eq_true] at h
 obtain ⟨⟨⟨⟨⟨h1, h2⟩, h3⟩, h4⟩, h5⟩, h6⟩ := h
 have h7 := readyAt_mem h3 hT
 have h8 := set_of h6
 subst hT
 simp only [takeB, Bool.and_eq_true]
 exact ⟨⟨⟨⟨⟨h1, by rw [free_eq]; exact h2⟩, h7⟩, by rw [closed_eq]; exact h4⟩, by rw [last_eq]; exact h5⟩, h8⟩
theorem one_of (hT : rtab md ops = T) (h : (readyT T.2 l.toList == [i] && l.toList.set i true == l'.toList) = true) : readyB md ops l l' i = true := by
 simp only [Bool.and_eq_true] at h
 obtain ⟨h1, h2⟩ := h
 subst hT
 simp only [readyB, Bool.and_eq_true]
 exact ⟨by rw [ready_eq]; exact h1, set_of h2⟩
theorem done_of (hT : rtab md ops = T) (h : (readyT T.2 l.toList == []) = true) : (Region.ready md ops l == []) = true := by
 subst hT
 rw [ready_eq]
 exact h
def upM (B : List Nat) (d : Nat) : List Nat → Nat
 | [] => 0
 | n :: r => (2 ^ n ||| (if n < d then B.getD n 0 else 0)) ||| upM B d r
def waitsOk (T : List (List Nat × List Nat)) (B : List Nat) : Bool := (List.range T.length).all fun d => match T[d]? with
 | some r => (B.getD d 0 ||| upM B d r.1) == upM B d r.1
 | none => false
theorem upM_bit {B : List Nat} {d i : Nat} : ∀ {ns : List Nat}, (upM B d ns).testBit i = true → ∃ n ∈ ns, n = i ∨ (n < d ∧ (B.getD n 0).testBit i = true)
 | [], h => by simp [upM] at h
 | n :: r, h => by
  unfold upM at h
  rw [Nat.testBit_or, Nat.testBit_or, Bool.or_eq_true, Bool.or_eq_true] at h
  rcases h with (h | h) | h
  ·rw [Nat.testBit_two_pow] at h
   exact ⟨n, List.mem_cons_self, .inl (by simpa using h)⟩
  ·by_cases hn : n < d
   ·rw [if_pos hn] at h
    exact ⟨n, List.mem_cons_self, .inr ⟨hn, h⟩⟩
   ·rw [if_neg hn] at h
    simp at h
  ·obtain ⟨m, hm, h2⟩ := upM_bit h
   exact ⟨m, List.mem_cons_of_mem _ hm, h2⟩
theorem reach_bit {T : List (List Nat × List Nat)} {B : List Nat} (hB : waitsOk T B = true) : ∀ (fuel d : Nat), d < fuel → d < T.length → (B.getD d 0).testBit i = true → reachT T i fuel d = true
 | 0, d, h, _, _ => by omega
 | fuel + 1, d, h, hd, hb => by
  have h1 := List.all_eq_true.1 hB d (List.mem_range.2 hd)
  cases hr : T[d]? with
  | none => rw [hr] at h1; simp at h1
  | some r =>
   rw [hr] at h1
   simp only [beq_iff_eq] at h1
   have h2 : (upM B d r.1).testBit i = true := by rw [← h1, Nat.testBit_or, hb, Bool.true_or]
   obtain ⟨n, hn, h3⟩ := upM_bit h2
   unfold reachT
   rw [hr]
   simp only
   rw [List.any_eq_true]
   refine ⟨n, hn, ?_⟩
   rcases h3 with rfl | ⟨h4, h5⟩
   ·simp
   ·rw [reach_bit hB fuel n (by omega) (by omega) h5, Bool.or_true]
def lastW (T : List (List Nat × List Nat)) (B : List Nat) (l : List Bool) (ds : List Nat) (i : Nat) : Bool := ds.all fun d => l.getD d true || (decide (d < T.length) && (B.getD d 0).testBit i)
def takeW (T : Bool × List (List Nat × List Nat)) (B : List Nat) (ds : List Nat) (l l' : List Bool) (i : Nat) : Bool := T.1 && freeT T.2 l i && readyAt T.2 l i && closedT T.2 l && lastW T.2 B l ds i && (l.set i true == l')
theorem take_ofW {B : List Nat} (hT : rtab md ops = T) (hB : waitsOk T.2 B = true) (h : takeW T B ds l.toList l'.toList i = true) : takeB md ops ds l l' i = true := by
 refine take_of hT ?_
 simp only [takeW, takeT, Bool.and_eq_true] at h ⊢
 obtain ⟨⟨⟨⟨⟨h1, h2⟩, h3⟩, h4⟩, h5⟩, h6⟩ := h
 refine ⟨⟨⟨⟨⟨h1, h2⟩, h3⟩, h4⟩, ?_⟩, h6⟩
 unfold lastW at h5
 unfold lastT
 rw [List.all_eq_true] at h5 ⊢
 intro d hd
 have h7 := h5 d hd
 rw [Bool.or_eq_true, Bool.and_eq_true, decide_eq_true_eq] at h7
 rcases h7 with h7 | ⟨h8, h9⟩
 ·rw [h7, Bool.true_or]
 ·rw [reach_bit hB _ d h8 h8 h9, Bool.or_true]
theorem with_tabW {P : Program} {Q : Exit → Act → World → Prop} {S : World → Prop} {n : Nat} {a : Act} {w : World} {B : List Nat} (hT : rtab md ops = T) (hB : waitsOk T.2 B = true) (h : Aside0 (rtab md ops = T) → Aside0 (waitsOk T.2 B = true) → wpAnyLast P md ops Q S ds n l a w) : wpAnyLast P md ops Q S ds n l a w := h ⟨hT⟩ ⟨hB⟩
end
def opsIn : Code → Nat → Option (Array Oper)
 | .region id ops _, k => if id == k then some ops else none
 | .seq a b, k => match opsIn a k with
  | some o => some o
  | none => opsIn b k
 | .cond _ a b, k => match opsIn a k with
  | some o => some o
  | none => opsIn b k
 | .block _ c, k => opsIn c k
 | .loop c, k => opsIn c k
 | .scope c, k => opsIn c k
 | .rangeFunc _ _ a b, k => match opsIn a k with
  | some o => some o
  | none => opsIn b k
 | _, _ => none
def opsOf (f : Func) (k : Nat) : Array Oper := ((f.body.bind fun c => opsIn c k)).getD #[]
end Go.Proofs.YtnbbbeghgomnoaaW.PrintLast
namespace Go.Proofs.YtnbbbeghgomnoaaW.PrintWords
open Go.RowKit
namespace Kd
theorem heap_int (k : IntKind) : Heap (Kd.int k) := ⟨fun _ h => h⟩
theorem heap_slice {α : Type} {d : Kd α} (e : Nat) (hd : Heap d) : Heap (slice e d) := ⟨by
 rintro w w1 x cs hb ⟨A, c, rfl, hl, hr⟩
 exact ⟨A, c, rfl, hl, hd.C hb hr⟩⟩
theorem heap_pair {α β : Type} {a : Kd α} {b : Kd β} (ha : Heap a) (hb' : Heap b) : Heap (pair a b) := ⟨by
 rintro w w1 x cs hb ⟨c0, c1, rfl, h0, h1⟩
 exact ⟨c0, c1, rfl, ha.K hb h0, hb'.K hb h1⟩⟩
theorem heap_iso {α β : Type} {d : Kd α} (f : β → α) (hd : Heap d) : Heap (iso d f) := ⟨fun hb h => hd.K hb h⟩
section
variable {α : Type} {d : Kd α} {e base g n c : Nat} {ok : Nat → Prop} {w w0 W : World} {A : Option Addr} {xs : List α}
end
end Kd
end Go.Proofs.YtnbbbeghgomnoaaW.PrintWords
namespace Go.Proofs.YtnbbbeghgomnoaaW.PrintWords
open Go.RowKit
namespace Foot
variable {P Q : World → Prop} {W W1 : World} {ok ok' : Nat → Prop}
theorem old (h : Foot P W ok) (hb : Below W.heap.size W W1) : Foot P W1 (fun k => ok k ∧ k < W.heap.size) := (h.bound).step (fun k _ hlt => hb.block k hlt)
end Foot
namespace Kd
section
variable {α β : Type} {d : Kd α} {e base n n' cc g N : Nat} {ok ok' okp S : Nat → Prop} {w w0 w1 W W1 : World} {A A' : Option Addr} {u v v1 : Value} {xs : List α} {xs' : List β} {d' : Kd β} {x : α} {c : List Value}
theorem F_now (h : F d W ok A n xs) : d.C W A n xs := Foot.now h
theorem F_mono (h : F d W ok A n xs) (hok : ∀ k, ok k → ok' k) : F d W ok' A n xs := Foot.mono h hok
theorem F_bound (h : F d W ok A n xs) : F d W (fun k => ok k ∧ k < W.heap.size) A n xs := Foot.bound h
theorem F_step (h : F d W ok A n xs) (hm : ∀ k, ok k → k < W.heap.size → W1.heap[k]? = W.heap[k]?) : F d W1 ok A n xs := Foot.step h hm
theorem F_below (h : F d W ok A n xs) (hb : Below W.heap.size W W1) : F d W1 ok A n xs := F_step h (fun k _ hlt => hb.block k hlt)
theorem F_alloc (h : F d W ok A n xs) (o : Obj) : F d (W.alloc o) ok A n xs := F_below h (below_alloc (Below.refl _ _) o)
theorem F_drew (h : F d W ok A n xs) : F d W.drew ok A n xs := F_below h (below_drew (Below.refl _ _))
theorem F_drewN (h : F d W ok A n xs) (m : Nat) : F d (W.drewN m) ok A n xs := F_below h (pw_below_drewN (Below.refl _ _) m)
theorem F_far (h : F d W ok A n xs) {p : Addr} (hok : ∀ k, ok k → k ≠ p.block) (u : Value) : F d (W.setCell p u) ok A n xs := F_step h (fun k hk _ => Below.heap_setCell W p u k (hok k hk))
theorem F_elder' (h : F d W ok A n xs) (hbase : ∀ k, v.ownBlock = some k → W.heap.size ≤ k) (hb : Below W.heap.size W W1) : F d W1 (fun k => ok k ∧ some k ≠ v.ownBlock) A n xs :=
 F_mono (Foot.old h hb) (fun k hk => ⟨hk.1, fun he => by have := hbase k he.symm; have := hk.2; omega⟩)
theorem F_elderB (h : F d W ok A n xs) (a : Nat) (ha : W.heap.size ≤ a) : F d W (fun k => ok k ∧ k ≠ a) A n xs := F_mono (F_bound h) (fun k hk => ⟨hk.1, by have := hk.2; omega⟩)
theorem F_after (h : F d W (fun k => ok k ∧ some k ≠ v.ownBlock) A n xs) (hg : W.grownBy W1 v.ownBlock) (hat : v1.ownBlock = v.ownBlock ∨ ∃ b, v1.ownBlock = some b ∧ W.heap.size ≤ b) : F d W1 (fun k => ok k ∧ some k ≠ v1.ownBlock) A n xs := by
 refine F_mono (Foot.step (F_bound h) (fun k hk hlt => hg.block k hlt hk.1.2)) (fun k hk => ⟨hk.1.1, ?_⟩)
 rcases hat with hat | ⟨b, hb, hle⟩
 ·rw [hat]; exact hk.1.2
 ·rw [hb]
  intro he
  injection he with he
  have := hk.2
  omega
theorem F_old (h : F d W ok A n xs) (hb : Below W.heap.size W W1) : F d W1 (fun k => ok k ∧ k < W.heap.size) A n xs := Foot.old h hb
theorem F_told (h : F d W1 (fun k => ok k ∧ k < N) A n xs) (hbase : ∀ k, v.ownBlock = some k → N ≤ k) : F d W1 (fun k => (ok k ∧ some k ≠ v.ownBlock) ∧ k < N) A n xs :=
 F_mono h (fun k hk => ⟨⟨hk.1, fun he => Nat.lt_irrefl _ (Nat.lt_of_lt_of_le hk.2 (hbase k he.symm))⟩, hk.2⟩)
theorem C_F (hd : Heap d) (h : d.C w A n xs) : F d w (fun k => k < w.heap.size) A n xs := fun _ hW => hd.C (fun k hlt => hW k hlt hlt) h
end
end Kd
end Go.Proofs.YtnbbbeghgomnoaaW.PrintWords
namespace Go.Proofs.YtnbbbeghgomnoaaW.PrintWords
open Go.RowKit
namespace Kd
section
variable {α : Type} {d : Kd α} {e base n cc g : Nat} {ok ok' okp S : Nat → Prop} {w w1 W W1 : World} {A : Option Addr} {u v v1 : Value} {xs : List α} {x : α} {c : List Value}
theorem N_lt (h : N d e w base ok v xs) : ∀ k, v.ownBlock = some k → k < w.heap.size := by
 obtain ⟨_, rows, _, hR, _⟩ := h
 exact R_lt hR
theorem N_base (h : N d e w base ok v xs) : ∀ k, v.ownBlock = some k → base ≤ k := by
 obtain ⟨_, rows, _, hR, _⟩ := h
 exact R_base hR
theorem N_bound (h : N d e w base ok v xs) : N d e w base (fun k => ok k ∧ k < w.heap.size) v xs := by
 have hlt := N_lt h
 obtain ⟨h0, rows, hl, hR, hf⟩ := h
 exact ⟨fun k hk => ⟨h0 k hk, hlt k hk⟩, rows, hl, hR, fun j x c hx hc => FK_mono (FK_bound (hf j x c hx hc)) (fun k hk => ⟨⟨hk.1.1, hk.2⟩, hk.1.2⟩)⟩
theorem N_elder' (h : N d e W base ok v xs) (hbase : ∀ k, u.ownBlock = some k → W.heap.size ≤ k) (hb : Below W.heap.size W w1) : N d e w1 base (fun k => ok k ∧ some k ≠ u.ownBlock) v xs :=
 N_mono (N_below (N_bound h) hb) (fun k hk => ⟨hk.1, fun he => by have := hbase k he.symm; have := hk.2; omega⟩)
theorem N_old (h : N d e W base ok v xs) (hb : Below W.heap.size W w1) : N d e w1 base (fun k => ok k ∧ k < W.heap.size) v xs := N_below (N_bound h) hb
theorem N_told {b : Nat} (h : N d e w1 base (fun k => ok k ∧ k < b) v xs) (hbase : ∀ k, u.ownBlock = some k → b ≤ k) : N d e w1 base (fun k => (ok k ∧ some k ≠ u.ownBlock) ∧ k < b) v xs :=
 N_mono h (fun k hk => ⟨⟨hk.1, fun e => Nat.lt_irrefl _ (Nat.lt_of_lt_of_le hk.2 (hbase k e.symm))⟩, hk.2⟩)
end
end Kd
end Go.Proofs.YtnbbbeghgomnoaaW.PrintWords
namespace Go.Proofs.YtnbbbeghgomnoaaW.PrintMore
open Go.RowKit Go.Proofs.YtnbbbeghgomnoaaW.PrintWords
namespace Kd
open Go.Proofs.YtnbbbeghgomnoaaW.PrintWords.Kd
end Kd
namespace Kd
open Go.Proofs.YtnbbbeghgomnoaaW.PrintWords.Kd
section
variable {α : Type} {d : Kd α} {e base g N : Nat} {ok : Nat → Prop} {W w1 : World} {u v : Value} {xs : List α}
end
end Kd
end Go.Proofs.YtnbbbeghgomnoaaW.PrintMore
namespace Go.Proofs.YtnbbbeghgomnoaaW.PrintWords
open Go.RowKit
section
variable {P : Program} {ops : Array Oper} {rest : List Oper} {o : Oper} {a : Act} {Q : Exit → Act → World → Prop} {W : World}
end
theorem shl_small {k : IntKind} {x y j : Int} (h : shl k x y = j) (hy : y ≤ k.bits) : k.wrap (x * 2 ^ y.toNat) = j := by rw [← h]; unfold shl; rw [Nat.min_eq_left (by omega)]
theorem shr_small {k : IntKind} {x y j : Int} (h : shr k x y = j) (hy : y ≤ k.bits) : x / 2 ^ y.toNat = j := by rw [← h]; unfold shr; rw [Nat.min_eq_left (by omega)]
namespace Kd
section
variable {α : Type} {d : Kd α} {e base : Nat} {ok : Nat → Prop} {W w1 : World} {v : Value} {xs : List α}
end
section
variable {α : Type} {d : Kd α} {e base g n cap : Nat} {ok oki okp : Nat → Prop} {W : World} {xs : List α} {i : Int} {c : List Value}
end
section
variable {α : Type} {d : Kd α} {e base b b' g N : Nat} {ok ok1 : Nat → Prop} {W W2 w1 : World} {u v : Value} {xs ys : List α} {S : Nat → Prop}
end
end Kd
end Go.Proofs.YtnbbbeghgomnoaaW.PrintWords
namespace Go.Proofs.YtnbbbeghgomnoaaW.PrintWords
open Go.RowKit
namespace Kd
section
variable {α β : Type} {d : Kd α} {e base base' n m c g N' lo hi : Nat} {ok ok' S : Nat → Prop} {w W w1 : World} {A : Option Addr} {ad : Addr} {u v v1 : Value} {xs : List α}
theorem V_map (h : V d e W base ok v xs) (hF : ∀ A, F d W ok A xs.length xs → F d w1 ok' A xs.length xs) : V d e w1 base' ok' v xs := by
 obtain ⟨A, c, hv, hl, hf⟩ := h
 exact ⟨A, c, hv, hl, hF A hf⟩
theorem V_mk (hl : xs.length ≤ c) (hf : F d W ok A xs.length xs) : V d e W base ok (.slice A xs.length c) xs := ⟨A, c, rfl, hl, hf⟩
theorem V_slice (h : V d e W base ok v xs) : ∃ A c, v = .slice A xs.length c := by
 obtain ⟨A, c, hv, _⟩ := h
 exact ⟨A, c, hv⟩
theorem V_at (h : V d e W base ok (.slice A n c) xs) : n = xs.length ∧ n ≤ c ∧ F d W ok A xs.length xs := by
 obtain ⟨A', c', hv, hl, hf⟩ := h
 injection hv with ha hn hc
 subst ha; subst hc
 exact ⟨hn, by rw [hn]; exact hl, hf⟩
theorem V_reads' (h : V d e W base ok (.slice A n c) xs) : n = xs.length ∧ n ≤ c ∧ d.C W A xs.length xs := ⟨(V_at h).1, (V_at h).2.1, F_now (V_at h).2.2⟩
theorem V_mono (h : V d e W base ok v xs) (hok : ∀ k, ok k → ok' k) : V d e W base ok' v xs := V_map h (fun _ hf => F_mono hf hok)
theorem V_lower (h : V d e W base ok v xs) (_ : base' ≤ base) : V d e W base' ok v xs := h
theorem V_below (h : V d e W base ok v xs) (hb : Below W.heap.size W w1) : V d e w1 base ok v xs := V_map h (fun _ hf => F_below hf hb)
theorem V_alloc (h : V d e W base ok v xs) (o : Obj) : V d e (W.alloc o) base ok v xs := V_map h (fun _ hf => F_alloc hf o)
theorem V_drew (h : V d e W base ok v xs) : V d e W.drew base ok v xs := V_map h (fun _ hf => F_drew hf)
theorem V_drewN (h : V d e W base ok v xs) (m : Nat) : V d e (W.drewN m) base ok v xs := V_map h (fun _ hf => F_drewN hf m)
theorem V_far (h : V d e W base ok v xs) {p : Addr} (hok : ∀ k, ok k → k ≠ p.block) (u : Value) : V d e (W.setCell p u) base ok v xs := V_map h (fun _ hf => F_far hf hok u)
theorem V_after (h : V d e W base (fun k => ok k ∧ some k ≠ u.ownBlock) v xs) (hg : W.grownBy w1 u.ownBlock) (hat : v1.ownBlock = u.ownBlock ∨ ∃ b, v1.ownBlock = some b ∧ W.heap.size ≤ b) : V d e w1 base (fun k => ok k ∧ some k ≠ v1.ownBlock) v xs := V_map h (fun _ hf => F_after hf hg hat)
theorem V_afterv (h : V d e W base (fun k => ok k ∧ some k ≠ v.ownBlock) u xs) (hg : W.grownBy w1 v.ownBlock) (hat : v1.ownBlock = v.ownBlock ∨ ∃ b, v1.ownBlock = some b ∧ W.heap.size ≤ b) : V d e w1 base (fun k => ok k ∧ some k ≠ v1.ownBlock) u xs := V_after h hg hat
theorem V_elder' (h : V d e W base ok v xs) (hbase : ∀ k, u.ownBlock = some k → W.heap.size ≤ k) (hb : Below W.heap.size W w1) : V d e w1 base (fun k => ok k ∧ some k ≠ u.ownBlock) v xs := V_map h (fun _ hf => F_elder' hf hbase hb)
theorem V_elderB (h : V d e W base ok v xs) (a : Nat) (ha : W.heap.size ≤ a) : V d e W base (fun k => ok k ∧ k ≠ a) v xs := V_map h (fun _ hf => F_elderB hf a ha)
theorem V_old (h : V d e W base ok v xs) (hb : Below W.heap.size W w1) : V d e w1 base (fun k => ok k ∧ k < W.heap.size) v xs := V_map h (fun _ hf => F_old hf hb)
theorem V_told (h : V d e w1 base (fun k => ok k ∧ k < N') v xs) (hbase : ∀ k, u.ownBlock = some k → N' ≤ k) : V d e w1 base (fun k => (ok k ∧ some k ≠ u.ownBlock) ∧ k < N') v xs := V_map h (fun _ hf => F_told hf hbase)
end
end Kd
end Go.Proofs.YtnbbbeghgomnoaaW.PrintWords
namespace Go.Proofs.Ytnbbbeghgomnoaa.X
open Go.RowKit Go.Proofs.YtnbbbeghgomnoaaW.PrintWords Go.Proofs.YtnbbbeghgomnoaaW.PrintLast Go.Proofs.YtnbbbeghgomnoaaW.PrintMore
attribute [local go_sem] max2_int min2_int max_two min_two max_three min_three max_four min_four
set_option linter.unusedVariables false
set_option linter.unusedSimpArgs false
theorem info85 : (Try.prog.info? 85).map (fun i => (i.zero, i.size, i.bytes)) = some (some (.agg #[(.int .i64 0), (.int .i64 0), (.int .i64 0)]), 3, 24) := by kernel_rfl
theorem k71_heap : Kd.Heap k71 := Kd.heap_iso _ (Kd.heap_pair (Kd.heap_slice 3 (Kd.heap_int .i64)) (Kd.heap_int .i64))
theorem k65_openM {w : World} {base : Nat} {ok : Nat → Prop} {x : S65} {cs : List Value} (h : k65.M w base ok x cs) : cs = [.int .i64 x.f0, .int .i64 x.f1] := by
 obtain ⟨_, _, rfl, rfl, rfl⟩ := h
 exact rfl
theorem k65_mkM (w : World) (base : Nat) (ok : Nat → Prop) (x : S65)  : k65.M w base ok x [.int .i64 x.f0, .int .i64 x.f1] := ⟨[.int .i64 x.f0], [.int .i64 x.f1], rfl, rfl, rfl⟩
theorem k85_openM {w : World} {base : Nat} {ok : Nat → Prop} {x : S85} {cs : List Value} (h : k85.M w base ok x cs) : cs = [.int .i64 x.f0, .int .i64 x.f1.f0, .int .i64 x.f1.f1] := by
 obtain ⟨_, _, rfl, rfl, s1⟩ := h
 obtain rfl := k65_openM s1
 exact rfl
theorem k85_mkM (w : World) (base : Nat) (ok : Nat → Prop) (x : S85)  : k85.M w base ok x [.int .i64 x.f0, .int .i64 x.f1.f0, .int .i64 x.f1.f1] := ⟨[.int .i64 x.f0], [.int .i64 x.f1.f0, .int .i64 x.f1.f1], rfl, rfl, (k65_mkM w base ok x.f1 )⟩
end Go.Proofs.Ytnbbbeghgomnoaa.X
namespace Go.Proofs.Ytnbbbeghgomnoaa.X
open Go.RowKit Go.Proofs.YtnbbbeghgomnoaaW.PrintWords Go.Proofs.YtnbbbeghgomnoaaW.PrintLast Go.Proofs.YtnbbbeghgomnoaaW.PrintMore
section
variable {w W0 W W' : World} {g g' : Nat} {o : Obj}
theorem sbs3 {g0 : Nat} {g1 : Nat} {g2 : Nat} (h : Aside0 (Below w.heap.size w W0)) (h0 : Aside0 (w.heap.size ≤ g0)) (h1 : Aside0 (w.heap.size ≤ g1)) (h2 : Aside0 (w.heap.size ≤ g2)) (hb : Below W.heap.size W W') (k : Below w.heap.size w W0 → w.heap.size ≤ g0 → w.heap.size ≤ g1 → w.heap.size ≤ g2 → Below w.heap.size w W := by intro k_ h0_ h1_ h2_; repeat (first | exact k_ | apply below_alloc | apply pw_below_drewN | apply below_drew1 | refine below_set ?_ h0_ | refine below_set ?_ h1_ | refine below_set ?_ h2_)) : Below w.heap.size w W' := below_step (k h.out h0.out h1.out h2.out) hb
theorem sN_ {α : Type} {d : Kd α} {e base : Nat} {ok : Nat → Prop} {v : Value} {xs : List α} (h : Aside0 (Kd.N d e W0 base ok v xs)) (k : Kd.N d e W0 base ok v xs → Kd.N d e W base ok v xs := by intro k_; (with_reducible repeat (first | apply Kd.N_alloc | apply Kd.N_drewN | apply Kd.N_drew)); exact k_) : Kd.N d e W base ok v xs := k h.out
end
section
variable {P : Program} {ops : Array Oper} {Q : Exit → Act → World → Prop} {md : Region.Mode} {S : World → Prop} {ds : List Nat}
end
section
variable {P : Program} {ops : Array Oper} {rest : List Oper} {Q : Exit → Act → World → Prop} {a : Act} {o : Oper} {W : World}
end
end Go.Proofs.Ytnbbbeghgomnoaa.X
namespace Go.Proofs.Ytnbbbeghgomnoaa.X
open Go.RowKit Go.Proofs.YtnbbbeghgomnoaaW.PrintWords Go.Proofs.YtnbbbeghgomnoaaW.PrintLast Go.Proofs.YtnbbbeghgomnoaaW.PrintMore
attribute [local go_sem] max2_int min2_int max_two min_two max_three min_three max_four min_four
set_option linter.unusedVariables false
set_option linter.unusedSimpArgs false
mutual
def posserref03_Before.l0 : Nat → List Int → List Int → Int → Option (Bool)
 | 0, _, _, _ => none
 | k + 1, x0, x1, x5 => if x5 < (x0.length : Int) then (posserref03_Before.j1 k x0 x1 x5 (decide (x5 < (x1.length : Int)))) else (posserref03_Before.j1 k x0 x1 x5 false)
def posserref03_Before.j1 : Nat → List Int → List Int → Int → Bool → Option (Bool)
 | 0, _, _, _, _ => none
 | k + 1, x0, x1, x5, x15 => if x15 = true then (if 0 ≤ x5 then (if x5 < (x0.length : Int) then (if x5 < (x1.length : Int) then (if (rd x0 x5) = (rd x1 x5) then (posserref03_Before.l0 k x0 x1 (wrap64 (x5 + 1))) else (some (decide ((rd x0 x5) < (rd x1 x5))))) else (none)) else (none)) else (none)) else (some (decide ((x0.length : Int) < (x1.length : Int))))
end
def posserref03_Before.f (k : Nat) (l0 : List Int) (l1 : List Int) : Option (Bool) := posserref03_Before.l0 k l0 l1 0
set_option maxHeartbeats 8000000 in
set_option maxRecDepth 100000 in
theorem posserref03_Before.calls (k : Nat) (A0 : Option Addr) (c0 : Nat) (l0 : List Int) (A1 : Option Addr) (c1 : Nat) (l1 : List Int) (r : Bool) (w : World) (hr0 : Kd.C (Kd.int .i64) w A0 l0.length l0) (hc0 : l0.length ≤ c0) (hr1 : Kd.C (Kd.int .i64) w A1 l1.length l1) (hc1 : l1.length ≤ c1) (h : posserref03_Before.f k l0 l1 = some r) :
  Calls Try.prog 51 #[.slice A0 l0.length c0, .slice A1 l1.length c1] w fun e w' => e = .returned (.bool r) ∧ Drawn0 w w' := by
 have HR0 := Aside0.mk hr0
 have HC0 := Aside0.mk hc0
 clear hr0 hc0
 have HR1 := Aside0.mk hr1
 have HC1 := Aside0.mk hc1
 clear hr1 hc1
 have H : (posserref03_Before.l0 k l0 l1 0) = some r := h
 clear h
 have H' := Aside0.mk H
 clear H
 go_enter Try.func51, Try.ntmps51
 go_wp2
 repeat (go_quiet (fail); try go_wp2)
 go_loopg [5] k (fun kq v5 w' => ∃ (x5_1 : Int), v5 = .int .i64 x5_1 ∧ Aside0 (posserref03_Before.l0 kq l0 l1 x5_1 = some r) ∧ Aside0 (kq ≤ k) ∧ Drawn0 w w')
 case atStart => exact ⟨(0), (by first | rfl | (simp; done) | (simp [*]; done)), H', ⟨Nat.le_refl _⟩, by repeat (first | exact Drawn0.refl _ | apply Drawn0.step)⟩
 case round =>
  clear H'
  try clear c1
  try clear p2
  obtain ⟨x5_1, rfl, HA, HK1, ⟨m1, rfl⟩⟩ := hrel
  cases gk with
  | zero => exact absurd HA.out (by simp [posserref03_Before.l0])
  | succ k1 =>
   have H := HA.out
   clear HA
   simp only [posserref03_Before.l0] at H
   have HC3 := Aside0.mk H
   clear H
   go_upto_region 2 with (fail)
   repeat (go_quiet (fail); go_upto_region 2 with (fail))
   go_cut [15] (fun v15 wc => ∃ (kq : Nat) (x15_2 : Bool), v15 = .bool x15_2 ∧ Aside0 (posserref03_Before.j1 kq l0 l1 x5_1 x15_2 = some r) ∧ Aside0 (kq ≤ k1) ∧ Drawn0 w wc)
   case first =>
    have H := HC3.out
    clear HC3
    by_cases c4 : x5_1 < (l0.length : Int)
    ·rw [if_pos c4] at H
     have c4b0 : decide (x5_1 < (l0.length : Int)) = true := decide_eq_true c4
     clear c4
     (first | rw [c4b0] | (simp only [i64_w, i32_w]; rw [c4b0]) | skip)
     have H' := Aside0.mk H
     clear H
     go_wp2
     repeat (go_quiet (fail); try go_wp2)
     go_meet
     case rel => exact ⟨_, (decide (x5_1 < (l1.length : Int))), (by first | rfl | (simp; done) | (simp [*]; done)), H', ⟨by have := HK1.out; first | omega | exact Nat.le_refl _⟩, by repeat (first | exact Drawn0.refl _ | apply Drawn0.step)⟩
    ·rw [if_neg c4] at H
     have c4b0 : decide (x5_1 < (l0.length : Int)) = false := decide_eq_false c4
     clear c4
     (first | rw [c4b0] | (simp only [i64_w, i32_w]; rw [c4b0]) | skip)
     have H' := Aside0.mk H
     clear H
     go_wp2
     repeat (go_quiet (fail); try go_wp2)
     go_meet
     case rel => exact ⟨_, (false), (by first | rfl | (simp; done) | (simp [*]; done)), H', ⟨by have := HK1.out; first | omega | exact Nat.le_refl _⟩, by repeat (first | exact Drawn0.refl _ | apply Drawn0.step)⟩
   case rest =>
    clear HC3
    try clear c1
    try clear p2
    try clear c4
    try clear c4b0
    try clear p2
    obtain ⟨kq, x15_2, rfl, HA, HJ2, ⟨mc2, rfl⟩⟩ := hcut
    cases kq with
    | zero => exact absurd HA.out (by simp [posserref03_Before.j1])
    | succ kj2 =>
     have H := HA.out
     clear HA
     simp only [posserref03_Before.j1] at H
     by_cases c5 : x15_2 = true
     ·subst c5
      have H1 : (if 0 ≤ x5_1 then (if x5_1 < (l0.length : Int) then (if x5_1 < (l1.length : Int) then (if (rd l0 x5_1) = (rd l1 x5_1) then (posserref03_Before.l0 kj2 l0 l1 (wrap64 (x5_1 + 1))) else (some (decide ((rd l0 x5_1) < (rd l1 x5_1))))) else (none)) else (none)) else (none)) = some r := by rw [if_pos rfl] at H; exact H
      clear H
      have H := H1
      clear H1
      by_cases c6 : 0 ≤ x5_1
      ·rw [if_pos c6] at H
       have c6b0 : decide (0 ≤ x5_1) = true := decide_eq_true c6
       clear c6
       by_cases c7 : x5_1 < (l0.length : Int)
       ·rw [if_pos c7] at H
        have c7b0 : decide (x5_1 < (l0.length : Int)) = true := decide_eq_true c7
        clear c7
        by_cases c8 : x5_1 < (l1.length : Int)
        ·rw [if_pos c8] at H
         have c8b0 : decide (x5_1 < (l1.length : Int)) = true := decide_eq_true c8
         clear c8
         by_cases c9 : (rd l0 x5_1) = (rd l1 x5_1)
         ·rw [if_pos c9] at H
          have c9b0 : ((rd l0 x5_1) == (rd l1 x5_1)) = true := beq_iff_eq.mpr c9
          have c9b1 : ((rd l0 x5_1) != (rd l1 x5_1)) = false := bne_eq_false_iff_eq.mpr c9
          clear c9
          have H' := Aside0.mk H
          clear H
          have p280 : 0 ≤ (x5_1 : Int) := of_decide_eq_true (by first | (with_reducible assumption) | assumption)
          have q280 : x5_1 < (l0.length : Int) := of_decide_eq_true (by first | (with_reducible assumption) | assumption)
          obtain ⟨ad280, e280, hx280_0⟩ := Kd.at_int HR0.out x5_1 p280 q280
          cases e280
          replace p280 := eq_true p280
          replace q280 := eq_true q280
          have p281 : 0 ≤ (x5_1 : Int) := of_decide_eq_true (by first | (with_reducible assumption) | assumption)
          have q281 : x5_1 < (l1.length : Int) := of_decide_eq_true (by first | (with_reducible assumption) | assumption)
          obtain ⟨ad281, e281, hx281_0⟩ := Kd.at_int HR1.out x5_1 p281 q281
          cases e281
          replace p281 := eq_true p281
          replace q281 := eq_true q281
          go_wp2
          repeat (go_quiet (fail); try go_wp2)
          go_roundg kj2
          case measure => have := HK1.out; have := HJ2.out; omega
          case rel => exact ⟨(wrap64 (x5_1 + 1)), (by first | rfl | (simp; done) | (simp [*]; done)), H', ⟨by have := HK1.out; have := HJ2.out; omega⟩, by repeat (first | exact Drawn0.refl _ | apply Drawn0.step)⟩
         ·rw [if_neg c9] at H
          have c9b0 : ((rd l0 x5_1) == (rd l1 x5_1)) = false := beq_eq_false_iff_ne.mpr c9
          have c9b1 : ((rd l0 x5_1) != (rd l1 x5_1)) = true := bne_iff_ne.mpr c9
          obtain rfl := Option.some.inj H
          have p280 : 0 ≤ (x5_1 : Int) := of_decide_eq_true (by first | (with_reducible assumption) | assumption)
          have q280 : x5_1 < (l0.length : Int) := of_decide_eq_true (by first | (with_reducible assumption) | assumption)
          obtain ⟨ad280, e280, hx280_0⟩ := Kd.at_int HR0.out x5_1 p280 q280
          cases e280
          replace p280 := eq_true p280
          replace q280 := eq_true q280
          have p281 : 0 ≤ (x5_1 : Int) := of_decide_eq_true (by first | (with_reducible assumption) | assumption)
          have q281 : x5_1 < (l1.length : Int) := of_decide_eq_true (by first | (with_reducible assumption) | assumption)
          obtain ⟨ad281, e281, hx281_0⟩ := Kd.at_int HR1.out x5_1 p281 q281
          cases e281
          replace p281 := eq_true p281
          replace q281 := eq_true q281
          have p282 : 0 ≤ (x5_1 : Int) := of_decide_eq_true (by first | (with_reducible assumption) | assumption)
          have q282 : x5_1 < (l0.length : Int) := of_decide_eq_true (by first | (with_reducible assumption) | assumption)
          obtain ⟨ad282, e282, hx282_0⟩ := Kd.at_int HR0.out x5_1 p282 q282
          obtain rfl : ad280 = ad282 := (by injection e282)
          replace p282 := eq_true p282
          replace q282 := eq_true q282
          have p283 : 0 ≤ (x5_1 : Int) := of_decide_eq_true (by first | (with_reducible assumption) | assumption)
          have q283 : x5_1 < (l1.length : Int) := of_decide_eq_true (by first | (with_reducible assumption) | assumption)
          obtain ⟨ad283, e283, hx283_0⟩ := Kd.at_int HR1.out x5_1 p283 q283
          obtain rfl : ad281 = ad283 := (by injection e283)
          replace p283 := eq_true p283
          replace q283 := eq_true q283
          go_wp2
          repeat (go_quiet (fail); try go_wp2)
          go_ret
          exact ⟨by first | rfl | (simp; done) | (simp [*]; done), by repeat (first | exact Drawn0.refl _ | apply Drawn0.step)⟩
        ·rw [if_neg c8] at H
         exact absurd H (by simp)
       ·rw [if_neg c7] at H
        exact absurd H (by simp)
      ·rw [if_neg c6] at H
       exact absurd H (by simp)
     ·replace c5 := Bool.eq_false_iff.mpr c5
      subst c5
      have H1 : (some (decide ((l0.length : Int) < (l1.length : Int)))) = some r := by rw [if_neg (show ¬ (false = true) by decide)] at H; exact H
      clear H
      have H := H1
      clear H1
      obtain rfl := Option.some.inj H
      go_wp2
      repeat (go_quiet (fail); try go_wp2)
      go_ret
      exact ⟨by first | rfl | (simp; done) | (simp [*]; done), by repeat (first | exact Drawn0.refl _ | apply Drawn0.step)⟩
end Go.Proofs.Ytnbbbeghgomnoaa.X
namespace Go.Proofs.Ytnbbbeghgomnoaa.X
open Go.RowKit Go.Proofs.YtnbbbeghgomnoaaW.PrintWords Go.Proofs.YtnbbbeghgomnoaaW.PrintLast Go.Proofs.YtnbbbeghgomnoaaW.PrintMore
attribute [local go_sem] max2_int min2_int max_two min_two max_three min_three max_four min_four
set_option linter.unusedVariables false
set_option linter.unusedSimpArgs false
def posserref03_Shorter.f (k : Nat) (l0 : List Int) (l1 : List Int) : Option (Bool) := if (l0.length : Int) < (l1.length : Int) then (some true) else (if (l0.length : Int) = (l1.length : Int) then ((posserref03_Before.f k l0 l1).bind fun t284 => (some t284)) else (some false))
set_option maxHeartbeats 8000000 in
set_option maxRecDepth 100000 in
theorem posserref03_Shorter.calls (k : Nat) (A0 : Option Addr) (c0 : Nat) (l0 : List Int) (A1 : Option Addr) (c1 : Nat) (l1 : List Int) (r : Bool) (w : World) (hr0 : Kd.C (Kd.int .i64) w A0 l0.length l0) (hc0 : l0.length ≤ c0) (hr1 : Kd.C (Kd.int .i64) w A1 l1.length l1) (hc1 : l1.length ≤ c1) (h : posserref03_Shorter.f k l0 l1 = some r) :
  Calls Try.prog 59 #[.slice A0 l0.length c0, .slice A1 l1.length c1] w fun e w' => e = .returned (.bool r) ∧ Drawn0 w w' := by
 have HR0 := Aside0.mk hr0
 have HC0 := Aside0.mk hc0
 clear hr0 hc0
 have HR1 := Aside0.mk hr1
 have HC1 := Aside0.mk hc1
 clear hr1 hc1
 have H : (if (l0.length : Int) < (l1.length : Int) then (some true) else (if (l0.length : Int) = (l1.length : Int) then ((posserref03_Before.f k l0 l1).bind fun t284 => (some t284)) else (some false))) = some r := h
 clear h
 by_cases c3 : (l0.length : Int) < (l1.length : Int)
 ·rw [if_pos c3] at H
  have c3b0 : decide ((l0.length : Int) < (l1.length : Int)) = true := decide_eq_true c3
  have c3b1 : decide (l0.length < l1.length) = true := decide_eq_true (Int.ofNat_lt.mp c3)
  clear c3
  obtain rfl := Option.some.inj H
  go_enter Try.func59, Try.ntmps59
  go_wp2
  go_ret
  exact ⟨by first | rfl | (simp; done) | (simp [*]; done), by repeat (first | exact Drawn0.refl _ | apply Drawn0.step)⟩
 ·rw [if_neg c3] at H
  have c3b0 : decide ((l0.length : Int) < (l1.length : Int)) = false := decide_eq_false c3
  have c3b1 : decide (l0.length < l1.length) = false := decide_eq_false (fun h => c3 (Int.ofNat_lt.mpr h))
  clear c3
  by_cases c4 : (l0.length : Int) = (l1.length : Int)
  ·rw [if_pos c4] at H
   have c4b0 : ((l0.length : Int) == (l1.length : Int)) = true := beq_iff_eq.mpr c4
   have c4b1 : ((l0.length : Int) != (l1.length : Int)) = false := bne_eq_false_iff_eq.mpr c4
   have c4b2 : (l0.length == l1.length) = true := by first | simpa using c4 | (simp at c4 ⊢; omega)
   clear c4
   replace H := Option.bind_eq_some_iff.mp H
   obtain ⟨t284, A50, H⟩ := H
   replace H : (some t284) = some r := H
   have A5 := Aside0.mk A50
   clear A50
   obtain rfl := Option.some.inj H
   go_enter Try.func59, Try.ntmps59
   go_wp2_with (first | (go_at_call 51; (with_reducible refine (posserref03_Before.calls k _ _ l0 _ _ l1 t284 _ ?side1 ?side2 ?side3 ?side4 A5.out).mono ?_); (case side1 => repeat (first | exact HR0.out | (with_reducible refine Kd.C_alloc ?_ _) | (with_reducible refine Kd.C_drewN ?_ _) | (with_reducible refine Kd.C_drew ?_))); (case side2 => exact HC0.out); (case side3 => repeat (first | exact HR1.out | (with_reducible refine Kd.C_alloc ?_ _) | (with_reducible refine Kd.C_drewN ?_ _) | (with_reducible refine Kd.C_drew ?_))); (case side4 => exact HC1.out); rintro e w' ⟨rfl, ⟨nd, rfl⟩⟩))
   go_ret
   exact ⟨by first | rfl | (simp; done) | (simp [*]; done), by repeat (first | exact Drawn0.refl _ | apply Drawn0.step)⟩
  ·rw [if_neg c4] at H
   have c4b0 : ((l0.length : Int) == (l1.length : Int)) = false := beq_eq_false_iff_ne.mpr c4
   have c4b1 : ((l0.length : Int) != (l1.length : Int)) = true := bne_iff_ne.mpr c4
   have c4b2 : (l0.length == l1.length) = false := by first | simpa using c4 | (simp at c4 ⊢; omega)
   obtain rfl := Option.some.inj H
   go_enter Try.func59, Try.ntmps59
   go_wp2
   go_ret
   exact ⟨by first | rfl | (simp; done) | (simp [*]; done), by repeat (first | exact Drawn0.refl _ | apply Drawn0.step)⟩
end Go.Proofs.Ytnbbbeghgomnoaa.X
namespace Go.Proofs.Ytnbbbeghgomnoaa.X
open Go.RowKit Go.Proofs.YtnbbbeghgomnoaaW.PrintWords Go.Proofs.YtnbbbeghgomnoaaW.PrintLast Go.Proofs.YtnbbbeghgomnoaaW.PrintMore
attribute [local go_sem] max2_int min2_int max_two min_two max_three min_three max_four min_four
set_option linter.unusedVariables false
set_option linter.unusedSimpArgs false
def posserlaw03_ready.f (k : Nat) (l0_0 : List (S85)) (l0_1 : List (S71)) (a0_2 : Int) : Option (Bool) := (posserlaw03_Thin.f k l0_0 l0_1 a0_2).bind fun t444 => (if t444 = true then ((posserref03_Fault.f k l0_0 l0_1 a0_2).bind fun t445 => (some (t445 == 0))) else (some false))
set_option maxHeartbeats 8000000 in
set_option maxRecDepth 100000 in
theorem posserlaw03_ready.calls (k : Nat) (A0_0 : Option Addr) (c0_0 : Nat) (l0_0 : List (S85)) (A0_1 : Option Addr) (c0_1 : Nat) (l0_1 : List (S71)) (a0_2 : Int) (r : Bool) (w : World) (hr0_0 : Kd.C k85 w A0_0 l0_0.length l0_0) (hc0_0 : l0_0.length ≤ c0_0) (hr0_1 : Kd.C k71 w A0_1 l0_1.length l0_1) (hc0_1 : l0_1.length ≤ c0_1) (h : posserlaw03_ready.f k l0_0 l0_1 a0_2 = some r) :
  Calls Try.prog 47 #[.agg #[.slice A0_0 l0_0.length c0_0, .slice A0_1 l0_1.length c0_1, .int .i64 a0_2]] w fun e w' => e = .returned (.bool r) ∧ Below w.heap.size w w' := by
 have hu25 := Try.underlying25
 have HR0_0 := Aside0.mk hr0_0
 have HC0_0 := Aside0.mk hc0_0
 clear hr0_0 hc0_0
 have HR0_1 := Aside0.mk hr0_1
 have HC0_1 := Aside0.mk hc0_1
 clear hr0_1 hc0_1
 have HB := Aside0.mk (Below.refl w.heap.size w)
 have H : ((posserlaw03_Thin.f k l0_0 l0_1 a0_2).bind fun t444 => (if t444 = true then ((posserref03_Fault.f k l0_0 l0_1 a0_2).bind fun t445 => (some (t445 == 0))) else (some false))) = some r := h
 clear h
 replace H := Option.bind_eq_some_iff.mp H
 obtain ⟨t444, A20, H⟩ := H
 replace H : (if t444 = true then ((posserref03_Fault.f k l0_0 l0_1 a0_2).bind fun t445 => (some (t445 == 0))) else (some false)) = some r := H
 have A2 := Aside0.mk A20
 clear A20
 by_cases c3 : t444 = true
 ·subst c3
  have H1 : ((posserref03_Fault.f k l0_0 l0_1 a0_2).bind fun t445 => (some (t445 == 0))) = some r := by rw [if_pos rfl] at H; exact H
  clear H
  have H := H1
  clear H1
  replace H := Option.bind_eq_some_iff.mp H
  obtain ⟨t445, A40, H⟩ := H
  replace H : (some (t445 == 0)) = some r := H
  have A4 := Aside0.mk A40
  clear A40
  obtain rfl := Option.some.inj H
  go_enter Try.func47, Try.ntmps47
  go_wp2_with (first | ((with_reducible refine gate_dst (N := 1) rfl ?_); refine sbox (N := 1) #[.slice A0_0 l0_0.length c0_0, .slice A0_1 l0_1.length c0_1, .int .i64 a0_2] 25 ?_; intro gb443 hg w5 hbox hb; have BK443 := Aside0.mk (hbox); have GW443 := Aside0.mk (sge hg HB : w.heap.size ≤ gb443); have GE443 := Aside0.mk (sge hg HB : w.heap.size ≤ gb443); replace HB := Aside0.mk (sbs HB hb); clear hb hbox hg; have hcz6_0 := sc 0 BK443; have hcz6_1 := sc 1 BK443; have hcz6_2 := sc 2 BK443; have hfz6_0 := blk_frozen BK443.out 0; have hfz6_1 := blk_frozen BK443.out 1; have hfz6_2 := blk_frozen BK443.out 2) | ((with_reducible refine gate_callee (f := 20) rfl ?_); refine goesL_ (some 4) rfl rfl Try.func20 (by kernel_rfl) rfl #[.agg #[.slice A0_0 l0_0.length c0_0, .slice A0_1 l0_1.length c0_1, .int .i64 a0_2]] rfl (by (try simp only [List.map_toArray, List.map_cons, List.map_nil]); first | done | rfl | (simp only [List.length_drop, List.length_take]; rfl)) ?_; (with_reducible refine (posserlaw03_Thin.calls k _ _ l0_0 _ _ l0_1 a0_2 true _ ?side1 ?side2 ?side3 ?side4 A2.out).mono ?_); (case side1 => exact sCb HR0_0 HB); (case side2 => exact HC0_0.out); (case side3 => exact sCb HR0_1 HB); (case side4 => exact HC0_1.out); rintro e w7 ⟨rfl, hb⟩; refine ⟨_, rfl, ?_⟩; replace BK443 := Aside0.mk (sbb BK443 hb); replace HB := Aside0.mk (sbs1 HB GE443 hb); (try clear hb); (try clear hb2); (try clear hk); (try clear hi); have hcz8_0 := sc 0 BK443; have hcz8_1 := sc 1 BK443; have hcz8_2 := sc 2 BK443; have hfz8_0 := blk_frozen BK443.out 0; have hfz8_1 := blk_frozen BK443.out 1; have hfz8_2 := blk_frozen BK443.out 2) | (go_at_call 75; (with_reducible refine (posserref03_Fault.calls k _ _ l0_0 _ _ l0_1 a0_2 t445 _ ?side1 ?side2 ?side3 ?side4 A4.out).mono ?_); (case side1 => exact sCb HR0_0 HB); (case side2 => exact HC0_0.out); (case side3 => exact sCb HR0_1 HB); (case side4 => exact HC0_1.out); rintro e w9 ⟨rfl, hb⟩; replace BK443 := Aside0.mk (sbb BK443 hb); replace HB := Aside0.mk (sbs1 HB GE443 hb); (try clear hb); (try clear hb2); (try clear hk); (try clear hi)))
  go_ret
  exact ⟨by first | rfl | (simp [errW_none, errW_some] <;> rfl) | (simp [*, errW_none, errW_some] <;> rfl), (sbe1 HB GE443)⟩
 ·replace c3 := Bool.eq_false_iff.mpr c3
  subst c3
  have H1 : (some false) = some r := by rw [if_neg (show ¬ (false = true) by decide)] at H; exact H
  clear H
  have H := H1
  clear H1
  obtain rfl := Option.some.inj H
  go_enter Try.func47, Try.ntmps47
  go_wp2_with (first | ((with_reducible refine gate_dst (N := 1) rfl ?_); refine sbox (N := 1) #[.slice A0_0 l0_0.length c0_0, .slice A0_1 l0_1.length c0_1, .int .i64 a0_2] 25 ?_; intro gb443 hg w10 hbox hb; have BK443 := Aside0.mk (hbox); have GW443 := Aside0.mk (sge hg HB : w.heap.size ≤ gb443); have GE443 := Aside0.mk (sge hg HB : w.heap.size ≤ gb443); replace HB := Aside0.mk (sbs HB hb); clear hb hbox hg; have hcz11_0 := sc 0 BK443; have hcz11_1 := sc 1 BK443; have hcz11_2 := sc 2 BK443; have hfz11_0 := blk_frozen BK443.out 0; have hfz11_1 := blk_frozen BK443.out 1; have hfz11_2 := blk_frozen BK443.out 2) | ((with_reducible refine gate_callee (f := 20) rfl ?_); refine goesL_ (some 4) rfl rfl Try.func20 (by kernel_rfl) rfl #[.agg #[.slice A0_0 l0_0.length c0_0, .slice A0_1 l0_1.length c0_1, .int .i64 a0_2]] rfl (by (try simp only [List.map_toArray, List.map_cons, List.map_nil]); first | done | rfl | (simp only [List.length_drop, List.length_take]; rfl)) ?_; (with_reducible refine (posserlaw03_Thin.calls k _ _ l0_0 _ _ l0_1 a0_2 false _ ?side1 ?side2 ?side3 ?side4 A2.out).mono ?_); (case side1 => exact sCb HR0_0 HB); (case side2 => exact HC0_0.out); (case side3 => exact sCb HR0_1 HB); (case side4 => exact HC0_1.out); rintro e w12 ⟨rfl, hb⟩; refine ⟨_, rfl, ?_⟩; replace BK443 := Aside0.mk (sbb BK443 hb); replace HB := Aside0.mk (sbs1 HB GE443 hb); (try clear hb); (try clear hb2); (try clear hk); (try clear hi)))
  go_ret
  exact ⟨by first | rfl | (simp [errW_none, errW_some] <;> rfl) | (simp [*, errW_none, errW_some] <;> rfl), (sbe1 HB GE443)⟩
end Go.Proofs.Ytnbbbeghgomnoaa.X
namespace Go.Proofs.Ytnbbbeghgomnoaa.X
open Go.RowKit Go.Proofs.YtnbbbeghgomnoaaW.PrintWords Go.Proofs.YtnbbbeghgomnoaaW.PrintLast Go.Proofs.YtnbbbeghgomnoaaW.PrintMore
attribute [local go_sem] max2_int min2_int max_two min_two max_three min_three max_four min_four
set_option linter.unusedVariables false
set_option linter.unusedSimpArgs false
def posserlaw03_some.l0 : Nat → Int → Int → List (S85) → List (S71) → Int → Option ((List (S85)) × (List (S71)) × Int)
 | 0, _, _, _, _, _ => none
 | k + 1, x1, x6, x1014000, x1014001, x1014002 => if x6 < (x1014000.length : Int) then (if 0 ≤ (IntKind.u64.wrap (x6)) then (if (Int.tmod (shr .i64 x1 (IntKind.u64.wrap (x6))) 2) = 0 then (if 0 ≤ x6 then (posserlaw03_some.l0 k x1 (wrap64 (x6 + 1)) (x1014000.set (x6 : Int).toNat (⟨(rd_T85 x1014000 x6).f0, (⟨0, 7⟩ : S65)⟩ : S85)) x1014001 x1014002) else (none)) else (posserlaw03_some.l0 k x1 (wrap64 (x6 + 1)) x1014000 x1014001 x1014002)) else (none)) else (some (x1014000, x1014001, x1014002))
def posserlaw03_some.f (k : Nat) (l0_0 : List (S85)) (l0_1 : List (S71)) (a0_2 : Int) (a1 : Int) : Option ((List (S85)) × (List (S71)) × Int) := (some (([] : List (S85)) : List (S85))).bind fun y1014 => (if y1014.length + l0_0.length < 5864062014805 then (posserlaw03_some.l0 k a1 0 (y1014 ++ l0_0) l0_1 0) else (none))
set_option maxHeartbeats 8000000 in
set_option maxRecDepth 100000 in
theorem posserlaw03_some.calls (k : Nat) (A0_0 : Option Addr) (c0_0 : Nat) (l0_0 : List (S85)) (P0_1_ : Nat → Prop) (A0_1 : Option Addr) (c0_1 : Nat) (l0_1 : List (S71)) (a0_2 : Int) (a1 : Int) (r1 : List (S85)) (r2 : List (S71)) (r3 : Int) (w : World) (hr0_0 : Kd.C k85 w A0_0 l0_0.length l0_0) (hc0_0 : l0_0.length ≤ c0_0) (hs0_1 : Kd.V k71 71 w w.heap.size (fun k_ => P0_1_ k_) (.slice A0_1 l0_1.length c0_1) l0_1) (h : posserlaw03_some.f k l0_0 l0_1 a0_2 a1 = some (r1, r2, r3)) :
  Calls Try.prog 57 #[.agg #[.slice A0_0 l0_0.length c0_0, .slice A0_1 l0_1.length c0_1, .int .i64 a0_2], .int .i64 a1] w fun e w' => ∃ v0_ v1_ : Value, e = .returned (.agg #[v0_, v1_, .int .i64 r3]) ∧ Kd.R k85 85 w' w.heap.size (fun k_ => (w.heap.size ≤ k_)) v0_ r1 ∧ Kd.V k71 71 w' w.heap.size (fun k_ => (P0_1_ k_ ∨ w.heap.size ≤ k_) ∧ some k_ ≠ (v0_ : Value).ownBlock) v1_ r2 ∧ Below w.heap.size w w' := by
 have hu25 := Try.underlying25
 have hu65 := Try.underlying65
 have HR0_0 := Aside0.mk hr0_0
 have HC0_0 := Aside0.mk hc0_0
 clear hr0_0 hc0_0
 have HO0_1 := Aside0.mk (show Kd.V k71 71 w w.heap.size (fun k_ => (P0_1_ k_ ∨ w.heap.size ≤ k_)) (.slice A0_1 l0_1.length c0_1) l0_1 from Kd.V_mono hs0_1 (fun k_ hk => .inl hk))
 have HB := Aside0.mk (Below.refl w.heap.size w)
 have H : ((some (([] : List (S85)) : List (S85))).bind fun y1014 => (if y1014.length + l0_0.length < 5864062014805 then (posserlaw03_some.l0 k a1 0 (y1014 ++ l0_0) l0_1 0) else (none))) = some (r1, r2, r3) := h
 clear h
 obtain ⟨y1014, hy1014⟩ : ∃ y_ : List (S85), y_ = (([] : List (S85))) := ⟨_, rfl⟩
 replace H : (if y1014.length + l0_0.length < 5864062014805 then (posserlaw03_some.l0 k a1 0 (y1014 ++ l0_0) l0_1 0) else (none)) = some (r1, r2, r3) := by first | (rw [hy1014]; with_reducible exact H) | (have H2_ := (Option.bind_some _ _).symm.trans H; rw [hy1014]; with_reducible exact H2_) | (have H2_ := (Option.bind_some _ _).symm.trans H; with_reducible exact H2_) | with_reducible exact H | (rw [hy1014]; exact H) | exact H
 have Ny1014 := Aside0.mk hy1014
 clear hy1014
 by_cases c3 : y1014.length + l0_0.length < 5864062014805
 ·rw [if_pos c3] at H
  have LMc3 := Aside0.mk c3
  clear c3
  obtain ⟨y1017, hy1017⟩ : ∃ y_ : List (S85), y_ = (y1014 ++ l0_0) := ⟨_, rfl⟩
  replace H : (posserlaw03_some.l0 k a1 0 y1017 l0_1 0) = some (r1, r2, r3) := by first | (rw [hy1017]; with_reducible exact H) | (have H2_ := (Option.bind_some _ _).symm.trans H; rw [hy1017]; with_reducible exact H2_) | (have H2_ := (Option.bind_some _ _).symm.trans H; with_reducible exact H2_) | with_reducible exact H | (rw [hy1017]; exact H) | exact H
  have Ny1017 := Aside0.mk hy1017
  clear hy1017
  have H' := Aside0.mk H
  clear H
  go_enter Try.func57, Try.ntmps57
  go_wp2_with (first | ((with_reducible refine gate_dst (N := 2) rfl ?_); refine sbox (N := 2) #[.slice A0_0 l0_0.length c0_0, .slice A0_1 l0_1.length c0_1, .int .i64 a0_2] 25 ?_; intro gb1011 hg w4 hbox hb; have BK1011 := Aside0.mk (hbox); have GW1011 := Aside0.mk (sge hg HB : w.heap.size ≤ gb1011); have GE1011 := Aside0.mk (sge hg HB : w.heap.size ≤ gb1011); replace HO0_1 := Aside0.mk (Kd.V_below (Kd.V_elderB (by (with_reducible repeat (first | apply Kd.V_alloc | apply Kd.V_drewN | apply Kd.V_drew)); exact HO0_1.out) gb1011 (Nat.le_of_eq hg.symm)) hb); replace HB := Aside0.mk (sbs HB hb); clear hb hbox hg) | ((with_reducible refine gate_dst (N := 4) rfl ?_); refine sbox (N := 4) #[.slice none 0 0, .slice none 0 0, .int .i64 0] 25 ?_; intro gb1012 hg w5 hbox hb; have BK1012 := Aside0.mk (hbox); have GW1012 := Aside0.mk (sge1 hg HB GE1011 : w.heap.size ≤ gb1012); have GE1012 := Aside0.mk (sge1 hg HB GE1011 : w.heap.size ≤ gb1012); have NB1011_1012 := Aside0.mk (snl hg BK1011 : gb1011 ≠ gb1012); have NB1012_1011 := Aside0.mk (snr hg BK1011 : gb1012 ≠ gb1011); replace HO0_1 := Aside0.mk (Kd.V_below (Kd.V_elderB (by (with_reducible repeat (first | apply Kd.V_alloc | apply Kd.V_drewN | apply Kd.V_drew)); exact HO0_1.out) gb1012 (Nat.le_of_eq hg.symm)) hb); replace BK1011 := Aside0.mk (sbb BK1011 hb); replace HB := Aside0.mk (sbs1 HB GE1011 hb); clear hb hbox hg; have hnb6 := NB1011_1012.out; have hnc6 := NB1012_1011.out; have hcz7_0 := sc 0 BK1011; have hcz7_1 := sc 1 BK1011; have hcz7_2 := sc 2 BK1011; have hfz7_0 := blk_frozen BK1011.out 0; have hfz7_1 := blk_frozen BK1011.out 1; have hfz7_2 := blk_frozen BK1011.out 2) | ((with_reducible refine gate_dst (N := 5) rfl ?_); refine sbox (N := 5) #[.slice none 0 0, .slice none 0 0, .int .i64 0] 25 ?_; intro gb1013 hg w8 hbox hb; have BK1013 := Aside0.mk (hbox); have GW1013 := Aside0.mk (sge2 hg HB GE1011 GE1012 : w.heap.size ≤ gb1013); have GE1013 := Aside0.mk (sge2 hg HB GE1011 GE1012 : w.heap.size ≤ gb1013); have NB1011_1013 := Aside0.mk (snl hg BK1011 : gb1011 ≠ gb1013); have NB1013_1011 := Aside0.mk (snr hg BK1011 : gb1013 ≠ gb1011); have NB1012_1013 := Aside0.mk (snl hg BK1012 : gb1012 ≠ gb1013); have NB1013_1012 := Aside0.mk (snr hg BK1012 : gb1013 ≠ gb1012); replace HO0_1 := Aside0.mk (Kd.V_below (Kd.V_elderB (by (with_reducible repeat (first | apply Kd.V_alloc | apply Kd.V_drewN | apply Kd.V_drew)); exact HO0_1.out) gb1013 (Nat.le_of_eq hg.symm)) hb); replace BK1011 := Aside0.mk (sbb BK1011 hb); replace BK1012 := Aside0.mk (sbb BK1012 hb); replace HB := Aside0.mk (sbs2 HB GE1011 GE1012 hb); clear hb hbox hg; have hnb9 := NB1013_1011.out; have hnc9 := NB1011_1013.out; have hnb10 := NB1013_1012.out; have hnc10 := NB1012_1013.out; have hcz11_0 := sc 0 BK1013; have hcz11_1 := sc 1 BK1013; have hcz11_2 := sc 2 BK1013; have hfz11_0 := blk_frozen BK1013.out 0; have hfz11_1 := blk_frozen BK1013.out 1; have hfz11_2 := blk_frozen BK1013.out 2) | ((with_reducible refine gate_dst (N := 8) rfl ?_); refine Kd.R_lit k85 _ 85 ?hg (N := 8) ?hd (xs := ([] : List (S85))) (inner := []) (ok := fun _ => True) (okp := fun _ => True) ?hr ?hp (fun _ hk => hk) trivial (Below.refl _ _) (Nat.le_refl _) (by simp) ?_; (case hd => rfl); (case hg => rfl); (case hr => first | (go_simp; done) | (go_simp; rfl)); (case hp => exact (Reps.none _ _)); intro v1015 w12 ho13 hb hg_ hnew_; clear hg_ hnew_; (first | rw [← Ny1014.out] at ho13 | (simp only [Int.reduceToNat] at ho13; rw [← Ny1014.out] at ho13)); have n0_ := Aside0.mk (Kd.V_elder' (by (with_reducible repeat (first | apply Kd.V_alloc | apply Kd.V_drewN | apply Kd.V_drew)); exact (Kd.V_mono (Kd.V_far (p := ⟨gb1013, 2, none⟩) (Kd.V_far (p := ⟨gb1013, 1, none⟩) (Kd.V_far (p := ⟨gb1013, 0, none⟩) (Kd.V_mono HO0_1.out (fun k_ hk => (⟨hk, hk.2⟩ : _ ∧ k_ ≠ gb1013))) (fun _ hk => hk.2) (.slice A0_0 l0_0.length c0_0)) (fun _ hk => hk.2) (.slice A0_1 l0_1.length c0_1)) (fun _ hk => hk.2) (.int .i64 a0_2)) (fun _ h_ => h_.1))) (Kd.R_base ho13) hb); have n1_ := Aside0.mk (Kd.R_lower (Kd.R_newM (M := fun k_ => (w.heap.size ≤ k_)) ho13 (below_size (sbe3 HB GE1011 GE1012 GE1013)) (fun k_ h_ => h_)) (below_size (sbe3 HB GE1011 GE1012 GE1013))); have n2_ := Aside0.mk (blk_below (g := gb1011) (o := .cells #[.slice A0_0 l0_0.length c0_0, .slice A0_1 l0_1.length c0_1, .int .i64 a0_2] 25 (0, 0)) (by (with_reducible repeat (first | refine blk_drewN ?_ _ | refine blk_drew ?_ | refine blk_alloc ?_ _)); refine blk_far ?_ NB1011_1013.out _; (with_reducible repeat (first | refine blk_drewN ?_ _ | refine blk_drew ?_ | refine blk_alloc ?_ _)); refine blk_far ?_ NB1011_1013.out _; (with_reducible repeat (first | refine blk_drewN ?_ _ | refine blk_drew ?_ | refine blk_alloc ?_ _)); refine blk_far ?_ NB1011_1013.out _; (with_reducible repeat (first | refine blk_drewN ?_ _ | refine blk_drew ?_ | refine blk_alloc ?_ _)); exact BK1011.out) hb); have n3_ := Aside0.mk (blk_below (g := gb1012) (o := .cells #[.slice none 0 0, .slice none 0 0, .int .i64 0] 25 (0, 0)) (by (with_reducible repeat (first | refine blk_drewN ?_ _ | refine blk_drew ?_ | refine blk_alloc ?_ _)); refine blk_far ?_ NB1012_1013.out _; (with_reducible repeat (first | refine blk_drewN ?_ _ | refine blk_drew ?_ | refine blk_alloc ?_ _)); refine blk_far ?_ NB1012_1013.out _; (with_reducible repeat (first | refine blk_drewN ?_ _ | refine blk_drew ?_ | refine blk_alloc ?_ _)); refine blk_far ?_ NB1012_1013.out _; (with_reducible repeat (first | refine blk_drewN ?_ _ | refine blk_drew ?_ | refine blk_alloc ?_ _)); exact BK1012.out) hb); have n4_ := Aside0.mk (blk_below (g := gb1013) (o := .cells #[.slice A0_0 l0_0.length c0_0, .slice A0_1 l0_1.length c0_1, .int .i64 a0_2] 25 (0, 0)) (by (with_reducible repeat (first | refine blk_drewN ?_ _ | refine blk_drew ?_ | refine blk_alloc ?_ _)); refine blk_put (cs := #[.slice A0_0 l0_0.length c0_0, .slice A0_1 l0_1.length c0_1, .int .i64 0]) ?_ 2 _ rfl; (with_reducible repeat (first | refine blk_drewN ?_ _ | refine blk_drew ?_ | refine blk_alloc ?_ _)); refine blk_put (cs := #[.slice A0_0 l0_0.length c0_0, .slice none 0 0, .int .i64 0]) ?_ 1 _ rfl; (with_reducible repeat (first | refine blk_drewN ?_ _ | refine blk_drew ?_ | refine blk_alloc ?_ _)); refine blk_put (cs := #[.slice none 0 0, .slice none 0 0, .int .i64 0]) ?_ 0 _ rfl; (with_reducible repeat (first | refine blk_drewN ?_ _ | refine blk_drew ?_ | refine blk_alloc ?_ _)); exact BK1013.out) hb); have n5_ := Aside0.mk (sbs3 HB GE1011 GE1012 GE1013 hb); clear HO0_1; clear BK1011; clear BK1012; clear BK1013; clear HB; have HO0_1 := n0_; have HO1016 := n1_; have BK1011 := n2_; have BK1012 := n3_; have BK1013 := n4_; have HB := n5_; clear n0_ n1_ n2_ n3_ n4_ n5_; clear hb ho13; have hcz14_0 := sc 0 BK1011; have hcz14_1 := sc 1 BK1011; have hcz14_2 := sc 2 BK1011; have hfz14_0 := blk_frozen BK1011.out 0; have hfz14_1 := blk_frozen BK1011.out 1; have hfz14_2 := blk_frozen BK1011.out 2) | ((with_reducible refine gate_builtin (b := .append) (xs := #[.tmp 8, .tmp 10]) rfl ?_); at_builtin; refine Kd.R_append_rows k85 (w0 := w) w.heap.size rfl (.tmp 8) (.tmp 10) 22 85 (.agg #[(.int .i64 0), (.int .i64 0), (.int .i64 0)]) 24 rfl Try.underlying22 info85 rfl (by decide) (by omega) v1015 y1014 l0_0 _ _ _ (fun k_ => (w.heap.size ≤ k_)) (fun _ => False) rfl rfl ?aO ?aR (fun _ _ h => h) (fun _ h => h.elim) ?aF ?aB ?aS ?aL ?_; (case aR => exact sCb HR0_0 HB); (case aB => exact (sbe3 HB GE1011 GE1012 GE1013)); (case aF => exact (fun k_ hk => (Nat.le_trans (below_size (sbe3 HB GE1011 GE1012 GE1013)) hk))); (case aO => exact (by (with_reducible repeat (first | apply Kd.R_alloc | apply Kd.R_drewN | apply Kd.R_drew)); exact Kd.R_mono HO1016.out (fun _ hk => hk.1))); (case aS => exact (below_size (sbe3 HB GE1011 GE1012 GE1013))); (case aL => have := LMc3.out; omega); intro v1018 w15 ho hb hg hat; rw [← Ny1017.out] at ho; have n0_ := Aside0.mk (Kd.V_afterv (ok := (fun k_ => (P0_1_ k_ ∨ w.heap.size ≤ k_) ∧ k_ ≠ gb1011 ∧ k_ ≠ gb1012 ∧ k_ ≠ gb1013)) (by (with_reducible repeat (first | apply Kd.V_alloc | apply Kd.V_drewN | apply Kd.V_drew)); exact Kd.V_mono HO0_1.out (fun _ hk => ⟨⟨hk.1.1.1.1, ⟨hk.1.1.1.2, ⟨hk.1.1.2, hk.1.2⟩⟩⟩, hk.2⟩)) hg hat); have n1_ := Aside0.mk (blk_grown (g := gb1011) (o := .cells #[.slice A0_0 l0_0.length c0_0, .slice A0_1 l0_1.length c0_1, .int .i64 a0_2] 25 (0, 0)) (sbk BK1011) hg (Kd.R_ne HO1016.out BK1011.out (by decide))); have n2_ := Aside0.mk (blk_grown (g := gb1012) (o := .cells #[.slice none 0 0, .slice none 0 0, .int .i64 0] 25 (0, 0)) (sbk BK1012) hg (Kd.R_ne HO1016.out BK1012.out (by decide))); have n3_ := Aside0.mk (blk_grown (g := gb1013) (o := .cells #[.slice A0_0 l0_0.length c0_0, .slice A0_1 l0_1.length c0_1, .int .i64 a0_2] 25 (0, 0)) (sbk BK1013) hg (Kd.R_ne HO1016.out BK1013.out (by decide))); have n4_ := Aside0.mk (hb); have n5_ := Aside0.mk (ho); clear HO0_1; clear BK1011; clear BK1012; clear BK1013; clear HB; clear HO1016; have HO0_1 := n0_; have BK1011 := n1_; have BK1012 := n2_; have BK1013 := n3_; have HB := n4_; have HO1019 := n5_; clear n0_ n1_ n2_ n3_ n4_ n5_; clear ho hb hg hat; obtain ⟨Ao16, co16, eo16⟩ := Kd.R_slice HO1019.out; subst eo16; have hcz17_0 := sc 0 BK1013; have hcz17_1 := sc 1 BK1013; have hcz17_2 := sc 2 BK1013; have hfz17_0 := blk_frozen BK1013.out 0; have hfz17_1 := blk_frozen BK1013.out 1; have hfz17_2 := blk_frozen BK1013.out 2))
  go_loopg [6] k (fun kq v6 w' => ∃ (x6_1 : Int) (x1014000_1 : List (S85)) (u1014000 : Value), v6 = .int .i64 x6_1 ∧ Aside0 (posserlaw03_some.l0 kq a1 x6_1 x1014000_1 l0_1 0 = some (r1, r2, r3)) ∧ Aside0 (kq ≤ k) ∧ Aside0 (Kd.V k71 71 w' w.heap.size (fun k_ => (P0_1_ k_ ∨ w.heap.size ≤ k_) ∧ some k_ ≠ (u1014000 : Value).ownBlock ∧ k_ ≠ gb1011 ∧ k_ ≠ gb1012 ∧ k_ ≠ gb1013) (.slice A0_1 l0_1.length c0_1) l0_1) ∧ Aside0 (Kd.R k85 85 w' w.heap.size (fun k_ => (w.heap.size ≤ k_)) u1014000 x1014000_1) ∧ Aside0 (Kd.V k71 71 w' w.heap.size (fun k_ => (P0_1_ k_ ∨ w.heap.size ≤ k_) ∧ some k_ ≠ (u1014000 : Value).ownBlock ∧ k_ ≠ gb1011 ∧ k_ ≠ gb1012 ∧ k_ ≠ gb1013) (.slice A0_1 l0_1.length c0_1) l0_1) ∧ Aside0 (w'.heap[gb1011]? = some (.cells #[(.slice A0_0 l0_0.length c0_0), (.slice A0_1 l0_1.length c0_1), .int .i64 a0_2] 25 (0, 0))) ∧ Aside0 (w'.heap[gb1012]? = some (.cells #[(.slice none 0 0), (.slice none 0 0), .int .i64 0] 25 (0, 0))) ∧ Aside0 (w'.heap[gb1013]? = some (.cells #[u1014000, (.slice A0_1 l0_1.length c0_1), .int .i64 0] 25 (0, 0))) ∧ Aside0 (Below w.heap.size w w'))
  case atStart => exact ⟨(0), (y1017), (.slice Ao16 y1017.length co16), (by first | rfl | (simp; done) | (simp [*]; done)), H', ⟨Nat.le_refl _⟩, ⟨by (with_reducible repeat (first | apply Kd.V_alloc | apply Kd.V_drewN | apply Kd.V_drew)); exact Kd.V_mono (Kd.V_far (p := ⟨gb1013, 2, none⟩) (Kd.V_far (p := ⟨gb1013, 0, none⟩) (Kd.V_mono HO0_1.out (fun k_ hk => (⟨hk, hk.1.2.2.2⟩ : _ ∧ k_ ≠ gb1013))) (fun _ hk => hk.2) (.slice Ao16 y1017.length co16)) (fun _ hk => hk.2) (.int .i64 0)) (fun _ hk => ⟨hk.1.1.1, ⟨hk.1.2, ⟨hk.1.1.2.1, ⟨hk.1.1.2.2.1, hk.1.1.2.2.2⟩⟩⟩⟩)⟩, ⟨by (with_reducible repeat (first | apply Kd.R_alloc | apply Kd.R_drewN | apply Kd.R_drew)); exact Kd.R_mono (Kd.R_far (p := ⟨gb1013, 2, none⟩) (Kd.R_far (p := ⟨gb1013, 0, none⟩) (Kd.R_types HO1019.out BK1013.out (by decide)) (fun _ hk => hk.2) (.slice Ao16 y1017.length co16)) (fun _ hk => hk.2) (.int .i64 0)) (fun _ hk => hk.1)⟩, ⟨by (with_reducible repeat (first | apply Kd.V_alloc | apply Kd.V_drewN | apply Kd.V_drew)); exact Kd.V_mono (Kd.V_far (p := ⟨gb1013, 2, none⟩) (Kd.V_far (p := ⟨gb1013, 0, none⟩) (Kd.V_mono HO0_1.out (fun k_ hk => (⟨hk, hk.1.2.2.2⟩ : _ ∧ k_ ≠ gb1013))) (fun _ hk => hk.2) (.slice Ao16 y1017.length co16)) (fun _ hk => hk.2) (.int .i64 0)) (fun _ hk => ⟨hk.1.1.1, ⟨hk.1.2, ⟨hk.1.1.2.1, ⟨hk.1.1.2.2.1, hk.1.1.2.2.2⟩⟩⟩⟩)⟩, ⟨by (with_reducible repeat (first | refine blk_drewN ?_ _ | refine blk_drew ?_ | refine blk_alloc ?_ _)); refine blk_far ?_ NB1011_1013.out _; (with_reducible repeat (first | refine blk_drewN ?_ _ | refine blk_drew ?_ | refine blk_alloc ?_ _)); refine blk_far ?_ NB1011_1013.out _; (with_reducible repeat (first | refine blk_drewN ?_ _ | refine blk_drew ?_ | refine blk_alloc ?_ _)); exact BK1011.out⟩, ⟨by (with_reducible repeat (first | refine blk_drewN ?_ _ | refine blk_drew ?_ | refine blk_alloc ?_ _)); refine blk_far ?_ NB1012_1013.out _; (with_reducible repeat (first | refine blk_drewN ?_ _ | refine blk_drew ?_ | refine blk_alloc ?_ _)); refine blk_far ?_ NB1012_1013.out _; (with_reducible repeat (first | refine blk_drewN ?_ _ | refine blk_drew ?_ | refine blk_alloc ?_ _)); exact BK1012.out⟩, ⟨by (with_reducible repeat (first | refine blk_drewN ?_ _ | refine blk_drew ?_ | refine blk_alloc ?_ _)); refine blk_put (cs := #[.slice Ao16 y1017.length co16, .slice A0_1 l0_1.length c0_1, .int .i64 a0_2]) ?_ 2 _ rfl; (with_reducible repeat (first | refine blk_drewN ?_ _ | refine blk_drew ?_ | refine blk_alloc ?_ _)); refine blk_put (cs := #[.slice A0_0 l0_0.length c0_0, .slice A0_1 l0_1.length c0_1, .int .i64 a0_2]) ?_ 0 _ rfl; (with_reducible repeat (first | refine blk_drewN ?_ _ | refine blk_drew ?_ | refine blk_alloc ?_ _)); exact BK1013.out⟩, ⟨(sbe3 HB GE1011 GE1012 GE1013)⟩⟩
  case round =>
   clear H'
   try clear c1
   try clear p2
   try clear c3
   try clear c5
   try clear c6
   try clear c9
   try clear c10
   try clear hcz11_0
   try clear hcz11_1
   try clear hcz11_2
   try clear hcz14_0
   try clear hcz14_1
   try clear hcz14_2
   try clear hcz17_0
   try clear hcz17_1
   try clear hcz17_2
   try clear hcz7_0
   try clear hcz7_1
   try clear hcz7_2
   try clear hfz11_0
   try clear hfz11_1
   try clear hfz11_2
   try clear hfz14_0
   try clear hfz14_1
   try clear hfz14_2
   try clear hfz17_0
   try clear hfz17_1
   try clear hfz17_2
   try clear hfz7_0
   try clear hfz7_1
   try clear hfz7_2
   obtain ⟨x6_1, x1014000_1, u1014000, rfl, HA, HK1, HO_1012001, HO_1014000, HO_1014001, BK1011, BK1012, BK1013, HB⟩ := hrel
   cases gk with
   | zero => exact absurd HA.out (by simp [posserlaw03_some.l0])
   | succ k1 =>
    have H := HA.out
    clear HA
    simp only [posserlaw03_some.l0] at H
    by_cases c18 : x6_1 < (x1014000_1.length : Int)
    ·rw [if_pos c18] at H
     have c18b0 : decide (x6_1 < (x1014000_1.length : Int)) = true := decide_eq_true c18
     clear c18
     obtain ⟨ji19, hji19⟩ : ∃ j_ : Int, (IntKind.u64.wrap (x6_1)) = j_ := ⟨_, rfl⟩
     replace H : (if 0 ≤ (ji19) then (if (Int.tmod (shr .i64 a1 (ji19)) 2) = 0 then (if 0 ≤ x6_1 then (posserlaw03_some.l0 k1 a1 (wrap64 (x6_1 + 1)) (x1014000_1.set (x6_1 : Int).toNat (⟨(rd_T85 x1014000_1 x6_1).f0, (⟨0, 7⟩ : S65)⟩ : S85)) l0_1 0) else (none)) else (posserlaw03_some.l0 k1 a1 (wrap64 (x6_1 + 1)) x1014000_1 l0_1 0)) else (none)) = some (r1, r2, r3) := by first | (rw [hji19] at H; exact H) | (simp only [hji19] at H ⊢; exact H)
     by_cases c20 : 0 ≤ (ji19)
     ·rw [if_pos c20] at H
      have c20b0 := eq_true c20
      have c20b1 : decide (0 ≤ (ji19)) = true := decide_eq_true c20
      clear c20
      obtain ⟨ji21, hji21⟩ : ∃ j_ : Int, (shr .i64 a1 (ji19)) = j_ := ⟨_, rfl⟩
      replace H : (if (Int.tmod (ji21) 2) = 0 then (if 0 ≤ x6_1 then (posserlaw03_some.l0 k1 a1 (wrap64 (x6_1 + 1)) (x1014000_1.set (x6_1 : Int).toNat (⟨(rd_T85 x1014000_1 x6_1).f0, (⟨0, 7⟩ : S65)⟩ : S85)) l0_1 0) else (none)) else (posserlaw03_some.l0 k1 a1 (wrap64 (x6_1 + 1)) x1014000_1 l0_1 0)) = some (r1, r2, r3) := by first | (rw [hji21] at H; exact H) | (simp only [hji21] at H ⊢; exact H)
      have hji21_ : (a1 / 2 ^ min (ji19).toNat 64) = ji21 := hji21
      have hji21z : (ji19) ≤ 64 → (a1 / 2 ^ (ji19).toNat) = ji21 := shr_small hji21
      by_cases c22 : (Int.tmod (ji21) 2) = 0
      ·rw [if_pos c22] at H
       have c22b0 : ((Int.tmod (ji21) 2) == 0) = true := beq_iff_eq.mpr c22
       have c22b1 : ((Int.tmod (ji21) 2) != 0) = false := bne_eq_false_iff_eq.mpr c22
       clear c22
       by_cases c23 : 0 ≤ x6_1
       ·rw [if_pos c23] at H
        have c23b0 : decide (0 ≤ x6_1) = true := decide_eq_true c23
        clear c23
        obtain ⟨y1020, hy1020⟩ : ∃ y_ : List (S85), y_ = (x1014000_1.set (x6_1 : Int).toNat (⟨(rd_T85 x1014000_1 x6_1).f0, (⟨0, 7⟩ : S65)⟩ : S85)) := ⟨_, rfl⟩
        replace H : (posserlaw03_some.l0 k1 a1 (wrap64 (x6_1 + 1)) y1020 l0_1 0) = some (r1, r2, r3) := by first | (rw [hy1020]; with_reducible exact H) | (have H2_ := (Option.bind_some _ _).symm.trans H; rw [hy1020]; with_reducible exact H2_) | (have H2_ := (Option.bind_some _ _).symm.trans H; with_reducible exact H2_) | with_reducible exact H | (rw [hy1020]; exact H) | exact H
        have Ny1020 := Aside0.mk hy1020
        clear hy1020
        have H' := Aside0.mk H
        clear H
        have hnb25 := NB1013_1011.out
        have hnc25 := NB1011_1013.out
        have hnb26 := NB1013_1012.out
        have hnc26 := NB1012_1013.out
        have hcz27_0 := sc 0 BK1013
        have hcz27_1 := sc 1 BK1013
        have hcz27_2 := sc 2 BK1013
        have hfz27_0 := blk_frozen BK1013.out 0
        have hfz27_1 := blk_frozen BK1013.out 1
        have hfz27_2 := blk_frozen BK1013.out 2
        obtain ⟨Ao28, co28, eo28⟩ := Kd.R_slice HO_1014000.out
        subst eo28
        have p24 : 0 ≤ (x6_1 : Int) := of_decide_eq_true (by first | (with_reducible assumption) | assumption)
        have q24 : (x6_1 : Int) < ((x1014000_1.length : Int) : Int) := of_decide_eq_true (by first | (with_reducible assumption) | assumption)
        obtain ⟨go24, co24, eo24, gb24, gl24, cl24, HG24⟩ := Kd.R_form HO_1014000.out (by omega)
        (first | cases eo24 | (injection eo24 with ea_ en_ ec_; (first | subst ea_ | (injection ea_ with ea_; subst ea_)); subst ec_; clear en_))
        have GB24 := Aside0.mk gb24
        have GG24 := Aside0.mk HG24
        clear gb24 gl24 HG24
        obtain ⟨ce24, hcl24, hM24, hcc24, hfr24⟩ := Kd.R_elem HO_1014000.out z85 (x6_1 : Int) p24 q24
        obtain rfl := k85_openM hM24
        have hx24_0 : wr.cell? ⟨go24, (x6_1 : Int).toNat * 3, none⟩ = some (.int .i64 ((rd_T85 x1014000_1 x6_1).f0)) := hcc24 0 _ rfl
        have hx24_1 : wr.cell? ⟨go24, (x6_1 : Int).toNat * 3 + 1, none⟩ = some (.int .i64 ((rd_T85 x1014000_1 x6_1).f1.f0)) := hcc24 1 _ rfl
        have hx24_2 : wr.cell? ⟨go24, (x6_1 : Int).toNat * 3 + 2, none⟩ = some (.int .i64 ((rd_T85 x1014000_1 x6_1).f1.f1)) := hcc24 2 _ rfl
        have hf24_0 : wr.frozen? ⟨go24, (x6_1 : Int).toNat * 3, none⟩ = false := hfr24 0
        have hf24_1 : wr.frozen? ⟨go24, (x6_1 : Int).toNat * 3 + 1, none⟩ = false := hfr24 1
        have hf24_2 : wr.frozen? ⟨go24, (x6_1 : Int).toNat * 3 + 2, none⟩ = false := hfr24 2
        clear hcl24 hcc24 hfr24 hM24
        replace p24 := eq_true p24
        replace q24 := eq_true q24
        have HX29 := Aside0.mk (show Kd.R k85 85 wr w.heap.size (fun k_ => (w.heap.size ≤ k_)) (.slice (some ⟨go24, 0, none⟩) x1014000_1.length co28) x1014000_1 from (sR HO_1014000))
        obtain ⟨ce29, hcl29, hM29, hcc29, hfr29⟩ := Kd.R_elem HX29.out z85 (x6_1 : Int) (of_decide_eq_true (by first | (with_reducible assumption) | assumption)) (by have h_ : (x6_1 : Int) < ((x1014000_1.length : Int) : Int) := of_decide_eq_true (by first | (with_reducible assumption) | assumption); first | exact h_ | (have e_ := (Kd.R_reads' HO_1014000.out).1; omega) | simpa using h_)
        obtain rfl := k85_openM hM29
        have HP29 := Kd.R_seg HX29.out (x6_1 : Int) (of_decide_eq_true (by first | (with_reducible assumption) | assumption)) (by have h_ : (x6_1 : Int) < ((x1014000_1.length : Int) : Int) := of_decide_eq_true (by first | (with_reducible assumption) | assumption); first | exact h_ | (have e_ := (Kd.R_reads' HO_1014000.out).1; omega) | simpa using h_) (seg := [.int .i64 0, .int .i64 7]) (j := 1) hcl29 hcc29 (show 3 ≤ 3 from by decide) (x' := (⟨(rd_T85 x1014000_1 x6_1).f0, (⟨0, 7⟩ : S65)⟩ : S85)) (k85_mkM _ _ _ (⟨(rd_T85 x1014000_1 x6_1).f0, (⟨0, 7⟩ : S65)⟩ : S85) ) (fun _ hk => hk)
        have hx29_1 := hcc29 1 _ rfl
        (try simp only [show (k85).sz = 3 from rfl, Nat.mul_one, Nat.add_zero] at hx29_1)
        have hf29_1 := hfr29 1
        (try simp only [show (k85).sz = 3 from rfl, Nat.mul_one, Nat.add_zero] at hf29_1)
        have hx29_2 := hcc29 2 _ rfl
        (try simp only [show (k85).sz = 3 from rfl, Nat.mul_one, Nat.add_zero] at hx29_2)
        have hf29_2 := hfr29 2
        (try simp only [show (k85).sz = 3 from rfl, Nat.mul_one, Nat.add_zero] at hf29_2)
        clear hcl29 hcc29 hfr29 hM29
        go_wp2_with (first | ((with_reducible refine gate_store (t := 65) (p := 32) rfl ?_); refine store_event (t := 65) (p := 32) (v := ?vo_w30) (w1 := ((wr.setCell ⟨go24, (x6_1 : Int).toNat * 3 + 1, none⟩ (.int .i64 0)).setCell ⟨go24, (x6_1 : Int).toNat * 3 + 2, none⟩ (.int .i64 7))) ?hg ?ho ?hn ?hr ?_; (case ho => rfl); (case hg => rfl); (case hn => rfl); (case hr => first | (go_simp; done) | (go_simp; rfl)); intro w30 hw; have hg : wr.grownBy w30 (some go24) := (by rw [hw]; exact HP29.2); have hp_ : Kd.R k85 85 w30 w.heap.size (fun k_ => (w.heap.size ≤ k_)) (.slice (some ⟨go24, 0, none⟩) x1014000_1.length co28) y1020 := (by rw [hw, Ny1020.out]; exact HP29.1); clear HP29; have n0_ := Aside0.mk (Kd.V_afterv (v := (.slice (some ⟨go24, 0, none⟩) x1014000_1.length co28)) (v1 := (.slice (some ⟨go24, 0, none⟩) x1014000_1.length co28)) (ok := (fun k_ => (P0_1_ k_ ∨ w.heap.size ≤ k_) ∧ k_ ≠ gb1011 ∧ k_ ≠ gb1012 ∧ k_ ≠ gb1013)) (by (with_reducible repeat (first | apply Kd.V_alloc | apply Kd.V_drewN | apply Kd.V_drew)); exact Kd.V_mono HO_1012001.out (fun _ hk => ⟨⟨hk.1, ⟨hk.2.2.1, ⟨hk.2.2.2.1, hk.2.2.2.2⟩⟩⟩, hk.2.1⟩)) hg (.inl rfl)); have n1_ := Aside0.mk (hp_); have n2_ := Aside0.mk (Kd.V_afterv (v := (.slice (some ⟨go24, 0, none⟩) x1014000_1.length co28)) (v1 := (.slice (some ⟨go24, 0, none⟩) x1014000_1.length co28)) (ok := (fun k_ => (P0_1_ k_ ∨ w.heap.size ≤ k_) ∧ k_ ≠ gb1011 ∧ k_ ≠ gb1012 ∧ k_ ≠ gb1013)) (by (with_reducible repeat (first | apply Kd.V_alloc | apply Kd.V_drewN | apply Kd.V_drew)); exact Kd.V_mono HO_1014001.out (fun _ hk => ⟨⟨hk.1, ⟨hk.2.2.1, ⟨hk.2.2.2.1, hk.2.2.2.2⟩⟩⟩, hk.2.1⟩)) hg (.inl rfl)); have n3_ := Aside0.mk (blk_grown (g := gb1011) (o := .cells #[.slice A0_0 l0_0.length c0_0, .slice A0_1 l0_1.length c0_1, .int .i64 a0_2] 25 (0, 0)) (sbk BK1011) hg (Kd.R_ne HO_1014000.out BK1011.out (by decide))); have n4_ := Aside0.mk (blk_grown (g := gb1012) (o := .cells #[.slice none 0 0, .slice none 0 0, .int .i64 0] 25 (0, 0)) (sbk BK1012) hg (Kd.R_ne HO_1014000.out BK1012.out (by decide))); have n5_ := Aside0.mk (blk_grown (g := gb1013) (o := .cells #[.slice (some ⟨go24, 0, none⟩) x1014000_1.length co28, .slice A0_1 l0_1.length c0_1, .int .i64 0] 25 (0, 0)) (sbk BK1013) hg (Kd.R_ne HO_1014000.out BK1013.out (by decide))); have n6_ := Aside0.mk ((by rw [hw]; exact below_set (below_set (HB.out) GB24.out) GB24.out : Below w.heap.size w w30)); clear HO_1012001; clear HO_1014000; clear HO_1014001; clear BK1011; clear BK1012; clear BK1013; clear HB; have HO_1012001 := n0_; have HO_1014000 := n1_; have HO_1014001 := n2_; have BK1011 := n3_; have BK1012 := n4_; have BK1013 := n5_; have HB := n6_; clear n0_ n1_ n2_ n3_ n4_ n5_ n6_; clear hg hw hp_))
        go_roundg k1
        case measure => have := HK1.out; omega
        case rel => exact ⟨(wrap64 (x6_1 + 1)), (y1020), (.slice (some ⟨go24, 0, none⟩) x1014000_1.length co28), (by first | rfl | (simp; done) | (simp [*]; done)), H', ⟨by have := HK1.out; omega⟩, ⟨by (with_reducible repeat (first | apply Kd.V_alloc | apply Kd.V_drewN | apply Kd.V_drew)); exact Kd.V_mono HO_1012001.out (fun _ hk => ⟨hk.1.1, ⟨hk.2, ⟨hk.1.2.1, ⟨hk.1.2.2.1, hk.1.2.2.2⟩⟩⟩⟩)⟩, ⟨by (with_reducible repeat (first | apply Kd.R_alloc | apply Kd.R_drewN | apply Kd.R_drew)); exact HO_1014000.out⟩, ⟨by (with_reducible repeat (first | apply Kd.V_alloc | apply Kd.V_drewN | apply Kd.V_drew)); exact Kd.V_mono HO_1014001.out (fun _ hk => ⟨hk.1.1, ⟨hk.2, ⟨hk.1.2.1, ⟨hk.1.2.2.1, hk.1.2.2.2⟩⟩⟩⟩)⟩, ⟨by (with_reducible repeat (first | refine blk_drewN ?_ _ | refine blk_drew ?_ | refine blk_alloc ?_ _)); exact BK1011.out⟩, ⟨by (with_reducible repeat (first | refine blk_drewN ?_ _ | refine blk_drew ?_ | refine blk_alloc ?_ _)); exact BK1012.out⟩, ⟨by (with_reducible repeat (first | refine blk_drewN ?_ _ | refine blk_drew ?_ | refine blk_alloc ?_ _)); exact BK1013.out⟩, ⟨(sbe3 HB GE1011 GE1012 GE1013)⟩⟩
       ·rw [if_neg c23] at H
        exact absurd H (by simp)
      ·rw [if_neg c22] at H
       have c22b0 : ((Int.tmod (ji21) 2) == 0) = false := beq_eq_false_iff_ne.mpr c22
       have c22b1 : ((Int.tmod (ji21) 2) != 0) = true := bne_iff_ne.mpr c22
       have H' := Aside0.mk H
       clear H
       have hnb31 := NB1013_1011.out
       have hnc31 := NB1011_1013.out
       have hnb32 := NB1013_1012.out
       have hnc32 := NB1012_1013.out
       have hcz33_0 := sc 0 BK1013
       have hcz33_1 := sc 1 BK1013
       have hcz33_2 := sc 2 BK1013
       have hfz33_0 := blk_frozen BK1013.out 0
       have hfz33_1 := blk_frozen BK1013.out 1
       have hfz33_2 := blk_frozen BK1013.out 2
       obtain ⟨Ao34, co34, eo34⟩ := Kd.R_slice HO_1014000.out
       subst eo34
       go_wp2
       go_roundg k1
       case measure => have := HK1.out; omega
       case rel => exact ⟨(wrap64 (x6_1 + 1)), (x1014000_1), (.slice Ao34 x1014000_1.length co34), (by first | rfl | (simp; done) | (simp [*]; done)), H', ⟨by have := HK1.out; omega⟩, ⟨by (with_reducible repeat (first | apply Kd.V_alloc | apply Kd.V_drewN | apply Kd.V_drew)); exact HO_1012001.out⟩, ⟨by (with_reducible repeat (first | apply Kd.R_alloc | apply Kd.R_drewN | apply Kd.R_drew)); exact HO_1014000.out⟩, ⟨by (with_reducible repeat (first | apply Kd.V_alloc | apply Kd.V_drewN | apply Kd.V_drew)); exact HO_1014001.out⟩, ⟨by (with_reducible repeat (first | refine blk_drewN ?_ _ | refine blk_drew ?_ | refine blk_alloc ?_ _)); exact BK1011.out⟩, ⟨by (with_reducible repeat (first | refine blk_drewN ?_ _ | refine blk_drew ?_ | refine blk_alloc ?_ _)); exact BK1012.out⟩, ⟨by (with_reducible repeat (first | refine blk_drewN ?_ _ | refine blk_drew ?_ | refine blk_alloc ?_ _)); exact BK1013.out⟩, ⟨(sbe3 HB GE1011 GE1012 GE1013)⟩⟩
     ·rw [if_neg c20] at H
      exact absurd H (by simp)
    ·rw [if_neg c18] at H
     have c18b0 : decide (x6_1 < (x1014000_1.length : Int)) = false := decide_eq_false c18
     clear c18
     simp only [Option.some.injEq, Prod.mk.injEq] at H
     obtain ⟨rfl, rfl, rfl⟩ := H
     have hnb35 := NB1013_1011.out
     have hnc35 := NB1011_1013.out
     have hnb36 := NB1013_1012.out
     have hnc36 := NB1012_1013.out
     have hcz37_0 := sc 0 BK1013
     have hcz37_1 := sc 1 BK1013
     have hcz37_2 := sc 2 BK1013
     have hfz37_0 := blk_frozen BK1013.out 0
     have hfz37_1 := blk_frozen BK1013.out 1
     have hfz37_2 := blk_frozen BK1013.out 2
     obtain ⟨Ao38, co38, eo38⟩ := Kd.R_slice HO_1014000.out
     subst eo38
     have hnb39 := NB1012_1011.out
     have hnc39 := NB1011_1012.out
     have hcz40_0 := sc 0 BK1012
     have hcz40_1 := sc 1 BK1012
     have hcz40_2 := sc 2 BK1012
     have hfz40_0 := blk_frozen BK1012.out 0
     have hfz40_1 := blk_frozen BK1012.out 1
     have hfz40_2 := blk_frozen BK1012.out 2
     go_wp2
     refine bodyPost_ret (results_cell_row rfl _ _ gb1012 25 #[.slice Ao38 x1014000_1.length co38, .slice A0_1 l0_1.length c0_1, .int .i64 0] (0, 0) _ rfl (by (with_reducible repeat (first | refine blk_drewN ?_ _ | refine blk_drew ?_ | refine blk_alloc ?_ _)); refine blk_put (cs := #[.slice Ao38 x1014000_1.length co38, .slice A0_1 l0_1.length c0_1, .int .i64 0]) ?_ 2 _ rfl; (with_reducible repeat (first | refine blk_drewN ?_ _ | refine blk_drew ?_ | refine blk_alloc ?_ _)); refine blk_put (cs := #[.slice Ao38 x1014000_1.length co38, .slice none 0 0, .int .i64 0]) ?_ 1 _ rfl; (with_reducible repeat (first | refine blk_drewN ?_ _ | refine blk_drew ?_ | refine blk_alloc ?_ _)); refine blk_put (cs := #[.slice none 0 0, .slice none 0 0, .int .i64 0]) ?_ 0 _ rfl; (with_reducible repeat (first | refine blk_drewN ?_ _ | refine blk_drew ?_ | refine blk_alloc ?_ _)); exact BK1012.out) Try.underlying25 rfl (by kernel_rfl)) rfl ?_
     exact ⟨_, _, by first | rfl | (simp [errW_none, errW_some] <;> rfl) | (simp [*, errW_none, errW_some] <;> rfl), by (with_reducible repeat (first | apply Kd.R_alloc | apply Kd.R_drewN | apply Kd.R_drew)); exact Kd.R_mono (Kd.R_far (p := ⟨gb1012, 2, none⟩) (Kd.R_far (p := ⟨gb1012, 1, none⟩) (Kd.R_far (p := ⟨gb1012, 0, none⟩) (Kd.R_types HO_1014000.out BK1012.out (by decide)) (fun _ hk => hk.2) (.slice Ao38 x1014000_1.length co38)) (fun _ hk => hk.2) (.slice A0_1 l0_1.length c0_1)) (fun _ hk => hk.2) (.int .i64 0)) (fun _ hk => hk.1), by (with_reducible repeat (first | apply Kd.V_alloc | apply Kd.V_drewN | apply Kd.V_drew)); exact Kd.V_mono (Kd.V_far (p := ⟨gb1012, 2, none⟩) (Kd.V_far (p := ⟨gb1012, 1, none⟩) (Kd.V_far (p := ⟨gb1012, 0, none⟩) (Kd.V_mono HO_1014001.out (fun k_ hk => (⟨hk, hk.2.2.2.1⟩ : _ ∧ k_ ≠ gb1012))) (fun _ hk => hk.2) (.slice Ao38 x1014000_1.length co38)) (fun _ hk => hk.2) (.slice A0_1 l0_1.length c0_1)) (fun _ hk => hk.2) (.int .i64 0)) (fun _ hk => ⟨hk.1.1, hk.1.2.1⟩), (sbe3 HB GE1011 GE1012 GE1013)⟩
 ·rw [if_neg c3] at H
  exact absurd H (by simp)
end Go.Proofs.Ytnbbbeghgomnoaa.X
namespace Go.Proofs.Ytnbbbeghgomnoaa.X
open Go.RowKit Go.Proofs.YtnbbbeghgomnoaaW.PrintWords Go.Proofs.YtnbbbeghgomnoaaW.PrintLast Go.Proofs.YtnbbbeghgomnoaaW.PrintMore
attribute [local go_sem] max2_int min2_int max_two min_two max_three min_three max_four min_four
set_option linter.unusedVariables false
set_option linter.unusedSimpArgs false
set_option maxHeartbeats 8000000 in
set_option maxRecDepth 100000 in
theorem posserref03_Bits.calls (k : Nat) (a0 : Int) (r : List Int) (w : World) (h : posserref03_Bits.f k a0 = some r) :
  Calls Try.prog 48 #[.int .i64 a0] w fun e w' => ∃ v0_ : Value, e = .returned (v0_) ∧ Kd.R (Kd.int .i64) 3 w' w.heap.size (fun _ => True) v0_ r ∧ Below w.heap.size w w' := by
 have HB := Aside0.mk (Below.refl w.heap.size w)
 have H : (posserref03_Bits.l0 k a0 ([] : List Int) 0) = some r := h
 clear h
 have H' := Aside0.mk H
 clear H
 go_enter Try.func48, Try.ntmps48
 go_wp2
 go_loopg [3, 4] k (fun kq v3 v4 w' => ∃ (x3_1 : List Int) (x4_1 : Int), v4 = .int .i64 x4_1 ∧ Aside0 (posserref03_Bits.l0 kq a0 x3_1 x4_1 = some r) ∧ Aside0 (kq ≤ k) ∧ Aside0 (Kd.R (Kd.int .i64) 3 w' w.heap.size (fun _ => True) v3 x3_1) ∧ Aside0 (Below w.heap.size w w'))
 case atStart => exact ⟨(([] : List Int)), (0), (by first | rfl | (simp; done) | (simp [*]; done)), H', ⟨Nat.le_refl _⟩, ⟨by first | exact Kd.R_nil _ _ _ _ _ | exact Kd.N_nil _ _ _ _ _ | exact Kd.V_nil _ _ _ _ _ | exact Kd.Q_nil _ _ _ _ _ | exact Kd.S_nil _ _ _ _ _⟩, ⟨(sbe HB)⟩⟩
 case round =>
  clear H'
  obtain ⟨x3_1, x4_1, rfl, HA, HK1, HO_3, HB⟩ := hrel
  cases gk with
  | zero => exact absurd HA.out (by simp [posserref03_Bits.l0])
  | succ k1 =>
   have H := HA.out
   clear HA
   simp only [posserref03_Bits.l0] at H
   obtain ⟨ji2, hji2⟩ : ∃ j_ : Int, (IntKind.u64.wrap (x4_1)) = j_ := ⟨_, rfl⟩
   replace H : (if 0 ≤ (ji2) then (if (shr .i64 a0 (ji2)) > 0 then (if (Int.tmod (shr .i64 a0 (ji2)) 2) = 1 then (if x3_1.length < 17592186044416 then (posserref03_Bits.l0 k1 a0 (x3_1 ++ [x4_1]) (wrap64 (x4_1 + 1))) else (none)) else (posserref03_Bits.l0 k1 a0 x3_1 (wrap64 (x4_1 + 1)))) else (some x3_1)) else (none)) = some r := by first | (rw [hji2] at H; exact H) | (simp only [hji2] at H ⊢; exact H)
   by_cases c3 : 0 ≤ (ji2)
   ·rw [if_pos c3] at H
    have c3b0 := eq_true c3
    have c3b1 : decide (0 ≤ (ji2)) = true := decide_eq_true c3
    clear c3
    obtain ⟨ji4, hji4⟩ : ∃ j_ : Int, (shr .i64 a0 (ji2)) = j_ := ⟨_, rfl⟩
    replace H : (if (ji4) > 0 then (if (Int.tmod (ji4) 2) = 1 then (if x3_1.length < 17592186044416 then (posserref03_Bits.l0 k1 a0 (x3_1 ++ [x4_1]) (wrap64 (x4_1 + 1))) else (none)) else (posserref03_Bits.l0 k1 a0 x3_1 (wrap64 (x4_1 + 1)))) else (some x3_1)) = some r := by first | (rw [hji4] at H; exact H) | (simp only [hji4] at H ⊢; exact H)
    have hji4_ : (a0 / 2 ^ min (ji2).toNat 64) = ji4 := hji4
    have hji4z : (ji2) ≤ 64 → (a0 / 2 ^ (ji2).toNat) = ji4 := shr_small hji4
    by_cases c5 : (ji4) > 0
    ·rw [if_pos c5] at H
     have c5b0 : decide (0 < (ji4)) = true := decide_eq_true c5
     clear c5
     have c6b0 := eq_true (of_decide_eq_true (by first | (with_reducible assumption) | assumption) : 0 ≤ (ji2))
     by_cases c7 : (Int.tmod (ji4) 2) = 1
     ·rw [if_pos c7] at H
      have c7b0 : ((Int.tmod (ji4) 2) == 1) = true := beq_iff_eq.mpr c7
      have c7b1 : ((Int.tmod (ji4) 2) != 1) = false := bne_eq_false_iff_eq.mpr c7
      clear c7
      by_cases c8 : x3_1.length < 17592186044416
      ·rw [if_pos c8] at H
       have LMc8 := Aside0.mk c8
       clear c8
       obtain ⟨y133, hy133⟩ : ∃ y_ : List Int, y_ = (x3_1 ++ [x4_1]) := ⟨_, rfl⟩
       replace H : (posserref03_Bits.l0 k1 a0 y133 (wrap64 (x4_1 + 1))) = some r := by first | (rw [hy133]; with_reducible exact H) | (have H2_ := (Option.bind_some _ _).symm.trans H; rw [hy133]; with_reducible exact H2_) | (have H2_ := (Option.bind_some _ _).symm.trans H; with_reducible exact H2_) | with_reducible exact H | (rw [hy133]; exact H) | exact H
       have Ny133 := Aside0.mk hy133
       clear hy133
       have H' := Aside0.mk H
       clear H
       go_wp2_with (first | ((with_reducible refine gate_builtin (b := .append) (xs := #[.tmp 18, .tmp 20]) rfl ?_); at_builtin; refine Kd.R_append (Kd.int .i64) (w0 := w) w.heap.size rfl (.tmp 18) (.tmp 20) 39 3 (.int .i64 0) 8 rfl Try.underlying39 info3 rfl (by decide) (by omega) u3 x3_1 x4_1 [.int .i64 x4_1] (fun _ => True) (fun _ => False) rfl rfl ?aP (fun _ hk => hk.elim) ?aF ?aO ?aB ?aS ?aL ?_; (case aP => exact rfl); (case aB => exact (sbe HB)); (case aF => exact (fun _ _ => trivial)); (case aO => exact (sR HO_3)); (case aS => exact (below_size (sbe HB))); (case aL => have := LMc8.out; omega); intro v134 w9 ho hb hg hat; rw [← Ny133.out] at ho; have n0_ := Aside0.mk (hb); have n1_ := Aside0.mk (ho); clear HB; clear HO_3; have HB := n0_; have HO135 := n1_; clear n0_ n1_; clear ho hb hg hat))
       go_roundg k1
       case measure => have := HK1.out; omega
       case rel => exact ⟨(y133), (wrap64 (x4_1 + 1)), (by first | rfl | (simp; done) | (simp [*]; done)), H', ⟨by have := HK1.out; omega⟩, ⟨by (with_reducible repeat (first | apply Kd.R_alloc | apply Kd.R_drewN | apply Kd.R_drew)); exact HO135.out⟩, ⟨(sbe HB)⟩⟩
      ·rw [if_neg c8] at H
       exact absurd H (by simp)
     ·rw [if_neg c7] at H
      have c7b0 : ((Int.tmod (ji4) 2) == 1) = false := beq_eq_false_iff_ne.mpr c7
      have c7b1 : ((Int.tmod (ji4) 2) != 1) = true := bne_iff_ne.mpr c7
      have H' := Aside0.mk H
      clear H
      go_wp2
      go_roundg k1
      case measure => have := HK1.out; omega
      case rel => exact ⟨(x3_1), (wrap64 (x4_1 + 1)), (by first | rfl | (simp; done) | (simp [*]; done)), H', ⟨by have := HK1.out; omega⟩, ⟨by (with_reducible repeat (first | apply Kd.R_alloc | apply Kd.R_drewN | apply Kd.R_drew)); exact HO_3.out⟩, ⟨(sbe HB)⟩⟩
    ·rw [if_neg c5] at H
     have c5b0 : decide (0 < (ji4)) = false := decide_eq_false c5
     clear c5
     obtain rfl := Option.some.inj H
     go_wp2
     go_ret
     exact ⟨_, by first | rfl | (simp [errW_none, errW_some] <;> rfl) | (simp only [← hji2, ← hji4]; first | rfl | (simp [errW_none, errW_some] <;> rfl)) | (simp [*, errW_none, errW_some] <;> rfl), by (with_reducible repeat (first | apply Kd.R_alloc | apply Kd.R_drewN | apply Kd.R_drew)); exact HO_3.out, (sbe HB)⟩
   ·rw [if_neg c3] at H
    exact absurd H (by simp)
end Go.Proofs.Ytnbbbeghgomnoaa.X
namespace Go.Proofs.Ytnbbbeghgomnoaa.X
open Go.RowKit Go.Proofs.YtnbbbeghgomnoaaW.PrintWords Go.Proofs.YtnbbbeghgomnoaaW.PrintLast Go.Proofs.YtnbbbeghgomnoaaW.PrintMore
attribute [local go_sem] max2_int min2_int max_two min_two max_three min_three max_four min_four
set_option linter.unusedVariables false
set_option linter.unusedSimpArgs false
set_option maxHeartbeats 8000000 in
set_option maxRecDepth 100000 in
theorem posserref03_Full.calls (A0_0 : Option Addr) (c0_0 : Nat) (l0_0 : List (S85)) (A0_1 : Option Addr) (c0_1 : Nat) (l0_1 : List (S71)) (a0_2 : Int) (r : Int) (w : World) (hr0_0 : Kd.C k85 w A0_0 l0_0.length l0_0) (hc0_0 : l0_0.length ≤ c0_0) (hr0_1 : Kd.C k71 w A0_1 l0_1.length l0_1) (hc0_1 : l0_1.length ≤ c0_1) (h : posserref03_Full.f l0_0 l0_1 a0_2 = some r) :
  Calls Try.prog 58 #[.agg #[.slice A0_0 l0_0.length c0_0, .slice A0_1 l0_1.length c0_1, .int .i64 a0_2]] w fun e w' => e = .returned (.int .i64 r) ∧ Below w.heap.size w w' := by
 have hu25 := Try.underlying25
 have HR0_0 := Aside0.mk hr0_0
 have HC0_0 := Aside0.mk hc0_0
 clear hr0_0 hc0_0
 have HR0_1 := Aside0.mk hr0_1
 have HC0_1 := Aside0.mk hc0_1
 clear hr0_1 hc0_1
 have HB := Aside0.mk (Below.refl w.heap.size w)
 have H : (if 0 ≤ (IntKind.u64.wrap ((l0_0.length : Int))) then (some (wrap64 ((shl .i64 1 (IntKind.u64.wrap ((l0_0.length : Int)))) - 1))) else (none)) = some r := h
 clear h
 obtain ⟨ji2, hji2⟩ : ∃ j_ : Int, (IntKind.u64.wrap ((l0_0.length : Int))) = j_ := ⟨_, rfl⟩
 replace H : (if 0 ≤ (ji2) then (some (wrap64 ((shl .i64 1 (ji2)) - 1))) else (none)) = some r := by first | (rw [hji2] at H; exact H) | (simp only [hji2] at H ⊢; exact H)
 by_cases c3 : 0 ≤ (ji2)
 ·rw [if_pos c3] at H
  have c3b0 := eq_true c3
  have c3b1 : decide (0 ≤ (ji2)) = true := decide_eq_true c3
  clear c3
  obtain ⟨ji4, hji4⟩ : ∃ j_ : Int, (shl .i64 1 (ji2)) = j_ := ⟨_, rfl⟩
  replace H : (some (wrap64 ((ji4) - 1))) = some r := by first | (rw [hji4] at H; exact H) | (simp only [hji4] at H ⊢; exact H)
  have hji4_ : (IntKind.i64.wrap (1 * 2 ^ min (ji2).toNat 64)) = ji4 := hji4
  have hji4z : (ji2) ≤ 64 → (IntKind.i64.wrap (1 * 2 ^ (ji2).toNat)) = ji4 := shl_small hji4
  have hji4u : (IntKind.i64.wrap (2 ^ min (ji2).toNat 64)) = ji4 := by have h_ := hji4_; rw [Int.one_mul] at h_; exact h_
  have hji4v : (ji2) ≤ 64 → (IntKind.i64.wrap (2 ^ (ji2).toNat)) = ji4 := fun hle_ => by have h_ := hji4z hle_; rw [Int.one_mul] at h_; exact h_
  have hji4y : (wrap64 (1 * 2 ^ min (ji2).toNat 64)) = ji4 := (i64_w _).symm.trans hji4_
  have hji4x : (ji2) ≤ 64 → (wrap64 (1 * 2 ^ (ji2).toNat)) = ji4 := fun h_ => (i64_w _).symm.trans (hji4z h_)
  obtain rfl := Option.some.inj H
  go_enter Try.func58, Try.ntmps58
  go_wp2_with (first | ((with_reducible refine gate_dst (N := 1) rfl ?_); refine sbox (N := 1) #[.slice A0_0 l0_0.length c0_0, .slice A0_1 l0_1.length c0_1, .int .i64 a0_2] 25 ?_; intro gb136 hg w5 hbox hb; have BK136 := Aside0.mk (hbox); have GW136 := Aside0.mk (sge hg HB : w.heap.size ≤ gb136); have GE136 := Aside0.mk (sge hg HB : w.heap.size ≤ gb136); replace HB := Aside0.mk (sbs HB hb); clear hb hbox hg; have hcz6_0 := sc 0 BK136; have hcz6_1 := sc 1 BK136; have hcz6_2 := sc 2 BK136; have hfz6_0 := blk_frozen BK136.out 0; have hfz6_1 := blk_frozen BK136.out 1; have hfz6_2 := blk_frozen BK136.out 2))
  go_ret
  exact ⟨by first | rfl | (simp [errW_none, errW_some] <;> rfl) | (simp only [← hji2, ← hji4]; first | rfl | (simp [errW_none, errW_some] <;> rfl)) | (simp [*, errW_none, errW_some] <;> rfl), (sbe1 HB GE136)⟩
 ·rw [if_neg c3] at H
  exact absurd H (by simp)
end Go.Proofs.Ytnbbbeghgomnoaa.X
namespace Go.Proofs.Ytnbbbeghgomnoaa.X
open Go.RowKit Go.Proofs.YtnbbbeghgomnoaaW.PrintWords Go.Proofs.YtnbbbeghgomnoaaW.PrintLast Go.Proofs.YtnbbbeghgomnoaaW.PrintMore
attribute [local go_sem] max2_int min2_int max_two min_two max_three min_three max_four min_four
set_option linter.unusedVariables false
set_option linter.unusedSimpArgs false
def posserlaw03_BundleLeft.l0 : Nat → Int → List Int → Int → Int → List (S85) → List (S71) → Int → Option (Bool)
 | 0, _, _, _, _, _, _, _ => none
 | k + 1, x1, x5, x7, x8, x1092000, x1092001, x1092002 => if x8 < (x5.length : Int) then (if 0 ≤ x8 then (if (rd x5 x8) < 0 then (none) else (if (rd x5 x8) ≥ (x1092000.length : Int) then (none) else (if x8 > 0 then (if 0 ≤ (wrap64 (x8 - 1)) then (if (wrap64 (x8 - 1)) < (x5.length : Int) then (if (rd x5 x8) ≤ (rd x5 (wrap64 (x8 - 1))) then (none) else (if 0 ≤ (IntKind.u64.wrap (rd x5 x8)) then (posserlaw03_BundleLeft.l0 k x1 x5 (Go.bits .or .i64 x7 (shl .i64 1 (IntKind.u64.wrap (rd x5 x8)))) (wrap64 (x8 + 1)) x1092000 x1092001 x1092002) else (none))) else (none)) else (none)) else (if 0 ≤ (IntKind.u64.wrap (rd x5 x8)) then (posserlaw03_BundleLeft.l0 k x1 x5 (Go.bits .or .i64 x7 (shl .i64 1 (IntKind.u64.wrap (rd x5 x8)))) (wrap64 (x8 + 1)) x1092000 x1092001 x1092002) else (none))))) else (none)) else ((posserref03_Full.f x1092000 x1092001 x1092002).bind fun t1110 => ((posserref03_Full.f x1092000 x1092001 x1092002).bind fun t1111 => ((posserlaw03_some.f k x1092000 x1092001 x1092002 (Go.bits .andNot .i64 t1111 x7)).bind fun bt1112 => ((posserlaw03_Table.f bt1112.1 bt1112.2.1 bt1112.2.2).bind fun bt1119 => ((bundle_Whose.f bt1119.1 bt1119.2.1 bt1119.2.2).bind fun bt1126 => ((posserref03_Full.f x1092000 x1092001 x1092002).bind fun t1130 => ((posserlaw03_some.f k x1092000 x1092001 x1092002 (Go.bits .andNot .i64 t1130 (Go.bits .and .i64 (wrap64 (x1)) t1110))).bind fun bt1131 => ((posserlaw03_Table.f bt1131.1 bt1131.2.1 bt1131.2.2).bind fun bt1138 => ((bundle_Whose.f bt1138.1 bt1138.2.1 bt1138.2.2).bind fun bt1145 => (if bt1126.2 = 0 then (if bt1145.2 = 11 then ((posserlaw03_awake.f).bind fun t1149 => (some t1149)) else (if bt1145.2 = 0 then ((posserref03_Bits.f k (Go.bits .and .i64 (wrap64 (x1)) t1110)).bind fun t1150 => ((posserref03_Shorter.f k t1150 x5).bind fun t1153 => (if t1153 = true then (none) else ((posserlaw03_awake.f).bind fun t1154 => (some t1154))))) else (none))) else (none)))))))))))
def posserlaw03_BundleLeft.f (k : Nat) (l0_0 : List (S85)) (l0_1 : List (S71)) (a0_2 : Int) (a1 : Int) : Option (Bool) := (posserlaw03_ready.f k l0_0 l0_1 a0_2).bind fun t1092 => (if t1092 = true then ((posserlaw03_Table.f l0_0 l0_1 a0_2).bind fun bt1093 => ((bundle_Leave.f bt1093.1 bt1093.2.1 bt1093.2.2).bind fun bt1100 => (if bt1100.2 = 0 then (posserlaw03_BundleLeft.l0 k a1 bt1100.1 0 0 l0_0 l0_1 a0_2) else (none)))) else ((posserlaw03_awake.f).bind fun t1155 => (some t1155)))
def posserlaw03_BundleLeft.T10 : Bool × List (List Nat × List Nat) := (true, [([], []), ([], []), ([0, 1], [0, 1]), ([2], [2]), ([3], [3]), ([4], [4]), ([5], [5]), ([5], [5]), ([6, 7, 5], [5, 6, 7]), ([8, 5], [5, 8]), ([5], [5]), ([10, 5], [5, 10]), ([11, 5], [5, 11]), ([9, 12, 5], [5, 9, 12]), ([5, 13], [5, 13]), ([14, 5], [14]), ([15], [15]), ([16, 15], [15, 16]), ([17, 15, 15], [15, 17]), ([18], [18]), ([18], [18]), ([19, 20, 18], [18, 19, 20]), ([21, 18], [18, 21]), ([18], [18]), ([18], [18]), ([24, 18], [18, 24]), ([23, 25, 18], [18, 23, 25]), ([26, 18], [18, 26]), ([22, 27, 18], [18, 22, 27]), ([18, 28, 15], [15, 18, 28]), ([15, 29], [15, 29])])
def posserlaw03_BundleLeft.B10 : List Nat := [0, 0, 3, 7, 15, 31, 63, 63, 255, 511, 63, 1087, 3135, 8191, 16383, 32767, 65535, 131071, 262143, 524287, 524287, 2097151, 4194303, 524287, 524287, 17301503, 59244543, 126353407, 268435455, 536870911, 1073741823]
theorem posserlaw03_BundleLeft.tab10 : rtab .any (opsOf Try.f17 10) = posserlaw03_BundleLeft.T10 := by kernel_rfl
theorem posserlaw03_BundleLeft.bits10 : waitsOk posserlaw03_BundleLeft.T10.2 posserlaw03_BundleLeft.B10 = true := by kernel_rfl
def posserlaw03_BundleLeft.T14 : Bool × List (List Nat × List Nat) := (true, [([], []), ([], []), ([1], [1]), ([], []), ([2, 3], [2, 3]), ([0, 4, 2], [0, 4]), ([5, 5], [5]), ([6, 6], [6]), ([7], [7]), ([8], [8]), ([8], [8]), ([9, 7, 0, 1, 2, 3, 4, 5, 6, 7, 8, 9], [9]), ([10, 11, 0, 1, 2, 3, 4, 5, 6, 7, 8, 9, 10, 11], [10])])
def posserlaw03_BundleLeft.B14 : List Nat := [0, 0, 2, 0, 14, 31, 63, 127, 255, 511, 511, 1023, 4095]
theorem posserlaw03_BundleLeft.tab14 : rtab .any (opsOf Try.f17 14) = posserlaw03_BundleLeft.T14 := by kernel_rfl
theorem posserlaw03_BundleLeft.bits14 : waitsOk posserlaw03_BundleLeft.T14.2 posserlaw03_BundleLeft.B14 = true := by kernel_rfl
def posserlaw03_BundleLeft.T15 : Bool × List (List Nat × List Nat) := (true, [([], []), ([], []), ([1], [1]), ([], []), ([2, 3], [2, 3]), ([0, 4, 2], [0, 4]), ([5, 5], [5]), ([6, 6], [6]), ([7], [7]), ([8], [8]), ([8], [8]), ([9, 7, 0, 1, 2, 3, 4, 5, 6, 7, 8, 9], [9]), ([10, 11, 0, 1, 2, 3, 4, 5, 6, 7, 8, 9, 10, 11], [10])])
def posserlaw03_BundleLeft.B15 : List Nat := [0, 0, 2, 0, 14, 31, 63, 127, 255, 511, 511, 1023, 4095]
theorem posserlaw03_BundleLeft.tab15 : rtab .any (opsOf Try.f17 15) = posserlaw03_BundleLeft.T15 := by kernel_rfl
theorem posserlaw03_BundleLeft.bits15 : waitsOk posserlaw03_BundleLeft.T15.2 posserlaw03_BundleLeft.B15 = true := by kernel_rfl
set_option maxHeartbeats 8000000 in
set_option maxRecDepth 100000 in
theorem posserlaw03_BundleLeft.calls (k : Nat) (A0_0 : Option Addr) (c0_0 : Nat) (l0_0 : List (S85)) (A0_1 : Option Addr) (c0_1 : Nat) (l0_1 : List (S71)) (a0_2 : Int) (a1 : Int) (r : Bool) (w : World) (hr0_0 : Kd.C k85 w A0_0 l0_0.length l0_0) (hc0_0 : l0_0.length ≤ c0_0) (hr0_1 : Kd.C k71 w A0_1 l0_1.length l0_1) (hc0_1 : l0_1.length ≤ c0_1) (h : posserlaw03_BundleLeft.f k l0_0 l0_1 a0_2 a1 = some r) :
  Calls Try.prog 17 #[.agg #[.slice A0_0 l0_0.length c0_0, .slice A0_1 l0_1.length c0_1, .int .i64 a0_2], .int .u8 a1] w fun e w' => e = .returned (.bool r) ∧ Below w.heap.size w w' := by
 have hu25 := Try.underlying25
 have HR0_0 := Aside0.mk hr0_0
 have HC0_0 := Aside0.mk hc0_0
 clear hr0_0 hc0_0
 have HR0_1 := Aside0.mk hr0_1
 have HC0_1 := Aside0.mk hc0_1
 clear hr0_1 hc0_1
 have HB := Aside0.mk (Below.refl w.heap.size w)
 have H : ((posserlaw03_ready.f k l0_0 l0_1 a0_2).bind fun t1092 => (if t1092 = true then ((posserlaw03_Table.f l0_0 l0_1 a0_2).bind fun bt1093 => ((bundle_Leave.f bt1093.1 bt1093.2.1 bt1093.2.2).bind fun bt1100 => (if bt1100.2 = 0 then (posserlaw03_BundleLeft.l0 k a1 bt1100.1 0 0 l0_0 l0_1 a0_2) else (none)))) else ((posserlaw03_awake.f).bind fun t1155 => (some t1155)))) = some r := h
 clear h
 replace H := Option.bind_eq_some_iff.mp H
 obtain ⟨t1092, A30, H⟩ := H
 replace H : (if t1092 = true then ((posserlaw03_Table.f l0_0 l0_1 a0_2).bind fun bt1093 => ((bundle_Leave.f bt1093.1 bt1093.2.1 bt1093.2.2).bind fun bt1100 => (if bt1100.2 = 0 then (posserlaw03_BundleLeft.l0 k a1 bt1100.1 0 0 l0_0 l0_1 a0_2) else (none)))) else ((posserlaw03_awake.f).bind fun t1155 => (some t1155))) = some r := H
 have A3 := Aside0.mk A30
 clear A30
 by_cases c4 : t1092 = true
 ·subst c4
  have H1 : ((posserlaw03_Table.f l0_0 l0_1 a0_2).bind fun bt1093 => ((bundle_Leave.f bt1093.1 bt1093.2.1 bt1093.2.2).bind fun bt1100 => (if bt1100.2 = 0 then (posserlaw03_BundleLeft.l0 k a1 bt1100.1 0 0 l0_0 l0_1 a0_2) else (none)))) = some r := by rw [if_pos rfl] at H; exact H
  clear H
  have H := H1
  clear H1
  replace H := Option.bind_eq_some_iff.mp H
  obtain ⟨⟨t1093, t1096, t1099⟩, A50, H⟩ := H
  replace H : ((bundle_Leave.f t1093 t1096 t1099).bind fun bt1100 => (if bt1100.2 = 0 then (posserlaw03_BundleLeft.l0 k a1 bt1100.1 0 0 l0_0 l0_1 a0_2) else (none))) = some r := H
  have A5 := Aside0.mk A50
  clear A50
  replace H := Option.bind_eq_some_iff.mp H
  obtain ⟨⟨t1100, t1103⟩, A60, H⟩ := H
  replace H : (if t1103 = 0 then (posserlaw03_BundleLeft.l0 k a1 t1100 0 0 l0_0 l0_1 a0_2) else (none)) = some r := H
  have A6 := Aside0.mk A60
  clear A60
  by_cases c7 : t1103 = 0
  ·rw [if_pos c7] at H
   have c7b0 : (t1103 == 0) = true := beq_iff_eq.mpr c7
   have c7b1 : (t1103 != 0) = false := bne_eq_false_iff_eq.mpr c7
   clear c7
   have H' := Aside0.mk H
   clear H
   go_enter Try.func17, Try.ntmps17
   go_wp2_with (first | ((with_reducible refine gate_dst (N := 2) rfl ?_); (try (refine gate_guard (by rfl) ?_; dsimp only)); refine sbox (N := 2) #[.slice A0_0 l0_0.length c0_0, .slice A0_1 l0_1.length c0_1, .int .i64 a0_2] 25 ?_; intro gb1091 hg w8 hbox hb; have BK1091 := Aside0.mk (hbox); have GW1091 := Aside0.mk (sge hg HB : w.heap.size ≤ gb1091); have GE1091 := Aside0.mk (sge hg HB : w.heap.size ≤ gb1091); replace HB := Aside0.mk (sbs HB hb); clear hb hbox hg; have hcz9_0 := sc 0 BK1091; have hcz9_1 := sc 1 BK1091; have hcz9_2 := sc 2 BK1091; have hfz9_0 := blk_frozen BK1091.out 0; have hfz9_1 := blk_frozen BK1091.out 1; have hfz9_2 := blk_frozen BK1091.out 2) | ((with_reducible refine gate_callee (f := 47) rfl ?_); refine goesL_ (some 15) rfl rfl Try.func47 (by kernel_rfl) rfl #[.agg #[.slice A0_0 l0_0.length c0_0, .slice A0_1 l0_1.length c0_1, .int .i64 a0_2]] rfl (by (try simp only [List.map_toArray, List.map_cons, List.map_nil]); first | done | rfl | (simp only [List.length_drop, List.length_take]; rfl)) ?_; (with_reducible refine (posserlaw03_ready.calls k _ _ l0_0 _ _ l0_1 a0_2 true _ ?side1 ?side2 ?side3 ?side4 A3.out).mono ?_); (case side1 => exact sCb HR0_0 HB); (case side2 => exact HC0_0.out); (case side3 => exact sCb HR0_1 HB); (case side4 => exact HC0_1.out); rintro e w10 ⟨rfl, hb⟩; refine ⟨_, rfl, ?_⟩; replace BK1091 := Aside0.mk (sbb BK1091 hb); replace HB := Aside0.mk (sbs1 HB GE1091 hb); (try clear hb); (try clear hb2); (try clear hk); (try clear hi); have hcz11_0 := sc 0 BK1091; have hcz11_1 := sc 1 BK1091; have hcz11_2 := sc 2 BK1091; have hfz11_0 := blk_frozen BK1091.out 0; have hfz11_1 := blk_frozen BK1091.out 1; have hfz11_2 := blk_frozen BK1091.out 2) | ((with_reducible refine gate_callee (f := 23) rfl ?_); refine goesL_ (some 20) rfl rfl Try.func23 (by kernel_rfl) rfl #[.agg #[.slice A0_0 l0_0.length c0_0, .slice A0_1 l0_1.length c0_1, .int .i64 a0_2]] rfl (by (try simp only [List.map_toArray, List.map_cons, List.map_nil]); first | done | rfl | (simp only [List.length_drop, List.length_take]; rfl)) ?_; (with_reducible refine (posserlaw03_Table.calls _ _ l0_0 _ _ l0_1 a0_2 t1093 t1096 t1099 _ ?side1 ?side2 ?side3 ?side4 A5.out).mono ?_); (case side1 => exact sCb HR0_0 HB); (case side2 => exact HC0_0.out); (case side3 => exact sCb HR0_1 HB); (case side4 => exact HC0_1.out); rintro e w12 ⟨v1094, v1097, rfl, ho0, ho1, hb⟩; refine ⟨_, rfl, ?_⟩; have HO1095 := Aside0.mk (Kd.R_lower (Kd.R_mono (ok' := fun k_ => True) ho0 (fun _ hk_ => trivial)) (below_size (sbe1 HB GE1091))); have HO1098 := Aside0.mk (Kd.N_lower (Kd.N_mono (ok' := fun k_ => some k_ ≠ (v1094 : Value).ownBlock ∧ k_ ≠ gb1091) ho1 (fun k_ hk_ => ⟨hk_.2, (Kd.freshB (g := gb1091) (o := .cells #[.slice A0_0 l0_0.length c0_0, .slice A0_1 l0_1.length c0_1, .int .i64 a0_2] 25 (0, 0)) (sbk BK1091) k_ hk_.1)⟩)) (below_size (sbe1 HB GE1091))); replace BK1091 := Aside0.mk (sbb BK1091 hb); replace HB := Aside0.mk (sbs1 HB GE1091 hb); (try clear hb); (try clear hb2); (try clear hk); (try clear hi); (try clear ho0); (try clear ho1); obtain ⟨Ao13, co13, eo13⟩ := Kd.R_slice HO1095.out; subst eo13; obtain ⟨Ao14, co14, eo14⟩ := Kd.N_slice HO1098.out; subst eo14) | ((with_reducible refine gate_callee (f := 32) rfl ?_); refine goesL_ (some 21) rfl rfl Try.func32 (by kernel_rfl) rfl #[.agg #[.slice Ao13 t1093.length co13, .slice Ao14 t1096.length co14, .int .i64 t1099]] rfl (by (try simp only [List.map_toArray, List.map_cons, List.map_nil]); first | done | rfl | (simp only [List.length_drop, List.length_take]; rfl)) ?_; (with_reducible refine (bundle_Leave.calls _ _ t1093 _ _ t1096 t1099 t1100 t1103 _ ?side1 ?side2 ?side3 ?side4 A6.out).mono ?_); (case side1 => repeat (first | exact (Kd.R_reads' HO1095.out).2.2 | (with_reducible refine Kd.C_alloc ?_ _) | (with_reducible refine Kd.C_drewN ?_ _) | (with_reducible refine Kd.C_drew ?_))); (case side2 => exact (Kd.R_reads' HO1095.out).2.1); (case side3 => repeat (first | exact (Kd.N_reads' HO1098.out).2.2 | (with_reducible refine Kd.C_alloc ?_ _) | (with_reducible refine Kd.C_drewN ?_ _) | (with_reducible refine Kd.C_drew ?_))); (case side4 => exact (Kd.N_reads' HO1098.out).2.1); rintro e w15 ⟨v1101, rfl, ho0, hb⟩; refine ⟨_, rfl, ?_⟩; have HO1102 := Aside0.mk (Kd.R_lower ho0 (below_size (sbe1 HB GE1091))); replace HO1095 := Aside0.mk (Kd.R_below (sR HO1095) hb); replace HO1098 := Aside0.mk (Kd.N_elder' (sN_ HO1098) (Kd.R_base ho0) hb); replace BK1091 := Aside0.mk (sbb BK1091 hb); replace HB := Aside0.mk (sbs1 HB GE1091 hb); (try clear hb); (try clear hb2); (try clear hk); (try clear hi); (try clear ho0)))
   go_loopg [7, 8] k (fun kq v7 v8 w' => ∃ (x7_1 : Int) (x8_1 : Int), v7 = .int .i64 x7_1 ∧ v8 = .int .i64 x8_1 ∧ Aside0 (posserlaw03_BundleLeft.l0 kq a1 t1100 x7_1 x8_1 l0_0 l0_1 a0_2 = some r) ∧ Aside0 (kq ≤ k) ∧ Aside0 (Kd.R (Kd.int .i64) 3 w' w.heap.size (fun _ => True) v1101 t1100) ∧ Aside0 (w'.heap[gb1091]? = some (.cells #[(.slice A0_0 l0_0.length c0_0), (.slice A0_1 l0_1.length c0_1), .int .i64 a0_2] 25 (0, 0))) ∧ Aside0 (Below w.heap.size w w'))
   case atStart => exact ⟨(0), (0), (by first | rfl | (simp; done) | (simp [*]; done)), (by first | rfl | (simp; done) | (simp [*]; done)), H', ⟨Nat.le_refl _⟩, ⟨by (with_reducible repeat (first | apply Kd.R_alloc | apply Kd.R_drewN | apply Kd.R_drew)); exact HO1102.out⟩, ⟨by (with_reducible repeat (first | refine blk_drewN ?_ _ | refine blk_drew ?_ | refine blk_alloc ?_ _)); exact BK1091.out⟩, ⟨(sbe1 HB GE1091)⟩⟩
   case round =>
    clear H'
    try clear c1
    try clear c2
    try clear p2
    try clear c3
    try clear c4
    try clear c7
    try clear c7b0
    try clear c7b1
    try clear hcz11_0
    try clear hcz11_1
    try clear hcz11_2
    try clear hcz9_0
    try clear hcz9_1
    try clear hcz9_2
    try clear hfz11_0
    try clear hfz11_1
    try clear hfz11_2
    try clear hfz9_0
    try clear hfz9_1
    try clear hfz9_2
    obtain ⟨x7_1, x8_1, rfl, rfl, HA, HK1, HO_5, BK1091, HB⟩ := hrel
    cases gk with
    | zero => exact absurd HA.out (by simp [posserlaw03_BundleLeft.l0])
    | succ k1 =>
     have H := HA.out
     clear HA
     simp only [posserlaw03_BundleLeft.l0] at H
     by_cases c16 : x8_1 < (t1100.length : Int)
     ·rw [if_pos c16] at H
      have c16b0 : decide (x8_1 < (t1100.length : Int)) = true := decide_eq_true c16
      clear c16
      by_cases c17 : 0 ≤ x8_1
      ·rw [if_pos c17] at H
       have c17b0 : decide (0 ≤ x8_1) = true := decide_eq_true c17
       clear c17
       by_cases c18 : (rd t1100 x8_1) < 0
       ·rw [if_pos c18] at H
        exact absurd H (by simp)
       ·rw [if_neg c18] at H
        have c18b0 : decide ((rd t1100 x8_1) < 0) = false := decide_eq_false c18
        clear c18
        by_cases c19 : (rd t1100 x8_1) ≥ (l0_0.length : Int)
        ·rw [if_pos c19] at H
         exact absurd H (by simp)
        ·rw [if_neg c19] at H
         have c19b0 : decide ((l0_0.length : Int) ≤ (rd t1100 x8_1)) = false := decide_eq_false c19
         clear c19
         by_cases c20 : x8_1 > 0
         ·rw [if_pos c20] at H
          have c20b0 : decide (0 < x8_1) = true := decide_eq_true c20
          clear c20
          obtain ⟨ji21, hji21⟩ : ∃ j_ : Int, (wrap64 (x8_1 - 1)) = j_ := ⟨_, rfl⟩
          replace H : (if 0 ≤ (ji21) then (if (ji21) < (t1100.length : Int) then (if (rd t1100 x8_1) ≤ (rd t1100 (ji21)) then (none) else (if 0 ≤ (IntKind.u64.wrap (rd t1100 x8_1)) then (posserlaw03_BundleLeft.l0 k1 a1 t1100 (Go.bits .or .i64 x7_1 (shl .i64 1 (IntKind.u64.wrap (rd t1100 x8_1)))) (wrap64 (x8_1 + 1)) l0_0 l0_1 a0_2) else (none))) else (none)) else (none)) = some r := by first | (rw [hji21] at H; exact H) | (simp only [hji21] at H ⊢; exact H)
          have hji21w : (IntKind.i64.wrap (x8_1 - 1)) = ji21 := (i64_w _).trans hji21
          by_cases c22 : 0 ≤ (ji21)
          ·rw [if_pos c22] at H
           have c22b0 : decide (0 ≤ (ji21)) = true := decide_eq_true c22
           clear c22
           by_cases c23 : (ji21) < (t1100.length : Int)
           ·rw [if_pos c23] at H
            have c23b0 : decide ((ji21) < (t1100.length : Int)) = true := decide_eq_true c23
            clear c23
            by_cases c24 : (rd t1100 x8_1) ≤ (rd t1100 (ji21))
            ·rw [if_pos c24] at H
             exact absurd H (by simp)
            ·rw [if_neg c24] at H
             have c24b0 : decide ((rd t1100 x8_1) ≤ (rd t1100 (ji21))) = false := decide_eq_false c24
             clear c24
             obtain ⟨ji25, hji25⟩ : ∃ j_ : Int, (IntKind.u64.wrap (rd t1100 x8_1)) = j_ := ⟨_, rfl⟩
             replace H : (if 0 ≤ (ji25) then (posserlaw03_BundleLeft.l0 k1 a1 t1100 (Go.bits .or .i64 x7_1 (shl .i64 1 (ji25))) (wrap64 (x8_1 + 1)) l0_0 l0_1 a0_2) else (none)) = some r := by first | (rw [hji25] at H; exact H) | (simp only [hji25] at H ⊢; exact H)
             by_cases c26 : 0 ≤ (ji25)
             ·rw [if_pos c26] at H
              have c26b0 := eq_true c26
              have c26b1 : decide (0 ≤ (ji25)) = true := decide_eq_true c26
              clear c26
              obtain ⟨ji27, hji27⟩ : ∃ j_ : Int, (shl .i64 1 (ji25)) = j_ := ⟨_, rfl⟩
              replace H : (posserlaw03_BundleLeft.l0 k1 a1 t1100 (Go.bits .or .i64 x7_1 (ji27)) (wrap64 (x8_1 + 1)) l0_0 l0_1 a0_2) = some r := by first | (rw [hji27] at H; exact H) | (simp only [hji27] at H ⊢; exact H)
              have hji27_ : (IntKind.i64.wrap (1 * 2 ^ min (ji25).toNat 64)) = ji27 := hji27
              have hji27z : (ji25) ≤ 64 → (IntKind.i64.wrap (1 * 2 ^ (ji25).toNat)) = ji27 := shl_small hji27
              have hji27u : (IntKind.i64.wrap (2 ^ min (ji25).toNat 64)) = ji27 := by have h_ := hji27_; rw [Int.one_mul] at h_; exact h_
              have hji27v : (ji25) ≤ 64 → (IntKind.i64.wrap (2 ^ (ji25).toNat)) = ji27 := fun hle_ => by have h_ := hji27z hle_; rw [Int.one_mul] at h_; exact h_
              have hji27y : (wrap64 (1 * 2 ^ min (ji25).toNat 64)) = ji27 := (i64_w _).symm.trans hji27_
              have hji27x : (ji25) ≤ 64 → (wrap64 (1 * 2 ^ (ji25).toNat)) = ji27 := fun h_ => (i64_w _).symm.trans (hji27z h_)
              have H' := Aside0.mk H
              clear H
              obtain ⟨Ao28, co28, eo28⟩ := Kd.R_slice HO_5.out
              subst eo28
              try go_wp2
              replace HO_5 := Aside0.mk (Kd.R_drew HO_5.out)
              replace BK1091 := Aside0.mk (blk_drew BK1091.out)
              replace HB := Aside0.mk (below_drew1 HB.out)
              have p1104 : 0 ≤ (x8_1 : Int) := of_decide_eq_true (by first | (with_reducible assumption) | assumption)
              have q1104 : x8_1 < (t1100.length : Int) := of_decide_eq_true (by first | (with_reducible assumption) | assumption)
              obtain ⟨ad1104, e1104, hx1104_0⟩ := Kd.at_int (Kd.R_reads' HO_5.out).2.2 x8_1 p1104 q1104
              cases e1104
              replace p1104 := eq_true p1104
              replace q1104 := eq_true q1104
              have p1105 : 0 ≤ (x8_1 : Int) := of_decide_eq_true (by first | (with_reducible assumption) | assumption)
              have q1105 : x8_1 < (t1100.length : Int) := of_decide_eq_true (by first | (with_reducible assumption) | assumption)
              obtain ⟨ad1105, e1105, hx1105_0⟩ := Kd.at_int (Kd.R_reads' HO_5.out).2.2 x8_1 p1105 q1105
              obtain rfl : ad1104 = ad1105 := (by injection e1105)
              replace p1105 := eq_true p1105
              replace q1105 := eq_true q1105
              have p1106 : 0 ≤ (x8_1 : Int) := of_decide_eq_true (by first | (with_reducible assumption) | assumption)
              have q1106 : x8_1 < (t1100.length : Int) := of_decide_eq_true (by first | (with_reducible assumption) | assumption)
              obtain ⟨ad1106, e1106, hx1106_0⟩ := Kd.at_int (Kd.R_reads' HO_5.out).2.2 x8_1 p1106 q1106
              obtain rfl : ad1104 = ad1106 := (by injection e1106)
              replace p1106 := eq_true p1106
              replace q1106 := eq_true q1106
              have p1107 : 0 ≤ ((ji21) : Int) := of_decide_eq_true (by first | (with_reducible assumption) | assumption)
              have q1107 : (ji21) < (t1100.length : Int) := of_decide_eq_true (by first | (with_reducible assumption) | assumption)
              obtain ⟨ad1107, e1107, hx1107_0⟩ := Kd.at_int (Kd.R_reads' HO_5.out).2.2 (ji21) p1107 q1107
              obtain rfl : ad1104 = ad1107 := (by injection e1107)
              replace p1107 := eq_true p1107
              replace q1107 := eq_true q1107
              refine start_ (n := 31) (S := fun w' => w'.cell? ⟨gb1091, 0, none⟩ = some (.slice A0_0 l0_0.length c0_0) ∧ w'.cell? ⟨gb1091, 1, none⟩ = some (.slice A0_1 l0_1.length c0_1) ∧ w'.cell? ⟨gb1091, 2, none⟩ = some (.int .i64 a0_2) ∧ w'.cell? (ad1104.add (x8_1).toNat) = some (.int .i64 (rd t1100 x8_1)) ∧ w'.cell? (ad1104.add (x8_1).toNat) = some (.int .i64 (rd t1100 x8_1)) ∧ w'.cell? (ad1104.add (x8_1).toNat) = some (.int .i64 (rd t1100 x8_1)) ∧ w'.cell? (ad1104.add ((ji21)).toNat) = some (.int .i64 (rd t1100 (ji21)))) (ds := []) (lm 31 0) (by kernel_rfl) rfl (by kernel_rfl) ⟨(blk_cell BK1091.out 0).trans rfl, (blk_cell BK1091.out 1).trans rfl, (blk_cell BK1091.out 2).trans rfl, hx1104_0, hx1105_0, hx1106_0, hx1107_0⟩ (fun hHeld => ?_); refine with_tabW posserlaw03_BundleLeft.tab10 posserlaw03_BundleLeft.bits10 (fun HT_ HW_ => ?_)
              generalize wr.drew = w29 at HO_5 BK1091 HB hx1104_0 hx1105_0 hx1106_0 hx1107_0 hHeld ⊢
              refine sP (i := 0) (N := some 32) (lm 31 1) ?_ (hc := any_of HT_.out (by kernel_rfl))
              refine sP (i := 1) (N := some 33) (lm 31 3) ?_ (hc := any_of HT_.out (by kernel_rfl))
              refine sP (i := 2) (N := some 34) (lm 31 7) ?_ (hc := any_of HT_.out (by kernel_rfl))
              refine take_ (i := 3) (N := some 35) (v := ?_) (a' := ?_) (lm 31 15) rfl rfl (take_ofW HT_.out HW_.out (by kernel_rfl)) (fun _ _ _ h => h) (Or.inl ⟨by rfl, ?_⟩) hHeld ?_ ?_
              rotate_left
              ·rintro w' ⟨s0, s1, s2, s3, s4, s5, s6⟩
               go_simp
               with_reducible rfl
              rotate_left
              ·simp only [Act.put, List.setIfInBounds_toArray, List.set_cons_zero, List.set_cons_succ, i64_w, i32_w]
               rfl
              refine sP (i := 4) (N := some 36) (lm 31 31) ?_ (hc := any_of HT_.out (by kernel_rfl))
              refine sP (i := 5) (N := some 37) (lm 31 63) ?_ (hc := any_of HT_.out (by kernel_rfl))
              refine sP (i := 6) (N := some 38) (lm 31 127) ?_ (hc := any_of HT_.out (by kernel_rfl))
              refine sP (i := 7) (N := some 39) (lm 31 255) ?_ (hc := any_of HT_.out (by kernel_rfl))
              refine sP (i := 8) (N := some 40) (lm 31 511) ?_ (hc := any_of HT_.out (by kernel_rfl))
              refine sP (i := 10) (N := some 42) (lm 31 1535) ?_ (hc := any_of HT_.out (by kernel_rfl))
              refine take_ (i := 9) (N := some 41) (v := ?_) (a' := ?_) (lm 31 2047) rfl rfl (take_ofW HT_.out HW_.out (by kernel_rfl)) (fun _ _ _ h => h) (Or.inl ⟨by rfl, ?_⟩) hHeld ?_ ?_
              rotate_left
              ·rintro w' ⟨s0, s1, s2, s3, s4, s5, s6⟩
               go_simp
               with_reducible rfl
              rotate_left
              ·simp only [Act.put, List.setIfInBounds_toArray, List.set_cons_zero, List.set_cons_succ, i64_w, i32_w]
               rfl
              refine take_ (i := 11) (N := some 43) (v := ?_) (a' := ?_) (lm 31 4095) rfl rfl (take_ofW HT_.out HW_.out (by kernel_rfl)) (fun _ _ _ h => h) (Or.inl ⟨by rfl, ?_⟩) hHeld ?_ ?_
              rotate_left
              ·rintro w' ⟨s0, s1, s2, s3, s4, s5, s6⟩
               go_simp
               with_reducible rfl
              rotate_left
              ·simp only [Act.put, List.setIfInBounds_toArray, List.set_cons_zero, List.set_cons_succ, i64_w, i32_w]
               rfl
              refine sP (i := 12) (N := some 44) (lm 31 8191) ?_ (hc := any_of HT_.out (by kernel_rfl))
              refine sP (i := 13) (N := some 45) (lm 31 16383) ?_ (hc := any_of HT_.out (by kernel_rfl))
              refine sP (i := 14) (N := some 46) (lm 31 32767) ?_ (hc := any_of HT_.out (by kernel_rfl))
              refine sP (i := 15) (N := some 47) (lm 31 65535) ?_ (hc := any_of HT_.out (by kernel_rfl))
              refine sP (i := 16) (N := some 48) (lm 31 131071) ?_ (hc := any_of HT_.out (by kernel_rfl))
              refine sP (i := 17) (N := some 49) (lm 31 262143) ?_ (hc := any_of HT_.out (by kernel_rfl))
              refine sP (i := 18) (N := some 50) (lm 31 524287) ?_ (hc := any_of HT_.out (by kernel_rfl))
              refine sP (i := 19) (N := some 51) (lm 31 1048575) ?_ (hc := any_of HT_.out (by kernel_rfl))
              refine sP (i := 20) (N := some 52) (lm 31 2097151) ?_ (hc := any_of HT_.out (by kernel_rfl))
              refine sP (i := 21) (N := some 53) (lm 31 4194303) ?_ (hc := any_of HT_.out (by kernel_rfl))
              refine sP (i := 23) (N := some 55) (lm 31 12582911) ?_ (hc := any_of HT_.out (by kernel_rfl))
              refine sP (i := 24) (N := some 56) (lm 31 29360127) ?_ (hc := any_of HT_.out (by kernel_rfl))
              refine sP (i := 25) (N := some 57) (lm 31 62914559) ?_ (hc := any_of HT_.out (by kernel_rfl))
              refine sP (i := 26) (N := some 58) (lm 31 130023423) ?_ (hc := any_of HT_.out (by kernel_rfl))
              refine take_ (i := 22) (N := some 54) (v := ?_) (a' := ?_) (lm 31 134217727) rfl rfl (take_ofW HT_.out HW_.out (by kernel_rfl)) (fun _ _ _ h => h) (Or.inl ⟨by rfl, ?_⟩) hHeld ?_ ?_
              rotate_left
              ·rintro w' ⟨s0, s1, s2, s3, s4, s5, s6⟩
               go_simp
               with_reducible rfl
              rotate_left
              ·simp only [Act.put, List.setIfInBounds_toArray, List.set_cons_zero, List.set_cons_succ, i64_w, i32_w]
               rfl
              refine take_ (i := 27) (N := some 59) (v := ?_) (a' := ?_) (lm 31 268435455) rfl rfl (take_ofW HT_.out HW_.out (by kernel_rfl)) (fun _ _ _ h => h) (Or.inl ⟨by rfl, ?_⟩) hHeld ?_ ?_
              rotate_left
              ·rintro w' ⟨s0, s1, s2, s3, s4, s5, s6⟩
               go_simp
               with_reducible rfl
              rotate_left
              ·simp only [Act.put, List.setIfInBounds_toArray, List.set_cons_zero, List.set_cons_succ, i64_w, i32_w]
               rfl
              refine sP (i := 28) (N := some 60) (lm 31 536870911) ?_ (hc := any_of HT_.out (by kernel_rfl))
              refine sP (i := 29) (N := some 61) (lm 31 1073741823) ?_ (hc := any_of HT_.out (by kernel_rfl))
              refine sP (i := 30) (N := some 62) (lm 31 2147483647) ?_ (hc := any_of HT_.out (by kernel_rfl))
              refine done_ (done_of HT_.out (by kernel_rfl)) ?_
              have p1108 : 0 ≤ (x8_1 : Int) := of_decide_eq_true (by first | (with_reducible assumption) | assumption)
              have q1108 : x8_1 < (t1100.length : Int) := of_decide_eq_true (by first | (with_reducible assumption) | assumption)
              obtain ⟨ad1108, e1108, hx1108_0⟩ := Kd.at_int (Kd.R_reads' HO_5.out).2.2 x8_1 p1108 q1108
              obtain rfl : ad1104 = ad1108 := (by injection e1108)
              replace p1108 := eq_true p1108
              replace q1108 := eq_true q1108
              try go_wp2
              go_roundg k1
              case measure => have := HK1.out; omega
              case rel => exact ⟨(Go.bits .or .i64 x7_1 (ji27)), (wrap64 (x8_1 + 1)), (by first | rfl | (simp; done) | (simp only [← hji27] <;> (first | rfl | simp)) | (simp [*]; done)), (by first | rfl | (simp; done) | (simp [*]; done)), H', ⟨by have := HK1.out; omega⟩, ⟨by (with_reducible repeat (first | apply Kd.R_alloc | apply Kd.R_drewN | apply Kd.R_drew)); exact HO_5.out⟩, ⟨by (with_reducible repeat (first | refine blk_drewN ?_ _ | refine blk_drew ?_ | refine blk_alloc ?_ _)); exact BK1091.out⟩, ⟨(sbe1 HB GE1091)⟩⟩
             ·rw [if_neg c26] at H
              exact absurd H (by simp)
           ·rw [if_neg c23] at H
            exact absurd H (by simp)
          ·rw [if_neg c22] at H
           exact absurd H (by simp)
         ·rw [if_neg c20] at H
          have c20b0 : decide (0 < x8_1) = false := decide_eq_false c20
          clear c20
          obtain ⟨ji30, hji30⟩ : ∃ j_ : Int, (IntKind.u64.wrap (rd t1100 x8_1)) = j_ := ⟨_, rfl⟩
          replace H : (if 0 ≤ (ji30) then (posserlaw03_BundleLeft.l0 k1 a1 t1100 (Go.bits .or .i64 x7_1 (shl .i64 1 (ji30))) (wrap64 (x8_1 + 1)) l0_0 l0_1 a0_2) else (none)) = some r := by first | (rw [hji30] at H; exact H) | (simp only [hji30] at H ⊢; exact H)
          by_cases c31 : 0 ≤ (ji30)
          ·rw [if_pos c31] at H
           have c31b0 := eq_true c31
           have c31b1 : decide (0 ≤ (ji30)) = true := decide_eq_true c31
           clear c31
           obtain ⟨ji32, hji32⟩ : ∃ j_ : Int, (shl .i64 1 (ji30)) = j_ := ⟨_, rfl⟩
           replace H : (posserlaw03_BundleLeft.l0 k1 a1 t1100 (Go.bits .or .i64 x7_1 (ji32)) (wrap64 (x8_1 + 1)) l0_0 l0_1 a0_2) = some r := by first | (rw [hji32] at H; exact H) | (simp only [hji32] at H ⊢; exact H)
           have hji32_ : (IntKind.i64.wrap (1 * 2 ^ min (ji30).toNat 64)) = ji32 := hji32
           have hji32z : (ji30) ≤ 64 → (IntKind.i64.wrap (1 * 2 ^ (ji30).toNat)) = ji32 := shl_small hji32
           have hji32u : (IntKind.i64.wrap (2 ^ min (ji30).toNat 64)) = ji32 := by have h_ := hji32_; rw [Int.one_mul] at h_; exact h_
           have hji32v : (ji30) ≤ 64 → (IntKind.i64.wrap (2 ^ (ji30).toNat)) = ji32 := fun hle_ => by have h_ := hji32z hle_; rw [Int.one_mul] at h_; exact h_
           have hji32y : (wrap64 (1 * 2 ^ min (ji30).toNat 64)) = ji32 := (i64_w _).symm.trans hji32_
           have hji32x : (ji30) ≤ 64 → (wrap64 (1 * 2 ^ (ji30).toNat)) = ji32 := fun h_ => (i64_w _).symm.trans (hji32z h_)
           have H' := Aside0.mk H
           clear H
           obtain ⟨Ao33, co33, eo33⟩ := Kd.R_slice HO_5.out
           subst eo33
           try go_wp2
           replace HO_5 := Aside0.mk (Kd.R_drew HO_5.out)
           replace BK1091 := Aside0.mk (blk_drew BK1091.out)
           replace HB := Aside0.mk (below_drew1 HB.out)
           have p1104 : 0 ≤ (x8_1 : Int) := of_decide_eq_true (by first | (with_reducible assumption) | assumption)
           have q1104 : x8_1 < (t1100.length : Int) := of_decide_eq_true (by first | (with_reducible assumption) | assumption)
           obtain ⟨ad1104, e1104, hx1104_0⟩ := Kd.at_int (Kd.R_reads' HO_5.out).2.2 x8_1 p1104 q1104
           cases e1104
           replace p1104 := eq_true p1104
           replace q1104 := eq_true q1104
           have p1105 : 0 ≤ (x8_1 : Int) := of_decide_eq_true (by first | (with_reducible assumption) | assumption)
           have q1105 : x8_1 < (t1100.length : Int) := of_decide_eq_true (by first | (with_reducible assumption) | assumption)
           obtain ⟨ad1105, e1105, hx1105_0⟩ := Kd.at_int (Kd.R_reads' HO_5.out).2.2 x8_1 p1105 q1105
           obtain rfl : ad1104 = ad1105 := (by injection e1105)
           replace p1105 := eq_true p1105
           replace q1105 := eq_true q1105
           refine start_ (n := 31) (S := fun w' => w'.cell? ⟨gb1091, 0, none⟩ = some (.slice A0_0 l0_0.length c0_0) ∧ w'.cell? ⟨gb1091, 1, none⟩ = some (.slice A0_1 l0_1.length c0_1) ∧ w'.cell? ⟨gb1091, 2, none⟩ = some (.int .i64 a0_2) ∧ w'.cell? (ad1104.add (x8_1).toNat) = some (.int .i64 (rd t1100 x8_1)) ∧ w'.cell? (ad1104.add (x8_1).toNat) = some (.int .i64 (rd t1100 x8_1))) (ds := []) (lm 31 0) (by kernel_rfl) rfl (by kernel_rfl) ⟨(blk_cell BK1091.out 0).trans rfl, (blk_cell BK1091.out 1).trans rfl, (blk_cell BK1091.out 2).trans rfl, hx1104_0, hx1105_0⟩ (fun hHeld => ?_); refine with_tabW posserlaw03_BundleLeft.tab10 posserlaw03_BundleLeft.bits10 (fun HT_ HW_ => ?_)
           generalize wr.drew = w34 at HO_5 BK1091 HB hx1104_0 hx1105_0 hHeld ⊢
           refine sP (i := 0) (N := some 32) (lm 31 1) ?_ (hc := any_of HT_.out (by kernel_rfl))
           refine sP (i := 1) (N := some 33) (lm 31 3) ?_ (hc := any_of HT_.out (by kernel_rfl))
           refine sP (i := 2) (N := some 34) (lm 31 7) ?_ (hc := any_of HT_.out (by kernel_rfl))
           refine take_ (i := 3) (N := some 35) (v := ?_) (a' := ?_) (lm 31 15) rfl rfl (take_ofW HT_.out HW_.out (by kernel_rfl)) (fun _ _ _ h => h) (Or.inl ⟨by rfl, ?_⟩) hHeld ?_ ?_
           rotate_left
           ·rintro w' ⟨s0, s1, s2, s3, s4⟩
            go_simp
            with_reducible rfl
           rotate_left
           ·simp only [Act.put, List.setIfInBounds_toArray, List.set_cons_zero, List.set_cons_succ, i64_w, i32_w]
            rfl
           refine sP (i := 4) (N := some 36) (lm 31 31) ?_ (hc := any_of HT_.out (by kernel_rfl))
           refine sP (i := 5) (N := some 37) (lm 31 63) ?_ (hc := any_of HT_.out (by kernel_rfl))
           refine sP (i := 6) (N := some 38) (lm 31 127) ?_ (hc := any_of HT_.out (by kernel_rfl))
           refine sP (i := 7) (N := some 39) (lm 31 255) ?_ (hc := any_of HT_.out (by kernel_rfl))
           refine sP (i := 8) (N := some 40) (lm 31 511) ?_ (hc := any_of HT_.out (by kernel_rfl))
           refine sP (i := 10) (N := some 42) (lm 31 1535) ?_ (hc := any_of HT_.out (by kernel_rfl))
           refine take_ (i := 9) (N := some 41) (v := ?_) (a' := ?_) (lm 31 2047) rfl rfl (take_ofW HT_.out HW_.out (by kernel_rfl)) (fun _ _ _ h => h) (Or.inl ⟨by rfl, ?_⟩) hHeld ?_ ?_
           rotate_left
           ·rintro w' ⟨s0, s1, s2, s3, s4⟩
            go_simp
            with_reducible rfl
           rotate_left
           ·simp only [Act.put, List.setIfInBounds_toArray, List.set_cons_zero, List.set_cons_succ, i64_w, i32_w]
            rfl
           refine take_ (i := 11) (N := some 43) (v := ?_) (a' := ?_) (lm 31 4095) rfl rfl (take_ofW HT_.out HW_.out (by kernel_rfl)) (fun _ _ _ h => h) (Or.inl ⟨by rfl, ?_⟩) hHeld ?_ ?_
           rotate_left
           ·rintro w' ⟨s0, s1, s2, s3, s4⟩
            go_simp
            with_reducible rfl
           rotate_left
           ·simp only [Act.put, List.setIfInBounds_toArray, List.set_cons_zero, List.set_cons_succ, i64_w, i32_w]
            rfl
           refine sP (i := 12) (N := some 44) (lm 31 8191) ?_ (hc := any_of HT_.out (by kernel_rfl))
           refine sP (i := 13) (N := some 45) (lm 31 16383) ?_ (hc := any_of HT_.out (by kernel_rfl))
           refine sP (i := 14) (N := some 46) (lm 31 32767) ?_ (hc := any_of HT_.out (by kernel_rfl))
           refine sP (i := 15) (N := some 47) (lm 31 65535) ?_ (hc := any_of HT_.out (by kernel_rfl))
           refine sP (i := 16) (N := some 48) (lm 31 131071) ?_ (hc := any_of HT_.out (by kernel_rfl))
           refine sP (i := 17) (N := some 49) (lm 31 262143) ?_ (hc := any_of HT_.out (by kernel_rfl))
           refine sP (i := 18) (N := some 50) (lm 31 524287) ?_ (hc := any_of HT_.out (by kernel_rfl))
           refine pure_ (i := 19) (N := some 51) (v := undef) (a' := ?_) (lm 31 1048575) rfl rfl (any_of HT_.out (by kernel_rfl)) (fun _ _ _ h => h) (Or.inr ⟨by rfl, rfl⟩) ?_ ?_
           rotate_left
           ·simp only [Act.put, List.setIfInBounds_toArray, List.set_cons_zero, List.set_cons_succ, i64_w, i32_w]
            rfl
           refine pure_ (i := 20) (N := some 52) (v := undef) (a' := ?_) (lm 31 2097151) rfl rfl (any_of HT_.out (by kernel_rfl)) (fun _ _ _ h => h) (Or.inr ⟨by rfl, rfl⟩) ?_ ?_
           rotate_left
           ·simp only [Act.put, List.setIfInBounds_toArray, List.set_cons_zero, List.set_cons_succ, i64_w, i32_w]
            rfl
           refine pure_ (i := 21) (N := some 53) (v := undef) (a' := ?_) (lm 31 4194303) rfl rfl (any_of HT_.out (by kernel_rfl)) (fun _ _ _ h => h) (Or.inr ⟨by rfl, rfl⟩) ?_ ?_
           rotate_left
           ·simp only [Act.put, List.setIfInBounds_toArray, List.set_cons_zero, List.set_cons_succ, i64_w, i32_w]
            rfl
           refine pure_ (i := 22) (N := some 54) (v := undef) (a' := ?_) (lm 31 8388607) rfl rfl (any_of HT_.out (by kernel_rfl)) (fun _ _ _ h => h) (Or.inr ⟨by rfl, rfl⟩) ?_ ?_
           rotate_left
           ·simp only [Act.put, List.setIfInBounds_toArray, List.set_cons_zero, List.set_cons_succ, i64_w, i32_w]
            rfl
           refine pure_ (i := 23) (N := some 55) (v := undef) (a' := ?_) (lm 31 16777215) rfl rfl (any_of HT_.out (by kernel_rfl)) (fun _ _ _ h => h) (Or.inr ⟨by rfl, rfl⟩) ?_ ?_
           rotate_left
           ·simp only [Act.put, List.setIfInBounds_toArray, List.set_cons_zero, List.set_cons_succ, i64_w, i32_w]
            rfl
           refine pure_ (i := 24) (N := some 56) (v := undef) (a' := ?_) (lm 31 33554431) rfl rfl (any_of HT_.out (by kernel_rfl)) (fun _ _ _ h => h) (Or.inr ⟨by rfl, rfl⟩) ?_ ?_
           rotate_left
           ·simp only [Act.put, List.setIfInBounds_toArray, List.set_cons_zero, List.set_cons_succ, i64_w, i32_w]
            rfl
           refine pure_ (i := 25) (N := some 57) (v := undef) (a' := ?_) (lm 31 67108863) rfl rfl (any_of HT_.out (by kernel_rfl)) (fun _ _ _ h => h) (Or.inr ⟨by rfl, rfl⟩) ?_ ?_
           rotate_left
           ·simp only [Act.put, List.setIfInBounds_toArray, List.set_cons_zero, List.set_cons_succ, i64_w, i32_w]
            rfl
           refine pure_ (i := 26) (N := some 58) (v := undef) (a' := ?_) (lm 31 134217727) rfl rfl (any_of HT_.out (by kernel_rfl)) (fun _ _ _ h => h) (Or.inr ⟨by rfl, rfl⟩) ?_ ?_
           rotate_left
           ·simp only [Act.put, List.setIfInBounds_toArray, List.set_cons_zero, List.set_cons_succ, i64_w, i32_w]
            rfl
           refine pure_ (i := 27) (N := some 59) (v := undef) (a' := ?_) (lm 31 268435455) rfl rfl (any_of HT_.out (by kernel_rfl)) (fun _ _ _ h => h) (Or.inr ⟨by rfl, rfl⟩) ?_ ?_
           rotate_left
           ·simp only [Act.put, List.setIfInBounds_toArray, List.set_cons_zero, List.set_cons_succ, i64_w, i32_w]
            rfl
           refine pure_ (i := 28) (N := some 60) (v := undef) (a' := ?_) (lm 31 536870911) rfl rfl (any_of HT_.out (by kernel_rfl)) (fun _ _ _ h => h) (Or.inr ⟨by rfl, rfl⟩) ?_ ?_
           rotate_left
           ·simp only [Act.put, List.setIfInBounds_toArray, List.set_cons_zero, List.set_cons_succ, i64_w, i32_w]
            rfl
           refine sP (i := 29) (N := some 61) (lm 31 1073741823) ?_ (hc := any_of HT_.out (by kernel_rfl))
           refine sP (i := 30) (N := some 62) (lm 31 2147483647) ?_ (hc := any_of HT_.out (by kernel_rfl))
           refine done_ (done_of HT_.out (by kernel_rfl)) ?_
           have p1109 : 0 ≤ (x8_1 : Int) := of_decide_eq_true (by first | (with_reducible assumption) | assumption)
           have q1109 : x8_1 < (t1100.length : Int) := of_decide_eq_true (by first | (with_reducible assumption) | assumption)
           obtain ⟨ad1109, e1109, hx1109_0⟩ := Kd.at_int (Kd.R_reads' HO_5.out).2.2 x8_1 p1109 q1109
           obtain rfl : ad1104 = ad1109 := (by injection e1109)
           replace p1109 := eq_true p1109
           replace q1109 := eq_true q1109
           try go_wp2
           go_roundg k1
           case measure => have := HK1.out; omega
           case rel => exact ⟨(Go.bits .or .i64 x7_1 (ji32)), (wrap64 (x8_1 + 1)), (by first | rfl | (simp; done) | (simp only [← hji32] <;> (first | rfl | simp)) | (simp [*]; done)), (by first | rfl | (simp; done) | (simp [*]; done)), H', ⟨by have := HK1.out; omega⟩, ⟨by (with_reducible repeat (first | apply Kd.R_alloc | apply Kd.R_drewN | apply Kd.R_drew)); exact HO_5.out⟩, ⟨by (with_reducible repeat (first | refine blk_drewN ?_ _ | refine blk_drew ?_ | refine blk_alloc ?_ _)); exact BK1091.out⟩, ⟨(sbe1 HB GE1091)⟩⟩
          ·rw [if_neg c31] at H
           exact absurd H (by simp)
      ·rw [if_neg c17] at H
       exact absurd H (by simp)
     ·rw [if_neg c16] at H
      have c16b0 : decide (x8_1 < (t1100.length : Int)) = false := decide_eq_false c16
      clear c16
      replace H := Option.bind_eq_some_iff.mp H
      obtain ⟨t1110, A350, H⟩ := H
      replace H : ((posserref03_Full.f l0_0 l0_1 a0_2).bind fun t1111 => ((posserlaw03_some.f k1 l0_0 l0_1 a0_2 (Go.bits .andNot .i64 t1111 x7_1)).bind fun bt1112 => ((posserlaw03_Table.f bt1112.1 bt1112.2.1 bt1112.2.2).bind fun bt1119 => ((bundle_Whose.f bt1119.1 bt1119.2.1 bt1119.2.2).bind fun bt1126 => ((posserref03_Full.f l0_0 l0_1 a0_2).bind fun t1130 => ((posserlaw03_some.f k1 l0_0 l0_1 a0_2 (Go.bits .andNot .i64 t1130 (Go.bits .and .i64 (wrap64 (a1)) t1110))).bind fun bt1131 => ((posserlaw03_Table.f bt1131.1 bt1131.2.1 bt1131.2.2).bind fun bt1138 => ((bundle_Whose.f bt1138.1 bt1138.2.1 bt1138.2.2).bind fun bt1145 => (if bt1126.2 = 0 then (if bt1145.2 = 11 then ((posserlaw03_awake.f).bind fun t1149 => (some t1149)) else (if bt1145.2 = 0 then ((posserref03_Bits.f k1 (Go.bits .and .i64 (wrap64 (a1)) t1110)).bind fun t1150 => ((posserref03_Shorter.f k1 t1150 t1100).bind fun t1153 => (if t1153 = true then (none) else ((posserlaw03_awake.f).bind fun t1154 => (some t1154))))) else (none))) else (none)))))))))) = some r := H
      have A35 := Aside0.mk A350
      clear A350
      replace H := Option.bind_eq_some_iff.mp H
      obtain ⟨t1111, A360, H⟩ := H
      replace H : ((posserlaw03_some.f k1 l0_0 l0_1 a0_2 (Go.bits .andNot .i64 t1111 x7_1)).bind fun bt1112 => ((posserlaw03_Table.f bt1112.1 bt1112.2.1 bt1112.2.2).bind fun bt1119 => ((bundle_Whose.f bt1119.1 bt1119.2.1 bt1119.2.2).bind fun bt1126 => ((posserref03_Full.f l0_0 l0_1 a0_2).bind fun t1130 => ((posserlaw03_some.f k1 l0_0 l0_1 a0_2 (Go.bits .andNot .i64 t1130 (Go.bits .and .i64 (wrap64 (a1)) t1110))).bind fun bt1131 => ((posserlaw03_Table.f bt1131.1 bt1131.2.1 bt1131.2.2).bind fun bt1138 => ((bundle_Whose.f bt1138.1 bt1138.2.1 bt1138.2.2).bind fun bt1145 => (if bt1126.2 = 0 then (if bt1145.2 = 11 then ((posserlaw03_awake.f).bind fun t1149 => (some t1149)) else (if bt1145.2 = 0 then ((posserref03_Bits.f k1 (Go.bits .and .i64 (wrap64 (a1)) t1110)).bind fun t1150 => ((posserref03_Shorter.f k1 t1150 t1100).bind fun t1153 => (if t1153 = true then (none) else ((posserlaw03_awake.f).bind fun t1154 => (some t1154))))) else (none))) else (none))))))))) = some r := H
      have A36 := Aside0.mk A360
      clear A360
      replace H := Option.bind_eq_some_iff.mp H
      obtain ⟨⟨t1112, t1115, t1118⟩, A370, H⟩ := H
      replace H : ((posserlaw03_Table.f t1112 t1115 t1118).bind fun bt1119 => ((bundle_Whose.f bt1119.1 bt1119.2.1 bt1119.2.2).bind fun bt1126 => ((posserref03_Full.f l0_0 l0_1 a0_2).bind fun t1130 => ((posserlaw03_some.f k1 l0_0 l0_1 a0_2 (Go.bits .andNot .i64 t1130 (Go.bits .and .i64 (wrap64 (a1)) t1110))).bind fun bt1131 => ((posserlaw03_Table.f bt1131.1 bt1131.2.1 bt1131.2.2).bind fun bt1138 => ((bundle_Whose.f bt1138.1 bt1138.2.1 bt1138.2.2).bind fun bt1145 => (if bt1126.2 = 0 then (if bt1145.2 = 11 then ((posserlaw03_awake.f).bind fun t1149 => (some t1149)) else (if bt1145.2 = 0 then ((posserref03_Bits.f k1 (Go.bits .and .i64 (wrap64 (a1)) t1110)).bind fun t1150 => ((posserref03_Shorter.f k1 t1150 t1100).bind fun t1153 => (if t1153 = true then (none) else ((posserlaw03_awake.f).bind fun t1154 => (some t1154))))) else (none))) else (none)))))))) = some r := H
      have A37 := Aside0.mk A370
      clear A370
      replace H := Option.bind_eq_some_iff.mp H
      obtain ⟨⟨t1119, t1122, t1125⟩, A380, H⟩ := H
      replace H : ((bundle_Whose.f t1119 t1122 t1125).bind fun bt1126 => ((posserref03_Full.f l0_0 l0_1 a0_2).bind fun t1130 => ((posserlaw03_some.f k1 l0_0 l0_1 a0_2 (Go.bits .andNot .i64 t1130 (Go.bits .and .i64 (wrap64 (a1)) t1110))).bind fun bt1131 => ((posserlaw03_Table.f bt1131.1 bt1131.2.1 bt1131.2.2).bind fun bt1138 => ((bundle_Whose.f bt1138.1 bt1138.2.1 bt1138.2.2).bind fun bt1145 => (if bt1126.2 = 0 then (if bt1145.2 = 11 then ((posserlaw03_awake.f).bind fun t1149 => (some t1149)) else (if bt1145.2 = 0 then ((posserref03_Bits.f k1 (Go.bits .and .i64 (wrap64 (a1)) t1110)).bind fun t1150 => ((posserref03_Shorter.f k1 t1150 t1100).bind fun t1153 => (if t1153 = true then (none) else ((posserlaw03_awake.f).bind fun t1154 => (some t1154))))) else (none))) else (none))))))) = some r := H
      have A38 := Aside0.mk A380
      clear A380
      replace H := Option.bind_eq_some_iff.mp H
      obtain ⟨⟨t1126, t1129⟩, A390, H⟩ := H
      replace H : ((posserref03_Full.f l0_0 l0_1 a0_2).bind fun t1130 => ((posserlaw03_some.f k1 l0_0 l0_1 a0_2 (Go.bits .andNot .i64 t1130 (Go.bits .and .i64 (wrap64 (a1)) t1110))).bind fun bt1131 => ((posserlaw03_Table.f bt1131.1 bt1131.2.1 bt1131.2.2).bind fun bt1138 => ((bundle_Whose.f bt1138.1 bt1138.2.1 bt1138.2.2).bind fun bt1145 => (if t1129 = 0 then (if bt1145.2 = 11 then ((posserlaw03_awake.f).bind fun t1149 => (some t1149)) else (if bt1145.2 = 0 then ((posserref03_Bits.f k1 (Go.bits .and .i64 (wrap64 (a1)) t1110)).bind fun t1150 => ((posserref03_Shorter.f k1 t1150 t1100).bind fun t1153 => (if t1153 = true then (none) else ((posserlaw03_awake.f).bind fun t1154 => (some t1154))))) else (none))) else (none)))))) = some r := H
      have A39 := Aside0.mk A390
      clear A390
      replace H := Option.bind_eq_some_iff.mp H
      obtain ⟨t1130, A400, H⟩ := H
      replace H : ((posserlaw03_some.f k1 l0_0 l0_1 a0_2 (Go.bits .andNot .i64 t1130 (Go.bits .and .i64 (wrap64 (a1)) t1110))).bind fun bt1131 => ((posserlaw03_Table.f bt1131.1 bt1131.2.1 bt1131.2.2).bind fun bt1138 => ((bundle_Whose.f bt1138.1 bt1138.2.1 bt1138.2.2).bind fun bt1145 => (if t1129 = 0 then (if bt1145.2 = 11 then ((posserlaw03_awake.f).bind fun t1149 => (some t1149)) else (if bt1145.2 = 0 then ((posserref03_Bits.f k1 (Go.bits .and .i64 (wrap64 (a1)) t1110)).bind fun t1150 => ((posserref03_Shorter.f k1 t1150 t1100).bind fun t1153 => (if t1153 = true then (none) else ((posserlaw03_awake.f).bind fun t1154 => (some t1154))))) else (none))) else (none))))) = some r := H
      have A40 := Aside0.mk A400
      clear A400
      replace H := Option.bind_eq_some_iff.mp H
      obtain ⟨⟨t1131, t1134, t1137⟩, A410, H⟩ := H
      replace H : ((posserlaw03_Table.f t1131 t1134 t1137).bind fun bt1138 => ((bundle_Whose.f bt1138.1 bt1138.2.1 bt1138.2.2).bind fun bt1145 => (if t1129 = 0 then (if bt1145.2 = 11 then ((posserlaw03_awake.f).bind fun t1149 => (some t1149)) else (if bt1145.2 = 0 then ((posserref03_Bits.f k1 (Go.bits .and .i64 (wrap64 (a1)) t1110)).bind fun t1150 => ((posserref03_Shorter.f k1 t1150 t1100).bind fun t1153 => (if t1153 = true then (none) else ((posserlaw03_awake.f).bind fun t1154 => (some t1154))))) else (none))) else (none)))) = some r := H
      have A41 := Aside0.mk A410
      clear A410
      replace H := Option.bind_eq_some_iff.mp H
      obtain ⟨⟨t1138, t1141, t1144⟩, A420, H⟩ := H
      replace H : ((bundle_Whose.f t1138 t1141 t1144).bind fun bt1145 => (if t1129 = 0 then (if bt1145.2 = 11 then ((posserlaw03_awake.f).bind fun t1149 => (some t1149)) else (if bt1145.2 = 0 then ((posserref03_Bits.f k1 (Go.bits .and .i64 (wrap64 (a1)) t1110)).bind fun t1150 => ((posserref03_Shorter.f k1 t1150 t1100).bind fun t1153 => (if t1153 = true then (none) else ((posserlaw03_awake.f).bind fun t1154 => (some t1154))))) else (none))) else (none))) = some r := H
      have A42 := Aside0.mk A420
      clear A420
      replace H := Option.bind_eq_some_iff.mp H
      obtain ⟨⟨t1145, t1148⟩, A430, H⟩ := H
      replace H : (if t1129 = 0 then (if t1148 = 11 then ((posserlaw03_awake.f).bind fun t1149 => (some t1149)) else (if t1148 = 0 then ((posserref03_Bits.f k1 (Go.bits .and .i64 (wrap64 (a1)) t1110)).bind fun t1150 => ((posserref03_Shorter.f k1 t1150 t1100).bind fun t1153 => (if t1153 = true then (none) else ((posserlaw03_awake.f).bind fun t1154 => (some t1154))))) else (none))) else (none)) = some r := H
      have A43 := Aside0.mk A430
      clear A430
      by_cases c44 : t1129 = 0
      ·rw [if_pos c44] at H
       have c44b0 : (t1129 == 0) = true := beq_iff_eq.mpr c44
       have c44b1 : (t1129 != 0) = false := bne_eq_false_iff_eq.mpr c44
       clear c44
       by_cases c45 : t1148 = 11
       ·rw [if_pos c45] at H
        have c45b0 : (t1148 == 11) = true := beq_iff_eq.mpr c45
        have c45b1 : (t1148 != 11) = false := bne_eq_false_iff_eq.mpr c45
        clear c45
        replace H := Option.bind_eq_some_iff.mp H
        obtain ⟨t1149, A460, H⟩ := H
        replace H : (some t1149) = some r := H
        have A46 := Aside0.mk A460
        clear A460
        obtain rfl := Option.some.inj H
        obtain ⟨Ao47, co47, eo47⟩ := Kd.R_slice HO_5.out
        subst eo47
        have hcz48_0 := sc 0 BK1091
        have hcz48_1 := sc 1 BK1091
        have hcz48_2 := sc 2 BK1091
        have hfz48_0 := blk_frozen BK1091.out 0
        have hfz48_1 := blk_frozen BK1091.out 1
        have hfz48_2 := blk_frozen BK1091.out 2
        try go_wp2_with (first | ((with_reducible refine gate_callee (f := 58) rfl ?_); refine goesL_ (some 74) rfl rfl Try.func58 (by kernel_rfl) rfl #[.agg #[.slice A0_0 l0_0.length c0_0, .slice A0_1 l0_1.length c0_1, .int .i64 a0_2]] rfl (by (try simp only [List.map_toArray, List.map_cons, List.map_nil]); first | done | rfl | (simp only [List.length_drop, List.length_take]; rfl)) ?_; (with_reducible refine (posserref03_Full.calls _ _ l0_0 _ _ l0_1 a0_2 t1110 _ ?side1 ?side2 ?side3 ?side4 A35.out).mono ?_); (case side1 => exact sCb HR0_0 HB); (case side2 => exact HC0_0.out); (case side3 => exact sCb HR0_1 HB); (case side4 => exact HC0_1.out); rintro e w49 ⟨rfl, hb⟩; refine ⟨_, rfl, ?_⟩; replace HO_5 := Aside0.mk (Kd.R_below (sR HO_5) hb); replace BK1091 := Aside0.mk (sbb BK1091 hb); replace HB := Aside0.mk (sbs1 HB GE1091 hb); (try clear hb); (try clear hb2); (try clear hk); (try clear hi)))
        replace HO_5 := Aside0.mk (Kd.R_drew HO_5.out)
        replace BK1091 := Aside0.mk (blk_drew BK1091.out)
        replace HB := Aside0.mk (below_drew1 HB.out)
        refine start_ (n := 13) (S := fun w' => w'.cell? ⟨gb1091, 0, none⟩ = some (.slice A0_0 l0_0.length c0_0) ∧ w'.cell? ⟨gb1091, 1, none⟩ = some (.slice A0_1 l0_1.length c0_1) ∧ w'.cell? ⟨gb1091, 2, none⟩ = some (.int .i64 a0_2)) (ds := []) (lm 13 0) (by kernel_rfl) rfl (by kernel_rfl) ⟨(blk_cell BK1091.out 0).trans rfl, (blk_cell BK1091.out 1).trans rfl, (blk_cell BK1091.out 2).trans rfl⟩ (fun hHeld => ?_); refine with_tabW posserlaw03_BundleLeft.tab14 posserlaw03_BundleLeft.bits14 (fun HT_ HW_ => ?_)
        generalize w49.drew = w50 at HO_5 BK1091 HB hHeld ⊢
        refine sP (i := 3) (N := some 80) (lm 13 8) ?_ (hc := any_of HT_.out (by kernel_rfl))
        refine take_ (i := 0) (N := some 77) (v := ?_) (a' := ?_) (lm 13 9) rfl rfl (take_ofW HT_.out HW_.out (by kernel_rfl)) (fun _ _ _ h => h) (Or.inl ⟨by rfl, ?_⟩) hHeld ?_ ?_
        rotate_left
        ·rintro w' ⟨s0, s1, s2⟩
         go_simp
         with_reducible rfl
        rotate_left
        ·simp only [Act.put, List.setIfInBounds_toArray, List.set_cons_zero, List.set_cons_succ, i64_w, i32_w]
         rfl
        refine take_ (i := 1) (N := some 78) (v := ?_) (a' := ?_) (lm 13 11) rfl rfl (take_ofW HT_.out HW_.out (by kernel_rfl)) (fun _ _ _ h => h) (Or.inl ⟨by rfl, ?_⟩) hHeld ?_ ?_
        rotate_left
        ·rintro w' ⟨s0, s1, s2⟩
         go_simp
         with_reducible rfl
        rotate_left
        ·simp only [Act.put, List.setIfInBounds_toArray, List.set_cons_zero, List.set_cons_succ, i64_w, i32_w]
         rfl
        refine one_ (i := 2) (N := some 79) (lm 13 15) rfl rfl (one_of HT_.out (by kernel_rfl)) (by decide) (fun K hK => ?_)
        refine goes_ Try.func58 (by kernel_rfl) rfl #[.agg #[.slice A0_0 l0_0.length c0_0, .slice A0_1 l0_1.length c0_1, .int .i64 a0_2]] (by rfl) rfl rfl (by (try simp only [List.map_toArray, List.map_cons, List.map_nil]); first | done | rfl | (simp only [List.length_drop, List.length_take]; rfl)) ?_
        with_reducible refine (posserref03_Full.calls _ _ l0_0 _ _ l0_1 a0_2 t1111 _ ?side1 ?side2 ?side3 ?side4 A36.out).mono ?_
        (case side1 => exact sCb HR0_0 HB)
        (case side2 => exact HC0_0.out)
        (case side3 => exact sCb HR0_1 HB)
        (case side4 => exact HC0_1.out)
        rintro e w51 ⟨rfl, hb⟩
        refine ⟨_, rfl, ?_⟩
        replace HO_5 := Aside0.mk (Kd.R_below (sR HO_5) hb)
        replace BK1091 := Aside0.mk (sbb BK1091 hb)
        replace HB := Aside0.mk (sbs1 HB GE1091 hb)
        (try clear hb)
        (try clear hb2)
        (try clear hk)
        (try clear hi)
        refine hK.out _ _ ⟨(blk_cell BK1091.out 0).trans rfl, (blk_cell BK1091.out 1).trans rfl, (blk_cell BK1091.out 2).trans rfl⟩ (fun hHeld => ?_)
        clear hK K
        refine sN ?_
        refine sP (i := 4) (N := some 81) (lm 13 31) ?_ (hc := any_of HT_.out (by kernel_rfl))
        refine one_ (i := 5) (N := some 82) (lm 13 63) rfl rfl (one_of HT_.out (by kernel_rfl)) (by decide) (fun K hK => ?_)
        refine goes_ Try.func57 (by kernel_rfl) rfl #[.agg #[.slice A0_0 l0_0.length c0_0, .slice A0_1 l0_1.length c0_1, .int .i64 a0_2], .int .i64 (Go.bits .andNot .i64 t1111 x7_1)] (by rfl) rfl rfl (by (try simp only [List.map_toArray, List.map_cons, List.map_nil]); first | done | rfl | (simp only [List.length_drop, List.length_take]; rfl)) ?_
        with_reducible refine (posserlaw03_some.calls k1 _ _ l0_0 (fun k_ => k_ < w.heap.size) _ _ l0_1 a0_2 (Go.bits .andNot .i64 t1111 x7_1) t1112 t1115 t1118 _ ?side1 ?side2 ?side3 A37.out).mono ?_
        (case side1 => exact sCb HR0_0 HB)
        (case side2 => exact HC0_0.out)
        (case side3 => exact Kd.V_mk HC0_1.out (Kd.F_below (Kd.C_F k71_heap HR0_1.out) (sbe1 HB GE1091)))
        rintro e w52 ⟨v1113, v1116, rfl, ho0, ho1, hb⟩
        refine ⟨_, rfl, ?_⟩
        have HO1114 := Aside0.mk (Kd.R_lower (Kd.R_mono (ok' := fun k_ => True) ho0 (fun _ hk_ => trivial)) (below_size (sbe1 HB GE1091)))
        have HO1117 := Aside0.mk (Kd.V_lower (Kd.V_mono (ok' := fun k_ => some k_ ≠ (v1113 : Value).ownBlock ∧ some k_ ≠ (.slice Ao47 t1100.length co47 : Value).ownBlock ∧ k_ ≠ gb1091) ho1 (fun k_ hk_ => ⟨hk_.2, Or.elim hk_.1 (fun hs_ => fun e_ => Nat.not_le.2 hs_ (Kd.R_base HO_5.out k_ e_.symm)) (fun hn_ => (Kd.fresh' (Kd.R_lt (sR HO_5)) k_ hn_)), Or.elim hk_.1 (fun hs_ => fun e_ => Nat.not_le.2 hs_ (by rw [e_]; exact GW1091.out)) (fun hn_ => (Kd.freshB (g := gb1091) (o := .cells #[.slice A0_0 l0_0.length c0_0, .slice A0_1 l0_1.length c0_1, .int .i64 a0_2] 25 (0, 0)) (sbk BK1091) k_ hn_))⟩)) (below_size (sbe1 HB GE1091)))
        replace HO_5 := Aside0.mk (Kd.R_below (sR HO_5) hb)
        replace BK1091 := Aside0.mk (sbb BK1091 hb)
        replace HB := Aside0.mk (sbs1 HB GE1091 hb)
        (try clear hb)
        (try clear hb2)
        (try clear hk)
        (try clear hi)
        (try clear ho0)
        (try clear ho1)
        obtain ⟨Ao53, co53, eo53⟩ := Kd.R_slice HO1114.out
        (first | subst eo53 | (injection eo53 with f1_ f2_ f3_; have f4_ := f1_.symm; have f5_ := f3_.symm; clear f1_ f2_ f3_; subst f4_; subst f5_))
        obtain ⟨Ao54, co54, eo54⟩ := Kd.V_slice HO1117.out
        (first | subst eo54 | (injection eo54 with f1_ f2_ f3_; have f4_ := f1_.symm; have f5_ := f3_.symm; clear f1_ f2_ f3_; subst f4_; subst f5_))
        refine hK.out _ _ ⟨(blk_cell BK1091.out 0).trans rfl, (blk_cell BK1091.out 1).trans rfl, (blk_cell BK1091.out 2).trans rfl⟩ (fun hHeld => ?_)
        clear hK K
        refine sN ?_
        refine one_ (i := 6) (N := some 83) (lm 13 127) rfl rfl (one_of HT_.out (by kernel_rfl)) (by decide) (fun K hK => ?_)
        refine goes_ Try.func23 (by kernel_rfl) rfl #[.agg #[.slice Ao53 t1112.length co53, .slice Ao54 t1115.length co54, .int .i64 t1118]] (by rfl) rfl rfl (by (try simp only [List.map_toArray, List.map_cons, List.map_nil]); first | done | rfl | (simp only [List.length_drop, List.length_take]; rfl)) ?_
        with_reducible refine (posserlaw03_Table.calls _ _ t1112 _ _ t1115 t1118 t1119 t1122 t1125 _ ?side1 ?side2 ?side3 ?side4 A38.out).mono ?_
        (case side1 => repeat (first | exact (Kd.R_reads' HO1114.out).2.2 | (with_reducible refine Kd.C_alloc ?_ _) | (with_reducible refine Kd.C_drewN ?_ _) | (with_reducible refine Kd.C_drew ?_)))
        (case side2 => exact (Kd.R_reads' HO1114.out).2.1)
        (case side3 => repeat (first | exact (Kd.V_reads' HO1117.out).2.2 | (with_reducible refine Kd.C_alloc ?_ _) | (with_reducible refine Kd.C_drewN ?_ _) | (with_reducible refine Kd.C_drew ?_)))
        (case side4 => exact (Kd.V_reads' HO1117.out).2.1)
        rintro e w55 ⟨v1120, v1123, rfl, ho0, ho1, hb⟩
        refine ⟨_, rfl, ?_⟩
        have HO1121 := Aside0.mk (Kd.R_lower (Kd.R_mono (ok' := fun k_ => True) ho0 (fun _ hk_ => trivial)) (below_size (sbe1 HB GE1091)))
        have HO1124 := Aside0.mk (Kd.N_lower (Kd.N_mono (ok' := fun k_ => some k_ ≠ (v1120 : Value).ownBlock ∧ some k_ ≠ (.slice Ao47 t1100.length co47 : Value).ownBlock ∧ some k_ ≠ (.slice Ao53 t1112.length co53 : Value).ownBlock ∧ k_ ≠ gb1091) ho1 (fun k_ hk_ => ⟨hk_.2, (Kd.fresh' (Kd.R_lt (sR HO_5)) k_ hk_.1), (Kd.fresh' (Kd.R_lt (sR HO1114)) k_ hk_.1), (Kd.freshB (g := gb1091) (o := .cells #[.slice A0_0 l0_0.length c0_0, .slice A0_1 l0_1.length c0_1, .int .i64 a0_2] 25 (0, 0)) (sbk BK1091) k_ hk_.1)⟩)) (below_size (sbe1 HB GE1091)))
        replace HO_5 := Aside0.mk (Kd.R_below (sR HO_5) hb)
        replace HO1114 := Aside0.mk (Kd.R_below (sR HO1114) hb)
        replace HO1117 := Aside0.mk (Kd.V_mono (Kd.V_told (Kd.V_told (Kd.V_old (by (with_reducible repeat (first | apply Kd.V_alloc | apply Kd.V_drewN | apply Kd.V_drew)); exact HO1117.out) hb) (Kd.R_base ho0)) (Kd.N_base ho1)) (fun _ h_ => h_.1))
        replace BK1091 := Aside0.mk (sbb BK1091 hb)
        replace HB := Aside0.mk (sbs1 HB GE1091 hb)
        (try clear hb)
        (try clear hb2)
        (try clear hk)
        (try clear hi)
        (try clear ho0)
        (try clear ho1)
        obtain ⟨Ao56, co56, eo56⟩ := Kd.R_slice HO1121.out
        (first | subst eo56 | (injection eo56 with f1_ f2_ f3_; have f4_ := f1_.symm; have f5_ := f3_.symm; clear f1_ f2_ f3_; subst f4_; subst f5_))
        obtain ⟨Ao57, co57, eo57⟩ := Kd.N_slice HO1124.out
        (first | subst eo57 | (injection eo57 with f1_ f2_ f3_; have f4_ := f1_.symm; have f5_ := f3_.symm; clear f1_ f2_ f3_; subst f4_; subst f5_))
        refine hK.out _ _ ⟨(blk_cell BK1091.out 0).trans rfl, (blk_cell BK1091.out 1).trans rfl, (blk_cell BK1091.out 2).trans rfl⟩ (fun hHeld => ?_)
        clear hK K
        refine sN ?_
        refine one_ (i := 7) (N := some 84) (lm 13 255) rfl rfl (one_of HT_.out (by kernel_rfl)) (by decide) (fun K hK => ?_)
        refine goes_ Try.func22 (by kernel_rfl) rfl #[.agg #[.slice Ao56 t1119.length co56, .slice Ao57 t1122.length co57, .int .i64 t1125]] (by rfl) rfl rfl (by (try simp only [List.map_toArray, List.map_cons, List.map_nil]); first | done | rfl | (simp only [List.length_drop, List.length_take]; rfl)) ?_
        with_reducible refine (bundle_Whose.calls _ _ t1119 _ _ t1122 t1125 t1126 t1129 _ ?side1 ?side2 ?side3 ?side4 A39.out).mono ?_
        (case side1 => repeat (first | exact (Kd.R_reads' HO1121.out).2.2 | (with_reducible refine Kd.C_alloc ?_ _) | (with_reducible refine Kd.C_drewN ?_ _) | (with_reducible refine Kd.C_drew ?_)))
        (case side2 => exact (Kd.R_reads' HO1121.out).2.1)
        (case side3 => repeat (first | exact (Kd.N_reads' HO1124.out).2.2 | (with_reducible refine Kd.C_alloc ?_ _) | (with_reducible refine Kd.C_drewN ?_ _) | (with_reducible refine Kd.C_drew ?_)))
        (case side4 => exact (Kd.N_reads' HO1124.out).2.1)
        rintro e w58 ⟨v1127, rfl, ho0, hb⟩
        refine ⟨_, rfl, ?_⟩
        have HO1128 := Aside0.mk (Kd.N_lower (Kd.N_mono (ok' := fun k_ => some k_ ≠ (.slice Ao47 t1100.length co47 : Value).ownBlock ∧ some k_ ≠ (.slice Ao53 t1112.length co53 : Value).ownBlock ∧ some k_ ≠ (.slice Ao56 t1119.length co56 : Value).ownBlock ∧ some k_ ≠ (.slice Ao57 t1122.length co57 : Value).ownBlock ∧ k_ ≠ gb1091) ho0 (fun k_ hk_ => ⟨(Kd.fresh' (Kd.R_lt (sR HO_5)) k_ hk_), (Kd.fresh' (Kd.R_lt (sR HO1114)) k_ hk_), (Kd.fresh' (Kd.R_lt (sR HO1121)) k_ hk_), (Kd.fresh' (Kd.N_lt (sN_ HO1124)) k_ hk_), (Kd.freshB (g := gb1091) (o := .cells #[.slice A0_0 l0_0.length c0_0, .slice A0_1 l0_1.length c0_1, .int .i64 a0_2] 25 (0, 0)) (sbk BK1091) k_ hk_)⟩)) (below_size (sbe1 HB GE1091)))
        replace HO_5 := Aside0.mk (Kd.R_below (sR HO_5) hb)
        replace HO1114 := Aside0.mk (Kd.R_below (sR HO1114) hb)
        replace HO1117 := Aside0.mk (Kd.V_elder' (by (with_reducible repeat (first | apply Kd.V_alloc | apply Kd.V_drewN | apply Kd.V_drew)); exact HO1117.out) (Kd.N_base ho0) hb)
        replace HO1121 := Aside0.mk (Kd.R_below (sR HO1121) hb)
        replace HO1124 := Aside0.mk (Kd.N_elder' (sN_ HO1124) (Kd.N_base ho0) hb)
        replace BK1091 := Aside0.mk (sbb BK1091 hb)
        replace HB := Aside0.mk (sbs1 HB GE1091 hb)
        (try clear hb)
        (try clear hb2)
        (try clear hk)
        (try clear hi)
        (try clear ho0)
        refine hK.out _ _ ⟨(blk_cell BK1091.out 0).trans rfl, (blk_cell BK1091.out 1).trans rfl, (blk_cell BK1091.out 2).trans rfl⟩ (fun hHeld => ?_)
        clear hK K
        refine sN ?_
        refine sP (i := 8) (N := some 76) (lm 13 511) ?_ (hc := any_of HT_.out (by kernel_rfl))
        refine sP (i := 9) (N := some 85) (lm 13 1023) ?_ (hc := any_of HT_.out (by kernel_rfl))
        refine sP (i := 10) (N := some 86) (lm 13 2047) ?_ (hc := any_of HT_.out (by kernel_rfl))
        refine sP (i := 11) (N := some 10) (lm 13 4095) ?_ (hc := any_of HT_.out (by kernel_rfl))
        refine sP (i := 12) (N := some 11) (lm 13 8191) ?_ (hc := any_of HT_.out (by kernel_rfl))
        refine done_ (done_of HT_.out (by kernel_rfl)) ?_
        try go_wp2
        replace HO_5 := Aside0.mk (Kd.R_drew HO_5.out)
        replace HO1114 := Aside0.mk (Kd.R_drew HO1114.out)
        replace HO1117 := Aside0.mk (Kd.V_drew HO1117.out)
        replace HO1121 := Aside0.mk (Kd.R_drew HO1121.out)
        replace HO1124 := Aside0.mk (Kd.N_drew HO1124.out)
        replace HO1128 := Aside0.mk (Kd.N_drew HO1128.out)
        replace BK1091 := Aside0.mk (blk_drew BK1091.out)
        replace HB := Aside0.mk (below_drew1 HB.out)
        refine start_ (n := 13) (S := fun w' => w'.cell? ⟨gb1091, 0, none⟩ = some (.slice A0_0 l0_0.length c0_0) ∧ w'.cell? ⟨gb1091, 1, none⟩ = some (.slice A0_1 l0_1.length c0_1) ∧ w'.cell? ⟨gb1091, 2, none⟩ = some (.int .i64 a0_2)) (ds := []) (lm 13 0) (by kernel_rfl) rfl (by kernel_rfl) ⟨(blk_cell BK1091.out 0).trans rfl, (blk_cell BK1091.out 1).trans rfl, (blk_cell BK1091.out 2).trans rfl⟩ (fun hHeld => ?_); refine with_tabW posserlaw03_BundleLeft.tab15 posserlaw03_BundleLeft.bits15 (fun HT_ HW_ => ?_)
        generalize w58.drew = w59 at HO_5 HO1114 HO1117 HO1121 HO1124 HO1128 BK1091 HB hHeld ⊢
        refine sP (i := 3) (N := some 91) (lm 13 8) ?_ (hc := any_of HT_.out (by kernel_rfl))
        refine take_ (i := 0) (N := some 88) (v := ?_) (a' := ?_) (lm 13 9) rfl rfl (take_ofW HT_.out HW_.out (by kernel_rfl)) (fun _ _ _ h => h) (Or.inl ⟨by rfl, ?_⟩) hHeld ?_ ?_
        rotate_left
        ·rintro w' ⟨s0, s1, s2⟩
         go_simp
         with_reducible rfl
        rotate_left
        ·simp only [Act.put, List.setIfInBounds_toArray, List.set_cons_zero, List.set_cons_succ, i64_w, i32_w]
         rfl
        refine take_ (i := 1) (N := some 89) (v := ?_) (a' := ?_) (lm 13 11) rfl rfl (take_ofW HT_.out HW_.out (by kernel_rfl)) (fun _ _ _ h => h) (Or.inl ⟨by rfl, ?_⟩) hHeld ?_ ?_
        rotate_left
        ·rintro w' ⟨s0, s1, s2⟩
         go_simp
         with_reducible rfl
        rotate_left
        ·simp only [Act.put, List.setIfInBounds_toArray, List.set_cons_zero, List.set_cons_succ, i64_w, i32_w]
         rfl
        refine one_ (i := 2) (N := some 90) (lm 13 15) rfl rfl (one_of HT_.out (by kernel_rfl)) (by decide) (fun K hK => ?_)
        refine goes_ Try.func58 (by kernel_rfl) rfl #[.agg #[.slice A0_0 l0_0.length c0_0, .slice A0_1 l0_1.length c0_1, .int .i64 a0_2]] (by rfl) rfl rfl (by (try simp only [List.map_toArray, List.map_cons, List.map_nil]); first | done | rfl | (simp only [List.length_drop, List.length_take]; rfl)) ?_
        with_reducible refine (posserref03_Full.calls _ _ l0_0 _ _ l0_1 a0_2 t1130 _ ?side1 ?side2 ?side3 ?side4 A40.out).mono ?_
        (case side1 => exact sCb HR0_0 HB)
        (case side2 => exact HC0_0.out)
        (case side3 => exact sCb HR0_1 HB)
        (case side4 => exact HC0_1.out)
        rintro e w60 ⟨rfl, hb⟩
        refine ⟨_, rfl, ?_⟩
        replace HO_5 := Aside0.mk (Kd.R_below (sR HO_5) hb)
        replace HO1114 := Aside0.mk (Kd.R_below (sR HO1114) hb)
        replace HO1117 := Aside0.mk (Kd.V_below (by (with_reducible repeat (first | apply Kd.V_alloc | apply Kd.V_drewN | apply Kd.V_drew)); exact HO1117.out) hb)
        replace HO1121 := Aside0.mk (Kd.R_below (sR HO1121) hb)
        replace HO1124 := Aside0.mk (Kd.N_below (sN_ HO1124) hb)
        replace HO1128 := Aside0.mk (Kd.N_below (sN_ HO1128) hb)
        replace BK1091 := Aside0.mk (sbb BK1091 hb)
        replace HB := Aside0.mk (sbs1 HB GE1091 hb)
        (try clear hb)
        (try clear hb2)
        (try clear hk)
        (try clear hi)
        refine hK.out _ _ ⟨(blk_cell BK1091.out 0).trans rfl, (blk_cell BK1091.out 1).trans rfl, (blk_cell BK1091.out 2).trans rfl⟩ (fun hHeld => ?_)
        clear hK K
        refine sN ?_
        refine sP (i := 4) (N := some 92) (lm 13 31) ?_ (hc := any_of HT_.out (by kernel_rfl))
        refine one_ (i := 5) (N := some 93) (lm 13 63) rfl rfl (one_of HT_.out (by kernel_rfl)) (by decide) (fun K hK => ?_)
        refine goes_ Try.func57 (by kernel_rfl) rfl #[.agg #[.slice A0_0 l0_0.length c0_0, .slice A0_1 l0_1.length c0_1, .int .i64 a0_2], .int .i64 (Go.bits .andNot .i64 t1130 (Go.bits .and .i64 (wrap64 (a1)) t1110))] (by rfl) rfl rfl (by (try simp only [List.map_toArray, List.map_cons, List.map_nil]); first | done | rfl | (simp only [List.length_drop, List.length_take]; rfl)) ?_
        with_reducible refine (posserlaw03_some.calls k1 _ _ l0_0 (fun k_ => k_ < w.heap.size) _ _ l0_1 a0_2 (Go.bits .andNot .i64 t1130 (Go.bits .and .i64 (wrap64 (a1)) t1110)) t1131 t1134 t1137 _ ?side1 ?side2 ?side3 A41.out).mono ?_
        (case side1 => exact sCb HR0_0 HB)
        (case side2 => exact HC0_0.out)
        (case side3 => exact Kd.V_mk HC0_1.out (Kd.F_below (Kd.C_F k71_heap HR0_1.out) (sbe1 HB GE1091)))
        rintro e w61 ⟨v1132, v1135, rfl, ho0, ho1, hb⟩
        refine ⟨_, rfl, ?_⟩
        have HO1133 := Aside0.mk (Kd.R_lower (Kd.R_new' (Kd.R_mono (ok' := fun k_ => True) ho0 (fun _ hk_ => trivial)) (Kd.R_lt (sR HO1114))) (below_size (sbe1 HB GE1091)))
        have HO1136 := Aside0.mk (Kd.V_lower (Kd.V_mono (ok' := fun k_ => some k_ ≠ (v1132 : Value).ownBlock ∧ some k_ ≠ (.slice Ao47 t1100.length co47 : Value).ownBlock ∧ some k_ ≠ (.slice Ao53 t1112.length co53 : Value).ownBlock ∧ some k_ ≠ (.slice Ao56 t1119.length co56 : Value).ownBlock ∧ some k_ ≠ (.slice Ao57 t1122.length co57 : Value).ownBlock ∧ some k_ ≠ (v1127 : Value).ownBlock ∧ k_ ≠ gb1091) ho1 (fun k_ hk_ => ⟨hk_.2, Or.elim hk_.1 (fun hs_ => fun e_ => Nat.not_le.2 hs_ (Kd.R_base HO_5.out k_ e_.symm)) (fun hn_ => (Kd.fresh' (Kd.R_lt (sR HO_5)) k_ hn_)), Or.elim hk_.1 (fun hs_ => fun e_ => Nat.not_le.2 hs_ (Kd.R_base HO1114.out k_ e_.symm)) (fun hn_ => (Kd.fresh' (Kd.R_lt (sR HO1114)) k_ hn_)), Or.elim hk_.1 (fun hs_ => fun e_ => Nat.not_le.2 hs_ (Kd.R_base HO1121.out k_ e_.symm)) (fun hn_ => (Kd.fresh' (Kd.R_lt (sR HO1121)) k_ hn_)), Or.elim hk_.1 (fun hs_ => fun e_ => Nat.not_le.2 hs_ (Kd.N_base HO1124.out k_ e_.symm)) (fun hn_ => (Kd.fresh' (Kd.N_lt (sN_ HO1124)) k_ hn_)), Or.elim hk_.1 (fun hs_ => fun e_ => Nat.not_le.2 hs_ (Kd.N_base HO1128.out k_ e_.symm)) (fun hn_ => (Kd.fresh' (Kd.N_lt (sN_ HO1128)) k_ hn_)), Or.elim hk_.1 (fun hs_ => fun e_ => Nat.not_le.2 hs_ (by rw [e_]; exact GW1091.out)) (fun hn_ => (Kd.freshB (g := gb1091) (o := .cells #[.slice A0_0 l0_0.length c0_0, .slice A0_1 l0_1.length c0_1, .int .i64 a0_2] 25 (0, 0)) (sbk BK1091) k_ hn_))⟩)) (below_size (sbe1 HB GE1091)))
        replace HO_5 := Aside0.mk (Kd.R_below (sR HO_5) hb)
        replace HO1114 := Aside0.mk (Kd.R_elder' (sR HO1114) (Kd.R_base ho0) hb)
        replace HO1117 := Aside0.mk (Kd.V_elder' (by (with_reducible repeat (first | apply Kd.V_alloc | apply Kd.V_drewN | apply Kd.V_drew)); exact HO1117.out) (Kd.R_base ho0) hb)
        replace HO1121 := Aside0.mk (Kd.R_below (sR HO1121) hb)
        replace HO1124 := Aside0.mk (Kd.N_elder' (sN_ HO1124) (Kd.R_base ho0) hb)
        replace HO1128 := Aside0.mk (Kd.N_elder' (sN_ HO1128) (Kd.R_base ho0) hb)
        replace BK1091 := Aside0.mk (sbb BK1091 hb)
        replace HB := Aside0.mk (sbs1 HB GE1091 hb)
        (try clear hb)
        (try clear hb2)
        (try clear hk)
        (try clear hi)
        (try clear ho0)
        (try clear ho1)
        obtain ⟨Ao62, co62, eo62⟩ := Kd.R_slice HO1133.out
        (first | subst eo62 | (injection eo62 with f1_ f2_ f3_; have f4_ := f1_.symm; have f5_ := f3_.symm; clear f1_ f2_ f3_; subst f4_; subst f5_))
        obtain ⟨Ao63, co63, eo63⟩ := Kd.V_slice HO1136.out
        (first | subst eo63 | (injection eo63 with f1_ f2_ f3_; have f4_ := f1_.symm; have f5_ := f3_.symm; clear f1_ f2_ f3_; subst f4_; subst f5_))
        refine hK.out _ _ ⟨(blk_cell BK1091.out 0).trans rfl, (blk_cell BK1091.out 1).trans rfl, (blk_cell BK1091.out 2).trans rfl⟩ (fun hHeld => ?_)
        clear hK K
        refine sN ?_
        refine one_ (i := 6) (N := some 94) (lm 13 127) rfl rfl (one_of HT_.out (by kernel_rfl)) (by decide) (fun K hK => ?_)
        refine goes_ Try.func23 (by kernel_rfl) rfl #[.agg #[.slice Ao62 t1131.length co62, .slice Ao63 t1134.length co63, .int .i64 t1137]] (by rfl) rfl rfl (by (try simp only [List.map_toArray, List.map_cons, List.map_nil]); first | done | rfl | (simp only [List.length_drop, List.length_take]; rfl)) ?_
        with_reducible refine (posserlaw03_Table.calls _ _ t1131 _ _ t1134 t1137 t1138 t1141 t1144 _ ?side1 ?side2 ?side3 ?side4 A42.out).mono ?_
        (case side1 => repeat (first | exact (Kd.R_reads' HO1133.out).2.2 | (with_reducible refine Kd.C_alloc ?_ _) | (with_reducible refine Kd.C_drewN ?_ _) | (with_reducible refine Kd.C_drew ?_)))
        (case side2 => exact (Kd.R_reads' HO1133.out).2.1)
        (case side3 => repeat (first | exact (Kd.V_reads' HO1136.out).2.2 | (with_reducible refine Kd.C_alloc ?_ _) | (with_reducible refine Kd.C_drewN ?_ _) | (with_reducible refine Kd.C_drew ?_)))
        (case side4 => exact (Kd.V_reads' HO1136.out).2.1)
        rintro e w64 ⟨v1139, v1142, rfl, ho0, ho1, hb⟩
        refine ⟨_, rfl, ?_⟩
        have HO1140 := Aside0.mk (Kd.R_lower (Kd.R_new' (Kd.R_mono (ok' := fun k_ => True) ho0 (fun _ hk_ => trivial)) (Kd.R_lt (sR HO1121))) (below_size (sbe1 HB GE1091)))
        have HO1143 := Aside0.mk (Kd.N_lower (Kd.N_mono (ok' := fun k_ => some k_ ≠ (v1139 : Value).ownBlock ∧ some k_ ≠ (.slice Ao47 t1100.length co47 : Value).ownBlock ∧ some k_ ≠ (.slice Ao53 t1112.length co53 : Value).ownBlock ∧ some k_ ≠ (.slice Ao56 t1119.length co56 : Value).ownBlock ∧ some k_ ≠ (.slice Ao57 t1122.length co57 : Value).ownBlock ∧ some k_ ≠ (v1127 : Value).ownBlock ∧ some k_ ≠ (.slice Ao62 t1131.length co62 : Value).ownBlock ∧ k_ ≠ gb1091) ho1 (fun k_ hk_ => ⟨hk_.2, (Kd.fresh' (Kd.R_lt (sR HO_5)) k_ hk_.1), (Kd.fresh' (Kd.R_lt (sR HO1114)) k_ hk_.1), (Kd.fresh' (Kd.R_lt (sR HO1121)) k_ hk_.1), (Kd.fresh' (Kd.N_lt (sN_ HO1124)) k_ hk_.1), (Kd.fresh' (Kd.N_lt (sN_ HO1128)) k_ hk_.1), (Kd.fresh' (Kd.R_lt (sR HO1133)) k_ hk_.1), (Kd.freshB (g := gb1091) (o := .cells #[.slice A0_0 l0_0.length c0_0, .slice A0_1 l0_1.length c0_1, .int .i64 a0_2] 25 (0, 0)) (sbk BK1091) k_ hk_.1)⟩)) (below_size (sbe1 HB GE1091)))
        replace HO_5 := Aside0.mk (Kd.R_below (sR HO_5) hb)
        replace HO1114 := Aside0.mk (Kd.R_below (sR HO1114) hb)
        replace HO1117 := Aside0.mk (Kd.V_mono (Kd.V_told (Kd.V_told (Kd.V_old (by (with_reducible repeat (first | apply Kd.V_alloc | apply Kd.V_drewN | apply Kd.V_drew)); exact HO1117.out) hb) (Kd.R_base ho0)) (Kd.N_base ho1)) (fun _ h_ => h_.1))
        replace HO1121 := Aside0.mk (Kd.R_elder' (sR HO1121) (Kd.R_base ho0) hb)
        replace HO1124 := Aside0.mk (Kd.N_mono (Kd.N_told (Kd.N_told (Kd.N_old (sN_ HO1124) hb) (Kd.R_base ho0)) (Kd.N_base ho1)) (fun _ h_ => h_.1))
        replace HO1128 := Aside0.mk (Kd.N_mono (Kd.N_told (Kd.N_told (Kd.N_old (sN_ HO1128) hb) (Kd.R_base ho0)) (Kd.N_base ho1)) (fun _ h_ => h_.1))
        replace HO1133 := Aside0.mk (Kd.R_below (sR HO1133) hb)
        replace HO1136 := Aside0.mk (Kd.V_mono (Kd.V_told (Kd.V_told (Kd.V_old (by (with_reducible repeat (first | apply Kd.V_alloc | apply Kd.V_drewN | apply Kd.V_drew)); exact HO1136.out) hb) (Kd.R_base ho0)) (Kd.N_base ho1)) (fun _ h_ => h_.1))
        replace BK1091 := Aside0.mk (sbb BK1091 hb)
        replace HB := Aside0.mk (sbs1 HB GE1091 hb)
        (try clear hb)
        (try clear hb2)
        (try clear hk)
        (try clear hi)
        (try clear ho0)
        (try clear ho1)
        obtain ⟨Ao65, co65, eo65⟩ := Kd.R_slice HO1140.out
        (first | subst eo65 | (injection eo65 with f1_ f2_ f3_; have f4_ := f1_.symm; have f5_ := f3_.symm; clear f1_ f2_ f3_; subst f4_; subst f5_))
        obtain ⟨Ao66, co66, eo66⟩ := Kd.N_slice HO1143.out
        (first | subst eo66 | (injection eo66 with f1_ f2_ f3_; have f4_ := f1_.symm; have f5_ := f3_.symm; clear f1_ f2_ f3_; subst f4_; subst f5_))
        refine hK.out _ _ ⟨(blk_cell BK1091.out 0).trans rfl, (blk_cell BK1091.out 1).trans rfl, (blk_cell BK1091.out 2).trans rfl⟩ (fun hHeld => ?_)
        clear hK K
        refine sN ?_
        refine one_ (i := 7) (N := some 95) (lm 13 255) rfl rfl (one_of HT_.out (by kernel_rfl)) (by decide) (fun K hK => ?_)
        refine goes_ Try.func22 (by kernel_rfl) rfl #[.agg #[.slice Ao65 t1138.length co65, .slice Ao66 t1141.length co66, .int .i64 t1144]] (by rfl) rfl rfl (by (try simp only [List.map_toArray, List.map_cons, List.map_nil]); first | done | rfl | (simp only [List.length_drop, List.length_take]; rfl)) ?_
        with_reducible refine (bundle_Whose.calls _ _ t1138 _ _ t1141 t1144 t1145 t1148 _ ?side1 ?side2 ?side3 ?side4 A43.out).mono ?_
        (case side1 => repeat (first | exact (Kd.R_reads' HO1140.out).2.2 | (with_reducible refine Kd.C_alloc ?_ _) | (with_reducible refine Kd.C_drewN ?_ _) | (with_reducible refine Kd.C_drew ?_)))
        (case side2 => exact (Kd.R_reads' HO1140.out).2.1)
        (case side3 => repeat (first | exact (Kd.N_reads' HO1143.out).2.2 | (with_reducible refine Kd.C_alloc ?_ _) | (with_reducible refine Kd.C_drewN ?_ _) | (with_reducible refine Kd.C_drew ?_)))
        (case side4 => exact (Kd.N_reads' HO1143.out).2.1)
        rintro e w67 ⟨v1146, rfl, ho0, hb⟩
        refine ⟨_, rfl, ?_⟩
        have HO1147 := Aside0.mk (Kd.N_lower (Kd.N_mono (ok' := fun k_ => some k_ ≠ (.slice Ao47 t1100.length co47 : Value).ownBlock ∧ some k_ ≠ (.slice Ao53 t1112.length co53 : Value).ownBlock ∧ some k_ ≠ (.slice Ao56 t1119.length co56 : Value).ownBlock ∧ some k_ ≠ (.slice Ao57 t1122.length co57 : Value).ownBlock ∧ some k_ ≠ (v1127 : Value).ownBlock ∧ some k_ ≠ (.slice Ao62 t1131.length co62 : Value).ownBlock ∧ some k_ ≠ (.slice Ao65 t1138.length co65 : Value).ownBlock ∧ some k_ ≠ (.slice Ao66 t1141.length co66 : Value).ownBlock ∧ k_ ≠ gb1091) ho0 (fun k_ hk_ => ⟨(Kd.fresh' (Kd.R_lt (sR HO_5)) k_ hk_), (Kd.fresh' (Kd.R_lt (sR HO1114)) k_ hk_), (Kd.fresh' (Kd.R_lt (sR HO1121)) k_ hk_), (Kd.fresh' (Kd.N_lt (sN_ HO1124)) k_ hk_), (Kd.fresh' (Kd.N_lt (sN_ HO1128)) k_ hk_), (Kd.fresh' (Kd.R_lt (sR HO1133)) k_ hk_), (Kd.fresh' (Kd.R_lt (sR HO1140)) k_ hk_), (Kd.fresh' (Kd.N_lt (sN_ HO1143)) k_ hk_), (Kd.freshB (g := gb1091) (o := .cells #[.slice A0_0 l0_0.length c0_0, .slice A0_1 l0_1.length c0_1, .int .i64 a0_2] 25 (0, 0)) (sbk BK1091) k_ hk_)⟩)) (below_size (sbe1 HB GE1091)))
        replace HO_5 := Aside0.mk (Kd.R_below (sR HO_5) hb)
        replace HO1114 := Aside0.mk (Kd.R_below (sR HO1114) hb)
        replace HO1117 := Aside0.mk (Kd.V_elder' (by (with_reducible repeat (first | apply Kd.V_alloc | apply Kd.V_drewN | apply Kd.V_drew)); exact HO1117.out) (Kd.N_base ho0) hb)
        replace HO1121 := Aside0.mk (Kd.R_below (sR HO1121) hb)
        replace HO1124 := Aside0.mk (Kd.N_elder' (sN_ HO1124) (Kd.N_base ho0) hb)
        replace HO1128 := Aside0.mk (Kd.N_elder' (sN_ HO1128) (Kd.N_base ho0) hb)
        replace HO1133 := Aside0.mk (Kd.R_below (sR HO1133) hb)
        replace HO1136 := Aside0.mk (Kd.V_elder' (by (with_reducible repeat (first | apply Kd.V_alloc | apply Kd.V_drewN | apply Kd.V_drew)); exact HO1136.out) (Kd.N_base ho0) hb)
        replace HO1140 := Aside0.mk (Kd.R_below (sR HO1140) hb)
        replace HO1143 := Aside0.mk (Kd.N_elder' (sN_ HO1143) (Kd.N_base ho0) hb)
        replace BK1091 := Aside0.mk (sbb BK1091 hb)
        replace HB := Aside0.mk (sbs1 HB GE1091 hb)
        (try clear hb)
        (try clear hb2)
        (try clear hk)
        (try clear hi)
        (try clear ho0)
        refine hK.out _ _ ⟨(blk_cell BK1091.out 0).trans rfl, (blk_cell BK1091.out 1).trans rfl, (blk_cell BK1091.out 2).trans rfl⟩ (fun hHeld => ?_)
        clear hK K
        refine sN ?_
        refine sP (i := 8) (N := some 87) (lm 13 511) ?_ (hc := any_of HT_.out (by kernel_rfl))
        refine sP (i := 9) (N := some 96) (lm 13 1023) ?_ (hc := any_of HT_.out (by kernel_rfl))
        refine sP (i := 10) (N := some 97) (lm 13 2047) ?_ (hc := any_of HT_.out (by kernel_rfl))
        refine sP (i := 11) (N := some 12) (lm 13 4095) ?_ (hc := any_of HT_.out (by kernel_rfl))
        refine sP (i := 12) (N := some 13) (lm 13 8191) ?_ (hc := any_of HT_.out (by kernel_rfl))
        refine done_ (done_of HT_.out (by kernel_rfl)) ?_
        try go_wp2_with (first | (go_at_call 21; (with_reducible refine (posserlaw03_awake.calls  t1149 _ A46.out).mono ?_); rintro e w68 ⟨rfl, hb⟩; replace HO_5 := Aside0.mk (Kd.R_below (sR HO_5) hb); replace HO1114 := Aside0.mk (Kd.R_below (sR HO1114) hb); replace HO1117 := Aside0.mk (Kd.V_below (by (with_reducible repeat (first | apply Kd.V_alloc | apply Kd.V_drewN | apply Kd.V_drew)); exact HO1117.out) hb); replace HO1121 := Aside0.mk (Kd.R_below (sR HO1121) hb); replace HO1124 := Aside0.mk (Kd.N_below (sN_ HO1124) hb); replace HO1128 := Aside0.mk (Kd.N_below (sN_ HO1128) hb); replace HO1133 := Aside0.mk (Kd.R_below (sR HO1133) hb); replace HO1136 := Aside0.mk (Kd.V_below (by (with_reducible repeat (first | apply Kd.V_alloc | apply Kd.V_drewN | apply Kd.V_drew)); exact HO1136.out) hb); replace HO1140 := Aside0.mk (Kd.R_below (sR HO1140) hb); replace HO1143 := Aside0.mk (Kd.N_below (sN_ HO1143) hb); replace HO1147 := Aside0.mk (Kd.N_below (sN_ HO1147) hb); replace BK1091 := Aside0.mk (sbb BK1091 hb); replace HB := Aside0.mk (sbs1 HB GE1091 hb); (try clear hb); (try clear hb2); (try clear hk); (try clear hi)))
        go_ret
        exact ⟨by first | rfl | (simp [errW_none, errW_some] <;> rfl) | (simp [*, errW_none, errW_some] <;> rfl), (sbe1 HB GE1091)⟩
       ·rw [if_neg c45] at H
        have c45b0 : (t1148 == 11) = false := beq_eq_false_iff_ne.mpr c45
        have c45b1 : (t1148 != 11) = true := bne_iff_ne.mpr c45
        by_cases c69 : t1148 = 0
        ·rw [if_pos c69] at H
         have c69b0 : (t1148 == 0) = true := beq_iff_eq.mpr c69
         have c69b1 : (t1148 != 0) = false := bne_eq_false_iff_eq.mpr c69
         clear c69
         replace H := Option.bind_eq_some_iff.mp H
         obtain ⟨t1150, A700, H⟩ := H
         replace H : ((posserref03_Shorter.f k1 t1150 t1100).bind fun t1153 => (if t1153 = true then (none) else ((posserlaw03_awake.f).bind fun t1154 => (some t1154)))) = some r := H
         have A70 := Aside0.mk A700
         clear A700
         replace H := Option.bind_eq_some_iff.mp H
         obtain ⟨t1153, A710, H⟩ := H
         replace H : (if t1153 = true then (none) else ((posserlaw03_awake.f).bind fun t1154 => (some t1154))) = some r := H
         have A71 := Aside0.mk A710
         clear A710
         by_cases c72 : t1153 = true
         ·subst c72
          have H1 : (none) = some r := by rw [if_pos rfl] at H; exact H
          clear H
          have H := H1
          clear H1
          exact absurd H (by simp)
         ·replace c72 := Bool.eq_false_iff.mpr c72
          subst c72
          have H1 : ((posserlaw03_awake.f).bind fun t1154 => (some t1154)) = some r := by rw [if_neg (show ¬ (false = true) by decide)] at H; exact H
          clear H
          have H := H1
          clear H1
          replace H := Option.bind_eq_some_iff.mp H
          obtain ⟨t1154, A730, H⟩ := H
          replace H : (some t1154) = some r := H
          have A73 := Aside0.mk A730
          clear A730
          obtain rfl := Option.some.inj H
          obtain ⟨Ao74, co74, eo74⟩ := Kd.R_slice HO_5.out
          subst eo74
          have hcz75_0 := sc 0 BK1091
          have hcz75_1 := sc 1 BK1091
          have hcz75_2 := sc 2 BK1091
          have hfz75_0 := blk_frozen BK1091.out 0
          have hfz75_1 := blk_frozen BK1091.out 1
          have hfz75_2 := blk_frozen BK1091.out 2
          try go_wp2_with (first | ((with_reducible refine gate_callee (f := 58) rfl ?_); refine goesL_ (some 74) rfl rfl Try.func58 (by kernel_rfl) rfl #[.agg #[.slice A0_0 l0_0.length c0_0, .slice A0_1 l0_1.length c0_1, .int .i64 a0_2]] rfl (by (try simp only [List.map_toArray, List.map_cons, List.map_nil]); first | done | rfl | (simp only [List.length_drop, List.length_take]; rfl)) ?_; (with_reducible refine (posserref03_Full.calls _ _ l0_0 _ _ l0_1 a0_2 t1110 _ ?side1 ?side2 ?side3 ?side4 A35.out).mono ?_); (case side1 => exact sCb HR0_0 HB); (case side2 => exact HC0_0.out); (case side3 => exact sCb HR0_1 HB); (case side4 => exact HC0_1.out); rintro e w76 ⟨rfl, hb⟩; refine ⟨_, rfl, ?_⟩; replace HO_5 := Aside0.mk (Kd.R_below (sR HO_5) hb); replace BK1091 := Aside0.mk (sbb BK1091 hb); replace HB := Aside0.mk (sbs1 HB GE1091 hb); (try clear hb); (try clear hb2); (try clear hk); (try clear hi)))
          replace HO_5 := Aside0.mk (Kd.R_drew HO_5.out)
          replace BK1091 := Aside0.mk (blk_drew BK1091.out)
          replace HB := Aside0.mk (below_drew1 HB.out)
          refine start_ (n := 13) (S := fun w' => w'.cell? ⟨gb1091, 0, none⟩ = some (.slice A0_0 l0_0.length c0_0) ∧ w'.cell? ⟨gb1091, 1, none⟩ = some (.slice A0_1 l0_1.length c0_1) ∧ w'.cell? ⟨gb1091, 2, none⟩ = some (.int .i64 a0_2)) (ds := []) (lm 13 0) (by kernel_rfl) rfl (by kernel_rfl) ⟨(blk_cell BK1091.out 0).trans rfl, (blk_cell BK1091.out 1).trans rfl, (blk_cell BK1091.out 2).trans rfl⟩ (fun hHeld => ?_); refine with_tabW posserlaw03_BundleLeft.tab14 posserlaw03_BundleLeft.bits14 (fun HT_ HW_ => ?_)
          generalize w76.drew = w77 at HO_5 BK1091 HB hHeld ⊢
          refine sP (i := 3) (N := some 80) (lm 13 8) ?_ (hc := any_of HT_.out (by kernel_rfl))
          refine take_ (i := 0) (N := some 77) (v := ?_) (a' := ?_) (lm 13 9) rfl rfl (take_ofW HT_.out HW_.out (by kernel_rfl)) (fun _ _ _ h => h) (Or.inl ⟨by rfl, ?_⟩) hHeld ?_ ?_
          rotate_left
          ·rintro w' ⟨s0, s1, s2⟩
           go_simp
           with_reducible rfl
          rotate_left
          ·simp only [Act.put, List.setIfInBounds_toArray, List.set_cons_zero, List.set_cons_succ, i64_w, i32_w]
           rfl
          refine take_ (i := 1) (N := some 78) (v := ?_) (a' := ?_) (lm 13 11) rfl rfl (take_ofW HT_.out HW_.out (by kernel_rfl)) (fun _ _ _ h => h) (Or.inl ⟨by rfl, ?_⟩) hHeld ?_ ?_
          rotate_left
          ·rintro w' ⟨s0, s1, s2⟩
           go_simp
           with_reducible rfl
          rotate_left
          ·simp only [Act.put, List.setIfInBounds_toArray, List.set_cons_zero, List.set_cons_succ, i64_w, i32_w]
           rfl
          refine one_ (i := 2) (N := some 79) (lm 13 15) rfl rfl (one_of HT_.out (by kernel_rfl)) (by decide) (fun K hK => ?_)
          refine goes_ Try.func58 (by kernel_rfl) rfl #[.agg #[.slice A0_0 l0_0.length c0_0, .slice A0_1 l0_1.length c0_1, .int .i64 a0_2]] (by rfl) rfl rfl (by (try simp only [List.map_toArray, List.map_cons, List.map_nil]); first | done | rfl | (simp only [List.length_drop, List.length_take]; rfl)) ?_
          with_reducible refine (posserref03_Full.calls _ _ l0_0 _ _ l0_1 a0_2 t1111 _ ?side1 ?side2 ?side3 ?side4 A36.out).mono ?_
          (case side1 => exact sCb HR0_0 HB)
          (case side2 => exact HC0_0.out)
          (case side3 => exact sCb HR0_1 HB)
          (case side4 => exact HC0_1.out)
          rintro e w78 ⟨rfl, hb⟩
          refine ⟨_, rfl, ?_⟩
          replace HO_5 := Aside0.mk (Kd.R_below (sR HO_5) hb)
          replace BK1091 := Aside0.mk (sbb BK1091 hb)
          replace HB := Aside0.mk (sbs1 HB GE1091 hb)
          (try clear hb)
          (try clear hb2)
          (try clear hk)
          (try clear hi)
          refine hK.out _ _ ⟨(blk_cell BK1091.out 0).trans rfl, (blk_cell BK1091.out 1).trans rfl, (blk_cell BK1091.out 2).trans rfl⟩ (fun hHeld => ?_)
          clear hK K
          refine sN ?_
          refine sP (i := 4) (N := some 81) (lm 13 31) ?_ (hc := any_of HT_.out (by kernel_rfl))
          refine one_ (i := 5) (N := some 82) (lm 13 63) rfl rfl (one_of HT_.out (by kernel_rfl)) (by decide) (fun K hK => ?_)
          refine goes_ Try.func57 (by kernel_rfl) rfl #[.agg #[.slice A0_0 l0_0.length c0_0, .slice A0_1 l0_1.length c0_1, .int .i64 a0_2], .int .i64 (Go.bits .andNot .i64 t1111 x7_1)] (by rfl) rfl rfl (by (try simp only [List.map_toArray, List.map_cons, List.map_nil]); first | done | rfl | (simp only [List.length_drop, List.length_take]; rfl)) ?_
          with_reducible refine (posserlaw03_some.calls k1 _ _ l0_0 (fun k_ => k_ < w.heap.size) _ _ l0_1 a0_2 (Go.bits .andNot .i64 t1111 x7_1) t1112 t1115 t1118 _ ?side1 ?side2 ?side3 A37.out).mono ?_
          (case side1 => exact sCb HR0_0 HB)
          (case side2 => exact HC0_0.out)
          (case side3 => exact Kd.V_mk HC0_1.out (Kd.F_below (Kd.C_F k71_heap HR0_1.out) (sbe1 HB GE1091)))
          rintro e w79 ⟨v1113, v1116, rfl, ho0, ho1, hb⟩
          refine ⟨_, rfl, ?_⟩
          have HO1114 := Aside0.mk (Kd.R_lower (Kd.R_mono (ok' := fun k_ => True) ho0 (fun _ hk_ => trivial)) (below_size (sbe1 HB GE1091)))
          have HO1117 := Aside0.mk (Kd.V_lower (Kd.V_mono (ok' := fun k_ => some k_ ≠ (v1113 : Value).ownBlock ∧ some k_ ≠ (.slice Ao74 t1100.length co74 : Value).ownBlock ∧ k_ ≠ gb1091) ho1 (fun k_ hk_ => ⟨hk_.2, Or.elim hk_.1 (fun hs_ => fun e_ => Nat.not_le.2 hs_ (Kd.R_base HO_5.out k_ e_.symm)) (fun hn_ => (Kd.fresh' (Kd.R_lt (sR HO_5)) k_ hn_)), Or.elim hk_.1 (fun hs_ => fun e_ => Nat.not_le.2 hs_ (by rw [e_]; exact GW1091.out)) (fun hn_ => (Kd.freshB (g := gb1091) (o := .cells #[.slice A0_0 l0_0.length c0_0, .slice A0_1 l0_1.length c0_1, .int .i64 a0_2] 25 (0, 0)) (sbk BK1091) k_ hn_))⟩)) (below_size (sbe1 HB GE1091)))
          replace HO_5 := Aside0.mk (Kd.R_below (sR HO_5) hb)
          replace BK1091 := Aside0.mk (sbb BK1091 hb)
          replace HB := Aside0.mk (sbs1 HB GE1091 hb)
          (try clear hb)
          (try clear hb2)
          (try clear hk)
          (try clear hi)
          (try clear ho0)
          (try clear ho1)
          obtain ⟨Ao80, co80, eo80⟩ := Kd.R_slice HO1114.out
          (first | subst eo80 | (injection eo80 with f1_ f2_ f3_; have f4_ := f1_.symm; have f5_ := f3_.symm; clear f1_ f2_ f3_; subst f4_; subst f5_))
          obtain ⟨Ao81, co81, eo81⟩ := Kd.V_slice HO1117.out
          (first | subst eo81 | (injection eo81 with f1_ f2_ f3_; have f4_ := f1_.symm; have f5_ := f3_.symm; clear f1_ f2_ f3_; subst f4_; subst f5_))
          refine hK.out _ _ ⟨(blk_cell BK1091.out 0).trans rfl, (blk_cell BK1091.out 1).trans rfl, (blk_cell BK1091.out 2).trans rfl⟩ (fun hHeld => ?_)
          clear hK K
          refine sN ?_
          refine one_ (i := 6) (N := some 83) (lm 13 127) rfl rfl (one_of HT_.out (by kernel_rfl)) (by decide) (fun K hK => ?_)
          refine goes_ Try.func23 (by kernel_rfl) rfl #[.agg #[.slice Ao80 t1112.length co80, .slice Ao81 t1115.length co81, .int .i64 t1118]] (by rfl) rfl rfl (by (try simp only [List.map_toArray, List.map_cons, List.map_nil]); first | done | rfl | (simp only [List.length_drop, List.length_take]; rfl)) ?_
          with_reducible refine (posserlaw03_Table.calls _ _ t1112 _ _ t1115 t1118 t1119 t1122 t1125 _ ?side1 ?side2 ?side3 ?side4 A38.out).mono ?_
          (case side1 => repeat (first | exact (Kd.R_reads' HO1114.out).2.2 | (with_reducible refine Kd.C_alloc ?_ _) | (with_reducible refine Kd.C_drewN ?_ _) | (with_reducible refine Kd.C_drew ?_)))
          (case side2 => exact (Kd.R_reads' HO1114.out).2.1)
          (case side3 => repeat (first | exact (Kd.V_reads' HO1117.out).2.2 | (with_reducible refine Kd.C_alloc ?_ _) | (with_reducible refine Kd.C_drewN ?_ _) | (with_reducible refine Kd.C_drew ?_)))
          (case side4 => exact (Kd.V_reads' HO1117.out).2.1)
          rintro e w82 ⟨v1120, v1123, rfl, ho0, ho1, hb⟩
          refine ⟨_, rfl, ?_⟩
          have HO1121 := Aside0.mk (Kd.R_lower (Kd.R_mono (ok' := fun k_ => True) ho0 (fun _ hk_ => trivial)) (below_size (sbe1 HB GE1091)))
          have HO1124 := Aside0.mk (Kd.N_lower (Kd.N_mono (ok' := fun k_ => some k_ ≠ (v1120 : Value).ownBlock ∧ some k_ ≠ (.slice Ao74 t1100.length co74 : Value).ownBlock ∧ some k_ ≠ (.slice Ao80 t1112.length co80 : Value).ownBlock ∧ k_ ≠ gb1091) ho1 (fun k_ hk_ => ⟨hk_.2, (Kd.fresh' (Kd.R_lt (sR HO_5)) k_ hk_.1), (Kd.fresh' (Kd.R_lt (sR HO1114)) k_ hk_.1), (Kd.freshB (g := gb1091) (o := .cells #[.slice A0_0 l0_0.length c0_0, .slice A0_1 l0_1.length c0_1, .int .i64 a0_2] 25 (0, 0)) (sbk BK1091) k_ hk_.1)⟩)) (below_size (sbe1 HB GE1091)))
          replace HO_5 := Aside0.mk (Kd.R_below (sR HO_5) hb)
          replace HO1114 := Aside0.mk (Kd.R_below (sR HO1114) hb)
          replace HO1117 := Aside0.mk (Kd.V_mono (Kd.V_told (Kd.V_told (Kd.V_old (by (with_reducible repeat (first | apply Kd.V_alloc | apply Kd.V_drewN | apply Kd.V_drew)); exact HO1117.out) hb) (Kd.R_base ho0)) (Kd.N_base ho1)) (fun _ h_ => h_.1))
          replace BK1091 := Aside0.mk (sbb BK1091 hb)
          replace HB := Aside0.mk (sbs1 HB GE1091 hb)
          (try clear hb)
          (try clear hb2)
          (try clear hk)
          (try clear hi)
          (try clear ho0)
          (try clear ho1)
          obtain ⟨Ao83, co83, eo83⟩ := Kd.R_slice HO1121.out
          (first | subst eo83 | (injection eo83 with f1_ f2_ f3_; have f4_ := f1_.symm; have f5_ := f3_.symm; clear f1_ f2_ f3_; subst f4_; subst f5_))
          obtain ⟨Ao84, co84, eo84⟩ := Kd.N_slice HO1124.out
          (first | subst eo84 | (injection eo84 with f1_ f2_ f3_; have f4_ := f1_.symm; have f5_ := f3_.symm; clear f1_ f2_ f3_; subst f4_; subst f5_))
          refine hK.out _ _ ⟨(blk_cell BK1091.out 0).trans rfl, (blk_cell BK1091.out 1).trans rfl, (blk_cell BK1091.out 2).trans rfl⟩ (fun hHeld => ?_)
          clear hK K
          refine sN ?_
          refine one_ (i := 7) (N := some 84) (lm 13 255) rfl rfl (one_of HT_.out (by kernel_rfl)) (by decide) (fun K hK => ?_)
          refine goes_ Try.func22 (by kernel_rfl) rfl #[.agg #[.slice Ao83 t1119.length co83, .slice Ao84 t1122.length co84, .int .i64 t1125]] (by rfl) rfl rfl (by (try simp only [List.map_toArray, List.map_cons, List.map_nil]); first | done | rfl | (simp only [List.length_drop, List.length_take]; rfl)) ?_
          with_reducible refine (bundle_Whose.calls _ _ t1119 _ _ t1122 t1125 t1126 t1129 _ ?side1 ?side2 ?side3 ?side4 A39.out).mono ?_
          (case side1 => repeat (first | exact (Kd.R_reads' HO1121.out).2.2 | (with_reducible refine Kd.C_alloc ?_ _) | (with_reducible refine Kd.C_drewN ?_ _) | (with_reducible refine Kd.C_drew ?_)))
          (case side2 => exact (Kd.R_reads' HO1121.out).2.1)
          (case side3 => repeat (first | exact (Kd.N_reads' HO1124.out).2.2 | (with_reducible refine Kd.C_alloc ?_ _) | (with_reducible refine Kd.C_drewN ?_ _) | (with_reducible refine Kd.C_drew ?_)))
          (case side4 => exact (Kd.N_reads' HO1124.out).2.1)
          rintro e w85 ⟨v1127, rfl, ho0, hb⟩
          refine ⟨_, rfl, ?_⟩
          have HO1128 := Aside0.mk (Kd.N_lower (Kd.N_mono (ok' := fun k_ => some k_ ≠ (.slice Ao74 t1100.length co74 : Value).ownBlock ∧ some k_ ≠ (.slice Ao80 t1112.length co80 : Value).ownBlock ∧ some k_ ≠ (.slice Ao83 t1119.length co83 : Value).ownBlock ∧ some k_ ≠ (.slice Ao84 t1122.length co84 : Value).ownBlock ∧ k_ ≠ gb1091) ho0 (fun k_ hk_ => ⟨(Kd.fresh' (Kd.R_lt (sR HO_5)) k_ hk_), (Kd.fresh' (Kd.R_lt (sR HO1114)) k_ hk_), (Kd.fresh' (Kd.R_lt (sR HO1121)) k_ hk_), (Kd.fresh' (Kd.N_lt (sN_ HO1124)) k_ hk_), (Kd.freshB (g := gb1091) (o := .cells #[.slice A0_0 l0_0.length c0_0, .slice A0_1 l0_1.length c0_1, .int .i64 a0_2] 25 (0, 0)) (sbk BK1091) k_ hk_)⟩)) (below_size (sbe1 HB GE1091)))
          replace HO_5 := Aside0.mk (Kd.R_below (sR HO_5) hb)
          replace HO1114 := Aside0.mk (Kd.R_below (sR HO1114) hb)
          replace HO1117 := Aside0.mk (Kd.V_elder' (by (with_reducible repeat (first | apply Kd.V_alloc | apply Kd.V_drewN | apply Kd.V_drew)); exact HO1117.out) (Kd.N_base ho0) hb)
          replace HO1121 := Aside0.mk (Kd.R_below (sR HO1121) hb)
          replace HO1124 := Aside0.mk (Kd.N_elder' (sN_ HO1124) (Kd.N_base ho0) hb)
          replace BK1091 := Aside0.mk (sbb BK1091 hb)
          replace HB := Aside0.mk (sbs1 HB GE1091 hb)
          (try clear hb)
          (try clear hb2)
          (try clear hk)
          (try clear hi)
          (try clear ho0)
          refine hK.out _ _ ⟨(blk_cell BK1091.out 0).trans rfl, (blk_cell BK1091.out 1).trans rfl, (blk_cell BK1091.out 2).trans rfl⟩ (fun hHeld => ?_)
          clear hK K
          refine sN ?_
          refine sP (i := 8) (N := some 76) (lm 13 511) ?_ (hc := any_of HT_.out (by kernel_rfl))
          refine sP (i := 9) (N := some 85) (lm 13 1023) ?_ (hc := any_of HT_.out (by kernel_rfl))
          refine sP (i := 10) (N := some 86) (lm 13 2047) ?_ (hc := any_of HT_.out (by kernel_rfl))
          refine sP (i := 11) (N := some 10) (lm 13 4095) ?_ (hc := any_of HT_.out (by kernel_rfl))
          refine sP (i := 12) (N := some 11) (lm 13 8191) ?_ (hc := any_of HT_.out (by kernel_rfl))
          refine done_ (done_of HT_.out (by kernel_rfl)) ?_
          try go_wp2
          replace HO_5 := Aside0.mk (Kd.R_drew HO_5.out)
          replace HO1114 := Aside0.mk (Kd.R_drew HO1114.out)
          replace HO1117 := Aside0.mk (Kd.V_drew HO1117.out)
          replace HO1121 := Aside0.mk (Kd.R_drew HO1121.out)
          replace HO1124 := Aside0.mk (Kd.N_drew HO1124.out)
          replace HO1128 := Aside0.mk (Kd.N_drew HO1128.out)
          replace BK1091 := Aside0.mk (blk_drew BK1091.out)
          replace HB := Aside0.mk (below_drew1 HB.out)
          refine start_ (n := 13) (S := fun w' => w'.cell? ⟨gb1091, 0, none⟩ = some (.slice A0_0 l0_0.length c0_0) ∧ w'.cell? ⟨gb1091, 1, none⟩ = some (.slice A0_1 l0_1.length c0_1) ∧ w'.cell? ⟨gb1091, 2, none⟩ = some (.int .i64 a0_2)) (ds := []) (lm 13 0) (by kernel_rfl) rfl (by kernel_rfl) ⟨(blk_cell BK1091.out 0).trans rfl, (blk_cell BK1091.out 1).trans rfl, (blk_cell BK1091.out 2).trans rfl⟩ (fun hHeld => ?_); refine with_tabW posserlaw03_BundleLeft.tab15 posserlaw03_BundleLeft.bits15 (fun HT_ HW_ => ?_)
          generalize w85.drew = w86 at HO_5 HO1114 HO1117 HO1121 HO1124 HO1128 BK1091 HB hHeld ⊢
          refine sP (i := 3) (N := some 91) (lm 13 8) ?_ (hc := any_of HT_.out (by kernel_rfl))
          refine take_ (i := 0) (N := some 88) (v := ?_) (a' := ?_) (lm 13 9) rfl rfl (take_ofW HT_.out HW_.out (by kernel_rfl)) (fun _ _ _ h => h) (Or.inl ⟨by rfl, ?_⟩) hHeld ?_ ?_
          rotate_left
          ·rintro w' ⟨s0, s1, s2⟩
           go_simp
           with_reducible rfl
          rotate_left
          ·simp only [Act.put, List.setIfInBounds_toArray, List.set_cons_zero, List.set_cons_succ, i64_w, i32_w]
           rfl
          refine take_ (i := 1) (N := some 89) (v := ?_) (a' := ?_) (lm 13 11) rfl rfl (take_ofW HT_.out HW_.out (by kernel_rfl)) (fun _ _ _ h => h) (Or.inl ⟨by rfl, ?_⟩) hHeld ?_ ?_
          rotate_left
          ·rintro w' ⟨s0, s1, s2⟩
           go_simp
           with_reducible rfl
          rotate_left
          ·simp only [Act.put, List.setIfInBounds_toArray, List.set_cons_zero, List.set_cons_succ, i64_w, i32_w]
           rfl
          refine one_ (i := 2) (N := some 90) (lm 13 15) rfl rfl (one_of HT_.out (by kernel_rfl)) (by decide) (fun K hK => ?_)
          refine goes_ Try.func58 (by kernel_rfl) rfl #[.agg #[.slice A0_0 l0_0.length c0_0, .slice A0_1 l0_1.length c0_1, .int .i64 a0_2]] (by rfl) rfl rfl (by (try simp only [List.map_toArray, List.map_cons, List.map_nil]); first | done | rfl | (simp only [List.length_drop, List.length_take]; rfl)) ?_
          with_reducible refine (posserref03_Full.calls _ _ l0_0 _ _ l0_1 a0_2 t1130 _ ?side1 ?side2 ?side3 ?side4 A40.out).mono ?_
          (case side1 => exact sCb HR0_0 HB)
          (case side2 => exact HC0_0.out)
          (case side3 => exact sCb HR0_1 HB)
          (case side4 => exact HC0_1.out)
          rintro e w87 ⟨rfl, hb⟩
          refine ⟨_, rfl, ?_⟩
          replace HO_5 := Aside0.mk (Kd.R_below (sR HO_5) hb)
          replace HO1114 := Aside0.mk (Kd.R_below (sR HO1114) hb)
          replace HO1117 := Aside0.mk (Kd.V_below (by (with_reducible repeat (first | apply Kd.V_alloc | apply Kd.V_drewN | apply Kd.V_drew)); exact HO1117.out) hb)
          replace HO1121 := Aside0.mk (Kd.R_below (sR HO1121) hb)
          replace HO1124 := Aside0.mk (Kd.N_below (sN_ HO1124) hb)
          replace HO1128 := Aside0.mk (Kd.N_below (sN_ HO1128) hb)
          replace BK1091 := Aside0.mk (sbb BK1091 hb)
          replace HB := Aside0.mk (sbs1 HB GE1091 hb)
          (try clear hb)
          (try clear hb2)
          (try clear hk)
          (try clear hi)
          refine hK.out _ _ ⟨(blk_cell BK1091.out 0).trans rfl, (blk_cell BK1091.out 1).trans rfl, (blk_cell BK1091.out 2).trans rfl⟩ (fun hHeld => ?_)
          clear hK K
          refine sN ?_
          refine sP (i := 4) (N := some 92) (lm 13 31) ?_ (hc := any_of HT_.out (by kernel_rfl))
          refine one_ (i := 5) (N := some 93) (lm 13 63) rfl rfl (one_of HT_.out (by kernel_rfl)) (by decide) (fun K hK => ?_)
          refine goes_ Try.func57 (by kernel_rfl) rfl #[.agg #[.slice A0_0 l0_0.length c0_0, .slice A0_1 l0_1.length c0_1, .int .i64 a0_2], .int .i64 (Go.bits .andNot .i64 t1130 (Go.bits .and .i64 (wrap64 (a1)) t1110))] (by rfl) rfl rfl (by (try simp only [List.map_toArray, List.map_cons, List.map_nil]); first | done | rfl | (simp only [List.length_drop, List.length_take]; rfl)) ?_
          with_reducible refine (posserlaw03_some.calls k1 _ _ l0_0 (fun k_ => k_ < w.heap.size) _ _ l0_1 a0_2 (Go.bits .andNot .i64 t1130 (Go.bits .and .i64 (wrap64 (a1)) t1110)) t1131 t1134 t1137 _ ?side1 ?side2 ?side3 A41.out).mono ?_
          (case side1 => exact sCb HR0_0 HB)
          (case side2 => exact HC0_0.out)
          (case side3 => exact Kd.V_mk HC0_1.out (Kd.F_below (Kd.C_F k71_heap HR0_1.out) (sbe1 HB GE1091)))
          rintro e w88 ⟨v1132, v1135, rfl, ho0, ho1, hb⟩
          refine ⟨_, rfl, ?_⟩
          have HO1133 := Aside0.mk (Kd.R_lower (Kd.R_new' (Kd.R_mono (ok' := fun k_ => True) ho0 (fun _ hk_ => trivial)) (Kd.R_lt (sR HO1114))) (below_size (sbe1 HB GE1091)))
          have HO1136 := Aside0.mk (Kd.V_lower (Kd.V_mono (ok' := fun k_ => some k_ ≠ (v1132 : Value).ownBlock ∧ some k_ ≠ (.slice Ao74 t1100.length co74 : Value).ownBlock ∧ some k_ ≠ (.slice Ao80 t1112.length co80 : Value).ownBlock ∧ some k_ ≠ (.slice Ao83 t1119.length co83 : Value).ownBlock ∧ some k_ ≠ (.slice Ao84 t1122.length co84 : Value).ownBlock ∧ some k_ ≠ (v1127 : Value).ownBlock ∧ k_ ≠ gb1091) ho1 (fun k_ hk_ => ⟨hk_.2, Or.elim hk_.1 (fun hs_ => fun e_ => Nat.not_le.2 hs_ (Kd.R_base HO_5.out k_ e_.symm)) (fun hn_ => (Kd.fresh' (Kd.R_lt (sR HO_5)) k_ hn_)), Or.elim hk_.1 (fun hs_ => fun e_ => Nat.not_le.2 hs_ (Kd.R_base HO1114.out k_ e_.symm)) (fun hn_ => (Kd.fresh' (Kd.R_lt (sR HO1114)) k_ hn_)), Or.elim hk_.1 (fun hs_ => fun e_ => Nat.not_le.2 hs_ (Kd.R_base HO1121.out k_ e_.symm)) (fun hn_ => (Kd.fresh' (Kd.R_lt (sR HO1121)) k_ hn_)), Or.elim hk_.1 (fun hs_ => fun e_ => Nat.not_le.2 hs_ (Kd.N_base HO1124.out k_ e_.symm)) (fun hn_ => (Kd.fresh' (Kd.N_lt (sN_ HO1124)) k_ hn_)), Or.elim hk_.1 (fun hs_ => fun e_ => Nat.not_le.2 hs_ (Kd.N_base HO1128.out k_ e_.symm)) (fun hn_ => (Kd.fresh' (Kd.N_lt (sN_ HO1128)) k_ hn_)), Or.elim hk_.1 (fun hs_ => fun e_ => Nat.not_le.2 hs_ (by rw [e_]; exact GW1091.out)) (fun hn_ => (Kd.freshB (g := gb1091) (o := .cells #[.slice A0_0 l0_0.length c0_0, .slice A0_1 l0_1.length c0_1, .int .i64 a0_2] 25 (0, 0)) (sbk BK1091) k_ hn_))⟩)) (below_size (sbe1 HB GE1091)))
          replace HO_5 := Aside0.mk (Kd.R_below (sR HO_5) hb)
          replace HO1114 := Aside0.mk (Kd.R_elder' (sR HO1114) (Kd.R_base ho0) hb)
          replace HO1117 := Aside0.mk (Kd.V_elder' (by (with_reducible repeat (first | apply Kd.V_alloc | apply Kd.V_drewN | apply Kd.V_drew)); exact HO1117.out) (Kd.R_base ho0) hb)
          replace HO1121 := Aside0.mk (Kd.R_below (sR HO1121) hb)
          replace HO1124 := Aside0.mk (Kd.N_elder' (sN_ HO1124) (Kd.R_base ho0) hb)
          replace HO1128 := Aside0.mk (Kd.N_elder' (sN_ HO1128) (Kd.R_base ho0) hb)
          replace BK1091 := Aside0.mk (sbb BK1091 hb)
          replace HB := Aside0.mk (sbs1 HB GE1091 hb)
          (try clear hb)
          (try clear hb2)
          (try clear hk)
          (try clear hi)
          (try clear ho0)
          (try clear ho1)
          obtain ⟨Ao89, co89, eo89⟩ := Kd.R_slice HO1133.out
          (first | subst eo89 | (injection eo89 with f1_ f2_ f3_; have f4_ := f1_.symm; have f5_ := f3_.symm; clear f1_ f2_ f3_; subst f4_; subst f5_))
          obtain ⟨Ao90, co90, eo90⟩ := Kd.V_slice HO1136.out
          (first | subst eo90 | (injection eo90 with f1_ f2_ f3_; have f4_ := f1_.symm; have f5_ := f3_.symm; clear f1_ f2_ f3_; subst f4_; subst f5_))
          refine hK.out _ _ ⟨(blk_cell BK1091.out 0).trans rfl, (blk_cell BK1091.out 1).trans rfl, (blk_cell BK1091.out 2).trans rfl⟩ (fun hHeld => ?_)
          clear hK K
          refine sN ?_
          refine one_ (i := 6) (N := some 94) (lm 13 127) rfl rfl (one_of HT_.out (by kernel_rfl)) (by decide) (fun K hK => ?_)
          refine goes_ Try.func23 (by kernel_rfl) rfl #[.agg #[.slice Ao89 t1131.length co89, .slice Ao90 t1134.length co90, .int .i64 t1137]] (by rfl) rfl rfl (by (try simp only [List.map_toArray, List.map_cons, List.map_nil]); first | done | rfl | (simp only [List.length_drop, List.length_take]; rfl)) ?_
          with_reducible refine (posserlaw03_Table.calls _ _ t1131 _ _ t1134 t1137 t1138 t1141 t1144 _ ?side1 ?side2 ?side3 ?side4 A42.out).mono ?_
          (case side1 => repeat (first | exact (Kd.R_reads' HO1133.out).2.2 | (with_reducible refine Kd.C_alloc ?_ _) | (with_reducible refine Kd.C_drewN ?_ _) | (with_reducible refine Kd.C_drew ?_)))
          (case side2 => exact (Kd.R_reads' HO1133.out).2.1)
          (case side3 => repeat (first | exact (Kd.V_reads' HO1136.out).2.2 | (with_reducible refine Kd.C_alloc ?_ _) | (with_reducible refine Kd.C_drewN ?_ _) | (with_reducible refine Kd.C_drew ?_)))
          (case side4 => exact (Kd.V_reads' HO1136.out).2.1)
          rintro e w91 ⟨v1139, v1142, rfl, ho0, ho1, hb⟩
          refine ⟨_, rfl, ?_⟩
          have HO1140 := Aside0.mk (Kd.R_lower (Kd.R_new' (Kd.R_mono (ok' := fun k_ => True) ho0 (fun _ hk_ => trivial)) (Kd.R_lt (sR HO1121))) (below_size (sbe1 HB GE1091)))
          have HO1143 := Aside0.mk (Kd.N_lower (Kd.N_mono (ok' := fun k_ => some k_ ≠ (v1139 : Value).ownBlock ∧ some k_ ≠ (.slice Ao74 t1100.length co74 : Value).ownBlock ∧ some k_ ≠ (.slice Ao80 t1112.length co80 : Value).ownBlock ∧ some k_ ≠ (.slice Ao83 t1119.length co83 : Value).ownBlock ∧ some k_ ≠ (.slice Ao84 t1122.length co84 : Value).ownBlock ∧ some k_ ≠ (v1127 : Value).ownBlock ∧ some k_ ≠ (.slice Ao89 t1131.length co89 : Value).ownBlock ∧ k_ ≠ gb1091) ho1 (fun k_ hk_ => ⟨hk_.2, (Kd.fresh' (Kd.R_lt (sR HO_5)) k_ hk_.1), (Kd.fresh' (Kd.R_lt (sR HO1114)) k_ hk_.1), (Kd.fresh' (Kd.R_lt (sR HO1121)) k_ hk_.1), (Kd.fresh' (Kd.N_lt (sN_ HO1124)) k_ hk_.1), (Kd.fresh' (Kd.N_lt (sN_ HO1128)) k_ hk_.1), (Kd.fresh' (Kd.R_lt (sR HO1133)) k_ hk_.1), (Kd.freshB (g := gb1091) (o := .cells #[.slice A0_0 l0_0.length c0_0, .slice A0_1 l0_1.length c0_1, .int .i64 a0_2] 25 (0, 0)) (sbk BK1091) k_ hk_.1)⟩)) (below_size (sbe1 HB GE1091)))
          replace HO_5 := Aside0.mk (Kd.R_below (sR HO_5) hb)
          replace HO1114 := Aside0.mk (Kd.R_below (sR HO1114) hb)
          replace HO1117 := Aside0.mk (Kd.V_mono (Kd.V_told (Kd.V_told (Kd.V_old (by (with_reducible repeat (first | apply Kd.V_alloc | apply Kd.V_drewN | apply Kd.V_drew)); exact HO1117.out) hb) (Kd.R_base ho0)) (Kd.N_base ho1)) (fun _ h_ => h_.1))
          replace HO1121 := Aside0.mk (Kd.R_elder' (sR HO1121) (Kd.R_base ho0) hb)
          replace HO1124 := Aside0.mk (Kd.N_mono (Kd.N_told (Kd.N_told (Kd.N_old (sN_ HO1124) hb) (Kd.R_base ho0)) (Kd.N_base ho1)) (fun _ h_ => h_.1))
          replace HO1128 := Aside0.mk (Kd.N_mono (Kd.N_told (Kd.N_told (Kd.N_old (sN_ HO1128) hb) (Kd.R_base ho0)) (Kd.N_base ho1)) (fun _ h_ => h_.1))
          replace HO1133 := Aside0.mk (Kd.R_below (sR HO1133) hb)
          replace HO1136 := Aside0.mk (Kd.V_mono (Kd.V_told (Kd.V_told (Kd.V_old (by (with_reducible repeat (first | apply Kd.V_alloc | apply Kd.V_drewN | apply Kd.V_drew)); exact HO1136.out) hb) (Kd.R_base ho0)) (Kd.N_base ho1)) (fun _ h_ => h_.1))
          replace BK1091 := Aside0.mk (sbb BK1091 hb)
          replace HB := Aside0.mk (sbs1 HB GE1091 hb)
          (try clear hb)
          (try clear hb2)
          (try clear hk)
          (try clear hi)
          (try clear ho0)
          (try clear ho1)
          obtain ⟨Ao92, co92, eo92⟩ := Kd.R_slice HO1140.out
          (first | subst eo92 | (injection eo92 with f1_ f2_ f3_; have f4_ := f1_.symm; have f5_ := f3_.symm; clear f1_ f2_ f3_; subst f4_; subst f5_))
          obtain ⟨Ao93, co93, eo93⟩ := Kd.N_slice HO1143.out
          (first | subst eo93 | (injection eo93 with f1_ f2_ f3_; have f4_ := f1_.symm; have f5_ := f3_.symm; clear f1_ f2_ f3_; subst f4_; subst f5_))
          refine hK.out _ _ ⟨(blk_cell BK1091.out 0).trans rfl, (blk_cell BK1091.out 1).trans rfl, (blk_cell BK1091.out 2).trans rfl⟩ (fun hHeld => ?_)
          clear hK K
          refine sN ?_
          refine one_ (i := 7) (N := some 95) (lm 13 255) rfl rfl (one_of HT_.out (by kernel_rfl)) (by decide) (fun K hK => ?_)
          refine goes_ Try.func22 (by kernel_rfl) rfl #[.agg #[.slice Ao92 t1138.length co92, .slice Ao93 t1141.length co93, .int .i64 t1144]] (by rfl) rfl rfl (by (try simp only [List.map_toArray, List.map_cons, List.map_nil]); first | done | rfl | (simp only [List.length_drop, List.length_take]; rfl)) ?_
          with_reducible refine (bundle_Whose.calls _ _ t1138 _ _ t1141 t1144 t1145 t1148 _ ?side1 ?side2 ?side3 ?side4 A43.out).mono ?_
          (case side1 => repeat (first | exact (Kd.R_reads' HO1140.out).2.2 | (with_reducible refine Kd.C_alloc ?_ _) | (with_reducible refine Kd.C_drewN ?_ _) | (with_reducible refine Kd.C_drew ?_)))
          (case side2 => exact (Kd.R_reads' HO1140.out).2.1)
          (case side3 => repeat (first | exact (Kd.N_reads' HO1143.out).2.2 | (with_reducible refine Kd.C_alloc ?_ _) | (with_reducible refine Kd.C_drewN ?_ _) | (with_reducible refine Kd.C_drew ?_)))
          (case side4 => exact (Kd.N_reads' HO1143.out).2.1)
          rintro e w94 ⟨v1146, rfl, ho0, hb⟩
          refine ⟨_, rfl, ?_⟩
          have HO1147 := Aside0.mk (Kd.N_lower (Kd.N_mono (ok' := fun k_ => some k_ ≠ (.slice Ao74 t1100.length co74 : Value).ownBlock ∧ some k_ ≠ (.slice Ao80 t1112.length co80 : Value).ownBlock ∧ some k_ ≠ (.slice Ao83 t1119.length co83 : Value).ownBlock ∧ some k_ ≠ (.slice Ao84 t1122.length co84 : Value).ownBlock ∧ some k_ ≠ (v1127 : Value).ownBlock ∧ some k_ ≠ (.slice Ao89 t1131.length co89 : Value).ownBlock ∧ some k_ ≠ (.slice Ao92 t1138.length co92 : Value).ownBlock ∧ some k_ ≠ (.slice Ao93 t1141.length co93 : Value).ownBlock ∧ k_ ≠ gb1091) ho0 (fun k_ hk_ => ⟨(Kd.fresh' (Kd.R_lt (sR HO_5)) k_ hk_), (Kd.fresh' (Kd.R_lt (sR HO1114)) k_ hk_), (Kd.fresh' (Kd.R_lt (sR HO1121)) k_ hk_), (Kd.fresh' (Kd.N_lt (sN_ HO1124)) k_ hk_), (Kd.fresh' (Kd.N_lt (sN_ HO1128)) k_ hk_), (Kd.fresh' (Kd.R_lt (sR HO1133)) k_ hk_), (Kd.fresh' (Kd.R_lt (sR HO1140)) k_ hk_), (Kd.fresh' (Kd.N_lt (sN_ HO1143)) k_ hk_), (Kd.freshB (g := gb1091) (o := .cells #[.slice A0_0 l0_0.length c0_0, .slice A0_1 l0_1.length c0_1, .int .i64 a0_2] 25 (0, 0)) (sbk BK1091) k_ hk_)⟩)) (below_size (sbe1 HB GE1091)))
          replace HO_5 := Aside0.mk (Kd.R_below (sR HO_5) hb)
          replace HO1114 := Aside0.mk (Kd.R_below (sR HO1114) hb)
          replace HO1117 := Aside0.mk (Kd.V_elder' (by (with_reducible repeat (first | apply Kd.V_alloc | apply Kd.V_drewN | apply Kd.V_drew)); exact HO1117.out) (Kd.N_base ho0) hb)
          replace HO1121 := Aside0.mk (Kd.R_below (sR HO1121) hb)
          replace HO1124 := Aside0.mk (Kd.N_elder' (sN_ HO1124) (Kd.N_base ho0) hb)
          replace HO1128 := Aside0.mk (Kd.N_elder' (sN_ HO1128) (Kd.N_base ho0) hb)
          replace HO1133 := Aside0.mk (Kd.R_below (sR HO1133) hb)
          replace HO1136 := Aside0.mk (Kd.V_elder' (by (with_reducible repeat (first | apply Kd.V_alloc | apply Kd.V_drewN | apply Kd.V_drew)); exact HO1136.out) (Kd.N_base ho0) hb)
          replace HO1140 := Aside0.mk (Kd.R_below (sR HO1140) hb)
          replace HO1143 := Aside0.mk (Kd.N_elder' (sN_ HO1143) (Kd.N_base ho0) hb)
          replace BK1091 := Aside0.mk (sbb BK1091 hb)
          replace HB := Aside0.mk (sbs1 HB GE1091 hb)
          (try clear hb)
          (try clear hb2)
          (try clear hk)
          (try clear hi)
          (try clear ho0)
          refine hK.out _ _ ⟨(blk_cell BK1091.out 0).trans rfl, (blk_cell BK1091.out 1).trans rfl, (blk_cell BK1091.out 2).trans rfl⟩ (fun hHeld => ?_)
          clear hK K
          refine sN ?_
          refine sP (i := 8) (N := some 87) (lm 13 511) ?_ (hc := any_of HT_.out (by kernel_rfl))
          refine sP (i := 9) (N := some 96) (lm 13 1023) ?_ (hc := any_of HT_.out (by kernel_rfl))
          refine sP (i := 10) (N := some 97) (lm 13 2047) ?_ (hc := any_of HT_.out (by kernel_rfl))
          refine sP (i := 11) (N := some 12) (lm 13 4095) ?_ (hc := any_of HT_.out (by kernel_rfl))
          refine sP (i := 12) (N := some 13) (lm 13 8191) ?_ (hc := any_of HT_.out (by kernel_rfl))
          refine done_ (done_of HT_.out (by kernel_rfl)) ?_
          try go_wp2_with (first | (go_at_call 48; (with_reducible refine (posserref03_Bits.calls k1 (Go.bits .and .i64 (wrap64 (a1)) t1110) t1150 _ A70.out).mono ?_); rintro e w95 ⟨v1151, rfl, ho0, hb⟩; have HO1152 := Aside0.mk (Kd.R_lower (Kd.R_new' ho0 (Kd.R_lt (sR HO_5))) (below_size (sbe1 HB GE1091))); replace HO_5 := Aside0.mk (Kd.R_elder' (sR HO_5) (Kd.R_base ho0) hb); replace HO1114 := Aside0.mk (Kd.R_below (sR HO1114) hb); replace HO1117 := Aside0.mk (Kd.V_elder' (by (with_reducible repeat (first | apply Kd.V_alloc | apply Kd.V_drewN | apply Kd.V_drew)); exact HO1117.out) (Kd.R_base ho0) hb); replace HO1121 := Aside0.mk (Kd.R_below (sR HO1121) hb); replace HO1124 := Aside0.mk (Kd.N_elder' (sN_ HO1124) (Kd.R_base ho0) hb); replace HO1128 := Aside0.mk (Kd.N_elder' (sN_ HO1128) (Kd.R_base ho0) hb); replace HO1133 := Aside0.mk (Kd.R_below (sR HO1133) hb); replace HO1136 := Aside0.mk (Kd.V_elder' (by (with_reducible repeat (first | apply Kd.V_alloc | apply Kd.V_drewN | apply Kd.V_drew)); exact HO1136.out) (Kd.R_base ho0) hb); replace HO1140 := Aside0.mk (Kd.R_below (sR HO1140) hb); replace HO1143 := Aside0.mk (Kd.N_elder' (sN_ HO1143) (Kd.R_base ho0) hb); replace HO1147 := Aside0.mk (Kd.N_elder' (sN_ HO1147) (Kd.R_base ho0) hb); replace BK1091 := Aside0.mk (sbb BK1091 hb); replace HB := Aside0.mk (sbs1 HB GE1091 hb); (try clear hb); (try clear hb2); (try clear hk); (try clear hi); (try clear ho0); obtain ⟨Ao96, co96, eo96⟩ := Kd.R_slice HO1152.out; subst eo96) | (go_at_call 59; (with_reducible refine (posserref03_Shorter.calls k1 _ _ t1150 _ _ t1100 false _ ?side1 ?side2 ?side3 ?side4 A71.out).mono ?_); (case side1 => repeat (first | exact (Kd.R_reads' HO1152.out).2.2 | (with_reducible refine Kd.C_alloc ?_ _) | (with_reducible refine Kd.C_drewN ?_ _) | (with_reducible refine Kd.C_drew ?_))); (case side2 => exact (Kd.R_reads' HO1152.out).2.1); (case side3 => repeat (first | exact (Kd.R_reads' HO_5.out).2.2 | (with_reducible refine Kd.C_alloc ?_ _) | (with_reducible refine Kd.C_drewN ?_ _) | (with_reducible refine Kd.C_drew ?_))); (case side4 => exact (Kd.R_reads' HO_5.out).2.1); rintro e w' ⟨rfl, ⟨nd, rfl⟩⟩) | (go_at_call 21; (with_reducible refine (posserlaw03_awake.calls  t1154 _ A73.out).mono ?_); rintro e w97 ⟨rfl, hb⟩; replace HO_5 := Aside0.mk (Kd.R_below (sR HO_5) hb); replace HO1114 := Aside0.mk (Kd.R_below (sR HO1114) hb); replace HO1117 := Aside0.mk (Kd.V_below (by (with_reducible repeat (first | apply Kd.V_alloc | apply Kd.V_drewN | apply Kd.V_drew)); exact HO1117.out) hb); replace HO1121 := Aside0.mk (Kd.R_below (sR HO1121) hb); replace HO1124 := Aside0.mk (Kd.N_below (sN_ HO1124) hb); replace HO1128 := Aside0.mk (Kd.N_below (sN_ HO1128) hb); replace HO1133 := Aside0.mk (Kd.R_below (sR HO1133) hb); replace HO1136 := Aside0.mk (Kd.V_below (by (with_reducible repeat (first | apply Kd.V_alloc | apply Kd.V_drewN | apply Kd.V_drew)); exact HO1136.out) hb); replace HO1140 := Aside0.mk (Kd.R_below (sR HO1140) hb); replace HO1143 := Aside0.mk (Kd.N_below (sN_ HO1143) hb); replace HO1147 := Aside0.mk (Kd.N_below (sN_ HO1147) hb); replace HO1152 := Aside0.mk (Kd.R_below (sR HO1152) hb); replace BK1091 := Aside0.mk (sbb BK1091 hb); replace HB := Aside0.mk (sbs1 HB GE1091 hb); (try clear hb); (try clear hb2); (try clear hk); (try clear hi)))
          go_ret
          exact ⟨by first | rfl | (simp [errW_none, errW_some] <;> rfl) | (simp [*, errW_none, errW_some] <;> rfl), (sbe1 HB GE1091)⟩
        ·rw [if_neg c69] at H
         exact absurd H (by simp)
      ·rw [if_neg c44] at H
       exact absurd H (by simp)
  ·rw [if_neg c7] at H
   exact absurd H (by simp)
 ·replace c4 := Bool.eq_false_iff.mpr c4
  subst c4
  have H1 : ((posserlaw03_awake.f).bind fun t1155 => (some t1155)) = some r := by rw [if_neg (show ¬ (false = true) by decide)] at H; exact H
  clear H
  have H := H1
  clear H1
  replace H := Option.bind_eq_some_iff.mp H
  obtain ⟨t1155, A980, H⟩ := H
  replace H : (some t1155) = some r := H
  have A98 := Aside0.mk A980
  clear A980
  obtain rfl := Option.some.inj H
  go_enter Try.func17, Try.ntmps17
  go_wp2_with (first | ((with_reducible refine gate_dst (N := 2) rfl ?_); (try (refine gate_guard (by rfl) ?_; dsimp only)); refine sbox (N := 2) #[.slice A0_0 l0_0.length c0_0, .slice A0_1 l0_1.length c0_1, .int .i64 a0_2] 25 ?_; intro gb1091 hg w99 hbox hb; have BK1091 := Aside0.mk (hbox); have GW1091 := Aside0.mk (sge hg HB : w.heap.size ≤ gb1091); have GE1091 := Aside0.mk (sge hg HB : w.heap.size ≤ gb1091); replace HB := Aside0.mk (sbs HB hb); clear hb hbox hg; have hcz100_0 := sc 0 BK1091; have hcz100_1 := sc 1 BK1091; have hcz100_2 := sc 2 BK1091; have hfz100_0 := blk_frozen BK1091.out 0; have hfz100_1 := blk_frozen BK1091.out 1; have hfz100_2 := blk_frozen BK1091.out 2) | ((with_reducible refine gate_callee (f := 47) rfl ?_); refine goesL_ (some 15) rfl rfl Try.func47 (by kernel_rfl) rfl #[.agg #[.slice A0_0 l0_0.length c0_0, .slice A0_1 l0_1.length c0_1, .int .i64 a0_2]] rfl (by (try simp only [List.map_toArray, List.map_cons, List.map_nil]); first | done | rfl | (simp only [List.length_drop, List.length_take]; rfl)) ?_; (with_reducible refine (posserlaw03_ready.calls k _ _ l0_0 _ _ l0_1 a0_2 false _ ?side1 ?side2 ?side3 ?side4 A3.out).mono ?_); (case side1 => exact sCb HR0_0 HB); (case side2 => exact HC0_0.out); (case side3 => exact sCb HR0_1 HB); (case side4 => exact HC0_1.out); rintro e w101 ⟨rfl, hb⟩; refine ⟨_, rfl, ?_⟩; replace BK1091 := Aside0.mk (sbb BK1091 hb); replace HB := Aside0.mk (sbs1 HB GE1091 hb); (try clear hb); (try clear hb2); (try clear hk); (try clear hi)) | ((with_reducible refine gate_callee (f := 21) rfl ?_); refine goesL_ (some 17) rfl rfl Try.func21 (by kernel_rfl) rfl #[] rfl (by (try simp only [List.map_toArray, List.map_cons, List.map_nil]); first | done | rfl | (simp only [List.length_drop, List.length_take]; rfl)) ?_; (with_reducible refine (posserlaw03_awake.calls  t1155 _ A98.out).mono ?_); rintro e w102 ⟨rfl, hb⟩; refine ⟨_, rfl, ?_⟩; replace BK1091 := Aside0.mk (sbb BK1091 hb); replace HB := Aside0.mk (sbs1 HB GE1091 hb); (try clear hb); (try clear hb2); (try clear hk); (try clear hi)))
  go_ret
  exact ⟨by first | rfl | (simp [errW_none, errW_some] <;> rfl) | (simp [*, errW_none, errW_some] <;> rfl), (sbe1 HB GE1091)⟩
end Go.Proofs.Ytnbbbeghgomnoaa.X
namespace Go.Proofs.Ytnbbbeghgomnoaa.X
open Go.RowKit Go.Proofs.YtnbbbeghgomnoaaW.PrintWords Go.Proofs.YtnbbbeghgomnoaaW.PrintLast Go.Proofs.YtnbbbeghgomnoaaW.PrintMore
def beforeB : List Int → List Int → Bool
 | [], b => decide (0 < b.length)
 | _ :: _, [] => false
 | x :: a, y :: b => if x = y then beforeB a b else decide (x < y)
def shorterB (a b : List Int) : Bool := decide (a.length < b.length) || (decide (a.length = b.length) && beforeB a b)
theorem beforeB_trans : ∀ (a b c : List Int), beforeB a b = true → beforeB b c = true → beforeB a c = true := by
 intro a
 induction a with
 | nil =>
  intro b c h1 h2
  cases c with
  | cons z c => rfl
  | nil =>
   cases b with
   | nil => exact h1
   | cons y b => cases h2
 | cons x a ih =>
  intro b c h1 h2
  cases b with
  | nil => cases h1
  | cons y b =>
   cases c with
   | nil => cases h2
   | cons z c =>
    unfold beforeB at h1 h2 ⊢
    by_cases e1 : x = y
    ·rw [if_pos e1] at h1
     by_cases e2 : y = z
     ·rw [if_pos e2] at h2
      rw [if_pos (e1.trans e2)]; exact ih b c h1 h2
     ·rw [if_neg e2] at h2
      have := of_decide_eq_true h2
      rw [if_neg (by omega)]; exact decide_eq_true (by omega)
    ·rw [if_neg e1] at h1
     have h3 := of_decide_eq_true h1
     by_cases e2 : y = z
     ·rw [if_neg (by omega)]; exact decide_eq_true (by omega)
     ·rw [if_neg e2] at h2
      have h4 := of_decide_eq_true h2
      rw [if_neg (by omega)]; exact decide_eq_true (by omega)
theorem shorterB_trans {a b c : List Int} (h1 : shorterB a b = true) (h2 : shorterB b c = true) : shorterB a c = true := by
 unfold shorterB at h1 h2 ⊢
 simp only [Bool.or_eq_true, Bool.and_eq_true, decide_eq_true_eq] at h1 h2 ⊢
 rcases h1 with h1 | ⟨h1, k1⟩ <;> rcases h2 with h2 | ⟨h2, k2⟩
 ·left; omega
 ·left; omega
 ·left; omega
 ·right; exact ⟨by omega, beforeB_trans _ _ _ k1 k2⟩
theorem Before_ev (a b : List Int) (ha : a.length ≤ 1000000) (hb : b.length ≤ 1000000) : Evt (fun k => posserref03_Before.f k a b) (beforeB a b) := by
 have main : ∀ (d i : Nat), i + d = a.length → i ≤ b.length → Evt (fun k => posserref03_Before.l0 k a b (i : Int)) (beforeB (a.drop i) (b.drop i)) := by
  intro d
  induction d with
  | zero =>
   intro i hi hib
   have he : beforeB (a.drop i) (b.drop i) = decide ((a.length : Int) < (b.length : Int)) := by
    rw [List.drop_eq_nil_of_le (by omega)]
    show decide (0 < (b.drop i).length) = _
    rw [List.length_drop]
    by_cases h : i < b.length
    ·rw [decide_eq_true (by omega), decide_eq_true (by omega)]
    ·rw [decide_eq_false (by omega), decide_eq_false (by omega)]
   rw [he]
   refine Evt.succ (Evt.succ (Evt.const _) (g := fun k => posserref03_Before.j1 k a b (i : Int) false) (fun k => ?_)) (fun k => ?_)
   ·simp only [posserref03_Before.j1]
    rw [if_neg (by decide)]
   ·simp only [posserref03_Before.l0]
    rw [if_neg (by omega)]
  | succ d ih =>
   intro i hi hib
   have hlt : i < a.length := by omega
   have hda : a.drop i = a[i] :: a.drop (i + 1) := List.drop_eq_getElem_cons hlt
   by_cases hlb : i < b.length
   ·have hdb : b.drop i = b[i] :: b.drop (i + 1) := List.drop_eq_getElem_cons hlb
    have hbe : beforeB (a.drop i) (b.drop i) = if a[i] = b[i] then beforeB (a.drop (i + 1)) (b.drop (i + 1)) else decide (a[i] < b[i]) := by rw [hda, hdb]; rfl
    rw [hbe]
    by_cases he : a[i] = b[i]
    ·rw [if_pos he]
     refine Evt.succ (Evt.succ (ih (i + 1) (by omega) (by omega)) (g := fun k => posserref03_Before.j1 k a b (i : Int) true) (fun k => ?_)) (fun k => ?_)
     ·simp only [posserref03_Before.j1]
      rw [if_pos trivial, if_pos (by omega), if_pos (by omega), if_pos (by omega), rd_get a i hlt, rd_get b i hlb, if_pos he, wrap_succ i _ hlt (by omega)]
     ·simp only [posserref03_Before.l0]
      rw [if_pos (by omega), decide_eq_true (by omega)]
    ·rw [if_neg he]
     refine Evt.succ (Evt.succ (Evt.const _) (g := fun k => posserref03_Before.j1 k a b (i : Int) true) (fun k => ?_)) (fun k => ?_)
     ·simp only [posserref03_Before.j1]
      rw [if_pos trivial, if_pos (by omega), if_pos (by omega), if_pos (by omega), rd_get a i hlt, rd_get b i hlb, if_neg he]
     ·simp only [posserref03_Before.l0]
      rw [if_pos (by omega), decide_eq_true (by omega)]
   ·have hbe : beforeB (a.drop i) (b.drop i) = decide ((a.length : Int) < (b.length : Int)) := by
     rw [hda, show b.drop i = [] from List.drop_eq_nil_of_le (by omega), decide_eq_false (by omega)]; rfl
    rw [hbe]
    refine Evt.succ (Evt.succ (Evt.const _) (g := fun k => posserref03_Before.j1 k a b (i : Int) false) (fun k => ?_)) (fun k => ?_)
    ·simp only [posserref03_Before.j1]
     rw [if_neg (by decide)]
    ·simp only [posserref03_Before.l0]
     rw [if_pos (by omega), decide_eq_false (by omega)]
 exact main a.length 0 (by omega) (by omega)
theorem Shorter_ev (a b : List Int) (ha : a.length ≤ 1000000) (hb : b.length ≤ 1000000) : Evt (fun k => posserref03_Shorter.f k a b) (shorterB a b) := by
 unfold shorterB
 by_cases h1 : a.length < b.length
 ·rw [decide_eq_true h1, Bool.true_or]
  refine (Evt.const true).congr (fun k => ?_)
  show posserref03_Shorter.f k a b = _
  unfold posserref03_Shorter.f
  rw [if_pos (by omega)]
 ·rw [decide_eq_false h1, Bool.false_or]
  by_cases h2 : a.length = b.length
  ·rw [decide_eq_true h2, Bool.true_and]
   refine ((Before_ev a b ha hb).bind (g := fun t _ => some t) (Evt.const _)).congr (fun k => ?_)
   show posserref03_Shorter.f k a b = _
   unfold posserref03_Shorter.f
   rw [if_neg (by omega), if_pos (by omega)]
  ·rw [decide_eq_false h2, Bool.false_and]
   refine (Evt.const false).congr (fun k => ?_)
   show posserref03_Shorter.f k a b = _
   unfold posserref03_Shorter.f
   rw [if_neg (by omega), if_neg (by omega)]
def rightsL (l0 : List S109) (l1 : List S110) : List Nat := (allL l0 l1).map fun x => bitsN (rightP l0 l1.length x) l0.length
def canB (rs : List Nat) (W : Nat) : Bool := rs.any fun r => decide (r &&& W = W)
def setsN (n : Nat) : List (List Int) := (List.range (n + 1)).flatMap fun k => combs n k 0
def setOf (m : Nat) : List Int := sel (fun j => m.testBit j) 6
theorem sets_sorted : ∀ n, n < 6 → (setsN n).Pairwise (fun a b => shorterB a b = true) := by decide +kernel
theorem sets_bits : ∀ n, n < 6 → ∀ m, m < 2 ^ n → setOf m ∈ setsN n := by decide +kernel
theorem sets_of : ∀ n, n < 6 → ∀ s ∈ setsN n, ∃ m, m < 2 ^ n ∧ s = setOf m := by decide +kernel
theorem setOf_len (m : Nat) : (setOf m).length ≤ 6 := sel_le _ _
theorem setOf_mem (m j : Nat) : (setOf m).contains (j : Int) = (decide (j < 6) && m.testBit j) := by
 rw [Bool.eq_iff_iff, List.contains_iff_mem]
 unfold setOf
 rw [sel_mem, Bool.and_eq_true, decide_eq_true_eq]
 constructor
 ·rintro ⟨k, h1, h2, h3⟩
  obtain rfl : j = k := by omega
  exact ⟨h1, h2⟩
 ·rintro ⟨h1, h2⟩; exact ⟨j, h1, h2, rfl⟩
theorem shorterB_irrefl : ∀ a : List Int, shorterB a a = false := by
 intro a
 have hb : ∀ a : List Int, beforeB a a = false := by
  intro a
  induction a with
  | nil => rfl
  | cons x a ih => unfold beforeB; rw [if_pos rfl]; exact ih
 unfold shorterB
 rw [hb, decide_eq_false (by omega), Bool.and_false]; rfl
theorem leaveL_find (l0 : List S109) (l1 : List S110) : leaveL l0 l1 = ((setsN l0.length).find? (possL l0 l1)).getD [] := by
 unfold leaveL setsN
 rw [List.find?_flatMap]
 refine congrArg (fun o => Option.getD o []) (congrArg (fun f => List.findSome? f _) (funext fun k => ?_))
 unfold leaveS
 simp
theorem find_least {C : List (List Int)} {P : List Int → Bool} (hC : C.Pairwise (fun a b => shorterB a b = true)) {r : List Int} (hr : r ∈ C) (hP : P r = true) (hl : ∀ t ∈ C, P t = true → shorterB t r = false) : (C.find? P).getD [] = r := by
 cases hf : C.find? P with
 | none =>
  have := List.find?_eq_none.1 hf r hr
  exact absurd hP this
 | some s =>
  show s = r
  obtain ⟨hPs, x, y, hxy, hx⟩ := List.find?_eq_some_iff_append.1 hf
  have hs := hl s (by rw [hxy]; simp) hPs
  rw [hxy] at hr hC
  rcases List.mem_append.1 hr with h | h
  ·have := hx r h
   rw [hP] at this; cases this
  ·rcases List.mem_cons.1 h with h | h
   ·exact h.symm
   ·have h2 := (List.pairwise_append.1 hC).2.1
    have h3 := (List.pairwise_cons.1 h2).1 r h
    rw [hs] at h3; cases h3
def restW (n m : Nat) : Nat := (2 ^ n - 1) ^^^ ((2 ^ n - 1) &&& m)
theorem restW_bit (n m j : Nat) : (restW n m).testBit j = (decide (j < n) && !m.testBit j) := by
 unfold restW
 rw [Nat.testBit_xor, Nat.testBit_and, Nat.testBit_two_pow_sub_one]
 cases decide (j < n) <;> cases m.testBit j <;> rfl
theorem cond_right (l0 : List S109) (n1 : Nat) (x : List Int) (m : Nat) (h : l0.length ≤ 5) : decide (bitsN (rightP l0 n1 x) l0.length &&& restW l0.length m = restW l0.length m) = condL l0 n1 (setOf m) x := by
 rw [Bool.eq_iff_iff, decide_eq_true_eq]
 unfold condL
 rw [List.all_eq_true]
 constructor
 ·intro he v hv
  obtain ⟨j, hj, hb, rfl⟩ := (sel_mem _ _ _).1 hv
  rw [setOf_mem, decide_eq_true (by omega), Bool.true_and]
  have h2 := congrArg (fun z => z.testBit j) he
  rw [Nat.testBit_and, bitsN_bit, restW_bit, decide_eq_true hj] at h2
  unfold rightP at h2
  rw [hb] at h2
  cases hm : m.testBit j
  ·rw [hm] at h2; cases h2
  ·rfl
 ·intro ha
  refine Nat.eq_of_testBit_eq fun j => ?_
  rw [Nat.testBit_and, bitsN_bit, restW_bit]
  by_cases hj : j < l0.length
  ·rw [decide_eq_true hj]
   unfold rightP
   cases hb : bad l0 n1 (pad x) j
   ·simp
   ·have := ha (j : Int) ((sel_mem _ _ _).2 ⟨j, hj, hb, rfl⟩)
    rw [setOf_mem, decide_eq_true (by omega), Bool.true_and] at this
    rw [this]; rfl
  ·rw [decide_eq_false hj]; rfl
theorem can_poss (l0 : List S109) (l1 : List S110) (m : Nat) (h : l0.length ≤ 5) : canB (rightsL l0 l1) (restW l0.length m) = possL l0 l1 (setOf m) := by
 unfold canB rightsL possL
 rw [List.any_map]
 refine congrArg (fun p => List.any (allL l0 l1) p) (funext fun x => ?_)
 exact cond_right l0 l1.length x m h
def leaveF (l0 : List S109) (l1 : List S110) (m : Nat) : List Int := (List.range m).foldl (fun b i => if shorterB (setOf i) b && canB (rightsL l0 l1) (restW l0.length i) then setOf i else b) (setOf (2 ^ l0.length - 1))
theorem leaveF_succ (l0 : List S109) (l1 : List S110) (m : Nat) : leaveF l0 l1 (m + 1) = if shorterB (setOf m) (leaveF l0 l1 m) && canB (rightsL l0 l1) (restW l0.length m) then setOf m else leaveF l0 l1 m := by
 unfold leaveF
 rw [List.range_succ, List.foldl_append]; rfl
theorem leaveF_inv (l0 : List S109) (l1 : List S110) (h : l0.length ≤ 5) (hok : l1.all (okP l0) = true) : ∀ m, m ≤ 2 ^ l0.length → leaveF l0 l1 m ∈ setsN l0.length ∧ possL l0 l1 (leaveF l0 l1 m) = true ∧ ∀ i, i < m → possL l0 l1 (setOf i) = true → shorterB (setOf i) (leaveF l0 l1 m) = false := by
 have hp := pow_small l0.length h
 have hpos : 0 < 2 ^ l0.length := Nat.two_pow_pos _
 intro m
 induction m with
 | zero =>
  intro _
  refine ⟨sets_bits _ (by omega) _ (by omega), poss_all hok (fun k hk => ?_), fun i hi => absurd hi (by omega)⟩
  have := setOf_mem (2 ^ l0.length - 1) k
  rw [Nat.testBit_two_pow_sub_one, decide_eq_true hk, decide_eq_true (by omega)] at this
  exact List.contains_iff_mem.1 this
 | succ m ih =>
  intro hm
  obtain ⟨h1, h2, h3⟩ := ih (by omega)
  rw [leaveF_succ]
  by_cases hc : (shorterB (setOf m) (leaveF l0 l1 m) && canB (rightsL l0 l1) (restW l0.length m)) = true
  ·rw [if_pos hc]
   rw [Bool.and_eq_true, can_poss _ _ _ h] at hc
   refine ⟨sets_bits _ (by omega) _ (by omega), hc.2, fun i hi hP => ?_⟩
   by_cases e : i = m
   ·subst e; exact shorterB_irrefl _
   ·have h4 := h3 i (by omega) hP
    cases h5 : shorterB (setOf i) (setOf m)
    ·rfl
    ·rw [shorterB_trans h5 hc.1] at h4; cases h4
  ·rw [if_neg hc]
   refine ⟨h1, h2, fun i hi hP => ?_⟩
   by_cases e : i = m
   ·subst e
    cases h5 : shorterB (setOf i) (leaveF l0 l1 i)
    ·rfl
    ·rw [h5, can_poss _ _ _ h, hP] at hc; exact absurd rfl hc
   ·exact h3 i (by omega) hP
theorem leaveF_eq (l0 : List S109) (l1 : List S110) (h : l0.length ≤ 5) (hok : l1.all (okP l0) = true) : leaveF l0 l1 (2 ^ l0.length) = leaveL l0 l1 := by
 obtain ⟨h1, h2, h3⟩ := leaveF_inv l0 l1 h hok _ (Nat.le_refl _)
 rw [leaveL_find]
 refine (find_least (sets_sorted _ (by omega)) h1 h2 (fun t ht hP => ?_)).symm
 obtain ⟨m, hm, rfl⟩ := sets_of _ (by omega) t ht
 exact h3 m hm hP
end Go.Proofs.Ytnbbbeghgomnoaa.X
