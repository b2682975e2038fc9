/-
  For every table that the statement lets in, the piece to look at first and what a look leaves are as the document says, or the error is.
-/
import Derived.Test.YtnbbbeghgomnoaaQSure01
import Derived.Test.YtnbbbeghgomnoaaProg
import Derived.Below
import Derived.Deep.Draws
import Derived.Deep.AppendLies
import Derived.Maps.AppendAt
import Derived.OwnWalk
import Derived.Laws.BytesArg
import Derived.Laws.MakeOwn
import Derived.Laws.OwnMore
import Derived.Deep.OwnRows
import Derived.Tactics
import Derived.Lib.ConvBytes
import Derived.Laws.Slices
import Derived.WalkKit
import Derived.KernelRfl
import Derived.RowKit3
import Derived.Deep.LoopGhost
import Derived.Deep.QuietTactic
import Derived.BigQuiet
import Derived.WideLaws
import Derived.Deep.DeepCutAuto
import Derived.Deep.CutBlock
import Derived.Deep.RegionHeld3
import Derived.Laws.Rows
import Derived.Lib.AppendStr
import Derived.ArgAppend
import Derived.Laws.IdiomCopy
import Derived.OrdersHeld
import Derived.Laws.BitsLemmas
import Derived.RowKit
import Derived.Test.YtnbbbeghgomnoaaRows
import Derived.ProofKit
import Derived.OpenShut
import Derived.ShutString
import Derived.ChangeOld
import Derived.SizedLaws
set_option linter.unusedVariables false
set_option linter.unusedSimpArgs false
namespace Go.Proofs.YtnbbbeghgomnoaaW.PrintWords
open Go.RowKit
namespace Kd
section
variable {α : Type} {d : Kd α} {e base n cc g : Nat} {ok ok' okp S : Nat → Prop} {w w1 W W1 : World} {A : Option Addr} {u v v1 : Value} {xs : List α} {x : α} {c : List Value}
theorem S_N (h : Kd.S d e w base ok v xs) : N d e w base ok v xs := R_N (S_R h)
theorem N_lt (h : N d e w base ok v xs) : ∀ k, v.ownBlock = some k → k < w.heap.size := by
 obtain ⟨_, rows, _, hR, _⟩ := h
 exact R_lt hR
theorem N_base (h : N d e w base ok v xs) : ∀ k, v.ownBlock = some k → base ≤ k := by
 obtain ⟨_, rows, _, hR, _⟩ := h
 exact R_base hR
theorem N_bound (h : N d e w base ok v xs) : N d e w base (fun k => ok k ∧ k < w.heap.size) v xs := by
 have hlt := N_lt h
 obtain ⟨h0, rows, hl, hR, hf⟩ := h
 exact ⟨fun k hk => ⟨h0 k hk, hlt k hk⟩, rows, hl, hR, fun j x c hx hc => FK_mono (FK_bound (hf j x c hx hc)) (fun k hk => ⟨⟨hk.1.1, hk.2⟩, hk.1.2⟩)⟩
theorem N_elder' (h : N d e W base ok v xs) (hbase : ∀ k, u.ownBlock = some k → W.heap.size ≤ k) (hb : Below W.heap.size W w1) : N d e w1 base (fun k => ok k ∧ some k ≠ u.ownBlock) v xs :=
 N_mono (N_below (N_bound h) hb) (fun k hk => ⟨hk.1, fun he => by have := hbase k he.symm; have := hk.2; omega⟩)
end
end Kd
end Go.Proofs.YtnbbbeghgomnoaaW.PrintWords
namespace Go.Proofs.Ytnbbbeghgomnoaa.X
open Go.RowKit Go.Proofs.YtnbbbeghgomnoaaW.PrintWords Go.Proofs.YtnbbbeghgomnoaaW.PrintLast Go.Proofs.YtnbbbeghgomnoaaW.PrintMore
attribute [local go_sem] max2_int min2_int max_two min_two max_three min_three max_four min_four
set_option linter.unusedVariables false
set_option linter.unusedSimpArgs false
def rd_L1 (xs : List (List Int)) (i : Int) : (List Int) := xs.getD i.toNat ([] : List Int)
theorem at_L1 {w : World} {A : Option Addr} {n : Nat} {xs : List (List Int)} (h : Kd.C (Kd.slice 3 (Kd.int .i64)) w A n xs) (i : Int) (h0 : 0 ≤ i) (h1 : i < n) : ∃ ad A0 c0, A = some ad ∧ w.cell? (ad.add i.toNat) = some (.slice A0 (rd_L1 xs i).length c0) ∧ (rd_L1 xs i).length ≤ c0 ∧ (Kd.int .i64).C w A0 (rd_L1 xs i).length (rd_L1 xs i) := by
 obtain ⟨ad, c, e, _, hK, hc0⟩ := Kd.C_get h ([] : List Int) i h0 h1
 have hc : ∀ j u, c[j]? = some u → w.cell? (ad.add (i.toNat * 1 + j)) = some u := hc0
 obtain ⟨A0, c0, rfl, l0, g0⟩ := hK
 exact ⟨ad, A0, c0, e, by have hq := hc 0 _ rfl; rwa [Nat.mul_one, Nat.add_zero] at hq, l0, g0⟩
end Go.Proofs.Ytnbbbeghgomnoaa.X
namespace Go.Proofs.Ytnbbbeghgomnoaa.X
open Go.RowKit Go.Proofs.YtnbbbeghgomnoaaW.PrintWords Go.Proofs.YtnbbbeghgomnoaaW.PrintLast Go.Proofs.YtnbbbeghgomnoaaW.PrintMore
section
variable {w W0 W W' : World} {g g' : Nat} {o : Obj}
theorem sN_ {α : Type} {d : Kd α} {e base : Nat} {ok : Nat → Prop} {v : Value} {xs : List α} (h : Aside0 (Kd.N d e W0 base ok v xs)) (k : Kd.N d e W0 base ok v xs → Kd.N d e W base ok v xs := by intro k_; (with_reducible repeat (first | apply Kd.N_alloc | apply Kd.N_drewN | apply Kd.N_drew)); exact k_) : Kd.N d e W base ok v xs := k h.out
end
section
variable {P : Program} {ops : Array Oper} {Q : Exit → Act → World → Prop} {md : Region.Mode} {S : World → Prop} {ds : List Nat}
end
section
variable {P : Program} {ops : Array Oper} {rest : List Oper} {Q : Exit → Act → World → Prop} {a : Act} {o : Oper} {W : World}
end
end Go.Proofs.Ytnbbbeghgomnoaa.X
namespace Go.Proofs.Ytnbbbeghgomnoaa.X
open Go.RowKit Go.Proofs.YtnbbbeghgomnoaaW.PrintWords Go.Proofs.YtnbbbeghgomnoaaW.PrintLast Go.Proofs.YtnbbbeghgomnoaaW.PrintMore
attribute [local go_sem] max2_int min2_int max_two min_two max_three min_three max_four min_four
set_option linter.unusedVariables false
set_option linter.unusedSimpArgs false
mutual
def posserref03_Leaves.l0 : Nat → List (List Int) → Int → Int → Int → List (S85) → List (S71) → Int → Option (Int)
 | 0, _, _, _, _, _, _, _ => none
 | k + 1, x1, x2, x7, x8, x241000, x241001, x241002 => if x8 < (x241000.length : Int) then (posserref03_Leaves.l1 k x1 x2 x7 x8 0 0 x241000 x241001 x241002) else (some x7)
def posserref03_Leaves.l1 : Nat → List (List Int) → Int → Int → Int → Int → Int → List (S85) → List (S71) → Int → Option (Int)
 | 0, _, _, _, _, _, _, _, _, _ => none
 | k + 1, x1, x2, x7, x8, x9, x10, x241000, x241001, x241002 => if x10 < (x1.length : Int) then (if 0 ≤ x10 then (if 0 ≤ x2 then (if x2 < ((rd_L1 x1 x10).length : Int) then (if (rd (rd_L1 x1 x10) x2) = x8 then (posserref03_Leaves.l1 k x1 x2 x7 x8 (wrap64 (x9 + 1)) (wrap64 (x10 + 1)) x241000 x241001 x241002) else (posserref03_Leaves.l1 k x1 x2 x7 x8 x9 (wrap64 (x10 + 1)) x241000 x241001 x241002)) else (none)) else (none)) else (none)) else (posserref03_Leaves.l0 k x1 x2 (mx x7 x9) (wrap64 (x8 + 1)) x241000 x241001 x241002)
end
def posserref03_Leaves.f (k : Nat) (l0_0 : List (S85)) (l0_1 : List (S71)) (a0_2 : Int) (l1 : List (List Int)) (a2 : Int) : Option (Int) := posserref03_Leaves.l0 k l1 a2 0 0 l0_0 l0_1 a0_2
set_option maxHeartbeats 8000000 in
set_option maxRecDepth 100000 in
theorem posserref03_Leaves.calls (k : Nat) (A0_0 : Option Addr) (c0_0 : Nat) (l0_0 : List (S85)) (A0_1 : Option Addr) (c0_1 : Nat) (l0_1 : List (S71)) (a0_2 : Int) (A1 : Option Addr) (c1 : Nat) (l1 : List (List Int)) (a2 : Int) (r : Int) (w : World) (hr0_0 : Kd.C k85 w A0_0 l0_0.length l0_0) (hc0_0 : l0_0.length ≤ c0_0) (hr0_1 : Kd.C k71 w A0_1 l0_1.length l0_1) (hc0_1 : l0_1.length ≤ c0_1) (hr1 : Kd.C (Kd.slice 3 (Kd.int .i64)) w A1 l1.length l1) (hc1 : l1.length ≤ c1) (h : posserref03_Leaves.f k l0_0 l0_1 a0_2 l1 a2 = some r) :
  Calls Try.prog 54 #[.agg #[.slice A0_0 l0_0.length c0_0, .slice A0_1 l0_1.length c0_1, .int .i64 a0_2], .slice A1 l1.length c1, .int .i64 a2] w fun e w' => e = .returned (.int .i64 r) ∧ Below w.heap.size w w' := by
 have hu25 := Try.underlying25
 have HR0_0 := Aside0.mk hr0_0
 have HC0_0 := Aside0.mk hc0_0
 clear hr0_0 hc0_0
 have HR0_1 := Aside0.mk hr0_1
 have HC0_1 := Aside0.mk hc0_1
 clear hr0_1 hc0_1
 have HR1 := Aside0.mk hr1
 have HC1 := Aside0.mk hc1
 clear hr1 hc1
 have HB := Aside0.mk (Below.refl w.heap.size w)
 have H : (posserref03_Leaves.l0 k l1 a2 0 0 l0_0 l0_1 a0_2) = some r := h
 clear h
 have H' := Aside0.mk H
 clear H
 go_enter Try.func54, Try.ntmps54
 go_wp2_with (first | ((with_reducible refine gate_dst (N := 3) rfl ?_); refine sbox (N := 3) #[.slice A0_0 l0_0.length c0_0, .slice A0_1 l0_1.length c0_1, .int .i64 a0_2] 25 ?_; intro gb240 hg w4 hbox hb; have BK240 := Aside0.mk (hbox); have GW240 := Aside0.mk (sge hg HB : w.heap.size ≤ gb240); have GE240 := Aside0.mk (sge hg HB : w.heap.size ≤ gb240); replace HB := Aside0.mk (sbs HB hb); clear hb hbox hg))
 go_loopg [7, 8] k (fun kq v7 v8 w' => ∃ (x7_1 : Int) (x8_1 : Int), v7 = .int .i64 x7_1 ∧ v8 = .int .i64 x8_1 ∧ Aside0 (posserref03_Leaves.l0 kq l1 a2 x7_1 x8_1 l0_0 l0_1 a0_2 = some r) ∧ Aside0 (kq ≤ k) ∧ Aside0 (w'.heap[gb240]? = some (.cells #[(.slice A0_0 l0_0.length c0_0), (.slice A0_1 l0_1.length c0_1), .int .i64 a0_2] 25 (0, 0))) ∧ Aside0 (Below w.heap.size w w'))
 case atStart => exact ⟨(0), (0), (by first | rfl | (simp; done) | (simp [*]; done)), (by first | rfl | (simp; done) | (simp [*]; done)), H', ⟨Nat.le_refl _⟩, ⟨by (with_reducible repeat (first | refine blk_drewN ?_ _ | refine blk_drew ?_ | refine blk_alloc ?_ _)); exact BK240.out⟩, ⟨(sbe1 HB GE240)⟩⟩
 case round =>
  clear H'
  try clear c1
  try clear p2
  obtain ⟨x7_1, x8_1, rfl, rfl, HA, HK1, BK240, HB⟩ := hrel
  cases gk with
  | zero => exact absurd HA.out (by simp [posserref03_Leaves.l0])
  | succ k1 =>
   have H := HA.out
   clear HA
   simp only [posserref03_Leaves.l0] at H
   by_cases c5 : x8_1 < (l0_0.length : Int)
   ·rw [if_pos c5] at H
    have c5b0 : decide (x8_1 < (l0_0.length : Int)) = true := decide_eq_true c5
    clear c5
    have H' := Aside0.mk H
    clear H
    have hcz6_0 := sc 0 BK240
    have hcz6_1 := sc 1 BK240
    have hcz6_2 := sc 2 BK240
    have hfz6_0 := blk_frozen BK240.out 0
    have hfz6_1 := blk_frozen BK240.out 1
    have hfz6_2 := blk_frozen BK240.out 2
    go_wp2
    go_loopg [9, 10] k1 (fun kq v9 v10 w' => ∃ (x9_2 : Int) (x10_2 : Int), v9 = .int .i64 x9_2 ∧ v10 = .int .i64 x10_2 ∧ Aside0 (posserref03_Leaves.l1 kq l1 a2 x7_1 x8_1 x9_2 x10_2 l0_0 l0_1 a0_2 = some r) ∧ Aside0 (kq ≤ k1) ∧ Aside0 (w'.heap[gb240]? = some (.cells #[(.slice A0_0 l0_0.length c0_0), (.slice A0_1 l0_1.length c0_1), .int .i64 a0_2] 25 (0, 0))) ∧ Aside0 (Below w.heap.size w w'))
    case atStart => exact ⟨(0), (0), (by first | rfl | (simp; done) | (simp [*]; done)), (by first | rfl | (simp; done) | (simp [*]; done)), H', ⟨Nat.le_refl _⟩, ⟨by (with_reducible repeat (first | refine blk_drewN ?_ _ | refine blk_drew ?_ | refine blk_alloc ?_ _)); exact BK240.out⟩, ⟨(sbe1 HB GE240)⟩⟩
    case round =>
     clear H'
     try clear c1
     try clear p2
     try clear c5
     try clear c5b0
     try clear hcz6_0
     try clear hcz6_1
     try clear hcz6_2
     try clear hfz6_0
     try clear hfz6_1
     try clear hfz6_2
     try clear p2
     obtain ⟨x9_2, x10_2, rfl, rfl, HA, HK2, BK240, HB⟩ := hrel
     cases gk with
     | zero => exact absurd HA.out (by simp [posserref03_Leaves.l1])
     | succ k2 =>
      have H := HA.out
      clear HA
      simp only [posserref03_Leaves.l1] at H
      by_cases c7 : x10_2 < (l1.length : Int)
      ·rw [if_pos c7] at H
       have c7b0 : decide (x10_2 < (l1.length : Int)) = true := decide_eq_true c7
       clear c7
       by_cases c8 : 0 ≤ x10_2
       ·rw [if_pos c8] at H
        have c8b0 : decide (0 ≤ x10_2) = true := decide_eq_true c8
        clear c8
        by_cases c9 : 0 ≤ a2
        ·rw [if_pos c9] at H
         have c9b0 : decide (0 ≤ a2) = true := decide_eq_true c9
         clear c9
         by_cases c10 : a2 < ((rd_L1 l1 x10_2).length : Int)
         ·rw [if_pos c10] at H
          have c10b0 : decide (a2 < ((rd_L1 l1 x10_2).length : Int)) = true := decide_eq_true c10
          clear c10
          by_cases c11 : (rd (rd_L1 l1 x10_2) a2) = x8_1
          ·rw [if_pos c11] at H
           have c11b0 : ((rd (rd_L1 l1 x10_2) a2) == x8_1) = true := beq_iff_eq.mpr c11
           have c11b1 : ((rd (rd_L1 l1 x10_2) a2) != x8_1) = false := bne_eq_false_iff_eq.mpr c11
           clear c11
           have H' := Aside0.mk H
           clear H
           have p241 : 0 ≤ (x10_2 : Int) := of_decide_eq_true (by first | (with_reducible assumption) | assumption)
           have q241 : x10_2 < (l1.length : Int) := of_decide_eq_true (by first | (with_reducible assumption) | assumption)
           obtain ⟨ad241, A241_0, c241_0, e241, hx241_0, hl241_0, hi241_0⟩ := at_L1 HR1.out x10_2 p241 q241
           cases e241
           replace hx241_0 := (HB.out.cell (World.block_lt_of_cell? w _ hx241_0)).trans hx241_0
           have HR241_0 := Aside0.mk hi241_0
           have HC241_0 := Aside0.mk hl241_0
           clear hi241_0 hl241_0
           replace p241 := eq_true p241
           replace q241 := eq_true q241
           have p242 : 0 ≤ (a2 : Int) := of_decide_eq_true (by first | (with_reducible assumption) | assumption)
           have q242 : a2 < ((rd_L1 l1 x10_2).length : Int) := of_decide_eq_true (by first | (with_reducible assumption) | assumption)
           obtain ⟨ad242, e242, hx242_0⟩ := Kd.at_int HR241_0.out a2 p242 q242
           cases e242
           replace hx242_0 := (HB.out.cell (World.block_lt_of_cell? w _ hx242_0)).trans hx242_0
           replace p242 := eq_true p242
           replace q242 := eq_true q242
           go_wp2
           go_roundg k2
           case measure => have := HK1.out; have := HK2.out; omega
           case rel => exact ⟨(wrap64 (x9_2 + 1)), (wrap64 (x10_2 + 1)), (by first | rfl | (simp; done) | (simp [*]; done)), (by first | rfl | (simp; done) | (simp [*]; done)), H', ⟨by have := HK1.out; have := HK2.out; omega⟩, ⟨by (with_reducible repeat (first | refine blk_drewN ?_ _ | refine blk_drew ?_ | refine blk_alloc ?_ _)); exact BK240.out⟩, ⟨(sbe1 HB GE240)⟩⟩
          ·rw [if_neg c11] at H
           have c11b0 : ((rd (rd_L1 l1 x10_2) a2) == x8_1) = false := beq_eq_false_iff_ne.mpr c11
           have c11b1 : ((rd (rd_L1 l1 x10_2) a2) != x8_1) = true := bne_iff_ne.mpr c11
           have H' := Aside0.mk H
           clear H
           have p241 : 0 ≤ (x10_2 : Int) := of_decide_eq_true (by first | (with_reducible assumption) | assumption)
           have q241 : x10_2 < (l1.length : Int) := of_decide_eq_true (by first | (with_reducible assumption) | assumption)
           obtain ⟨ad241, A241_0, c241_0, e241, hx241_0, hl241_0, hi241_0⟩ := at_L1 HR1.out x10_2 p241 q241
           cases e241
           replace hx241_0 := (HB.out.cell (World.block_lt_of_cell? w _ hx241_0)).trans hx241_0
           have HR241_0 := Aside0.mk hi241_0
           have HC241_0 := Aside0.mk hl241_0
           clear hi241_0 hl241_0
           replace p241 := eq_true p241
           replace q241 := eq_true q241
           have p242 : 0 ≤ (a2 : Int) := of_decide_eq_true (by first | (with_reducible assumption) | assumption)
           have q242 : a2 < ((rd_L1 l1 x10_2).length : Int) := of_decide_eq_true (by first | (with_reducible assumption) | assumption)
           obtain ⟨ad242, e242, hx242_0⟩ := Kd.at_int HR241_0.out a2 p242 q242
           cases e242
           replace hx242_0 := (HB.out.cell (World.block_lt_of_cell? w _ hx242_0)).trans hx242_0
           replace p242 := eq_true p242
           replace q242 := eq_true q242
           go_wp2
           go_roundg k2
           case measure => have := HK1.out; have := HK2.out; omega
           case rel => exact ⟨(x9_2), (wrap64 (x10_2 + 1)), (by first | rfl | (simp; done) | (simp [*]; done)), (by first | rfl | (simp; done) | (simp [*]; done)), H', ⟨by have := HK1.out; have := HK2.out; omega⟩, ⟨by (with_reducible repeat (first | refine blk_drewN ?_ _ | refine blk_drew ?_ | refine blk_alloc ?_ _)); exact BK240.out⟩, ⟨(sbe1 HB GE240)⟩⟩
         ·rw [if_neg c10] at H
          exact absurd H (by simp)
        ·rw [if_neg c9] at H
         exact absurd H (by simp)
       ·rw [if_neg c8] at H
        exact absurd H (by simp)
      ·rw [if_neg c7] at H
       have c7b0 : decide (x10_2 < (l1.length : Int)) = false := decide_eq_false c7
       clear c7
       obtain ⟨ji12, hji12⟩ : ∃ j_ : Int, (mx x7_1 x9_2) = j_ := ⟨_, rfl⟩
       replace H : (posserref03_Leaves.l0 k2 l1 a2 ji12 (wrap64 (x8_1 + 1)) l0_0 l0_1 a0_2) = some r := by first | (rw [hji12] at H; exact H) | (simp only [hji12] at H ⊢; exact H)
       have hji12_ : (if x7_1 < x9_2 then x9_2 else x7_1) = ji12 := hji12
       have H' := Aside0.mk H
       clear H
       go_wp2
       go_roundg k2
       case measure => have := HK1.out; have := HK2.out; omega
       case rel => exact ⟨(ji12), (wrap64 (x8_1 + 1)), (by first | rfl | (simp; done) | (simp only [← hji12] <;> (first | rfl | simp)) | (simp [*]; done)), (by first | rfl | (simp; done) | (simp [*]; done)), H', ⟨by have := HK1.out; have := HK2.out; omega⟩, ⟨by (with_reducible repeat (first | refine blk_drewN ?_ _ | refine blk_drew ?_ | refine blk_alloc ?_ _)); exact BK240.out⟩, ⟨(sbe1 HB GE240)⟩⟩
   ·rw [if_neg c5] at H
    have c5b0 : decide (x8_1 < (l0_0.length : Int)) = false := decide_eq_false c5
    clear c5
    obtain rfl := Option.some.inj H
    have hcz13_0 := sc 0 BK240
    have hcz13_1 := sc 1 BK240
    have hcz13_2 := sc 2 BK240
    have hfz13_0 := blk_frozen BK240.out 0
    have hfz13_1 := blk_frozen BK240.out 1
    have hfz13_2 := blk_frozen BK240.out 2
    go_wp2
    go_ret
    exact ⟨by first | rfl | (simp [errW_none, errW_some] <;> rfl) | (simp [*, errW_none, errW_some] <;> rfl), (sbe1 HB GE240)⟩
end Go.Proofs.Ytnbbbeghgomnoaa.X
namespace Go.Proofs.Ytnbbbeghgomnoaa.X
open Go.RowKit Go.Proofs.YtnbbbeghgomnoaaW.PrintWords Go.Proofs.YtnbbbeghgomnoaaW.PrintLast Go.Proofs.YtnbbbeghgomnoaaW.PrintMore
attribute [local go_sem] max2_int min2_int max_two min_two max_three min_three max_four min_four
set_option linter.unusedVariables false
set_option linter.unusedSimpArgs false
def posserref03_Look.l0 : Nat → List (List Int) → Int → Int → Int → List (S85) → List (S71) → Int → Option (Int × Int)
 | 0, _, _, _, _, _, _, _ => none
 | k + 1, x1, x6, x7, x8, x244000, x244001, x244002 => if x8 < (x244001.length : Int) then ((posserref03_Leaves.f k x244000 x244001 x244002 x1 x8).bind fun t245 => (if t245 < x7 then (posserref03_Look.l0 k x1 x8 t245 (wrap64 (x8 + 1)) x244000 x244001 x244002) else (posserref03_Look.l0 k x1 x6 x7 (wrap64 (x8 + 1)) x244000 x244001 x244002))) else (some (x6, x7))
def posserref03_Look.f (k : Nat) (l0_0 : List (S85)) (l0_1 : List (S71)) (a0_2 : Int) (l1 : List (List Int)) : Option (Int × Int) := (posserref03_Leaves.f k l0_0 l0_1 a0_2 l1 0).bind fun t244 => (posserref03_Look.l0 k l1 0 t244 1 l0_0 l0_1 a0_2)
set_option maxHeartbeats 8000000 in
set_option maxRecDepth 100000 in
theorem posserref03_Look.calls (k : Nat) (A0_0 : Option Addr) (c0_0 : Nat) (l0_0 : List (S85)) (A0_1 : Option Addr) (c0_1 : Nat) (l0_1 : List (S71)) (a0_2 : Int) (A1 : Option Addr) (c1 : Nat) (l1 : List (List Int)) (r1 : Int) (r2 : Int) (w : World) (hr0_0 : Kd.C k85 w A0_0 l0_0.length l0_0) (hc0_0 : l0_0.length ≤ c0_0) (hr0_1 : Kd.C k71 w A0_1 l0_1.length l0_1) (hc0_1 : l0_1.length ≤ c0_1) (hr1 : Kd.C (Kd.slice 3 (Kd.int .i64)) w A1 l1.length l1) (hc1 : l1.length ≤ c1) (h : posserref03_Look.f k l0_0 l0_1 a0_2 l1 = some (r1, r2)) :
  Calls Try.prog 30 #[.agg #[.slice A0_0 l0_0.length c0_0, .slice A0_1 l0_1.length c0_1, .int .i64 a0_2], .slice A1 l1.length c1] w fun e w' => e = .returned (.tuple #[.int .i64 r1, .int .i64 r2]) ∧ Below w.heap.size w w' := by
 have hu25 := Try.underlying25
 have HR0_0 := Aside0.mk hr0_0
 have HC0_0 := Aside0.mk hc0_0
 clear hr0_0 hc0_0
 have HR0_1 := Aside0.mk hr0_1
 have HC0_1 := Aside0.mk hc0_1
 clear hr0_1 hc0_1
 have HR1 := Aside0.mk hr1
 have HC1 := Aside0.mk hc1
 clear hr1 hc1
 have HB := Aside0.mk (Below.refl w.heap.size w)
 have H : ((posserref03_Leaves.f k l0_0 l0_1 a0_2 l1 0).bind fun t244 => (posserref03_Look.l0 k l1 0 t244 1 l0_0 l0_1 a0_2)) = some (r1, r2) := h
 clear h
 replace H := Option.bind_eq_some_iff.mp H
 obtain ⟨t244, A30, H⟩ := H
 replace H : (posserref03_Look.l0 k l1 0 t244 1 l0_0 l0_1 a0_2) = some (r1, r2) := H
 have A3 := Aside0.mk A30
 clear A30
 have H' := Aside0.mk H
 clear H
 go_enter Try.func30, Try.ntmps30
 go_wp2_with (first | ((with_reducible refine gate_dst (N := 2) rfl ?_); refine sbox (N := 2) #[.slice A0_0 l0_0.length c0_0, .slice A0_1 l0_1.length c0_1, .int .i64 a0_2] 25 ?_; intro gb243 hg w4 hbox hb; have BK243 := Aside0.mk (hbox); have GW243 := Aside0.mk (sge hg HB : w.heap.size ≤ gb243); have GE243 := Aside0.mk (sge hg HB : w.heap.size ≤ gb243); replace HB := Aside0.mk (sbs HB hb); clear hb hbox hg; have hcz5_0 := sc 0 BK243; have hcz5_1 := sc 1 BK243; have hcz5_2 := sc 2 BK243; have hfz5_0 := blk_frozen BK243.out 0; have hfz5_1 := blk_frozen BK243.out 1; have hfz5_2 := blk_frozen BK243.out 2) | ((with_reducible refine gate_callee (f := 54) rfl ?_); refine goesL_ (some 12) rfl rfl Try.func54 (by kernel_rfl) rfl #[.agg #[.slice A0_0 l0_0.length c0_0, .slice A0_1 l0_1.length c0_1, .int .i64 a0_2], .slice A1 l1.length c1, .int .i64 0] rfl (by (try simp only [List.map_toArray, List.map_cons, List.map_nil]); first | done | rfl | (simp only [List.length_drop, List.length_take]; rfl)) ?_; (with_reducible refine (posserref03_Leaves.calls k _ _ l0_0 _ _ l0_1 a0_2 _ _ l1 0 t244 _ ?side1 ?side2 ?side3 ?side4 ?side5 ?side6 A3.out).mono ?_); (case side1 => exact sCb HR0_0 HB); (case side2 => exact HC0_0.out); (case side3 => exact sCb HR0_1 HB); (case side4 => exact HC0_1.out); (case side5 => exact sCb HR1 HB); (case side6 => exact HC1.out); rintro e w6 ⟨rfl, hb⟩; refine ⟨_, rfl, ?_⟩; replace BK243 := Aside0.mk (sbb BK243 hb); replace HB := Aside0.mk (sbs1 HB GE243 hb); (try clear hb); (try clear hb2); (try clear hk); (try clear hi)))
 go_loopg [6, 7, 8] k (fun kq v6 v7 v8 w' => ∃ (x6_1 : Int) (x7_1 : Int) (x8_1 : Int), v6 = .int .i64 x6_1 ∧ v7 = .int .i64 x7_1 ∧ v8 = .int .i64 x8_1 ∧ Aside0 (posserref03_Look.l0 kq l1 x6_1 x7_1 x8_1 l0_0 l0_1 a0_2 = some (r1, r2)) ∧ Aside0 (kq ≤ k) ∧ Aside0 (w'.heap[gb243]? = some (.cells #[(.slice A0_0 l0_0.length c0_0), (.slice A0_1 l0_1.length c0_1), .int .i64 a0_2] 25 (0, 0))) ∧ Aside0 (Below w.heap.size w w'))
 case atStart => exact ⟨(0), (t244), (1), (by first | rfl | (simp; done) | (simp [*]; done)), (by first | rfl | (simp; done) | (simp [*]; done)), (by first | rfl | (simp; done) | (simp [*]; done)), H', ⟨Nat.le_refl _⟩, ⟨by (with_reducible repeat (first | refine blk_drewN ?_ _ | refine blk_drew ?_ | refine blk_alloc ?_ _)); exact BK243.out⟩, ⟨(sbe1 HB GE243)⟩⟩
 case round =>
  clear H'
  try clear c1
  try clear p2
  try clear c3
  try clear c5
  try clear hcz5_0
  try clear hcz5_1
  try clear hcz5_2
  try clear hfz5_0
  try clear hfz5_1
  try clear hfz5_2
  obtain ⟨x6_1, x7_1, x8_1, rfl, rfl, rfl, HA, HK1, BK243, HB⟩ := hrel
  cases gk with
  | zero => exact absurd HA.out (by simp [posserref03_Look.l0])
  | succ k1 =>
   have H := HA.out
   clear HA
   simp only [posserref03_Look.l0] at H
   by_cases c7 : x8_1 < (l0_1.length : Int)
   ·rw [if_pos c7] at H
    have c7b0 : decide (x8_1 < (l0_1.length : Int)) = true := decide_eq_true c7
    clear c7
    replace H := Option.bind_eq_some_iff.mp H
    obtain ⟨t245, A80, H⟩ := H
    replace H : (if t245 < x7_1 then (posserref03_Look.l0 k1 l1 x8_1 t245 (wrap64 (x8_1 + 1)) l0_0 l0_1 a0_2) else (posserref03_Look.l0 k1 l1 x6_1 x7_1 (wrap64 (x8_1 + 1)) l0_0 l0_1 a0_2)) = some (r1, r2) := H
    have A8 := Aside0.mk A80
    clear A80
    by_cases c9 : t245 < x7_1
    ·rw [if_pos c9] at H
     have c9b0 : decide (t245 < x7_1) = true := decide_eq_true c9
     clear c9
     have H' := Aside0.mk H
     clear H
     have hcz10_0 := sc 0 BK243
     have hcz10_1 := sc 1 BK243
     have hcz10_2 := sc 2 BK243
     have hfz10_0 := blk_frozen BK243.out 0
     have hfz10_1 := blk_frozen BK243.out 1
     have hfz10_2 := blk_frozen BK243.out 2
     go_wp2_with (first | ((with_reducible refine gate_callee (f := 54) rfl ?_); refine goesL_ (some 23) rfl rfl Try.func54 (by kernel_rfl) rfl #[.agg #[.slice A0_0 l0_0.length c0_0, .slice A0_1 l0_1.length c0_1, .int .i64 a0_2], .slice A1 l1.length c1, .int .i64 x8_1] rfl (by (try simp only [List.map_toArray, List.map_cons, List.map_nil]); first | done | rfl | (simp only [List.length_drop, List.length_take]; rfl)) ?_; (with_reducible refine (posserref03_Leaves.calls k1 _ _ l0_0 _ _ l0_1 a0_2 _ _ l1 x8_1 t245 _ ?side1 ?side2 ?side3 ?side4 ?side5 ?side6 A8.out).mono ?_); (case side1 => exact sCb HR0_0 HB); (case side2 => exact HC0_0.out); (case side3 => exact sCb HR0_1 HB); (case side4 => exact HC0_1.out); (case side5 => exact sCb HR1 HB); (case side6 => exact HC1.out); rintro e w11 ⟨rfl, hb⟩; refine ⟨_, rfl, ?_⟩; replace BK243 := Aside0.mk (sbb BK243 hb); replace HB := Aside0.mk (sbs1 HB GE243 hb); (try clear hb); (try clear hb2); (try clear hk); (try clear hi)))
     go_roundg k1
     case measure => have := HK1.out; omega
     case rel => exact ⟨(x8_1), (t245), (wrap64 (x8_1 + 1)), (by first | rfl | (simp; done) | (simp [*]; done)), (by first | rfl | (simp; done) | (simp [*]; done)), (by first | rfl | (simp; done) | (simp [*]; done)), H', ⟨by have := HK1.out; omega⟩, ⟨by (with_reducible repeat (first | refine blk_drewN ?_ _ | refine blk_drew ?_ | refine blk_alloc ?_ _)); exact BK243.out⟩, ⟨(sbe1 HB GE243)⟩⟩
    ·rw [if_neg c9] at H
     have c9b0 : decide (t245 < x7_1) = false := decide_eq_false c9
     clear c9
     have H' := Aside0.mk H
     clear H
     have hcz12_0 := sc 0 BK243
     have hcz12_1 := sc 1 BK243
     have hcz12_2 := sc 2 BK243
     have hfz12_0 := blk_frozen BK243.out 0
     have hfz12_1 := blk_frozen BK243.out 1
     have hfz12_2 := blk_frozen BK243.out 2
     go_wp2_with (first | ((with_reducible refine gate_callee (f := 54) rfl ?_); refine goesL_ (some 23) rfl rfl Try.func54 (by kernel_rfl) rfl #[.agg #[.slice A0_0 l0_0.length c0_0, .slice A0_1 l0_1.length c0_1, .int .i64 a0_2], .slice A1 l1.length c1, .int .i64 x8_1] rfl (by (try simp only [List.map_toArray, List.map_cons, List.map_nil]); first | done | rfl | (simp only [List.length_drop, List.length_take]; rfl)) ?_; (with_reducible refine (posserref03_Leaves.calls k1 _ _ l0_0 _ _ l0_1 a0_2 _ _ l1 x8_1 t245 _ ?side1 ?side2 ?side3 ?side4 ?side5 ?side6 A8.out).mono ?_); (case side1 => exact sCb HR0_0 HB); (case side2 => exact HC0_0.out); (case side3 => exact sCb HR0_1 HB); (case side4 => exact HC0_1.out); (case side5 => exact sCb HR1 HB); (case side6 => exact HC1.out); rintro e w13 ⟨rfl, hb⟩; refine ⟨_, rfl, ?_⟩; replace BK243 := Aside0.mk (sbb BK243 hb); replace HB := Aside0.mk (sbs1 HB GE243 hb); (try clear hb); (try clear hb2); (try clear hk); (try clear hi)))
     go_roundg k1
     case measure => have := HK1.out; omega
     case rel => exact ⟨(x6_1), (x7_1), (wrap64 (x8_1 + 1)), (by first | rfl | (simp; done) | (simp [*]; done)), (by first | rfl | (simp; done) | (simp [*]; done)), (by first | rfl | (simp; done) | (simp [*]; done)), H', ⟨by have := HK1.out; omega⟩, ⟨by (with_reducible repeat (first | refine blk_drewN ?_ _ | refine blk_drew ?_ | refine blk_alloc ?_ _)); exact BK243.out⟩, ⟨(sbe1 HB GE243)⟩⟩
   ·rw [if_neg c7] at H
    have c7b0 : decide (x8_1 < (l0_1.length : Int)) = false := decide_eq_false c7
    clear c7
    simp only [Option.some.injEq, Prod.mk.injEq] at H
    obtain ⟨rfl, rfl⟩ := H
    have hcz14_0 := sc 0 BK243
    have hcz14_1 := sc 1 BK243
    have hcz14_2 := sc 2 BK243
    have hfz14_0 := blk_frozen BK243.out 0
    have hfz14_1 := blk_frozen BK243.out 1
    have hfz14_2 := blk_frozen BK243.out 2
    go_wp2
    go_ret2
    exact ⟨by first | rfl | (simp [errW_none, errW_some] <;> rfl) | (simp [*, errW_none, errW_some] <;> rfl), (sbe1 HB GE243)⟩
end Go.Proofs.Ytnbbbeghgomnoaa.X
namespace Go.Proofs.Ytnbbbeghgomnoaa.X
open Go.RowKit Go.Proofs.YtnbbbeghgomnoaaW.PrintWords Go.Proofs.YtnbbbeghgomnoaaW.PrintLast Go.Proofs.YtnbbbeghgomnoaaW.PrintMore
attribute [local go_sem] max2_int min2_int max_two min_two max_three min_three max_four min_four
set_option linter.unusedVariables false
set_option linter.unusedSimpArgs false
def posserlaw03_BundleLooks.f (k : Nat) (l0_0 : List (S85)) (l0_1 : List (S71)) (a0_2 : Int) : Option (Bool) := (posserlaw03_Thin.f k l0_0 l0_1 a0_2).bind fun t247 => (if t247 = true then ((posserlaw03_Table.f l0_0 l0_1 a0_2).bind fun bt248 => ((bundle_Look.f bt248.1 bt248.2.1 bt248.2.2).bind fun bt255 => ((posserlaw03_sure.f k l0_0 l0_1 a0_2).bind fun bt258 => (if bt258.2 = 0 then (if (l0_1.length : Int) = 0 then (if bt255.2.2 = 7 then (if bt255.1 = 0 then (if bt255.2.1 = 0 then ((posserlaw03_awake.f).bind fun t265 => (some t265)) else (none)) else (none)) else (none)) else ((posserref03_Look.f k l0_0 l0_1 a0_2 bt258.1).bind fun bt266 => (if bt255.2.2 = 0 then (if bt255.1 = bt266.1 then (if bt255.2.1 = bt266.2 then ((posserlaw03_awake.f).bind fun t268 => (some t268)) else (none)) else (none)) else (none)))) else (if bt255.2.2 = bt258.2 then (if bt255.1 = 0 then (if bt255.2.1 = 0 then ((posserlaw03_awake.f).bind fun t269 => (some t269)) else (none)) else (none)) else (none)))))) else ((posserlaw03_awake.f).bind fun t270 => (some t270)))
set_option maxHeartbeats 8000000 in
set_option maxRecDepth 100000 in
theorem posserlaw03_BundleLooks.calls (k : Nat) (A0_0 : Option Addr) (c0_0 : Nat) (l0_0 : List (S85)) (A0_1 : Option Addr) (c0_1 : Nat) (l0_1 : List (S71)) (a0_2 : Int) (r : Bool) (w : World) (hr0_0 : Kd.C k85 w A0_0 l0_0.length l0_0) (hc0_0 : l0_0.length ≤ c0_0) (hr0_1 : Kd.C k71 w A0_1 l0_1.length l0_1) (hc0_1 : l0_1.length ≤ c0_1) (h : posserlaw03_BundleLooks.f k l0_0 l0_1 a0_2 = some r) :
  Calls Try.prog 5 #[.agg #[.slice A0_0 l0_0.length c0_0, .slice A0_1 l0_1.length c0_1, .int .i64 a0_2]] w fun e w' => e = .returned (.bool r) ∧ Below w.heap.size w w' := by
 have hu25 := Try.underlying25
 have HR0_0 := Aside0.mk hr0_0
 have HC0_0 := Aside0.mk hc0_0
 clear hr0_0 hc0_0
 have HR0_1 := Aside0.mk hr0_1
 have HC0_1 := Aside0.mk hc0_1
 clear hr0_1 hc0_1
 have HB := Aside0.mk (Below.refl w.heap.size w)
 have H : ((posserlaw03_Thin.f k l0_0 l0_1 a0_2).bind fun t247 => (if t247 = true then ((posserlaw03_Table.f l0_0 l0_1 a0_2).bind fun bt248 => ((bundle_Look.f bt248.1 bt248.2.1 bt248.2.2).bind fun bt255 => ((posserlaw03_sure.f k l0_0 l0_1 a0_2).bind fun bt258 => (if bt258.2 = 0 then (if (l0_1.length : Int) = 0 then (if bt255.2.2 = 7 then (if bt255.1 = 0 then (if bt255.2.1 = 0 then ((posserlaw03_awake.f).bind fun t265 => (some t265)) else (none)) else (none)) else (none)) else ((posserref03_Look.f k l0_0 l0_1 a0_2 bt258.1).bind fun bt266 => (if bt255.2.2 = 0 then (if bt255.1 = bt266.1 then (if bt255.2.1 = bt266.2 then ((posserlaw03_awake.f).bind fun t268 => (some t268)) else (none)) else (none)) else (none)))) else (if bt255.2.2 = bt258.2 then (if bt255.1 = 0 then (if bt255.2.1 = 0 then ((posserlaw03_awake.f).bind fun t269 => (some t269)) else (none)) else (none)) else (none)))))) else ((posserlaw03_awake.f).bind fun t270 => (some t270)))) = some r := h
 clear h
 replace H := Option.bind_eq_some_iff.mp H
 obtain ⟨t247, A20, H⟩ := H
 replace H : (if t247 = true then ((posserlaw03_Table.f l0_0 l0_1 a0_2).bind fun bt248 => ((bundle_Look.f bt248.1 bt248.2.1 bt248.2.2).bind fun bt255 => ((posserlaw03_sure.f k l0_0 l0_1 a0_2).bind fun bt258 => (if bt258.2 = 0 then (if (l0_1.length : Int) = 0 then (if bt255.2.2 = 7 then (if bt255.1 = 0 then (if bt255.2.1 = 0 then ((posserlaw03_awake.f).bind fun t265 => (some t265)) else (none)) else (none)) else (none)) else ((posserref03_Look.f k l0_0 l0_1 a0_2 bt258.1).bind fun bt266 => (if bt255.2.2 = 0 then (if bt255.1 = bt266.1 then (if bt255.2.1 = bt266.2 then ((posserlaw03_awake.f).bind fun t268 => (some t268)) else (none)) else (none)) else (none)))) else (if bt255.2.2 = bt258.2 then (if bt255.1 = 0 then (if bt255.2.1 = 0 then ((posserlaw03_awake.f).bind fun t269 => (some t269)) else (none)) else (none)) else (none)))))) else ((posserlaw03_awake.f).bind fun t270 => (some t270))) = some r := H
 have A2 := Aside0.mk A20
 clear A20
 by_cases c3 : t247 = true
 ·subst c3
  have H1 : ((posserlaw03_Table.f l0_0 l0_1 a0_2).bind fun bt248 => ((bundle_Look.f bt248.1 bt248.2.1 bt248.2.2).bind fun bt255 => ((posserlaw03_sure.f k l0_0 l0_1 a0_2).bind fun bt258 => (if bt258.2 = 0 then (if (l0_1.length : Int) = 0 then (if bt255.2.2 = 7 then (if bt255.1 = 0 then (if bt255.2.1 = 0 then ((posserlaw03_awake.f).bind fun t265 => (some t265)) else (none)) else (none)) else (none)) else ((posserref03_Look.f k l0_0 l0_1 a0_2 bt258.1).bind fun bt266 => (if bt255.2.2 = 0 then (if bt255.1 = bt266.1 then (if bt255.2.1 = bt266.2 then ((posserlaw03_awake.f).bind fun t268 => (some t268)) else (none)) else (none)) else (none)))) else (if bt255.2.2 = bt258.2 then (if bt255.1 = 0 then (if bt255.2.1 = 0 then ((posserlaw03_awake.f).bind fun t269 => (some t269)) else (none)) else (none)) else (none)))))) = some r := by rw [if_pos rfl] at H; exact H
  clear H
  have H := H1
  clear H1
  replace H := Option.bind_eq_some_iff.mp H
  obtain ⟨⟨t248, t251, t254⟩, A40, H⟩ := H
  replace H : ((bundle_Look.f t248 t251 t254).bind fun bt255 => ((posserlaw03_sure.f k l0_0 l0_1 a0_2).bind fun bt258 => (if bt258.2 = 0 then (if (l0_1.length : Int) = 0 then (if bt255.2.2 = 7 then (if bt255.1 = 0 then (if bt255.2.1 = 0 then ((posserlaw03_awake.f).bind fun t265 => (some t265)) else (none)) else (none)) else (none)) else ((posserref03_Look.f k l0_0 l0_1 a0_2 bt258.1).bind fun bt266 => (if bt255.2.2 = 0 then (if bt255.1 = bt266.1 then (if bt255.2.1 = bt266.2 then ((posserlaw03_awake.f).bind fun t268 => (some t268)) else (none)) else (none)) else (none)))) else (if bt255.2.2 = bt258.2 then (if bt255.1 = 0 then (if bt255.2.1 = 0 then ((posserlaw03_awake.f).bind fun t269 => (some t269)) else (none)) else (none)) else (none))))) = some r := H
  have A4 := Aside0.mk A40
  clear A40
  replace H := Option.bind_eq_some_iff.mp H
  obtain ⟨⟨t255, t256, t257⟩, A50, H⟩ := H
  replace H : ((posserlaw03_sure.f k l0_0 l0_1 a0_2).bind fun bt258 => (if bt258.2 = 0 then (if (l0_1.length : Int) = 0 then (if t257 = 7 then (if t255 = 0 then (if t256 = 0 then ((posserlaw03_awake.f).bind fun t265 => (some t265)) else (none)) else (none)) else (none)) else ((posserref03_Look.f k l0_0 l0_1 a0_2 bt258.1).bind fun bt266 => (if t257 = 0 then (if t255 = bt266.1 then (if t256 = bt266.2 then ((posserlaw03_awake.f).bind fun t268 => (some t268)) else (none)) else (none)) else (none)))) else (if t257 = bt258.2 then (if t255 = 0 then (if t256 = 0 then ((posserlaw03_awake.f).bind fun t269 => (some t269)) else (none)) else (none)) else (none)))) = some r := H
  have A5 := Aside0.mk A50
  clear A50
  replace H := Option.bind_eq_some_iff.mp H
  obtain ⟨⟨t258, t261⟩, A60, H⟩ := H
  replace H : (if t261 = 0 then (if (l0_1.length : Int) = 0 then (if t257 = 7 then (if t255 = 0 then (if t256 = 0 then ((posserlaw03_awake.f).bind fun t265 => (some t265)) else (none)) else (none)) else (none)) else ((posserref03_Look.f k l0_0 l0_1 a0_2 t258).bind fun bt266 => (if t257 = 0 then (if t255 = bt266.1 then (if t256 = bt266.2 then ((posserlaw03_awake.f).bind fun t268 => (some t268)) else (none)) else (none)) else (none)))) else (if t257 = t261 then (if t255 = 0 then (if t256 = 0 then ((posserlaw03_awake.f).bind fun t269 => (some t269)) else (none)) else (none)) else (none))) = some r := H
  have A6 := Aside0.mk A60
  clear A60
  by_cases c7 : t261 = 0
  ·rw [if_pos c7] at H
   have c7b0 : (t261 == 0) = true := beq_iff_eq.mpr c7
   have c7b1 : (t261 != 0) = false := bne_eq_false_iff_eq.mpr c7
   clear c7
   by_cases c8 : (l0_1.length : Int) = 0
   ·rw [if_pos c8] at H
    have c8b0 : ((l0_1.length : Int) == 0) = true := beq_iff_eq.mpr c8
    have c8b1 : ((l0_1.length : Int) != 0) = false := bne_eq_false_iff_eq.mpr c8
    clear c8
    by_cases c9 : t257 = 7
    ·rw [if_pos c9] at H
     have c9b0 : (t257 == 7) = true := beq_iff_eq.mpr c9
     have c9b1 : (t257 != 7) = false := bne_eq_false_iff_eq.mpr c9
     clear c9
     by_cases c10 : t255 = 0
     ·rw [if_pos c10] at H
      have c10b0 : (t255 == 0) = true := beq_iff_eq.mpr c10
      have c10b1 : (t255 != 0) = false := bne_eq_false_iff_eq.mpr c10
      clear c10
      by_cases c11 : t256 = 0
      ·rw [if_pos c11] at H
       have c11b0 : (t256 == 0) = true := beq_iff_eq.mpr c11
       have c11b1 : (t256 != 0) = false := bne_eq_false_iff_eq.mpr c11
       clear c11
       replace H := Option.bind_eq_some_iff.mp H
       obtain ⟨t265, A120, H⟩ := H
       replace H : (some t265) = some r := H
       have A12 := Aside0.mk A120
       clear A120
       obtain rfl := Option.some.inj H
       go_enter Try.func5, Try.ntmps5
       go_wp2_with (first | ((with_reducible refine gate_dst (N := 1) rfl ?_); (try (refine gate_guard (by rfl) ?_; dsimp only)); refine sbox (N := 1) #[.slice A0_0 l0_0.length c0_0, .slice A0_1 l0_1.length c0_1, .int .i64 a0_2] 25 ?_; intro gb246 hg w13 hbox hb; have BK246 := Aside0.mk (hbox); have GW246 := Aside0.mk (sge hg HB : w.heap.size ≤ gb246); have GE246 := Aside0.mk (sge hg HB : w.heap.size ≤ gb246); replace HB := Aside0.mk (sbs HB hb); clear hb hbox hg; have hcz14_0 := sc 0 BK246; have hcz14_1 := sc 1 BK246; have hcz14_2 := sc 2 BK246; have hfz14_0 := blk_frozen BK246.out 0; have hfz14_1 := blk_frozen BK246.out 1; have hfz14_2 := blk_frozen BK246.out 2) | ((with_reducible refine gate_callee (f := 20) rfl ?_); refine goesL_ (some 11) rfl rfl Try.func20 (by kernel_rfl) rfl #[.agg #[.slice A0_0 l0_0.length c0_0, .slice A0_1 l0_1.length c0_1, .int .i64 a0_2]] rfl (by (try simp only [List.map_toArray, List.map_cons, List.map_nil]); first | done | rfl | (simp only [List.length_drop, List.length_take]; rfl)) ?_; (with_reducible refine (posserlaw03_Thin.calls k _ _ l0_0 _ _ l0_1 a0_2 true _ ?side1 ?side2 ?side3 ?side4 A2.out).mono ?_); (case side1 => exact sCb HR0_0 HB); (case side2 => exact HC0_0.out); (case side3 => exact sCb HR0_1 HB); (case side4 => exact HC0_1.out); rintro e w15 ⟨rfl, hb⟩; refine ⟨_, rfl, ?_⟩; replace BK246 := Aside0.mk (sbb BK246 hb); replace HB := Aside0.mk (sbs1 HB GE246 hb); (try clear hb); (try clear hb2); (try clear hk); (try clear hi); have hcz16_0 := sc 0 BK246; have hcz16_1 := sc 1 BK246; have hcz16_2 := sc 2 BK246; have hfz16_0 := blk_frozen BK246.out 0; have hfz16_1 := blk_frozen BK246.out 1; have hfz16_2 := blk_frozen BK246.out 2) | ((with_reducible refine gate_callee (f := 23) rfl ?_); refine goesL_ (some 16) rfl rfl Try.func23 (by kernel_rfl) rfl #[.agg #[.slice A0_0 l0_0.length c0_0, .slice A0_1 l0_1.length c0_1, .int .i64 a0_2]] rfl (by (try simp only [List.map_toArray, List.map_cons, List.map_nil]); first | done | rfl | (simp only [List.length_drop, List.length_take]; rfl)) ?_; (with_reducible refine (posserlaw03_Table.calls _ _ l0_0 _ _ l0_1 a0_2 t248 t251 t254 _ ?side1 ?side2 ?side3 ?side4 A4.out).mono ?_); (case side1 => exact sCb HR0_0 HB); (case side2 => exact HC0_0.out); (case side3 => exact sCb HR0_1 HB); (case side4 => exact HC0_1.out); rintro e w17 ⟨v249, v252, rfl, ho0, ho1, hb⟩; refine ⟨_, rfl, ?_⟩; have HO250 := Aside0.mk (Kd.R_lower (Kd.R_mono (ok' := fun k_ => True) ho0 (fun _ hk_ => trivial)) (below_size (sbe1 HB GE246))); have HO253 := Aside0.mk (Kd.N_lower (Kd.N_mono (ok' := fun k_ => some k_ ≠ (v249 : Value).ownBlock ∧ k_ ≠ gb246) ho1 (fun k_ hk_ => ⟨hk_.2, (Kd.freshB (g := gb246) (o := .cells #[.slice A0_0 l0_0.length c0_0, .slice A0_1 l0_1.length c0_1, .int .i64 a0_2] 25 (0, 0)) (sbk BK246) k_ hk_.1)⟩)) (below_size (sbe1 HB GE246))); replace BK246 := Aside0.mk (sbb BK246 hb); replace HB := Aside0.mk (sbs1 HB GE246 hb); (try clear hb); (try clear hb2); (try clear hk); (try clear hi); (try clear ho0); (try clear ho1); obtain ⟨Ao18, co18, eo18⟩ := Kd.R_slice HO250.out; subst eo18; obtain ⟨Ao19, co19, eo19⟩ := Kd.N_slice HO253.out; subst eo19) | ((with_reducible refine gate_callee (f := 29) rfl ?_); refine goesL_ (some 17) rfl rfl Try.func29 (by kernel_rfl) rfl #[.agg #[.slice Ao18 t248.length co18, .slice Ao19 t251.length co19, .int .i64 t254]] rfl (by (try simp only [List.map_toArray, List.map_cons, List.map_nil]); first | done | rfl | (simp only [List.length_drop, List.length_take]; rfl)) ?_; (with_reducible refine (bundle_Look.calls _ _ t248 _ _ t251 t254 t255 t256 t257 _ ?side1 ?side2 ?side3 ?side4 A5.out).mono ?_); (case side1 => repeat (first | exact (Kd.R_reads' HO250.out).2.2 | (with_reducible refine Kd.C_alloc ?_ _) | (with_reducible refine Kd.C_drewN ?_ _) | (with_reducible refine Kd.C_drew ?_))); (case side2 => exact (Kd.R_reads' HO250.out).2.1); (case side3 => repeat (first | exact (Kd.N_reads' HO253.out).2.2 | (with_reducible refine Kd.C_alloc ?_ _) | (with_reducible refine Kd.C_drewN ?_ _) | (with_reducible refine Kd.C_drew ?_))); (case side4 => exact (Kd.N_reads' HO253.out).2.1); rintro e w20 ⟨rfl, hb⟩; refine ⟨_, rfl, ?_⟩; replace HO250 := Aside0.mk (Kd.R_below (sR HO250) hb); replace HO253 := Aside0.mk (Kd.N_below (sN_ HO253) hb); replace BK246 := Aside0.mk (sbb BK246 hb); replace HB := Aside0.mk (sbs1 HB GE246 hb); (try clear hb); (try clear hb2); (try clear hk); (try clear hi); have hcz21_0 := sc 0 BK246; have hcz21_1 := sc 1 BK246; have hcz21_2 := sc 2 BK246; have hfz21_0 := blk_frozen BK246.out 0; have hfz21_1 := blk_frozen BK246.out 1; have hfz21_2 := blk_frozen BK246.out 2) | ((with_reducible refine gate_callee (f := 24) rfl ?_); refine goesL_ (some 23) rfl rfl Try.func24 (by kernel_rfl) rfl #[.agg #[.slice A0_0 l0_0.length c0_0, .slice A0_1 l0_1.length c0_1, .int .i64 a0_2]] rfl (by (try simp only [List.map_toArray, List.map_cons, List.map_nil]); first | done | rfl | (simp only [List.length_drop, List.length_take]; rfl)) ?_; (with_reducible refine (posserlaw03_sure.calls k _ _ l0_0 _ _ l0_1 a0_2 t258 t261 _ ?side1 ?side2 ?side3 ?side4 A6.out).mono ?_); (case side1 => exact sCb HR0_0 HB); (case side2 => exact HC0_0.out); (case side3 => exact sCb HR0_1 HB); (case side4 => exact HC0_1.out); rintro e w22 ⟨v259, rfl, ho0, hb⟩; refine ⟨_, rfl, ?_⟩; have HO260 := Aside0.mk (Kd.N_lower (Kd.N_mono (ok' := fun k_ => some k_ ≠ (.slice Ao18 t248.length co18 : Value).ownBlock ∧ some k_ ≠ (.slice Ao19 t251.length co19 : Value).ownBlock ∧ k_ ≠ gb246) (Kd.S_N (Kd.S_bound ho0)) (fun k_ hk_ => ⟨(Kd.fresh' (Kd.R_lt (sR HO250)) k_ hk_.2.1), (Kd.fresh' (Kd.N_lt (sN_ HO253)) k_ hk_.2.1), (Kd.freshB (g := gb246) (o := .cells #[.slice A0_0 l0_0.length c0_0, .slice A0_1 l0_1.length c0_1, .int .i64 a0_2] 25 (0, 0)) (sbk BK246) k_ hk_.2.1)⟩)) (below_size (sbe1 HB GE246))); replace HO250 := Aside0.mk (Kd.R_below (sR HO250) hb); replace HO253 := Aside0.mk (Kd.N_elder' (sN_ HO253) (Kd.N_base (Kd.S_N ho0)) hb); replace BK246 := Aside0.mk (sbb BK246 hb); replace HB := Aside0.mk (sbs1 HB GE246 hb); (try clear hb); (try clear hb2); (try clear hk); (try clear hi); (try clear ho0); have hcz23_0 := sc 0 BK246; have hcz23_1 := sc 1 BK246; have hcz23_2 := sc 2 BK246; have hfz23_0 := blk_frozen BK246.out 0; have hfz23_1 := blk_frozen BK246.out 1; have hfz23_2 := blk_frozen BK246.out 2) | (go_at_call 21; (with_reducible refine (posserlaw03_awake.calls  t265 _ A12.out).mono ?_); rintro e w24 ⟨rfl, hb⟩; replace HO250 := Aside0.mk (Kd.R_below (sR HO250) hb); replace HO253 := Aside0.mk (Kd.N_below (sN_ HO253) hb); replace HO260 := Aside0.mk (Kd.N_below (sN_ HO260) hb); replace BK246 := Aside0.mk (sbb BK246 hb); replace HB := Aside0.mk (sbs1 HB GE246 hb); (try clear hb); (try clear hb2); (try clear hk); (try clear hi)))
       go_ret
       exact ⟨by first | rfl | (simp [errW_none, errW_some] <;> rfl) | (simp [*, errW_none, errW_some] <;> rfl), (sbe1 HB GE246)⟩
      ·rw [if_neg c11] at H
       exact absurd H (by simp)
     ·rw [if_neg c10] at H
      exact absurd H (by simp)
    ·rw [if_neg c9] at H
     exact absurd H (by simp)
   ·rw [if_neg c8] at H
    have c8b0 : ((l0_1.length : Int) == 0) = false := beq_eq_false_iff_ne.mpr c8
    have c8b1 : ((l0_1.length : Int) != 0) = true := bne_iff_ne.mpr c8
    have c8b2 : ¬ (l0_1 = []) := fun h_ => c8 (by rw [h_]; rfl)
    replace H := Option.bind_eq_some_iff.mp H
    obtain ⟨⟨t266, t267⟩, A250, H⟩ := H
    replace H : (if t257 = 0 then (if t255 = t266 then (if t256 = t267 then ((posserlaw03_awake.f).bind fun t268 => (some t268)) else (none)) else (none)) else (none)) = some r := H
    have A25 := Aside0.mk A250
    clear A250
    by_cases c26 : t257 = 0
    ·rw [if_pos c26] at H
     have c26b0 : (t257 == 0) = true := beq_iff_eq.mpr c26
     have c26b1 : (t257 != 0) = false := bne_eq_false_iff_eq.mpr c26
     clear c26
     by_cases c27 : t255 = t266
     ·rw [if_pos c27] at H
      have c27b0 : (t255 == t266) = true := beq_iff_eq.mpr c27
      have c27b1 : (t255 != t266) = false := bne_eq_false_iff_eq.mpr c27
      clear c27
      by_cases c28 : t256 = t267
      ·rw [if_pos c28] at H
       have c28b0 : (t256 == t267) = true := beq_iff_eq.mpr c28
       have c28b1 : (t256 != t267) = false := bne_eq_false_iff_eq.mpr c28
       clear c28
       replace H := Option.bind_eq_some_iff.mp H
       obtain ⟨t268, A290, H⟩ := H
       replace H : (some t268) = some r := H
       have A29 := Aside0.mk A290
       clear A290
       obtain rfl := Option.some.inj H
       go_enter Try.func5, Try.ntmps5
       go_wp2_with (first | ((with_reducible refine gate_dst (N := 1) rfl ?_); (try (refine gate_guard (by rfl) ?_; dsimp only)); refine sbox (N := 1) #[.slice A0_0 l0_0.length c0_0, .slice A0_1 l0_1.length c0_1, .int .i64 a0_2] 25 ?_; intro gb246 hg w30 hbox hb; have BK246 := Aside0.mk (hbox); have GW246 := Aside0.mk (sge hg HB : w.heap.size ≤ gb246); have GE246 := Aside0.mk (sge hg HB : w.heap.size ≤ gb246); replace HB := Aside0.mk (sbs HB hb); clear hb hbox hg; have hcz31_0 := sc 0 BK246; have hcz31_1 := sc 1 BK246; have hcz31_2 := sc 2 BK246; have hfz31_0 := blk_frozen BK246.out 0; have hfz31_1 := blk_frozen BK246.out 1; have hfz31_2 := blk_frozen BK246.out 2) | ((with_reducible refine gate_callee (f := 20) rfl ?_); refine goesL_ (some 11) rfl rfl Try.func20 (by kernel_rfl) rfl #[.agg #[.slice A0_0 l0_0.length c0_0, .slice A0_1 l0_1.length c0_1, .int .i64 a0_2]] rfl (by (try simp only [List.map_toArray, List.map_cons, List.map_nil]); first | done | rfl | (simp only [List.length_drop, List.length_take]; rfl)) ?_; (with_reducible refine (posserlaw03_Thin.calls k _ _ l0_0 _ _ l0_1 a0_2 true _ ?side1 ?side2 ?side3 ?side4 A2.out).mono ?_); (case side1 => exact sCb HR0_0 HB); (case side2 => exact HC0_0.out); (case side3 => exact sCb HR0_1 HB); (case side4 => exact HC0_1.out); rintro e w32 ⟨rfl, hb⟩; refine ⟨_, rfl, ?_⟩; replace BK246 := Aside0.mk (sbb BK246 hb); replace HB := Aside0.mk (sbs1 HB GE246 hb); (try clear hb); (try clear hb2); (try clear hk); (try clear hi); have hcz33_0 := sc 0 BK246; have hcz33_1 := sc 1 BK246; have hcz33_2 := sc 2 BK246; have hfz33_0 := blk_frozen BK246.out 0; have hfz33_1 := blk_frozen BK246.out 1; have hfz33_2 := blk_frozen BK246.out 2) | ((with_reducible refine gate_callee (f := 23) rfl ?_); refine goesL_ (some 16) rfl rfl Try.func23 (by kernel_rfl) rfl #[.agg #[.slice A0_0 l0_0.length c0_0, .slice A0_1 l0_1.length c0_1, .int .i64 a0_2]] rfl (by (try simp only [List.map_toArray, List.map_cons, List.map_nil]); first | done | rfl | (simp only [List.length_drop, List.length_take]; rfl)) ?_; (with_reducible refine (posserlaw03_Table.calls _ _ l0_0 _ _ l0_1 a0_2 t248 t251 t254 _ ?side1 ?side2 ?side3 ?side4 A4.out).mono ?_); (case side1 => exact sCb HR0_0 HB); (case side2 => exact HC0_0.out); (case side3 => exact sCb HR0_1 HB); (case side4 => exact HC0_1.out); rintro e w34 ⟨v249, v252, rfl, ho0, ho1, hb⟩; refine ⟨_, rfl, ?_⟩; have HO250 := Aside0.mk (Kd.R_lower (Kd.R_mono (ok' := fun k_ => True) ho0 (fun _ hk_ => trivial)) (below_size (sbe1 HB GE246))); have HO253 := Aside0.mk (Kd.N_lower (Kd.N_mono (ok' := fun k_ => some k_ ≠ (v249 : Value).ownBlock ∧ k_ ≠ gb246) ho1 (fun k_ hk_ => ⟨hk_.2, (Kd.freshB (g := gb246) (o := .cells #[.slice A0_0 l0_0.length c0_0, .slice A0_1 l0_1.length c0_1, .int .i64 a0_2] 25 (0, 0)) (sbk BK246) k_ hk_.1)⟩)) (below_size (sbe1 HB GE246))); replace BK246 := Aside0.mk (sbb BK246 hb); replace HB := Aside0.mk (sbs1 HB GE246 hb); (try clear hb); (try clear hb2); (try clear hk); (try clear hi); (try clear ho0); (try clear ho1); obtain ⟨Ao35, co35, eo35⟩ := Kd.R_slice HO250.out; subst eo35; obtain ⟨Ao36, co36, eo36⟩ := Kd.N_slice HO253.out; subst eo36) | ((with_reducible refine gate_callee (f := 29) rfl ?_); refine goesL_ (some 17) rfl rfl Try.func29 (by kernel_rfl) rfl #[.agg #[.slice Ao35 t248.length co35, .slice Ao36 t251.length co36, .int .i64 t254]] rfl (by (try simp only [List.map_toArray, List.map_cons, List.map_nil]); first | done | rfl | (simp only [List.length_drop, List.length_take]; rfl)) ?_; (with_reducible refine (bundle_Look.calls _ _ t248 _ _ t251 t254 t255 t256 t257 _ ?side1 ?side2 ?side3 ?side4 A5.out).mono ?_); (case side1 => repeat (first | exact (Kd.R_reads' HO250.out).2.2 | (with_reducible refine Kd.C_alloc ?_ _) | (with_reducible refine Kd.C_drewN ?_ _) | (with_reducible refine Kd.C_drew ?_))); (case side2 => exact (Kd.R_reads' HO250.out).2.1); (case side3 => repeat (first | exact (Kd.N_reads' HO253.out).2.2 | (with_reducible refine Kd.C_alloc ?_ _) | (with_reducible refine Kd.C_drewN ?_ _) | (with_reducible refine Kd.C_drew ?_))); (case side4 => exact (Kd.N_reads' HO253.out).2.1); rintro e w37 ⟨rfl, hb⟩; refine ⟨_, rfl, ?_⟩; replace HO250 := Aside0.mk (Kd.R_below (sR HO250) hb); replace HO253 := Aside0.mk (Kd.N_below (sN_ HO253) hb); replace BK246 := Aside0.mk (sbb BK246 hb); replace HB := Aside0.mk (sbs1 HB GE246 hb); (try clear hb); (try clear hb2); (try clear hk); (try clear hi); have hcz38_0 := sc 0 BK246; have hcz38_1 := sc 1 BK246; have hcz38_2 := sc 2 BK246; have hfz38_0 := blk_frozen BK246.out 0; have hfz38_1 := blk_frozen BK246.out 1; have hfz38_2 := blk_frozen BK246.out 2) | ((with_reducible refine gate_callee (f := 24) rfl ?_); refine goesL_ (some 23) rfl rfl Try.func24 (by kernel_rfl) rfl #[.agg #[.slice A0_0 l0_0.length c0_0, .slice A0_1 l0_1.length c0_1, .int .i64 a0_2]] rfl (by (try simp only [List.map_toArray, List.map_cons, List.map_nil]); first | done | rfl | (simp only [List.length_drop, List.length_take]; rfl)) ?_; (with_reducible refine (posserlaw03_sure.calls k _ _ l0_0 _ _ l0_1 a0_2 t258 t261 _ ?side1 ?side2 ?side3 ?side4 A6.out).mono ?_); (case side1 => exact sCb HR0_0 HB); (case side2 => exact HC0_0.out); (case side3 => exact sCb HR0_1 HB); (case side4 => exact HC0_1.out); rintro e w39 ⟨v259, rfl, ho0, hb⟩; refine ⟨_, rfl, ?_⟩; have HO260 := Aside0.mk (Kd.N_lower (Kd.N_mono (ok' := fun k_ => some k_ ≠ (.slice Ao35 t248.length co35 : Value).ownBlock ∧ some k_ ≠ (.slice Ao36 t251.length co36 : Value).ownBlock ∧ k_ ≠ gb246) (Kd.S_N (Kd.S_bound ho0)) (fun k_ hk_ => ⟨(Kd.fresh' (Kd.R_lt (sR HO250)) k_ hk_.2.1), (Kd.fresh' (Kd.N_lt (sN_ HO253)) k_ hk_.2.1), (Kd.freshB (g := gb246) (o := .cells #[.slice A0_0 l0_0.length c0_0, .slice A0_1 l0_1.length c0_1, .int .i64 a0_2] 25 (0, 0)) (sbk BK246) k_ hk_.2.1)⟩)) (below_size (sbe1 HB GE246))); replace HO250 := Aside0.mk (Kd.R_below (sR HO250) hb); replace HO253 := Aside0.mk (Kd.N_elder' (sN_ HO253) (Kd.N_base (Kd.S_N ho0)) hb); replace BK246 := Aside0.mk (sbb BK246 hb); replace HB := Aside0.mk (sbs1 HB GE246 hb); (try clear hb); (try clear hb2); (try clear hk); (try clear hi); (try clear ho0); have hcz40_0 := sc 0 BK246; have hcz40_1 := sc 1 BK246; have hcz40_2 := sc 2 BK246; have hfz40_0 := blk_frozen BK246.out 0; have hfz40_1 := blk_frozen BK246.out 1; have hfz40_2 := blk_frozen BK246.out 2; obtain ⟨Ao41, co41, eo41⟩ := Kd.N_slice HO260.out; subst eo41) | ((with_reducible refine gate_callee (f := 30) rfl ?_); refine goesL_ (some 53) rfl rfl Try.func30 (by kernel_rfl) rfl #[.agg #[.slice A0_0 l0_0.length c0_0, .slice A0_1 l0_1.length c0_1, .int .i64 a0_2], .slice Ao41 t258.length co41] rfl (by (try simp only [List.map_toArray, List.map_cons, List.map_nil]); first | done | rfl | (simp only [List.length_drop, List.length_take]; rfl)) ?_; (with_reducible refine (posserref03_Look.calls k _ _ l0_0 _ _ l0_1 a0_2 _ _ t258 t266 t267 _ ?side1 ?side2 ?side3 ?side4 ?side5 ?side6 A25.out).mono ?_); (case side1 => exact sCb HR0_0 HB); (case side2 => exact HC0_0.out); (case side3 => exact sCb HR0_1 HB); (case side4 => exact HC0_1.out); (case side5 => repeat (first | exact (Kd.N_reads' HO260.out).2.2 | (with_reducible refine Kd.C_alloc ?_ _) | (with_reducible refine Kd.C_drewN ?_ _) | (with_reducible refine Kd.C_drew ?_))); (case side6 => exact (Kd.N_reads' HO260.out).2.1); rintro e w42 ⟨rfl, hb⟩; refine ⟨_, rfl, ?_⟩; replace HO250 := Aside0.mk (Kd.R_below (sR HO250) hb); replace HO253 := Aside0.mk (Kd.N_below (sN_ HO253) hb); replace HO260 := Aside0.mk (Kd.N_below (sN_ HO260) hb); replace BK246 := Aside0.mk (sbb BK246 hb); replace HB := Aside0.mk (sbs1 HB GE246 hb); (try clear hb); (try clear hb2); (try clear hk); (try clear hi)) | (go_at_call 21; (with_reducible refine (posserlaw03_awake.calls  t268 _ A29.out).mono ?_); rintro e w43 ⟨rfl, hb⟩; replace HO250 := Aside0.mk (Kd.R_below (sR HO250) hb); replace HO253 := Aside0.mk (Kd.N_below (sN_ HO253) hb); replace HO260 := Aside0.mk (Kd.N_below (sN_ HO260) hb); replace BK246 := Aside0.mk (sbb BK246 hb); replace HB := Aside0.mk (sbs1 HB GE246 hb); (try clear hb); (try clear hb2); (try clear hk); (try clear hi)))
       go_ret
       exact ⟨by first | rfl | (simp [errW_none, errW_some] <;> rfl) | (simp [*, errW_none, errW_some] <;> rfl), (sbe1 HB GE246)⟩
      ·rw [if_neg c28] at H
       exact absurd H (by simp)
     ·rw [if_neg c27] at H
      exact absurd H (by simp)
    ·rw [if_neg c26] at H
     exact absurd H (by simp)
  ·rw [if_neg c7] at H
   have c7b0 : (t261 == 0) = false := beq_eq_false_iff_ne.mpr c7
   have c7b1 : (t261 != 0) = true := bne_iff_ne.mpr c7
   by_cases c44 : t257 = t261
   ·rw [if_pos c44] at H
    have c44b0 : (t257 == t261) = true := beq_iff_eq.mpr c44
    have c44b1 : (t257 != t261) = false := bne_eq_false_iff_eq.mpr c44
    clear c44
    by_cases c45 : t255 = 0
    ·rw [if_pos c45] at H
     have c45b0 : (t255 == 0) = true := beq_iff_eq.mpr c45
     have c45b1 : (t255 != 0) = false := bne_eq_false_iff_eq.mpr c45
     clear c45
     by_cases c46 : t256 = 0
     ·rw [if_pos c46] at H
      have c46b0 : (t256 == 0) = true := beq_iff_eq.mpr c46
      have c46b1 : (t256 != 0) = false := bne_eq_false_iff_eq.mpr c46
      clear c46
      replace H := Option.bind_eq_some_iff.mp H
      obtain ⟨t269, A470, H⟩ := H
      replace H : (some t269) = some r := H
      have A47 := Aside0.mk A470
      clear A470
      obtain rfl := Option.some.inj H
      go_enter Try.func5, Try.ntmps5
      go_wp2_with (first | ((with_reducible refine gate_dst (N := 1) rfl ?_); (try (refine gate_guard (by rfl) ?_; dsimp only)); refine sbox (N := 1) #[.slice A0_0 l0_0.length c0_0, .slice A0_1 l0_1.length c0_1, .int .i64 a0_2] 25 ?_; intro gb246 hg w48 hbox hb; have BK246 := Aside0.mk (hbox); have GW246 := Aside0.mk (sge hg HB : w.heap.size ≤ gb246); have GE246 := Aside0.mk (sge hg HB : w.heap.size ≤ gb246); replace HB := Aside0.mk (sbs HB hb); clear hb hbox hg; have hcz49_0 := sc 0 BK246; have hcz49_1 := sc 1 BK246; have hcz49_2 := sc 2 BK246; have hfz49_0 := blk_frozen BK246.out 0; have hfz49_1 := blk_frozen BK246.out 1; have hfz49_2 := blk_frozen BK246.out 2) | ((with_reducible refine gate_callee (f := 20) rfl ?_); refine goesL_ (some 11) rfl rfl Try.func20 (by kernel_rfl) rfl #[.agg #[.slice A0_0 l0_0.length c0_0, .slice A0_1 l0_1.length c0_1, .int .i64 a0_2]] rfl (by (try simp only [List.map_toArray, List.map_cons, List.map_nil]); first | done | rfl | (simp only [List.length_drop, List.length_take]; rfl)) ?_; (with_reducible refine (posserlaw03_Thin.calls k _ _ l0_0 _ _ l0_1 a0_2 true _ ?side1 ?side2 ?side3 ?side4 A2.out).mono ?_); (case side1 => exact sCb HR0_0 HB); (case side2 => exact HC0_0.out); (case side3 => exact sCb HR0_1 HB); (case side4 => exact HC0_1.out); rintro e w50 ⟨rfl, hb⟩; refine ⟨_, rfl, ?_⟩; replace BK246 := Aside0.mk (sbb BK246 hb); replace HB := Aside0.mk (sbs1 HB GE246 hb); (try clear hb); (try clear hb2); (try clear hk); (try clear hi); have hcz51_0 := sc 0 BK246; have hcz51_1 := sc 1 BK246; have hcz51_2 := sc 2 BK246; have hfz51_0 := blk_frozen BK246.out 0; have hfz51_1 := blk_frozen BK246.out 1; have hfz51_2 := blk_frozen BK246.out 2) | ((with_reducible refine gate_callee (f := 23) rfl ?_); refine goesL_ (some 16) rfl rfl Try.func23 (by kernel_rfl) rfl #[.agg #[.slice A0_0 l0_0.length c0_0, .slice A0_1 l0_1.length c0_1, .int .i64 a0_2]] rfl (by (try simp only [List.map_toArray, List.map_cons, List.map_nil]); first | done | rfl | (simp only [List.length_drop, List.length_take]; rfl)) ?_; (with_reducible refine (posserlaw03_Table.calls _ _ l0_0 _ _ l0_1 a0_2 t248 t251 t254 _ ?side1 ?side2 ?side3 ?side4 A4.out).mono ?_); (case side1 => exact sCb HR0_0 HB); (case side2 => exact HC0_0.out); (case side3 => exact sCb HR0_1 HB); (case side4 => exact HC0_1.out); rintro e w52 ⟨v249, v252, rfl, ho0, ho1, hb⟩; refine ⟨_, rfl, ?_⟩; have HO250 := Aside0.mk (Kd.R_lower (Kd.R_mono (ok' := fun k_ => True) ho0 (fun _ hk_ => trivial)) (below_size (sbe1 HB GE246))); have HO253 := Aside0.mk (Kd.N_lower (Kd.N_mono (ok' := fun k_ => some k_ ≠ (v249 : Value).ownBlock ∧ k_ ≠ gb246) ho1 (fun k_ hk_ => ⟨hk_.2, (Kd.freshB (g := gb246) (o := .cells #[.slice A0_0 l0_0.length c0_0, .slice A0_1 l0_1.length c0_1, .int .i64 a0_2] 25 (0, 0)) (sbk BK246) k_ hk_.1)⟩)) (below_size (sbe1 HB GE246))); replace BK246 := Aside0.mk (sbb BK246 hb); replace HB := Aside0.mk (sbs1 HB GE246 hb); (try clear hb); (try clear hb2); (try clear hk); (try clear hi); (try clear ho0); (try clear ho1); obtain ⟨Ao53, co53, eo53⟩ := Kd.R_slice HO250.out; subst eo53; obtain ⟨Ao54, co54, eo54⟩ := Kd.N_slice HO253.out; subst eo54) | ((with_reducible refine gate_callee (f := 29) rfl ?_); refine goesL_ (some 17) rfl rfl Try.func29 (by kernel_rfl) rfl #[.agg #[.slice Ao53 t248.length co53, .slice Ao54 t251.length co54, .int .i64 t254]] rfl (by (try simp only [List.map_toArray, List.map_cons, List.map_nil]); first | done | rfl | (simp only [List.length_drop, List.length_take]; rfl)) ?_; (with_reducible refine (bundle_Look.calls _ _ t248 _ _ t251 t254 t255 t256 t257 _ ?side1 ?side2 ?side3 ?side4 A5.out).mono ?_); (case side1 => repeat (first | exact (Kd.R_reads' HO250.out).2.2 | (with_reducible refine Kd.C_alloc ?_ _) | (with_reducible refine Kd.C_drewN ?_ _) | (with_reducible refine Kd.C_drew ?_))); (case side2 => exact (Kd.R_reads' HO250.out).2.1); (case side3 => repeat (first | exact (Kd.N_reads' HO253.out).2.2 | (with_reducible refine Kd.C_alloc ?_ _) | (with_reducible refine Kd.C_drewN ?_ _) | (with_reducible refine Kd.C_drew ?_))); (case side4 => exact (Kd.N_reads' HO253.out).2.1); rintro e w55 ⟨rfl, hb⟩; refine ⟨_, rfl, ?_⟩; replace HO250 := Aside0.mk (Kd.R_below (sR HO250) hb); replace HO253 := Aside0.mk (Kd.N_below (sN_ HO253) hb); replace BK246 := Aside0.mk (sbb BK246 hb); replace HB := Aside0.mk (sbs1 HB GE246 hb); (try clear hb); (try clear hb2); (try clear hk); (try clear hi); have hcz56_0 := sc 0 BK246; have hcz56_1 := sc 1 BK246; have hcz56_2 := sc 2 BK246; have hfz56_0 := blk_frozen BK246.out 0; have hfz56_1 := blk_frozen BK246.out 1; have hfz56_2 := blk_frozen BK246.out 2) | ((with_reducible refine gate_callee (f := 24) rfl ?_); refine goesL_ (some 23) rfl rfl Try.func24 (by kernel_rfl) rfl #[.agg #[.slice A0_0 l0_0.length c0_0, .slice A0_1 l0_1.length c0_1, .int .i64 a0_2]] rfl (by (try simp only [List.map_toArray, List.map_cons, List.map_nil]); first | done | rfl | (simp only [List.length_drop, List.length_take]; rfl)) ?_; (with_reducible refine (posserlaw03_sure.calls k _ _ l0_0 _ _ l0_1 a0_2 t258 t261 _ ?side1 ?side2 ?side3 ?side4 A6.out).mono ?_); (case side1 => exact sCb HR0_0 HB); (case side2 => exact HC0_0.out); (case side3 => exact sCb HR0_1 HB); (case side4 => exact HC0_1.out); rintro e w57 ⟨v259, rfl, ho0, hb⟩; refine ⟨_, rfl, ?_⟩; have HO260 := Aside0.mk (Kd.N_lower (Kd.N_mono (ok' := fun k_ => some k_ ≠ (.slice Ao53 t248.length co53 : Value).ownBlock ∧ some k_ ≠ (.slice Ao54 t251.length co54 : Value).ownBlock ∧ k_ ≠ gb246) (Kd.S_N (Kd.S_bound ho0)) (fun k_ hk_ => ⟨(Kd.fresh' (Kd.R_lt (sR HO250)) k_ hk_.2.1), (Kd.fresh' (Kd.N_lt (sN_ HO253)) k_ hk_.2.1), (Kd.freshB (g := gb246) (o := .cells #[.slice A0_0 l0_0.length c0_0, .slice A0_1 l0_1.length c0_1, .int .i64 a0_2] 25 (0, 0)) (sbk BK246) k_ hk_.2.1)⟩)) (below_size (sbe1 HB GE246))); replace HO250 := Aside0.mk (Kd.R_below (sR HO250) hb); replace HO253 := Aside0.mk (Kd.N_elder' (sN_ HO253) (Kd.N_base (Kd.S_N ho0)) hb); replace BK246 := Aside0.mk (sbb BK246 hb); replace HB := Aside0.mk (sbs1 HB GE246 hb); (try clear hb); (try clear hb2); (try clear hk); (try clear hi); (try clear ho0)) | (go_at_call 21; (with_reducible refine (posserlaw03_awake.calls  t269 _ A47.out).mono ?_); rintro e w58 ⟨rfl, hb⟩; replace HO250 := Aside0.mk (Kd.R_below (sR HO250) hb); replace HO253 := Aside0.mk (Kd.N_below (sN_ HO253) hb); replace HO260 := Aside0.mk (Kd.N_below (sN_ HO260) hb); replace BK246 := Aside0.mk (sbb BK246 hb); replace HB := Aside0.mk (sbs1 HB GE246 hb); (try clear hb); (try clear hb2); (try clear hk); (try clear hi)))
      go_ret
      exact ⟨by first | rfl | (simp [errW_none, errW_some] <;> rfl) | (simp [*, errW_none, errW_some] <;> rfl), (sbe1 HB GE246)⟩
     ·rw [if_neg c46] at H
      exact absurd H (by simp)
    ·rw [if_neg c45] at H
     exact absurd H (by simp)
   ·rw [if_neg c44] at H
    exact absurd H (by simp)
 ·replace c3 := Bool.eq_false_iff.mpr c3
  subst c3
  have H1 : ((posserlaw03_awake.f).bind fun t270 => (some t270)) = some r := by rw [if_neg (show ¬ (false = true) by decide)] at H; exact H
  clear H
  have H := H1
  clear H1
  replace H := Option.bind_eq_some_iff.mp H
  obtain ⟨t270, A590, H⟩ := H
  replace H : (some t270) = some r := H
  have A59 := Aside0.mk A590
  clear A590
  obtain rfl := Option.some.inj H
  go_enter Try.func5, Try.ntmps5
  go_wp2_with (first | ((with_reducible refine gate_dst (N := 1) rfl ?_); (try (refine gate_guard (by rfl) ?_; dsimp only)); refine sbox (N := 1) #[.slice A0_0 l0_0.length c0_0, .slice A0_1 l0_1.length c0_1, .int .i64 a0_2] 25 ?_; intro gb246 hg w60 hbox hb; have BK246 := Aside0.mk (hbox); have GW246 := Aside0.mk (sge hg HB : w.heap.size ≤ gb246); have GE246 := Aside0.mk (sge hg HB : w.heap.size ≤ gb246); replace HB := Aside0.mk (sbs HB hb); clear hb hbox hg; have hcz61_0 := sc 0 BK246; have hcz61_1 := sc 1 BK246; have hcz61_2 := sc 2 BK246; have hfz61_0 := blk_frozen BK246.out 0; have hfz61_1 := blk_frozen BK246.out 1; have hfz61_2 := blk_frozen BK246.out 2) | ((with_reducible refine gate_callee (f := 20) rfl ?_); refine goesL_ (some 11) rfl rfl Try.func20 (by kernel_rfl) rfl #[.agg #[.slice A0_0 l0_0.length c0_0, .slice A0_1 l0_1.length c0_1, .int .i64 a0_2]] rfl (by (try simp only [List.map_toArray, List.map_cons, List.map_nil]); first | done | rfl | (simp only [List.length_drop, List.length_take]; rfl)) ?_; (with_reducible refine (posserlaw03_Thin.calls k _ _ l0_0 _ _ l0_1 a0_2 false _ ?side1 ?side2 ?side3 ?side4 A2.out).mono ?_); (case side1 => exact sCb HR0_0 HB); (case side2 => exact HC0_0.out); (case side3 => exact sCb HR0_1 HB); (case side4 => exact HC0_1.out); rintro e w62 ⟨rfl, hb⟩; refine ⟨_, rfl, ?_⟩; replace BK246 := Aside0.mk (sbb BK246 hb); replace HB := Aside0.mk (sbs1 HB GE246 hb); (try clear hb); (try clear hb2); (try clear hk); (try clear hi)) | ((with_reducible refine gate_callee (f := 21) rfl ?_); refine goesL_ (some 13) rfl rfl Try.func21 (by kernel_rfl) rfl #[] rfl (by (try simp only [List.map_toArray, List.map_cons, List.map_nil]); first | done | rfl | (simp only [List.length_drop, List.length_take]; rfl)) ?_; (with_reducible refine (posserlaw03_awake.calls  t270 _ A59.out).mono ?_); rintro e w63 ⟨rfl, hb⟩; refine ⟨_, rfl, ?_⟩; replace BK246 := Aside0.mk (sbb BK246 hb); replace HB := Aside0.mk (sbs1 HB GE246 hb); (try clear hb); (try clear hb2); (try clear hk); (try clear hi)))
  go_ret
  exact ⟨by first | rfl | (simp [errW_none, errW_some] <;> rfl) | (simp [*, errW_none, errW_some] <;> rfl), (sbe1 HB GE246)⟩
end Go.Proofs.Ytnbbbeghgomnoaa.X
namespace Go.Proofs.Ytnbbbeghgomnoaa.X
open Go.RowKit Go.Proofs.YtnbbbeghgomnoaaW.PrintWords Go.Proofs.YtnbbbeghgomnoaaW.PrintLast Go.Proofs.YtnbbbeghgomnoaaW.PrintMore
theorem mx_ge (a b : Int) : a ≤ mx a b ∧ b ≤ mx a b ∧ (mx a b = a ∨ mx a b = b) := by
 unfold mx
 split
 ·exact ⟨by omega, by omega, .inr rfl⟩
 ·exact ⟨by omega, by omega, .inl rfl⟩
theorem Leaves_ev {l0 : List S85} {l1 : List S71} (wg : Int) (h0 : l0.length ≤ 30) (ts : List (List Int)) (hts : ts.length ≤ 100000) (i : Nat) (hi : i < l1.length) (hel : ∀ x ∈ ts, x.length = l1.length) : Evt (fun k => posserref03_Leaves.f k l0 l1 wg ts (i : Int)) (mostL l1.length ts (i : Int) l0.length) := by
 have hmany : ∀ w : Nat, manyS l1.length ts (i : Int) (w : Int) = ((ts.filter fun x => x.getD i 0 == (w : Int)).length : Int) := fun w => by
  unfold manyS
  rw [if_pos ⟨by omega, by omega⟩, Int.toNat_natCast]; rfl
 have inner : ∀ (w : Nat) (m X : Int), Evt (fun k => posserref03_Leaves.l0 k ts (i : Int) (mx m (manyS l1.length ts (i : Int) (w : Int))) ((w + 1 : Nat) : Int) l0 l1 wg) X → w < l0.length → ∀ (d j : Nat), j + d = ts.length → Evt (fun k => posserref03_Leaves.l1 k ts (i : Int) m (w : Int) (((ts.take j).filter fun x => x.getD i 0 == (w : Int)).length : Int) (j : Int) l0 l1 wg) X := by
  intro w m X hX hw d
  induction d with
  | zero =>
   intro j hj
   obtain rfl : j = ts.length := by omega
   rw [List.take_length, ← hmany]
   refine Evt.succ hX (fun k => ?_)
   simp only [posserref03_Leaves.l1]
   rw [if_neg (by omega), wrap_succ w _ hw (by omega)]
  | succ d ih =>
   intro j hj
   have hlt : j < ts.length := by omega
   have hg : rd_L1 ts (j : Int) = ts[j] := by
    show ts.getD j [] = _
    rw [List.getD_eq_getElem?_getD, List.getElem?_eq_getElem hlt]; rfl
   have hl := hel _ (List.getElem_mem hlt)
   have h2 := ih (j + 1) (by omega)
   have hfl : ((ts.take j).filter fun x => x.getD i 0 == (w : Int)).length ≤ j := Nat.le_trans (List.length_filter_le _ _) (List.length_take_le _ _)
   rw [List.take_succ_eq_append_getElem hlt, List.filter_append, List.length_append] at h2
   refine Evt.succ h2 (fun k => ?_)
   simp only [posserref03_Leaves.l1]
   rw [if_pos (by omega), if_pos (by omega), if_pos (by omega), hg, if_pos (by omega), rd_nat, wrap_succ j _ hlt (by omega)]
   by_cases he : ts[j].getD i 0 = (w : Int)
   ·rw [if_pos he, List.filter_cons_of_pos (by simpa using he), List.filter_nil, List.length_singleton, wrap_succ _ (j + 1) (by omega) (by omega)]
   ·rw [if_neg he, List.filter_cons_of_neg (by simpa using he), List.filter_nil, List.length_nil]; rfl
 have main : ∀ (d w : Nat), w + d = l0.length → Evt (fun k => posserref03_Leaves.l0 k ts (i : Int) (mostL l1.length ts (i : Int) w) (w : Int) l0 l1 wg) (mostL l1.length ts (i : Int) l0.length) := by
  intro d
  induction d with
  | zero =>
   intro w hw
   obtain rfl : w = l0.length := by omega
   refine Evt.succ (Evt.const _) (fun k => ?_)
   simp only [posserref03_Leaves.l0]
   rw [if_neg (by omega)]
  | succ d ih =>
   intro w hw
   have hlt : w < l0.length := by omega
   have h2 := ih (w + 1) (by omega)
   rw [mostL_succ] at h2
   refine Evt.succ (inner w _ _ h2 hlt ts.length 0 (by omega)) (fun k => ?_)
   simp only [posserref03_Leaves.l0]
   rw [if_pos (by omega)]; rfl
 exact main l0.length 0 (by omega)
theorem mostL_le (n1 : Nat) (ts : List (List Int)) (i : Int) (m : Nat) : 0 ≤ mostL n1 ts i m ∧ mostL n1 ts i m ≤ ts.length := by
 induction m with
 | zero => exact ⟨Int.le_refl _, by show (0 : Int) ≤ _; omega⟩
 | succ m ih =>
  rw [mostL_succ]
  have := manyS_bound n1 ts i (m : Int)
  rcases (mx_ge (mostL n1 ts i m) (manyS n1 ts i (m : Int))).2.2 with e | e <;> rw [e] <;> omega
theorem Look_ev {l0 : List S85} {l1 : List S71} (wg : Int) (h0 : l0.length ≤ 30) (h1 : l1.length ≤ 30) (hp : l1.length ≠ 0) (ts : List (List Int)) (hts : ts.length ≤ 100000) (hel : ∀ x ∈ ts, x.length = l1.length) : Evt (fun k => posserref03_Look.f k l0 l1 wg ts) (lookL l0.length l1.length ts l1.length) := by
 have main : ∀ (d i : Nat), i + d = l1.length → 0 < i → Evt (fun k => posserref03_Look.l0 k ts (lookL l0.length l1.length ts i).1 (lookL l0.length l1.length ts i).2 (i : Int) l0 l1 wg) (lookL l0.length l1.length ts l1.length) := by
  intro d
  induction d with
  | zero =>
   intro i hi _
   obtain rfl : i = l1.length := by omega
   refine Evt.succ (Evt.const _) (fun k => ?_)
   simp only [posserref03_Look.l0]
   rw [if_neg (by omega)]
  | succ d ih =>
   intro i hi hpos
   have hlt : i < l1.length := by omega
   obtain ⟨K, hK⟩ := Leaves_ev (l0 := l0) (l1 := l1) wg h0 ts hts i hlt hel
   obtain ⟨L, hL⟩ := ih (i + 1) (by omega) (by omega)
   refine ⟨K + L + 1, fun k hk => ?_⟩
   obtain ⟨k, rfl⟩ : ∃ m, k = m + 1 := ⟨k - 1, by omega⟩
   have g1 := hK k (by omega)
   have g2 := hL k (by omega)
   dsimp only at g1 g2 ⊢
   simp only [posserref03_Look.l0]
   rw [if_pos (by omega), g1]
   simp only [Option.bind_some]
   rw [lookL_succ] at g2
   rw [wrap_succ i _ hlt (by omega)]
   by_cases hc : mostL l1.length ts (i : Int) l0.length < (lookL l0.length l1.length ts i).2
   ·rw [if_pos hc] at g2 ⊢; exact g2
   ·rw [if_neg hc] at g2 ⊢; exact g2
 obtain ⟨K, hK⟩ := Leaves_ev (l0 := l0) (l1 := l1) wg h0 ts hts 0 (by omega) hel
 obtain ⟨L, hL⟩ := main (l1.length - 1) 1 (by omega) (by omega)
 have hb := mostL_le l1.length ts 0 l0.length
 have hone : lookL l0.length l1.length ts 1 = (0, mostL l1.length ts 0 l0.length) := by
  rw [show (1 : Nat) = 0 + 1 from rfl, lookL_succ]
  have hz : lookL l0.length l1.length ts 0 = (0, (ts.length : Int) + 1) := rfl
  rw [hz]
  show (if mostL l1.length ts ((0 : Nat) : Int) l0.length < (ts.length : Int) + 1 then _ else _) = _
  rw [if_pos (by show mostL l1.length ts 0 l0.length < _; omega)]; rfl
 refine ⟨K + L, fun k hk => ?_⟩
 have g1 := hK k (by omega)
 have g2 := hL k (by omega)
 dsimp only at g1 g2 ⊢
 unfold posserref03_Look.f
 rw [show (0 : Int) = ((0 : Nat) : Int) from rfl, g1]
 simp only [Option.bind_some]
 rw [hone] at g2
 exact g2
end Go.Proofs.Ytnbbbeghgomnoaa.X
namespace Go.Proofs.Ytnbbbeghgomnoaa.X
open Go.RowKit Go.Proofs.YtnbbbeghgomnoaaW.PrintWords Go.Proofs.YtnbbbeghgomnoaaW.PrintLast Go.Proofs.YtnbbbeghgomnoaaW.PrintMore
theorem BundleLooks_pure (l0 : List S85) (l1 : List S71) (wg : Int) : ∃ k, posserlaw03_BundleLooks.f k l0 l1 wg = some true := by
 obtain ⟨K, hK⟩ := Thin_ev l0 l1 wg
 cases hth : thinR l0 l1 with
 | false =>
  refine ⟨K, ?_⟩
  have g1 := hK K (Nat.le_refl _)
  dsimp only at g1
  unfold posserlaw03_BundleLooks.f
  rw [g1, hth]; rfl
 | true =>
  have ht := thinR_iff.1 hth
  obtain ⟨L, hL⟩ := sure_ev wg ht
  have hT : posserlaw03_Table.f l0 l1 wg = some (l0.map cvW, l1.map cvP, wg) := by
   unfold posserlaw03_Table.f
   rw [hth]; rfl
  have hW : bundle_Look.f (l0.map cvW) (l1.map cvP) wg = some (if askE (l0.map cvW) (l1.map cvP) wg = 0 then (if l1.length = 0 then (0, 0, 7) else ((lookL l0.length l1.length (truthsL (l0.map cvW) (l1.map cvP) wg) l1.length).1, (lookL l0.length l1.length (truthsL (l0.map cvW) (l1.map cvP) wg) l1.length).2, 0)) else (0, 0, askE (l0.map cvW) (l1.map cvP) wg)) := by
   unfold bundle_Look.f
   rw [if_pos (thinP_of ht), List.length_map, List.length_map]
  by_cases he : askE (l0.map cvW) (l1.map cvP) wg = 0
  ·obtain ⟨hc, hne⟩ := askE_zero he
   have hv := VR.of ht hc
   obtain ⟨ts, hts⟩ : ∃ ts, truthsL (l0.map cvW) (l1.map cvP) wg = ts := ⟨_, rfl⟩
   have hlen : ts.length ≤ 2000 := by
    rw [← hts]
    exact Nat.le_trans (List.length_filter_le _ _) hv.mny
   have hel : ∀ x ∈ ts, x.length = l1.length := by
    intro x hx
    rw [← hts] at hx
    rw [((allL_mem _ _ x).1 (truths_mem hx)).1, List.length_map]
   by_cases hp : l1.length = 0
   ·refine ⟨K + L, ?_⟩
    have g1 := hK (K + L) (by omega)
    have g2 := hL (K + L) (by omega)
    dsimp only at g1 g2
    unfold posserlaw03_BundleLooks.f
    rw [g1, hth]
    simp only [Option.bind_some, if_true]
    rw [hT]
    simp only [Option.bind_some]
    rw [hW]
    simp only [Option.bind_some]
    rw [g2]
    simp only [Option.bind_some]
    rw [if_pos he, if_pos he, if_pos hp]
    dsimp only
    rw [if_pos rfl, if_pos (by omega)]; rfl
   ·obtain ⟨M, hM⟩ := Look_ev (l0 := l0) (l1 := l1) wg ht.n0 ht.n1 hp ts (by omega) hel
    refine ⟨K + L + M, ?_⟩
    have g1 := hK (K + L + M) (by omega)
    have g2 := hL (K + L + M) (by omega)
    have g3 := hM (K + L + M) (by omega)
    dsimp only at g1 g2 g3
    unfold posserlaw03_BundleLooks.f
    rw [g1, hth]
    simp only [Option.bind_some, if_true]
    rw [hT]
    simp only [Option.bind_some]
    rw [hW]
    simp only [Option.bind_some]
    rw [g2]
    simp only [Option.bind_some]
    rw [if_pos he, if_pos he, if_neg hp, hts]
    dsimp only
    rw [if_pos rfl, if_neg (by omega), g3]
    simp only [Option.bind_some]
    simp only [if_true]; rfl
  ·refine ⟨K + L, ?_⟩
   have g1 := hK (K + L) (by omega)
   have g2 := hL (K + L) (by omega)
   dsimp only at g1 g2
   unfold posserlaw03_BundleLooks.f
   rw [g1, hth]
   simp only [Option.bind_some, if_true]
   rw [hT]
   simp only [Option.bind_some]
   rw [hW]
   simp only [Option.bind_some]
   rw [g2]
   simp only [Option.bind_some]
   rw [if_neg he, if_neg he]
   dsimp only
   rw [if_neg he, if_pos rfl, if_pos rfl, if_pos rfl]; rfl
theorem BundleLooks_walk (A0 : Option Addr) (c0 : Nat) (l0 : List S85) (A1 : Option Addr) (c1 : Nat) (l1 : List S71) (wg : Int) (W : World) (C0 : Kd.C k85 W A0 l0.length l0) (g0 : l0.length ≤ c0) (C1 : Kd.C k71 W A1 l1.length l1) (g1 : l1.length ≤ c1) :
  Calls Try.prog 5 #[.agg #[.slice A0 l0.length c0, .slice A1 l1.length c1, .int .i64 wg]] W fun e w' => e = .returned (.bool true) ∧ Below W.heap.size W w' := by
 obtain ⟨k, hk⟩ := BundleLooks_pure l0 l1 wg
 exact posserlaw03_BundleLooks.calls k A0 c0 l0 A1 c1 l1 wg true W C0 g0 C1 g1 hk
end Go.Proofs.Ytnbbbeghgomnoaa.X
namespace Go.Proofs.Ytnbbbeghgomnoaa.bundleLooks
open Go.ChangeShapes Go.WideShapes Go.ChangeAt Go.RowKit
open Go.ChangeMaps (open_string shut_string)
open Go.Proofs.Ytnbbbeghgomnoaa.X
theorem own : ownKnob Try.prog.godebug = none := by kernel_rfl
theorem laidOut : laidOutB Try.prog = true := by kernel_rfl
set_option maxRecDepth 100000 in
theorem lifted (os : Os) (started : os.Started) (H : Type) (enc : TypeId × Value → H) :
  ReturnsInHanded {} Try.checked os 5 .any (Rows.bundleLooksSpec.pre6 enc Try.prog Try.f5 Rows.bundleLooksRow.domain false) (Rows.bundleLooksSpec.post enc Try.prog Try.f5 false true false false) := by
 refine returnsInHanded_of_change_sized (C := Try.checked) own started (by kernel_rfl) Try.func5
  (ChangeSpec.witness6 (enc := enc) (C := Try.checked) false ⟨#[], #[.agg #[.slice none 0 0, .slice none 0 0, .int .i64 0]], []⟩ 8 (by kernel_rfl) (by kernel_rfl) (by kernel_rfl) (by kernel_rfl)) ?_
 intro W base args ds gs before hval0 hW hcnd hsz0 _
 have hsz : (DataW.weightsEach Try.prog (Try.f5.params.toList ++ Rows.bundleLooksSpec.plain.varTypes Try.prog) (ds ++ gs)).all (· ≤ reachBytes) = true := hsz0
 have hval : ∀ (j : Nat) t v, Try.f5.params[j]? = some t → args[j]? = some v → Value.okWide Try.prog W .any base t v := hval0
 have hW' := hW
 obtain ⟨p, q, hA0, hV, rfl, hfz, hnd⟩ := hW
 have hA : DataW.TrodAll enc Try.prog W 0 (fun _ => true) true Try.f5.params.toList args.toList ds p := hA0
 rw [Try.params5] at hA hval hsz
 obtain ⟨v0, vs0, d0, ds0, p0, q0, hargs, rfl, rfl, h0, r0⟩ := trodAll_cons hA
 obtain ⟨rfl, rfl, rfl⟩ := trodAll_nil r0
 obtain rfl : args = #[v0] := by cases args; simp_all
 obtain ⟨rfl, rfl⟩ := trodVars_none hV
 have k0 := h0
 have lt0 : ∀ x ∈ p0, x.block < W.heap.size := by obtain ⟨m, hm⟩ := k0; exact DataW.trod_lt m _ _ _ hm
 obtain ⟨A0, c0, l0, A1, c1, l1, wg, rfl, C0, g0, C1, g1⟩ := open_table (hval 0 25 v0 rfl rfl) h0
 clear hA0 hval0 hsz0 hsz
 refine (BundleLooks_walk A0 c0 l0 A1 c1 l1 wg W C0 g0 C1 g1).mono fun e W' ⟨he, bel⟩ => ?_
 subst he
 exact ⟨_, rfl, _, _, _, [], _, [], hW', trodAll_mk1 (shut_bool Try.underlying4 _), (trodAll_cons_mk (Below.trod laidOut (by kernel_rfl) (of_decide_eq_true (by kernel_rfl)) k0 bel lt0) trodAll_mk0), rfl, bel.frame _, fun h => by cases h⟩
theorem over : Rows.bundleLooksRow.holds Try.pinned (OpenSpec.ofChange Rows.bundleLooksSpec) :=
 OpenClaim.holds_of_wide 5 Try.f5 rfl rfl rfl rfl rfl rfl rfl ⟨rfl, rfl, rfl, rfl, rfl⟩ rfl rfl rfl rfl rfl (by kernel_rfl) Try.func5 (by kernel_rfl)
  (of_decide_eq_true (by kernel_rfl)) (by unfold Func.isWrapper; first | (rw [if_pos (by decide +kernel)]; kernel_rfl) | (rw [if_neg (by decide +kernel)]; exact ⟨rfl, rfl⟩))
  (fun os started H enc _ => lifted os started H enc)
theorem proved : Rows.BundleLooksSaid := over
end Go.Proofs.Ytnbbbeghgomnoaa.bundleLooks
namespace Go.Proofs.Ytnbbbeghgomnoaa
theorem bundleLooks_holds : Rows.BundleLooksSaid := bundleLooks.proved
#print axioms bundleLooks_holds
end Go.Proofs.Ytnbbbeghgomnoaa
