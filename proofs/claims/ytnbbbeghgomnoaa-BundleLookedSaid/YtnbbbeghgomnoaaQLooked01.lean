/-
  For every table that the statement lets in, what is left by a look at the piece to look at first is as Look says, and a look at no other piece leaves fewer.
-/
import Derived.Test.YtnbbbeghgomnoaaQSure01
import Derived.Test.YtnbbbeghgomnoaaProg
import Derived.Below
import Derived.Deep.Draws
import Derived.Deep.AppendLies
import Derived.Maps.AppendAt
import Derived.OwnWalk
import Derived.Laws.BytesArg
import Derived.Laws.MakeOwn
import Derived.Laws.OwnMore
import Derived.Deep.OwnRows
import Derived.Tactics
import Derived.Lib.ConvBytes
import Derived.Laws.Slices
import Derived.WalkKit
import Derived.KernelRfl
import Derived.RowKit3
import Derived.Deep.LoopGhost
import Derived.Deep.QuietTactic
import Derived.BigQuiet
import Derived.WideLaws
import Derived.Deep.DeepCutAuto
import Derived.Deep.CutBlock
import Derived.Deep.RegionHeld3
import Derived.Laws.Rows
import Derived.Lib.AppendStr
import Derived.ArgAppend
import Derived.Laws.IdiomCopy
import Derived.OrdersHeld
import Derived.Laws.BitsLemmas
import Derived.RowKit
import Derived.Test.YtnbbbeghgomnoaaRows
import Derived.ProofKit
import Derived.OpenShut
import Derived.ShutString
import Derived.ChangeOld
import Derived.SizedLaws
set_option linter.unusedVariables false
set_option linter.unusedSimpArgs false
namespace Go.Proofs.YtnbbbeghgomnoaaW.PrintWords
open Go.RowKit
namespace Kd
section
variable {α : Type} {d : Kd α} {e base n cc g : Nat} {ok ok' okp S : Nat → Prop} {w w1 W W1 : World} {A : Option Addr} {u v v1 : Value} {xs : List α} {x : α} {c : List Value}
theorem S_N (h : Kd.S d e w base ok v xs) : N d e w base ok v xs := R_N (S_R h)
theorem N_lt (h : N d e w base ok v xs) : ∀ k, v.ownBlock = some k → k < w.heap.size := by
 obtain ⟨_, rows, _, hR, _⟩ := h
 exact R_lt hR
theorem N_base (h : N d e w base ok v xs) : ∀ k, v.ownBlock = some k → base ≤ k := by
 obtain ⟨_, rows, _, hR, _⟩ := h
 exact R_base hR
theorem N_bound (h : N d e w base ok v xs) : N d e w base (fun k => ok k ∧ k < w.heap.size) v xs := by
 have hlt := N_lt h
 obtain ⟨h0, rows, hl, hR, hf⟩ := h
 exact ⟨fun k hk => ⟨h0 k hk, hlt k hk⟩, rows, hl, hR, fun j x c hx hc => FK_mono (FK_bound (hf j x c hx hc)) (fun k hk => ⟨⟨hk.1.1, hk.2⟩, hk.1.2⟩)⟩
theorem N_elder' (h : N d e W base ok v xs) (hbase : ∀ k, u.ownBlock = some k → W.heap.size ≤ k) (hb : Below W.heap.size W w1) : N d e w1 base (fun k => ok k ∧ some k ≠ u.ownBlock) v xs :=
 N_mono (N_below (N_bound h) hb) (fun k hk => ⟨hk.1, fun he => by have := hbase k he.symm; have := hk.2; omega⟩)
end
end Kd
end Go.Proofs.YtnbbbeghgomnoaaW.PrintWords
namespace Go.Proofs.Ytnbbbeghgomnoaa.X
open Go.RowKit Go.Proofs.YtnbbbeghgomnoaaW.PrintWords Go.Proofs.YtnbbbeghgomnoaaW.PrintLast Go.Proofs.YtnbbbeghgomnoaaW.PrintMore
attribute [local go_sem] max2_int min2_int max_two min_two max_three min_three max_four min_four
set_option linter.unusedVariables false
set_option linter.unusedSimpArgs false
def rd_L1 (xs : List (List Int)) (i : Int) : (List Int) := xs.getD i.toNat ([] : List Int)
theorem at_L1 {w : World} {A : Option Addr} {n : Nat} {xs : List (List Int)} (h : Kd.C (Kd.slice 3 (Kd.int .i64)) w A n xs) (i : Int) (h0 : 0 ≤ i) (h1 : i < n) : ∃ ad A0 c0, A = some ad ∧ w.cell? (ad.add i.toNat) = some (.slice A0 (rd_L1 xs i).length c0) ∧ (rd_L1 xs i).length ≤ c0 ∧ (Kd.int .i64).C w A0 (rd_L1 xs i).length (rd_L1 xs i) := by
 obtain ⟨ad, c, e, _, hK, hc0⟩ := Kd.C_get h ([] : List Int) i h0 h1
 have hc : ∀ j u, c[j]? = some u → w.cell? (ad.add (i.toNat * 1 + j)) = some u := hc0
 obtain ⟨A0, c0, rfl, l0, g0⟩ := hK
 exact ⟨ad, A0, c0, e, by have hq := hc 0 _ rfl; rwa [Nat.mul_one, Nat.add_zero] at hq, l0, g0⟩
end Go.Proofs.Ytnbbbeghgomnoaa.X
namespace Go.Proofs.Ytnbbbeghgomnoaa.X
open Go.RowKit Go.Proofs.YtnbbbeghgomnoaaW.PrintWords Go.Proofs.YtnbbbeghgomnoaaW.PrintLast Go.Proofs.YtnbbbeghgomnoaaW.PrintMore
section
variable {w W0 W W' : World} {g g' : Nat} {o : Obj}
theorem sCb1 {g0 : Nat} {α : Type} {d : Kd α} {A : Option Addr} {n : Nat} {xs : List α} (h : Aside0 (Kd.C d w A n xs)) (hb : Aside0 (Below w.heap.size w W0)) (h0 : Aside0 (w.heap.size ≤ g0)) (k : Below w.heap.size w W0 → w.heap.size ≤ g0 → Below w.heap.size w W := by intro k_ h0_; repeat (first | exact k_ | apply below_alloc | apply pw_below_drewN | apply below_drew1 | refine below_set ?_ h0_)) : Kd.C d W A n xs := Kd.C_below h.out (k hb.out h0.out)
theorem sN_ {α : Type} {d : Kd α} {e base : Nat} {ok : Nat → Prop} {v : Value} {xs : List α} (h : Aside0 (Kd.N d e W0 base ok v xs)) (k : Kd.N d e W0 base ok v xs → Kd.N d e W base ok v xs := by intro k_; (with_reducible repeat (first | apply Kd.N_alloc | apply Kd.N_drewN | apply Kd.N_drew)); exact k_) : Kd.N d e W base ok v xs := k h.out
end
section
variable {P : Program} {ops : Array Oper} {Q : Exit → Act → World → Prop} {md : Region.Mode} {S : World → Prop} {ds : List Nat}
end
section
variable {P : Program} {ops : Array Oper} {rest : List Oper} {Q : Exit → Act → World → Prop} {a : Act} {o : Oper} {W : World}
end
end Go.Proofs.Ytnbbbeghgomnoaa.X
namespace Go.Proofs.Ytnbbbeghgomnoaa.X
open Go.RowKit Go.Proofs.YtnbbbeghgomnoaaW.PrintWords Go.Proofs.YtnbbbeghgomnoaaW.PrintLast Go.Proofs.YtnbbbeghgomnoaaW.PrintMore
attribute [local go_sem] max2_int min2_int max_two min_two max_three min_three max_four min_four
set_option linter.unusedVariables false
set_option linter.unusedSimpArgs false
mutual
def posserref03_Leaves.l0 : Nat → List (List Int) → Int → Int → Int → List (S85) → List (S71) → Int → Option (Int)
 | 0, _, _, _, _, _, _, _ => none
 | k + 1, x1, x2, x7, x8, x241000, x241001, x241002 => if x8 < (x241000.length : Int) then (posserref03_Leaves.l1 k x1 x2 x7 x8 0 0 x241000 x241001 x241002) else (some x7)
def posserref03_Leaves.l1 : Nat → List (List Int) → Int → Int → Int → Int → Int → List (S85) → List (S71) → Int → Option (Int)
 | 0, _, _, _, _, _, _, _, _, _ => none
 | k + 1, x1, x2, x7, x8, x9, x10, x241000, x241001, x241002 => if x10 < (x1.length : Int) then (if 0 ≤ x10 then (if 0 ≤ x2 then (if x2 < ((rd_L1 x1 x10).length : Int) then (if (rd (rd_L1 x1 x10) x2) = x8 then (posserref03_Leaves.l1 k x1 x2 x7 x8 (wrap64 (x9 + 1)) (wrap64 (x10 + 1)) x241000 x241001 x241002) else (posserref03_Leaves.l1 k x1 x2 x7 x8 x9 (wrap64 (x10 + 1)) x241000 x241001 x241002)) else (none)) else (none)) else (none)) else (posserref03_Leaves.l0 k x1 x2 (mx x7 x9) (wrap64 (x8 + 1)) x241000 x241001 x241002)
end
def posserref03_Leaves.f (k : Nat) (l0_0 : List (S85)) (l0_1 : List (S71)) (a0_2 : Int) (l1 : List (List Int)) (a2 : Int) : Option (Int) := posserref03_Leaves.l0 k l1 a2 0 0 l0_0 l0_1 a0_2
set_option maxHeartbeats 8000000 in
set_option maxRecDepth 100000 in
theorem posserref03_Leaves.calls (k : Nat) (A0_0 : Option Addr) (c0_0 : Nat) (l0_0 : List (S85)) (A0_1 : Option Addr) (c0_1 : Nat) (l0_1 : List (S71)) (a0_2 : Int) (A1 : Option Addr) (c1 : Nat) (l1 : List (List Int)) (a2 : Int) (r : Int) (w : World) (hr0_0 : Kd.C k85 w A0_0 l0_0.length l0_0) (hc0_0 : l0_0.length ≤ c0_0) (hr0_1 : Kd.C k71 w A0_1 l0_1.length l0_1) (hc0_1 : l0_1.length ≤ c0_1) (hr1 : Kd.C (Kd.slice 3 (Kd.int .i64)) w A1 l1.length l1) (hc1 : l1.length ≤ c1) (h : posserref03_Leaves.f k l0_0 l0_1 a0_2 l1 a2 = some r) :
  Calls Try.prog 54 #[.agg #[.slice A0_0 l0_0.length c0_0, .slice A0_1 l0_1.length c0_1, .int .i64 a0_2], .slice A1 l1.length c1, .int .i64 a2] w fun e w' => e = .returned (.int .i64 r) ∧ Below w.heap.size w w' := by
 have hu25 := Try.underlying25
 have HR0_0 := Aside0.mk hr0_0
 have HC0_0 := Aside0.mk hc0_0
 clear hr0_0 hc0_0
 have HR0_1 := Aside0.mk hr0_1
 have HC0_1 := Aside0.mk hc0_1
 clear hr0_1 hc0_1
 have HR1 := Aside0.mk hr1
 have HC1 := Aside0.mk hc1
 clear hr1 hc1
 have HB := Aside0.mk (Below.refl w.heap.size w)
 have H : (posserref03_Leaves.l0 k l1 a2 0 0 l0_0 l0_1 a0_2) = some r := h
 clear h
 have H' := Aside0.mk H
 clear H
 go_enter Try.func54, Try.ntmps54
 go_wp2_with (first | ((with_reducible refine gate_dst (N := 3) rfl ?_); refine sbox (N := 3) #[.slice A0_0 l0_0.length c0_0, .slice A0_1 l0_1.length c0_1, .int .i64 a0_2] 25 ?_; intro gb240 hg w4 hbox hb; have BK240 := Aside0.mk (hbox); have GW240 := Aside0.mk (sge hg HB : w.heap.size ≤ gb240); have GE240 := Aside0.mk (sge hg HB : w.heap.size ≤ gb240); replace HB := Aside0.mk (sbs HB hb); clear hb hbox hg))
 go_loopg [7, 8] k (fun kq v7 v8 w' => ∃ (x7_1 : Int) (x8_1 : Int), v7 = .int .i64 x7_1 ∧ v8 = .int .i64 x8_1 ∧ Aside0 (posserref03_Leaves.l0 kq l1 a2 x7_1 x8_1 l0_0 l0_1 a0_2 = some r) ∧ Aside0 (kq ≤ k) ∧ Aside0 (w'.heap[gb240]? = some (.cells #[(.slice A0_0 l0_0.length c0_0), (.slice A0_1 l0_1.length c0_1), .int .i64 a0_2] 25 (0, 0))) ∧ Aside0 (Below w.heap.size w w'))
 case atStart => exact ⟨(0), (0), (by first | rfl | (simp; done) | (simp [*]; done)), (by first | rfl | (simp; done) | (simp [*]; done)), H', ⟨Nat.le_refl _⟩, ⟨by (with_reducible repeat (first | refine blk_drewN ?_ _ | refine blk_drew ?_ | refine blk_alloc ?_ _)); exact BK240.out⟩, ⟨(sbe1 HB GE240)⟩⟩
 case round =>
  clear H'
  try clear c1
  try clear p2
  obtain ⟨x7_1, x8_1, rfl, rfl, HA, HK1, BK240, HB⟩ := hrel
  cases gk with
  | zero => exact absurd HA.out (by simp [posserref03_Leaves.l0])
  | succ k1 =>
   have H := HA.out
   clear HA
   simp only [posserref03_Leaves.l0] at H
   by_cases c5 : x8_1 < (l0_0.length : Int)
   ·rw [if_pos c5] at H
    have c5b0 : decide (x8_1 < (l0_0.length : Int)) = true := decide_eq_true c5
    clear c5
    have H' := Aside0.mk H
    clear H
    have hcz6_0 := sc 0 BK240
    have hcz6_1 := sc 1 BK240
    have hcz6_2 := sc 2 BK240
    have hfz6_0 := blk_frozen BK240.out 0
    have hfz6_1 := blk_frozen BK240.out 1
    have hfz6_2 := blk_frozen BK240.out 2
    go_wp2
    go_loopg [9, 10] k1 (fun kq v9 v10 w' => ∃ (x9_2 : Int) (x10_2 : Int), v9 = .int .i64 x9_2 ∧ v10 = .int .i64 x10_2 ∧ Aside0 (posserref03_Leaves.l1 kq l1 a2 x7_1 x8_1 x9_2 x10_2 l0_0 l0_1 a0_2 = some r) ∧ Aside0 (kq ≤ k1) ∧ Aside0 (w'.heap[gb240]? = some (.cells #[(.slice A0_0 l0_0.length c0_0), (.slice A0_1 l0_1.length c0_1), .int .i64 a0_2] 25 (0, 0))) ∧ Aside0 (Below w.heap.size w w'))
    case atStart => exact ⟨(0), (0), (by first | rfl | (simp; done) | (simp [*]; done)), (by first | rfl | (simp; done) | (simp [*]; done)), H', ⟨Nat.le_refl _⟩, ⟨by (with_reducible repeat (first | refine blk_drewN ?_ _ | refine blk_drew ?_ | refine blk_alloc ?_ _)); exact BK240.out⟩, ⟨(sbe1 HB GE240)⟩⟩
    case round =>
     clear H'
     try clear c1
     try clear p2
     try clear c5
     try clear c5b0
     try clear hcz6_0
     try clear hcz6_1
     try clear hcz6_2
     try clear hfz6_0
     try clear hfz6_1
     try clear hfz6_2
     try clear p2
     obtain ⟨x9_2, x10_2, rfl, rfl, HA, HK2, BK240, HB⟩ := hrel
     cases gk with
     | zero => exact absurd HA.out (by simp [posserref03_Leaves.l1])
     | succ k2 =>
      have H := HA.out
      clear HA
      simp only [posserref03_Leaves.l1] at H
      by_cases c7 : x10_2 < (l1.length : Int)
      ·rw [if_pos c7] at H
       have c7b0 : decide (x10_2 < (l1.length : Int)) = true := decide_eq_true c7
       clear c7
       by_cases c8 : 0 ≤ x10_2
       ·rw [if_pos c8] at H
        have c8b0 : decide (0 ≤ x10_2) = true := decide_eq_true c8
        clear c8
        by_cases c9 : 0 ≤ a2
        ·rw [if_pos c9] at H
         have c9b0 : decide (0 ≤ a2) = true := decide_eq_true c9
         clear c9
         by_cases c10 : a2 < ((rd_L1 l1 x10_2).length : Int)
         ·rw [if_pos c10] at H
          have c10b0 : decide (a2 < ((rd_L1 l1 x10_2).length : Int)) = true := decide_eq_true c10
          clear c10
          by_cases c11 : (rd (rd_L1 l1 x10_2) a2) = x8_1
          ·rw [if_pos c11] at H
           have c11b0 : ((rd (rd_L1 l1 x10_2) a2) == x8_1) = true := beq_iff_eq.mpr c11
           have c11b1 : ((rd (rd_L1 l1 x10_2) a2) != x8_1) = false := bne_eq_false_iff_eq.mpr c11
           clear c11
           have H' := Aside0.mk H
           clear H
           have p241 : 0 ≤ (x10_2 : Int) := of_decide_eq_true (by first | (with_reducible assumption) | assumption)
           have q241 : x10_2 < (l1.length : Int) := of_decide_eq_true (by first | (with_reducible assumption) | assumption)
           obtain ⟨ad241, A241_0, c241_0, e241, hx241_0, hl241_0, hi241_0⟩ := at_L1 HR1.out x10_2 p241 q241
           cases e241
           replace hx241_0 := (HB.out.cell (World.block_lt_of_cell? w _ hx241_0)).trans hx241_0
           have HR241_0 := Aside0.mk hi241_0
           have HC241_0 := Aside0.mk hl241_0
           clear hi241_0 hl241_0
           replace p241 := eq_true p241
           replace q241 := eq_true q241
           have p242 : 0 ≤ (a2 : Int) := of_decide_eq_true (by first | (with_reducible assumption) | assumption)
           have q242 : a2 < ((rd_L1 l1 x10_2).length : Int) := of_decide_eq_true (by first | (with_reducible assumption) | assumption)
           obtain ⟨ad242, e242, hx242_0⟩ := Kd.at_int HR241_0.out a2 p242 q242
           cases e242
           replace hx242_0 := (HB.out.cell (World.block_lt_of_cell? w _ hx242_0)).trans hx242_0
           replace p242 := eq_true p242
           replace q242 := eq_true q242
           go_wp2
           go_roundg k2
           case measure => have := HK1.out; have := HK2.out; omega
           case rel => exact ⟨(wrap64 (x9_2 + 1)), (wrap64 (x10_2 + 1)), (by first | rfl | (simp; done) | (simp [*]; done)), (by first | rfl | (simp; done) | (simp [*]; done)), H', ⟨by have := HK1.out; have := HK2.out; omega⟩, ⟨by (with_reducible repeat (first | refine blk_drewN ?_ _ | refine blk_drew ?_ | refine blk_alloc ?_ _)); exact BK240.out⟩, ⟨(sbe1 HB GE240)⟩⟩
          ·rw [if_neg c11] at H
           have c11b0 : ((rd (rd_L1 l1 x10_2) a2) == x8_1) = false := beq_eq_false_iff_ne.mpr c11
           have c11b1 : ((rd (rd_L1 l1 x10_2) a2) != x8_1) = true := bne_iff_ne.mpr c11
           have H' := Aside0.mk H
           clear H
           have p241 : 0 ≤ (x10_2 : Int) := of_decide_eq_true (by first | (with_reducible assumption) | assumption)
           have q241 : x10_2 < (l1.length : Int) := of_decide_eq_true (by first | (with_reducible assumption) | assumption)
           obtain ⟨ad241, A241_0, c241_0, e241, hx241_0, hl241_0, hi241_0⟩ := at_L1 HR1.out x10_2 p241 q241
           cases e241
           replace hx241_0 := (HB.out.cell (World.block_lt_of_cell? w _ hx241_0)).trans hx241_0
           have HR241_0 := Aside0.mk hi241_0
           have HC241_0 := Aside0.mk hl241_0
           clear hi241_0 hl241_0
           replace p241 := eq_true p241
           replace q241 := eq_true q241
           have p242 : 0 ≤ (a2 : Int) := of_decide_eq_true (by first | (with_reducible assumption) | assumption)
           have q242 : a2 < ((rd_L1 l1 x10_2).length : Int) := of_decide_eq_true (by first | (with_reducible assumption) | assumption)
           obtain ⟨ad242, e242, hx242_0⟩ := Kd.at_int HR241_0.out a2 p242 q242
           cases e242
           replace hx242_0 := (HB.out.cell (World.block_lt_of_cell? w _ hx242_0)).trans hx242_0
           replace p242 := eq_true p242
           replace q242 := eq_true q242
           go_wp2
           go_roundg k2
           case measure => have := HK1.out; have := HK2.out; omega
           case rel => exact ⟨(x9_2), (wrap64 (x10_2 + 1)), (by first | rfl | (simp; done) | (simp [*]; done)), (by first | rfl | (simp; done) | (simp [*]; done)), H', ⟨by have := HK1.out; have := HK2.out; omega⟩, ⟨by (with_reducible repeat (first | refine blk_drewN ?_ _ | refine blk_drew ?_ | refine blk_alloc ?_ _)); exact BK240.out⟩, ⟨(sbe1 HB GE240)⟩⟩
         ·rw [if_neg c10] at H
          exact absurd H (by simp)
        ·rw [if_neg c9] at H
         exact absurd H (by simp)
       ·rw [if_neg c8] at H
        exact absurd H (by simp)
      ·rw [if_neg c7] at H
       have c7b0 : decide (x10_2 < (l1.length : Int)) = false := decide_eq_false c7
       clear c7
       obtain ⟨ji12, hji12⟩ : ∃ j_ : Int, (mx x7_1 x9_2) = j_ := ⟨_, rfl⟩
       replace H : (posserref03_Leaves.l0 k2 l1 a2 ji12 (wrap64 (x8_1 + 1)) l0_0 l0_1 a0_2) = some r := by first | (rw [hji12] at H; exact H) | (simp only [hji12] at H ⊢; exact H)
       have hji12_ : (if x7_1 < x9_2 then x9_2 else x7_1) = ji12 := hji12
       have H' := Aside0.mk H
       clear H
       go_wp2
       go_roundg k2
       case measure => have := HK1.out; have := HK2.out; omega
       case rel => exact ⟨(ji12), (wrap64 (x8_1 + 1)), (by first | rfl | (simp; done) | (simp only [← hji12] <;> (first | rfl | simp)) | (simp [*]; done)), (by first | rfl | (simp; done) | (simp [*]; done)), H', ⟨by have := HK1.out; have := HK2.out; omega⟩, ⟨by (with_reducible repeat (first | refine blk_drewN ?_ _ | refine blk_drew ?_ | refine blk_alloc ?_ _)); exact BK240.out⟩, ⟨(sbe1 HB GE240)⟩⟩
   ·rw [if_neg c5] at H
    have c5b0 : decide (x8_1 < (l0_0.length : Int)) = false := decide_eq_false c5
    clear c5
    obtain rfl := Option.some.inj H
    have hcz13_0 := sc 0 BK240
    have hcz13_1 := sc 1 BK240
    have hcz13_2 := sc 2 BK240
    have hfz13_0 := blk_frozen BK240.out 0
    have hfz13_1 := blk_frozen BK240.out 1
    have hfz13_2 := blk_frozen BK240.out 2
    go_wp2
    go_ret
    exact ⟨by first | rfl | (simp [errW_none, errW_some] <;> rfl) | (simp [*, errW_none, errW_some] <;> rfl), (sbe1 HB GE240)⟩
end Go.Proofs.Ytnbbbeghgomnoaa.X
namespace Go.Proofs.Ytnbbbeghgomnoaa.X
open Go.RowKit Go.Proofs.YtnbbbeghgomnoaaW.PrintWords Go.Proofs.YtnbbbeghgomnoaaW.PrintLast Go.Proofs.YtnbbbeghgomnoaaW.PrintMore
attribute [local go_sem] max2_int min2_int max_two min_two max_three min_three max_four min_four
set_option linter.unusedVariables false
set_option linter.unusedSimpArgs false
def posserlaw03_ready.f (k : Nat) (l0_0 : List (S85)) (l0_1 : List (S71)) (a0_2 : Int) : Option (Bool) := (posserlaw03_Thin.f k l0_0 l0_1 a0_2).bind fun t444 => (if t444 = true then ((posserref03_Fault.f k l0_0 l0_1 a0_2).bind fun t445 => (some (t445 == 0))) else (some false))
set_option maxHeartbeats 8000000 in
set_option maxRecDepth 100000 in
theorem posserlaw03_ready.calls (k : Nat) (A0_0 : Option Addr) (c0_0 : Nat) (l0_0 : List (S85)) (A0_1 : Option Addr) (c0_1 : Nat) (l0_1 : List (S71)) (a0_2 : Int) (r : Bool) (w : World) (hr0_0 : Kd.C k85 w A0_0 l0_0.length l0_0) (hc0_0 : l0_0.length ≤ c0_0) (hr0_1 : Kd.C k71 w A0_1 l0_1.length l0_1) (hc0_1 : l0_1.length ≤ c0_1) (h : posserlaw03_ready.f k l0_0 l0_1 a0_2 = some r) :
  Calls Try.prog 47 #[.agg #[.slice A0_0 l0_0.length c0_0, .slice A0_1 l0_1.length c0_1, .int .i64 a0_2]] w fun e w' => e = .returned (.bool r) ∧ Below w.heap.size w w' := by
 have hu25 := Try.underlying25
 have HR0_0 := Aside0.mk hr0_0
 have HC0_0 := Aside0.mk hc0_0
 clear hr0_0 hc0_0
 have HR0_1 := Aside0.mk hr0_1
 have HC0_1 := Aside0.mk hc0_1
 clear hr0_1 hc0_1
 have HB := Aside0.mk (Below.refl w.heap.size w)
 have H : ((posserlaw03_Thin.f k l0_0 l0_1 a0_2).bind fun t444 => (if t444 = true then ((posserref03_Fault.f k l0_0 l0_1 a0_2).bind fun t445 => (some (t445 == 0))) else (some false))) = some r := h
 clear h
 replace H := Option.bind_eq_some_iff.mp H
 obtain ⟨t444, A20, H⟩ := H
 replace H : (if t444 = true then ((posserref03_Fault.f k l0_0 l0_1 a0_2).bind fun t445 => (some (t445 == 0))) else (some false)) = some r := H
 have A2 := Aside0.mk A20
 clear A20
 by_cases c3 : t444 = true
 ·subst c3
  have H1 : ((posserref03_Fault.f k l0_0 l0_1 a0_2).bind fun t445 => (some (t445 == 0))) = some r := by rw [if_pos rfl] at H; exact H
  clear H
  have H := H1
  clear H1
  replace H := Option.bind_eq_some_iff.mp H
  obtain ⟨t445, A40, H⟩ := H
  replace H : (some (t445 == 0)) = some r := H
  have A4 := Aside0.mk A40
  clear A40
  obtain rfl := Option.some.inj H
  go_enter Try.func47, Try.ntmps47
  go_wp2_with (first | ((with_reducible refine gate_dst (N := 1) rfl ?_); refine sbox (N := 1) #[.slice A0_0 l0_0.length c0_0, .slice A0_1 l0_1.length c0_1, .int .i64 a0_2] 25 ?_; intro gb443 hg w5 hbox hb; have BK443 := Aside0.mk (hbox); have GW443 := Aside0.mk (sge hg HB : w.heap.size ≤ gb443); have GE443 := Aside0.mk (sge hg HB : w.heap.size ≤ gb443); replace HB := Aside0.mk (sbs HB hb); clear hb hbox hg; have hcz6_0 := sc 0 BK443; have hcz6_1 := sc 1 BK443; have hcz6_2 := sc 2 BK443; have hfz6_0 := blk_frozen BK443.out 0; have hfz6_1 := blk_frozen BK443.out 1; have hfz6_2 := blk_frozen BK443.out 2) | ((with_reducible refine gate_callee (f := 20) rfl ?_); refine goesL_ (some 4) rfl rfl Try.func20 (by kernel_rfl) rfl #[.agg #[.slice A0_0 l0_0.length c0_0, .slice A0_1 l0_1.length c0_1, .int .i64 a0_2]] rfl (by (try simp only [List.map_toArray, List.map_cons, List.map_nil]); first | done | rfl | (simp only [List.length_drop, List.length_take]; rfl)) ?_; (with_reducible refine (posserlaw03_Thin.calls k _ _ l0_0 _ _ l0_1 a0_2 true _ ?side1 ?side2 ?side3 ?side4 A2.out).mono ?_); (case side1 => exact sCb HR0_0 HB); (case side2 => exact HC0_0.out); (case side3 => exact sCb HR0_1 HB); (case side4 => exact HC0_1.out); rintro e w7 ⟨rfl, hb⟩; refine ⟨_, rfl, ?_⟩; replace BK443 := Aside0.mk (sbb BK443 hb); replace HB := Aside0.mk (sbs1 HB GE443 hb); (try clear hb); (try clear hb2); (try clear hk); (try clear hi); have hcz8_0 := sc 0 BK443; have hcz8_1 := sc 1 BK443; have hcz8_2 := sc 2 BK443; have hfz8_0 := blk_frozen BK443.out 0; have hfz8_1 := blk_frozen BK443.out 1; have hfz8_2 := blk_frozen BK443.out 2) | (go_at_call 75; (with_reducible refine (posserref03_Fault.calls k _ _ l0_0 _ _ l0_1 a0_2 t445 _ ?side1 ?side2 ?side3 ?side4 A4.out).mono ?_); (case side1 => exact sCb HR0_0 HB); (case side2 => exact HC0_0.out); (case side3 => exact sCb HR0_1 HB); (case side4 => exact HC0_1.out); rintro e w9 ⟨rfl, hb⟩; replace BK443 := Aside0.mk (sbb BK443 hb); replace HB := Aside0.mk (sbs1 HB GE443 hb); (try clear hb); (try clear hb2); (try clear hk); (try clear hi)))
  go_ret
  exact ⟨by first | rfl | (simp [errW_none, errW_some] <;> rfl) | (simp [*, errW_none, errW_some] <;> rfl), (sbe1 HB GE443)⟩
 ·replace c3 := Bool.eq_false_iff.mpr c3
  subst c3
  have H1 : (some false) = some r := by rw [if_neg (show ¬ (false = true) by decide)] at H; exact H
  clear H
  have H := H1
  clear H1
  obtain rfl := Option.some.inj H
  go_enter Try.func47, Try.ntmps47
  go_wp2_with (first | ((with_reducible refine gate_dst (N := 1) rfl ?_); refine sbox (N := 1) #[.slice A0_0 l0_0.length c0_0, .slice A0_1 l0_1.length c0_1, .int .i64 a0_2] 25 ?_; intro gb443 hg w10 hbox hb; have BK443 := Aside0.mk (hbox); have GW443 := Aside0.mk (sge hg HB : w.heap.size ≤ gb443); have GE443 := Aside0.mk (sge hg HB : w.heap.size ≤ gb443); replace HB := Aside0.mk (sbs HB hb); clear hb hbox hg; have hcz11_0 := sc 0 BK443; have hcz11_1 := sc 1 BK443; have hcz11_2 := sc 2 BK443; have hfz11_0 := blk_frozen BK443.out 0; have hfz11_1 := blk_frozen BK443.out 1; have hfz11_2 := blk_frozen BK443.out 2) | ((with_reducible refine gate_callee (f := 20) rfl ?_); refine goesL_ (some 4) rfl rfl Try.func20 (by kernel_rfl) rfl #[.agg #[.slice A0_0 l0_0.length c0_0, .slice A0_1 l0_1.length c0_1, .int .i64 a0_2]] rfl (by (try simp only [List.map_toArray, List.map_cons, List.map_nil]); first | done | rfl | (simp only [List.length_drop, List.length_take]; rfl)) ?_; (with_reducible refine (posserlaw03_Thin.calls k _ _ l0_0 _ _ l0_1 a0_2 false _ ?side1 ?side2 ?side3 ?side4 A2.out).mono ?_); (case side1 => exact sCb HR0_0 HB); (case side2 => exact HC0_0.out); (case side3 => exact sCb HR0_1 HB); (case side4 => exact HC0_1.out); rintro e w12 ⟨rfl, hb⟩; refine ⟨_, rfl, ?_⟩; replace BK443 := Aside0.mk (sbb BK443 hb); replace HB := Aside0.mk (sbs1 HB GE443 hb); (try clear hb); (try clear hb2); (try clear hk); (try clear hi)))
  go_ret
  exact ⟨by first | rfl | (simp [errW_none, errW_some] <;> rfl) | (simp [*, errW_none, errW_some] <;> rfl), (sbe1 HB GE443)⟩
end Go.Proofs.Ytnbbbeghgomnoaa.X
namespace Go.Proofs.Ytnbbbeghgomnoaa.X
open Go.RowKit Go.Proofs.YtnbbbeghgomnoaaW.PrintWords Go.Proofs.YtnbbbeghgomnoaaW.PrintLast Go.Proofs.YtnbbbeghgomnoaaW.PrintMore
attribute [local go_sem] max2_int min2_int max_two min_two max_three min_three max_four min_four
set_option linter.unusedVariables false
set_option linter.unusedSimpArgs false
def posserlaw03_BundleLooked.f (k : Nat) (l0_0 : List (S85)) (l0_1 : List (S71)) (a0_2 : Int) (a1 : Int) : Option (Bool) := (posserlaw03_ready.f k l0_0 l0_1 a0_2).bind fun t889 => (if t889 = true then (if (l0_1.length : Int) = 0 then ((posserlaw03_awake.f).bind fun t890 => (some t890)) else ((posserlaw03_Table.f l0_0 l0_1 a0_2).bind fun bt891 => ((bundle_Look.f bt891.1 bt891.2.1 bt891.2.2).bind fun bt898 => ((posserlaw03_sure.f k l0_0 l0_1 a0_2).bind fun bt901 => (if bt901.2 = 0 then (if bt898.2.2 = 0 then ((posserref03_In.f bt898.1 0 (wrap64 ((l0_1.length : Int) - 1))).bind fun t905 => (if t905 = true then ((posserref03_Leaves.f k l0_0 l0_1 a0_2 bt901.1 bt898.1).bind fun t906 => (if bt898.2.1 = t906 then ((posserref03_Leaves.f k l0_0 l0_1 a0_2 bt901.1 (Int.tmod (wrap64 (a1)) (l0_1.length : Int))).bind fun t907 => (if t907 ≥ bt898.2.1 then ((posserlaw03_awake.f).bind fun t908 => (some t908)) else (none))) else (none))) else (none))) else (none)) else (if bt898.2.2 = bt901.2 then ((posserlaw03_awake.f).bind fun t909 => (some t909)) else (none))))))) else ((posserlaw03_awake.f).bind fun t910 => (some t910)))
def posserlaw03_BundleLooked.T7 : Bool × List (List Nat × List Nat) := (true, [([], []), ([0], [0]), ([1], [1]), ([2], [2]), ([2], [2]), ([4, 2], [2, 4]), ([5, 2], [2, 5]), ([6, 2], [2, 6]), ([3, 7, 2, 2], [2, 3, 7]), ([2, 8], [2, 8]), ([9, 8], [9]), ([10], [10]), ([10], [10]), ([10], [10]), ([10], [10]), ([12, 13, 14, 10, 10], [10, 12, 13, 14]), ([11, 15, 10], [10, 11, 15]), ([10, 16], [10, 16]), ([17, 15], [17]), ([18], [18]), ([18], [18]), ([18], [18]), ([21, 18], [18, 21]), ([18], [18]), ([23, 18], [18, 23]), ([24, 18], [18, 24]), ([22, 25, 18], [18, 22, 25]), ([19, 20, 26, 18, 18], [18, 19, 20, 26]), ([18], [18]), ([27, 28, 18], [18, 27, 28]), ([18, 29], [18, 29]), ([30, 27], [30]), ([31, 31], [31]), ([31, 32], [31, 32]), ([33, 32, 0, 1, 2, 3, 4, 5, 6, 7, 8, 9, 10, 11, 12, 13, 14, 15, 16, 17, 18, 19, 20, 21, 22, 23, 24, 25, 26, 27, 28, 29, 30, 31, 32, 33], [33])])
def posserlaw03_BundleLooked.B7 : List Nat := [0, 1, 3, 7, 7, 23, 55, 119, 255, 511, 1023, 2047, 2047, 2047, 2047, 30719, 65535, 131071, 262143, 524287, 524287, 524287, 2621439, 524287, 8912895, 25690111, 65535999, 134217727, 524287, 536870911, 1073741823, 2147483647, 4294967295, 8589934591, 17179869183]
theorem posserlaw03_BundleLooked.tab7 : rtab .any (opsOf Try.f14 7) = posserlaw03_BundleLooked.T7 := by kernel_rfl
theorem posserlaw03_BundleLooked.bits7 : waitsOk posserlaw03_BundleLooked.T7.2 posserlaw03_BundleLooked.B7 = true := by kernel_rfl
set_option maxHeartbeats 8000000 in
set_option maxRecDepth 100000 in
theorem posserlaw03_BundleLooked.calls (k : Nat) (A0_0 : Option Addr) (c0_0 : Nat) (l0_0 : List (S85)) (A0_1 : Option Addr) (c0_1 : Nat) (l0_1 : List (S71)) (a0_2 : Int) (a1 : Int) (r : Bool) (w : World) (hr0_0 : Kd.C k85 w A0_0 l0_0.length l0_0) (hc0_0 : l0_0.length ≤ c0_0) (hr0_1 : Kd.C k71 w A0_1 l0_1.length l0_1) (hc0_1 : l0_1.length ≤ c0_1) (h : posserlaw03_BundleLooked.f k l0_0 l0_1 a0_2 a1 = some r) :
  Calls Try.prog 14 #[.agg #[.slice A0_0 l0_0.length c0_0, .slice A0_1 l0_1.length c0_1, .int .i64 a0_2], .int .u8 a1] w fun e w' => e = .returned (.bool r) ∧ Below w.heap.size w w' := by
 have hu25 := Try.underlying25
 have HR0_0 := Aside0.mk hr0_0
 have HC0_0 := Aside0.mk hc0_0
 clear hr0_0 hc0_0
 have HR0_1 := Aside0.mk hr0_1
 have HC0_1 := Aside0.mk hc0_1
 clear hr0_1 hc0_1
 have HB := Aside0.mk (Below.refl w.heap.size w)
 have H : ((posserlaw03_ready.f k l0_0 l0_1 a0_2).bind fun t889 => (if t889 = true then (if (l0_1.length : Int) = 0 then ((posserlaw03_awake.f).bind fun t890 => (some t890)) else ((posserlaw03_Table.f l0_0 l0_1 a0_2).bind fun bt891 => ((bundle_Look.f bt891.1 bt891.2.1 bt891.2.2).bind fun bt898 => ((posserlaw03_sure.f k l0_0 l0_1 a0_2).bind fun bt901 => (if bt901.2 = 0 then (if bt898.2.2 = 0 then ((posserref03_In.f bt898.1 0 (wrap64 ((l0_1.length : Int) - 1))).bind fun t905 => (if t905 = true then ((posserref03_Leaves.f k l0_0 l0_1 a0_2 bt901.1 bt898.1).bind fun t906 => (if bt898.2.1 = t906 then ((posserref03_Leaves.f k l0_0 l0_1 a0_2 bt901.1 (Int.tmod (wrap64 (a1)) (l0_1.length : Int))).bind fun t907 => (if t907 ≥ bt898.2.1 then ((posserlaw03_awake.f).bind fun t908 => (some t908)) else (none))) else (none))) else (none))) else (none)) else (if bt898.2.2 = bt901.2 then ((posserlaw03_awake.f).bind fun t909 => (some t909)) else (none))))))) else ((posserlaw03_awake.f).bind fun t910 => (some t910)))) = some r := h
 clear h
 replace H := Option.bind_eq_some_iff.mp H
 obtain ⟨t889, A30, H⟩ := H
 replace H : (if t889 = true then (if (l0_1.length : Int) = 0 then ((posserlaw03_awake.f).bind fun t890 => (some t890)) else ((posserlaw03_Table.f l0_0 l0_1 a0_2).bind fun bt891 => ((bundle_Look.f bt891.1 bt891.2.1 bt891.2.2).bind fun bt898 => ((posserlaw03_sure.f k l0_0 l0_1 a0_2).bind fun bt901 => (if bt901.2 = 0 then (if bt898.2.2 = 0 then ((posserref03_In.f bt898.1 0 (wrap64 ((l0_1.length : Int) - 1))).bind fun t905 => (if t905 = true then ((posserref03_Leaves.f k l0_0 l0_1 a0_2 bt901.1 bt898.1).bind fun t906 => (if bt898.2.1 = t906 then ((posserref03_Leaves.f k l0_0 l0_1 a0_2 bt901.1 (Int.tmod (wrap64 (a1)) (l0_1.length : Int))).bind fun t907 => (if t907 ≥ bt898.2.1 then ((posserlaw03_awake.f).bind fun t908 => (some t908)) else (none))) else (none))) else (none))) else (none)) else (if bt898.2.2 = bt901.2 then ((posserlaw03_awake.f).bind fun t909 => (some t909)) else (none))))))) else ((posserlaw03_awake.f).bind fun t910 => (some t910))) = some r := H
 have A3 := Aside0.mk A30
 clear A30
 by_cases c4 : t889 = true
 ·subst c4
  have H1 : (if (l0_1.length : Int) = 0 then ((posserlaw03_awake.f).bind fun t890 => (some t890)) else ((posserlaw03_Table.f l0_0 l0_1 a0_2).bind fun bt891 => ((bundle_Look.f bt891.1 bt891.2.1 bt891.2.2).bind fun bt898 => ((posserlaw03_sure.f k l0_0 l0_1 a0_2).bind fun bt901 => (if bt901.2 = 0 then (if bt898.2.2 = 0 then ((posserref03_In.f bt898.1 0 (wrap64 ((l0_1.length : Int) - 1))).bind fun t905 => (if t905 = true then ((posserref03_Leaves.f k l0_0 l0_1 a0_2 bt901.1 bt898.1).bind fun t906 => (if bt898.2.1 = t906 then ((posserref03_Leaves.f k l0_0 l0_1 a0_2 bt901.1 (Int.tmod (wrap64 (a1)) (l0_1.length : Int))).bind fun t907 => (if t907 ≥ bt898.2.1 then ((posserlaw03_awake.f).bind fun t908 => (some t908)) else (none))) else (none))) else (none))) else (none)) else (if bt898.2.2 = bt901.2 then ((posserlaw03_awake.f).bind fun t909 => (some t909)) else (none))))))) = some r := by rw [if_pos rfl] at H; exact H
  clear H
  have H := H1
  clear H1
  by_cases c5 : (l0_1.length : Int) = 0
  ·rw [if_pos c5] at H
   have c5b0 : ((l0_1.length : Int) == 0) = true := beq_iff_eq.mpr c5
   have c5b1 : ((l0_1.length : Int) != 0) = false := bne_eq_false_iff_eq.mpr c5
   clear c5
   replace H := Option.bind_eq_some_iff.mp H
   obtain ⟨t890, A60, H⟩ := H
   replace H : (some t890) = some r := H
   have A6 := Aside0.mk A60
   clear A60
   obtain rfl := Option.some.inj H
   go_enter Try.func14, Try.ntmps14
   go_wp2_with (first | ((with_reducible refine gate_dst (N := 2) rfl ?_); (try (refine gate_guard (by rfl) ?_; dsimp only)); refine sbox (N := 2) #[.slice A0_0 l0_0.length c0_0, .slice A0_1 l0_1.length c0_1, .int .i64 a0_2] 25 ?_; intro gb888 hg w7 hbox hb; have BK888 := Aside0.mk (hbox); have GW888 := Aside0.mk (sge hg HB : w.heap.size ≤ gb888); have GE888 := Aside0.mk (sge hg HB : w.heap.size ≤ gb888); replace HB := Aside0.mk (sbs HB hb); clear hb hbox hg; have hcz8_0 := sc 0 BK888; have hcz8_1 := sc 1 BK888; have hcz8_2 := sc 2 BK888; have hfz8_0 := blk_frozen BK888.out 0; have hfz8_1 := blk_frozen BK888.out 1; have hfz8_2 := blk_frozen BK888.out 2) | ((with_reducible refine gate_callee (f := 47) rfl ?_); refine goesL_ (some 11) rfl rfl Try.func47 (by kernel_rfl) rfl #[.agg #[.slice A0_0 l0_0.length c0_0, .slice A0_1 l0_1.length c0_1, .int .i64 a0_2]] rfl (by (try simp only [List.map_toArray, List.map_cons, List.map_nil]); first | done | rfl | (simp only [List.length_drop, List.length_take]; rfl)) ?_; (with_reducible refine (posserlaw03_ready.calls k _ _ l0_0 _ _ l0_1 a0_2 true _ ?side1 ?side2 ?side3 ?side4 A3.out).mono ?_); (case side1 => exact sCb HR0_0 HB); (case side2 => exact HC0_0.out); (case side3 => exact sCb HR0_1 HB); (case side4 => exact HC0_1.out); rintro e w9 ⟨rfl, hb⟩; refine ⟨_, rfl, ?_⟩; replace BK888 := Aside0.mk (sbb BK888 hb); replace HB := Aside0.mk (sbs1 HB GE888 hb); (try clear hb); (try clear hb2); (try clear hk); (try clear hi); have hcz10_0 := sc 0 BK888; have hcz10_1 := sc 1 BK888; have hcz10_2 := sc 2 BK888; have hfz10_0 := blk_frozen BK888.out 0; have hfz10_1 := blk_frozen BK888.out 1; have hfz10_2 := blk_frozen BK888.out 2) | ((with_reducible refine gate_callee (f := 21) rfl ?_); refine goesL_ (some 19) rfl rfl Try.func21 (by kernel_rfl) rfl #[] rfl (by (try simp only [List.map_toArray, List.map_cons, List.map_nil]); first | done | rfl | (simp only [List.length_drop, List.length_take]; rfl)) ?_; (with_reducible refine (posserlaw03_awake.calls  t890 _ A6.out).mono ?_); rintro e w11 ⟨rfl, hb⟩; refine ⟨_, rfl, ?_⟩; replace BK888 := Aside0.mk (sbb BK888 hb); replace HB := Aside0.mk (sbs1 HB GE888 hb); (try clear hb); (try clear hb2); (try clear hk); (try clear hi)))
   go_ret
   exact ⟨by first | rfl | (simp [errW_none, errW_some] <;> rfl) | (simp [*, errW_none, errW_some] <;> rfl), (sbe1 HB GE888)⟩
  ·rw [if_neg c5] at H
   have c5b0 : ((l0_1.length : Int) == 0) = false := beq_eq_false_iff_ne.mpr c5
   have c5b1 : ((l0_1.length : Int) != 0) = true := bne_iff_ne.mpr c5
   have c5b2 : ¬ (l0_1 = []) := fun h_ => c5 (by rw [h_]; rfl)
   replace H := Option.bind_eq_some_iff.mp H
   obtain ⟨⟨t891, t894, t897⟩, A120, H⟩ := H
   replace H : ((bundle_Look.f t891 t894 t897).bind fun bt898 => ((posserlaw03_sure.f k l0_0 l0_1 a0_2).bind fun bt901 => (if bt901.2 = 0 then (if bt898.2.2 = 0 then ((posserref03_In.f bt898.1 0 (wrap64 ((l0_1.length : Int) - 1))).bind fun t905 => (if t905 = true then ((posserref03_Leaves.f k l0_0 l0_1 a0_2 bt901.1 bt898.1).bind fun t906 => (if bt898.2.1 = t906 then ((posserref03_Leaves.f k l0_0 l0_1 a0_2 bt901.1 (Int.tmod (wrap64 (a1)) (l0_1.length : Int))).bind fun t907 => (if t907 ≥ bt898.2.1 then ((posserlaw03_awake.f).bind fun t908 => (some t908)) else (none))) else (none))) else (none))) else (none)) else (if bt898.2.2 = bt901.2 then ((posserlaw03_awake.f).bind fun t909 => (some t909)) else (none))))) = some r := H
   have A12 := Aside0.mk A120
   clear A120
   replace H := Option.bind_eq_some_iff.mp H
   obtain ⟨⟨t898, t899, t900⟩, A130, H⟩ := H
   replace H : ((posserlaw03_sure.f k l0_0 l0_1 a0_2).bind fun bt901 => (if bt901.2 = 0 then (if t900 = 0 then ((posserref03_In.f t898 0 (wrap64 ((l0_1.length : Int) - 1))).bind fun t905 => (if t905 = true then ((posserref03_Leaves.f k l0_0 l0_1 a0_2 bt901.1 t898).bind fun t906 => (if t899 = t906 then ((posserref03_Leaves.f k l0_0 l0_1 a0_2 bt901.1 (Int.tmod (wrap64 (a1)) (l0_1.length : Int))).bind fun t907 => (if t907 ≥ t899 then ((posserlaw03_awake.f).bind fun t908 => (some t908)) else (none))) else (none))) else (none))) else (none)) else (if t900 = bt901.2 then ((posserlaw03_awake.f).bind fun t909 => (some t909)) else (none)))) = some r := H
   have A13 := Aside0.mk A130
   clear A130
   replace H := Option.bind_eq_some_iff.mp H
   obtain ⟨⟨t901, t904⟩, A140, H⟩ := H
   replace H : (if t904 = 0 then (if t900 = 0 then ((posserref03_In.f t898 0 (wrap64 ((l0_1.length : Int) - 1))).bind fun t905 => (if t905 = true then ((posserref03_Leaves.f k l0_0 l0_1 a0_2 t901 t898).bind fun t906 => (if t899 = t906 then ((posserref03_Leaves.f k l0_0 l0_1 a0_2 t901 (Int.tmod (wrap64 (a1)) (l0_1.length : Int))).bind fun t907 => (if t907 ≥ t899 then ((posserlaw03_awake.f).bind fun t908 => (some t908)) else (none))) else (none))) else (none))) else (none)) else (if t900 = t904 then ((posserlaw03_awake.f).bind fun t909 => (some t909)) else (none))) = some r := H
   have A14 := Aside0.mk A140
   clear A140
   by_cases c15 : t904 = 0
   ·rw [if_pos c15] at H
    have c15b0 : (t904 == 0) = true := beq_iff_eq.mpr c15
    have c15b1 : (t904 != 0) = false := bne_eq_false_iff_eq.mpr c15
    clear c15
    by_cases c16 : t900 = 0
    ·rw [if_pos c16] at H
     have c16b0 : (t900 == 0) = true := beq_iff_eq.mpr c16
     have c16b1 : (t900 != 0) = false := bne_eq_false_iff_eq.mpr c16
     clear c16
     replace H := Option.bind_eq_some_iff.mp H
     obtain ⟨t905, A170, H⟩ := H
     replace H : (if t905 = true then ((posserref03_Leaves.f k l0_0 l0_1 a0_2 t901 t898).bind fun t906 => (if t899 = t906 then ((posserref03_Leaves.f k l0_0 l0_1 a0_2 t901 (Int.tmod (wrap64 (a1)) (l0_1.length : Int))).bind fun t907 => (if t907 ≥ t899 then ((posserlaw03_awake.f).bind fun t908 => (some t908)) else (none))) else (none))) else (none)) = some r := H
     have A17 := Aside0.mk A170
     clear A170
     by_cases c18 : t905 = true
     ·subst c18
      have H1 : ((posserref03_Leaves.f k l0_0 l0_1 a0_2 t901 t898).bind fun t906 => (if t899 = t906 then ((posserref03_Leaves.f k l0_0 l0_1 a0_2 t901 (Int.tmod (wrap64 (a1)) (l0_1.length : Int))).bind fun t907 => (if t907 ≥ t899 then ((posserlaw03_awake.f).bind fun t908 => (some t908)) else (none))) else (none))) = some r := by rw [if_pos rfl] at H; exact H
      clear H
      have H := H1
      clear H1
      replace H := Option.bind_eq_some_iff.mp H
      obtain ⟨t906, A190, H⟩ := H
      replace H : (if t899 = t906 then ((posserref03_Leaves.f k l0_0 l0_1 a0_2 t901 (Int.tmod (wrap64 (a1)) (l0_1.length : Int))).bind fun t907 => (if t907 ≥ t899 then ((posserlaw03_awake.f).bind fun t908 => (some t908)) else (none))) else (none)) = some r := H
      have A19 := Aside0.mk A190
      clear A190
      by_cases c20 : t899 = t906
      ·rw [if_pos c20] at H
       have c20b0 : (t899 == t906) = true := beq_iff_eq.mpr c20
       have c20b1 : (t899 != t906) = false := bne_eq_false_iff_eq.mpr c20
       clear c20
       replace H := Option.bind_eq_some_iff.mp H
       obtain ⟨t907, A210, H⟩ := H
       replace H : (if t907 ≥ t899 then ((posserlaw03_awake.f).bind fun t908 => (some t908)) else (none)) = some r := H
       have A21 := Aside0.mk A210
       clear A210
       by_cases c22 : t907 ≥ t899
       ·rw [if_pos c22] at H
        have c22b0 : decide (t899 ≤ t907) = true := decide_eq_true c22
        clear c22
        replace H := Option.bind_eq_some_iff.mp H
        obtain ⟨t908, A230, H⟩ := H
        replace H : (some t908) = some r := H
        have A23 := Aside0.mk A230
        clear A230
        obtain rfl := Option.some.inj H
        go_enter Try.func14, Try.ntmps14
        try go_wp2_with (first | ((with_reducible refine gate_dst (N := 2) rfl ?_); (try (refine gate_guard (by rfl) ?_; dsimp only)); refine sbox (N := 2) #[.slice A0_0 l0_0.length c0_0, .slice A0_1 l0_1.length c0_1, .int .i64 a0_2] 25 ?_; intro gb888 hg w24 hbox hb; have BK888 := Aside0.mk (hbox); have GW888 := Aside0.mk (sge hg HB : w.heap.size ≤ gb888); have GE888 := Aside0.mk (sge hg HB : w.heap.size ≤ gb888); replace HB := Aside0.mk (sbs HB hb); clear hb hbox hg; have hcz25_0 := sc 0 BK888; have hcz25_1 := sc 1 BK888; have hcz25_2 := sc 2 BK888; have hfz25_0 := blk_frozen BK888.out 0; have hfz25_1 := blk_frozen BK888.out 1; have hfz25_2 := blk_frozen BK888.out 2) | ((with_reducible refine gate_callee (f := 47) rfl ?_); refine goesL_ (some 11) rfl rfl Try.func47 (by kernel_rfl) rfl #[.agg #[.slice A0_0 l0_0.length c0_0, .slice A0_1 l0_1.length c0_1, .int .i64 a0_2]] rfl (by (try simp only [List.map_toArray, List.map_cons, List.map_nil]); first | done | rfl | (simp only [List.length_drop, List.length_take]; rfl)) ?_; (with_reducible refine (posserlaw03_ready.calls k _ _ l0_0 _ _ l0_1 a0_2 true _ ?side1 ?side2 ?side3 ?side4 A3.out).mono ?_); (case side1 => exact sCb HR0_0 HB); (case side2 => exact HC0_0.out); (case side3 => exact sCb HR0_1 HB); (case side4 => exact HC0_1.out); rintro e w26 ⟨rfl, hb⟩; refine ⟨_, rfl, ?_⟩; replace BK888 := Aside0.mk (sbb BK888 hb); replace HB := Aside0.mk (sbs1 HB GE888 hb); (try clear hb); (try clear hb2); (try clear hk); (try clear hi); have hcz27_0 := sc 0 BK888; have hcz27_1 := sc 1 BK888; have hcz27_2 := sc 2 BK888; have hfz27_0 := blk_frozen BK888.out 0; have hfz27_1 := blk_frozen BK888.out 1; have hfz27_2 := blk_frozen BK888.out 2) | ((with_reducible refine gate_callee (f := 23) rfl ?_); refine goesL_ (some 22) rfl rfl Try.func23 (by kernel_rfl) rfl #[.agg #[.slice A0_0 l0_0.length c0_0, .slice A0_1 l0_1.length c0_1, .int .i64 a0_2]] rfl (by (try simp only [List.map_toArray, List.map_cons, List.map_nil]); first | done | rfl | (simp only [List.length_drop, List.length_take]; rfl)) ?_; (with_reducible refine (posserlaw03_Table.calls _ _ l0_0 _ _ l0_1 a0_2 t891 t894 t897 _ ?side1 ?side2 ?side3 ?side4 A12.out).mono ?_); (case side1 => exact sCb HR0_0 HB); (case side2 => exact HC0_0.out); (case side3 => exact sCb HR0_1 HB); (case side4 => exact HC0_1.out); rintro e w28 ⟨v892, v895, rfl, ho0, ho1, hb⟩; refine ⟨_, rfl, ?_⟩; have HO893 := Aside0.mk (Kd.R_lower (Kd.R_mono (ok' := fun k_ => True) ho0 (fun _ hk_ => trivial)) (below_size (sbe1 HB GE888))); have HO896 := Aside0.mk (Kd.N_lower (Kd.N_mono (ok' := fun k_ => some k_ ≠ (v892 : Value).ownBlock ∧ k_ ≠ gb888) ho1 (fun k_ hk_ => ⟨hk_.2, (Kd.freshB (g := gb888) (o := .cells #[.slice A0_0 l0_0.length c0_0, .slice A0_1 l0_1.length c0_1, .int .i64 a0_2] 25 (0, 0)) (sbk BK888) k_ hk_.1)⟩)) (below_size (sbe1 HB GE888))); replace BK888 := Aside0.mk (sbb BK888 hb); replace HB := Aside0.mk (sbs1 HB GE888 hb); (try clear hb); (try clear hb2); (try clear hk); (try clear hi); (try clear ho0); (try clear ho1); obtain ⟨Ao29, co29, eo29⟩ := Kd.R_slice HO893.out; subst eo29; obtain ⟨Ao30, co30, eo30⟩ := Kd.N_slice HO896.out; subst eo30) | ((with_reducible refine gate_callee (f := 29) rfl ?_); refine goesL_ (some 23) rfl rfl Try.func29 (by kernel_rfl) rfl #[.agg #[.slice Ao29 t891.length co29, .slice Ao30 t894.length co30, .int .i64 t897]] rfl (by (try simp only [List.map_toArray, List.map_cons, List.map_nil]); first | done | rfl | (simp only [List.length_drop, List.length_take]; rfl)) ?_; (with_reducible refine (bundle_Look.calls _ _ t891 _ _ t894 t897 t898 t899 t900 _ ?side1 ?side2 ?side3 ?side4 A13.out).mono ?_); (case side1 => repeat (first | exact (Kd.R_reads' HO893.out).2.2 | (with_reducible refine Kd.C_alloc ?_ _) | (with_reducible refine Kd.C_drewN ?_ _) | (with_reducible refine Kd.C_drew ?_))); (case side2 => exact (Kd.R_reads' HO893.out).2.1); (case side3 => repeat (first | exact (Kd.N_reads' HO896.out).2.2 | (with_reducible refine Kd.C_alloc ?_ _) | (with_reducible refine Kd.C_drewN ?_ _) | (with_reducible refine Kd.C_drew ?_))); (case side4 => exact (Kd.N_reads' HO896.out).2.1); rintro e w31 ⟨rfl, hb⟩; refine ⟨_, rfl, ?_⟩; replace HO893 := Aside0.mk (Kd.R_below (sR HO893) hb); replace HO896 := Aside0.mk (Kd.N_below (sN_ HO896) hb); replace BK888 := Aside0.mk (sbb BK888 hb); replace HB := Aside0.mk (sbs1 HB GE888 hb); (try clear hb); (try clear hb2); (try clear hk); (try clear hi); have hcz32_0 := sc 0 BK888; have hcz32_1 := sc 1 BK888; have hcz32_2 := sc 2 BK888; have hfz32_0 := blk_frozen BK888.out 0; have hfz32_1 := blk_frozen BK888.out 1; have hfz32_2 := blk_frozen BK888.out 2) | ((with_reducible refine gate_callee (f := 24) rfl ?_); refine goesL_ (some 29) rfl rfl Try.func24 (by kernel_rfl) rfl #[.agg #[.slice A0_0 l0_0.length c0_0, .slice A0_1 l0_1.length c0_1, .int .i64 a0_2]] rfl (by (try simp only [List.map_toArray, List.map_cons, List.map_nil]); first | done | rfl | (simp only [List.length_drop, List.length_take]; rfl)) ?_; (with_reducible refine (posserlaw03_sure.calls k _ _ l0_0 _ _ l0_1 a0_2 t901 t904 _ ?side1 ?side2 ?side3 ?side4 A14.out).mono ?_); (case side1 => exact sCb HR0_0 HB); (case side2 => exact HC0_0.out); (case side3 => exact sCb HR0_1 HB); (case side4 => exact HC0_1.out); rintro e w33 ⟨v902, rfl, ho0, hb⟩; refine ⟨_, rfl, ?_⟩; have HO903 := Aside0.mk (Kd.N_lower (Kd.N_mono (ok' := fun k_ => some k_ ≠ (.slice Ao29 t891.length co29 : Value).ownBlock ∧ some k_ ≠ (.slice Ao30 t894.length co30 : Value).ownBlock ∧ k_ ≠ gb888) (Kd.S_N (Kd.S_bound ho0)) (fun k_ hk_ => ⟨(Kd.fresh' (Kd.R_lt (sR HO893)) k_ hk_.2.1), (Kd.fresh' (Kd.N_lt (sN_ HO896)) k_ hk_.2.1), (Kd.freshB (g := gb888) (o := .cells #[.slice A0_0 l0_0.length c0_0, .slice A0_1 l0_1.length c0_1, .int .i64 a0_2] 25 (0, 0)) (sbk BK888) k_ hk_.2.1)⟩)) (below_size (sbe1 HB GE888))); replace HO893 := Aside0.mk (Kd.R_below (sR HO893) hb); replace HO896 := Aside0.mk (Kd.N_elder' (sN_ HO896) (Kd.N_base (Kd.S_N ho0)) hb); replace BK888 := Aside0.mk (sbb BK888 hb); replace HB := Aside0.mk (sbs1 HB GE888 hb); (try clear hb); (try clear hb2); (try clear hk); (try clear hi); (try clear ho0)))
        replace HO893 := Aside0.mk (Kd.R_drew HO893.out)
        replace HO896 := Aside0.mk (Kd.N_drew HO896.out)
        replace HO903 := Aside0.mk (Kd.N_drew HO903.out)
        replace BK888 := Aside0.mk (blk_drew BK888.out)
        replace HB := Aside0.mk (below_drew1 HB.out)
        refine start_ (n := 35) (S := fun w' => w'.cell? ⟨gb888, 0, none⟩ = some (.slice A0_0 l0_0.length c0_0) ∧ w'.cell? ⟨gb888, 1, none⟩ = some (.slice A0_1 l0_1.length c0_1) ∧ w'.cell? ⟨gb888, 2, none⟩ = some (.int .i64 a0_2)) (ds := []) (lm 35 0) (by kernel_rfl) rfl (by kernel_rfl) ⟨(blk_cell BK888.out 0).trans rfl, (blk_cell BK888.out 1).trans rfl, (blk_cell BK888.out 2).trans rfl⟩ (fun hHeld => ?_); refine with_tabW posserlaw03_BundleLooked.tab7 posserlaw03_BundleLooked.bits7 (fun HT_ HW_ => ?_)
        generalize w33.drew = w34 at HO893 HO896 HO903 BK888 HB hHeld ⊢
        refine sP (i := 0) (N := some 40) (lm 35 1) ?_ (hc := any_of HT_.out (by kernel_rfl))
        refine sP (i := 1) (N := some 41) (lm 35 3) ?_ (hc := any_of HT_.out (by kernel_rfl))
        refine sP (i := 2) (N := some 42) (lm 35 7) ?_ (hc := any_of HT_.out (by kernel_rfl))
        refine sP (i := 3) (N := some 43) (lm 35 15) ?_ (hc := any_of HT_.out (by kernel_rfl))
        refine sP (i := 4) (N := some 44) (lm 35 31) ?_ (hc := any_of HT_.out (by kernel_rfl))
        refine take_ (i := 5) (N := some 45) (v := ?_) (a' := ?_) (lm 35 63) rfl rfl (take_ofW HT_.out HW_.out (by kernel_rfl)) (fun _ _ _ h => h) (Or.inl ⟨by rfl, ?_⟩) hHeld ?_ ?_
        rotate_left
        ·rintro w' ⟨s0, s1, s2⟩
         go_simp
         with_reducible rfl
        rotate_left
        ·simp only [Act.put, List.setIfInBounds_toArray, List.set_cons_zero, List.set_cons_succ, i64_w, i32_w]
         rfl
        refine sP (i := 6) (N := some 46) (lm 35 127) ?_ (hc := any_of HT_.out (by kernel_rfl))
        refine sP (i := 7) (N := some 47) (lm 35 255) ?_ (hc := any_of HT_.out (by kernel_rfl))
        refine one_ (i := 8) (N := some 48) (lm 35 511) rfl rfl (one_of HT_.out (by kernel_rfl)) (by decide) (fun K hK => ?_)
        refine goes_ Try.func49 (by kernel_rfl) rfl #[.int .i64 t898, .int .i64 0, .int .i64 (wrap64 ((l0_1.length : Int) - 1))] (by rfl) rfl rfl (by (try simp only [List.map_toArray, List.map_cons, List.map_nil]); first | done | rfl | (simp only [List.length_drop, List.length_take]; rfl)) ?_
        with_reducible refine (posserref03_In.calls t898 0 (wrap64 ((l0_1.length : Int) - 1)) true _ A17.out).mono ?_
        rintro e w' ⟨rfl, ⟨nd, rfl⟩⟩
        refine ⟨_, rfl, ?_⟩
        obtain ⟨Ao35, co35, eo35⟩ := Kd.N_slice HO903.out
        (first | subst eo35 | (injection eo35 with f1_ f2_ f3_; have f4_ := f1_.symm; have f5_ := f3_.symm; clear f1_ f2_ f3_; subst f4_; subst f5_))
        refine hK.out _ _ ⟨(blk_cell BK888.out 0).trans rfl, (blk_cell BK888.out 1).trans rfl, (blk_cell BK888.out 2).trans rfl⟩ (fun hHeld => ?_)
        clear hK K
        refine sN ?_
        refine sP (i := 9) (N := some 49) (lm 35 1023) ?_ (hc := any_of HT_.out (by kernel_rfl))
        refine sP (i := 10) (N := some 50) (lm 35 2047) ?_ (hc := any_of HT_.out (by kernel_rfl))
        refine sP (i := 11) (N := some 51) (lm 35 4095) ?_ (hc := any_of HT_.out (by kernel_rfl))
        refine sP (i := 13) (N := some 53) (lm 35 12287) ?_ (hc := any_of HT_.out (by kernel_rfl))
        refine sP (i := 14) (N := some 54) (lm 35 28671) ?_ (hc := any_of HT_.out (by kernel_rfl))
        refine take_ (i := 12) (N := some 52) (v := ?_) (a' := ?_) (lm 35 32767) rfl rfl (take_ofW HT_.out HW_.out (by kernel_rfl)) (fun _ _ _ h => h) (Or.inl ⟨by rfl, ?_⟩) hHeld ?_ ?_
        rotate_left
        ·rintro w' ⟨s0, s1, s2⟩
         go_simp
         with_reducible rfl
        rotate_left
        ·simp only [Act.put, List.setIfInBounds_toArray, List.set_cons_zero, List.set_cons_succ, i64_w, i32_w]
         rfl
        refine one_ (i := 15) (N := some 55) (lm 35 65535) rfl rfl (one_of HT_.out (by kernel_rfl)) (by decide) (fun K hK => ?_)
        refine goes_ Try.func54 (by kernel_rfl) rfl #[.agg #[.slice A0_0 l0_0.length c0_0, .slice A0_1 l0_1.length c0_1, .int .i64 a0_2], .slice Ao35 t901.length co35, .int .i64 t898] (by rfl) rfl rfl (by (try simp only [List.map_toArray, List.map_cons, List.map_nil]); first | done | rfl | (simp only [List.length_drop, List.length_take]; rfl)) ?_
        with_reducible refine (posserref03_Leaves.calls k _ _ l0_0 _ _ l0_1 a0_2 _ _ t901 t898 t906 _ ?side1 ?side2 ?side3 ?side4 ?side5 ?side6 A19.out).mono ?_
        (case side1 => exact sCb1 HR0_0 HB GE888)
        (case side2 => exact HC0_0.out)
        (case side3 => exact sCb1 HR0_1 HB GE888)
        (case side4 => exact HC0_1.out)
        (case side5 => repeat (first | exact (Kd.N_reads' HO903.out).2.2 | (with_reducible refine Kd.C_alloc ?_ _) | (with_reducible refine Kd.C_drewN ?_ _) | (with_reducible refine Kd.C_drew ?_)))
        (case side6 => exact (Kd.N_reads' HO903.out).2.1)
        rintro e w36 ⟨rfl, hb⟩
        refine ⟨_, rfl, ?_⟩
        replace HO893 := Aside0.mk (Kd.R_below (sR HO893) hb)
        replace HO896 := Aside0.mk (Kd.N_below (sN_ HO896) hb)
        replace HO903 := Aside0.mk (Kd.N_below (sN_ HO903) hb)
        replace BK888 := Aside0.mk (sbb BK888 hb)
        replace HB := Aside0.mk (sbs1 HB GE888 hb)
        (try clear hb)
        (try clear hb2)
        (try clear hk)
        (try clear hi)
        refine hK.out _ _ ⟨(blk_cell BK888.out 0).trans rfl, (blk_cell BK888.out 1).trans rfl, (blk_cell BK888.out 2).trans rfl⟩ (fun hHeld => ?_)
        clear hK K
        refine sN ?_
        refine sP (i := 16) (N := some 56) (lm 35 131071) ?_ (hc := any_of HT_.out (by kernel_rfl))
        refine sP (i := 17) (N := some 57) (lm 35 262143) ?_ (hc := any_of HT_.out (by kernel_rfl))
        refine sP (i := 18) (N := some 58) (lm 35 524287) ?_ (hc := any_of HT_.out (by kernel_rfl))
        refine sP (i := 20) (N := some 60) (lm 35 1572863) ?_ (hc := any_of HT_.out (by kernel_rfl))
        refine sP (i := 21) (N := some 61) (lm 35 3670015) ?_ (hc := any_of HT_.out (by kernel_rfl))
        refine sP (i := 22) (N := some 62) (lm 35 7864319) ?_ (hc := any_of HT_.out (by kernel_rfl))
        refine sP (i := 23) (N := some 63) (lm 35 16252927) ?_ (hc := any_of HT_.out (by kernel_rfl))
        refine sP (i := 28) (N := some 68) (lm 35 284688383) ?_ (hc := any_of HT_.out (by kernel_rfl))
        refine take_ (i := 19) (N := some 59) (v := ?_) (a' := ?_) (lm 35 285212671) rfl rfl (take_ofW HT_.out HW_.out (by kernel_rfl)) (fun _ _ _ h => h) (Or.inl ⟨by rfl, ?_⟩) hHeld ?_ ?_
        rotate_left
        ·rintro w' ⟨s0, s1, s2⟩
         go_simp
         with_reducible rfl
        rotate_left
        ·simp only [Act.put, List.setIfInBounds_toArray, List.set_cons_zero, List.set_cons_succ, i64_w, i32_w]
         rfl
        refine take_ (i := 24) (N := some 64) (v := ?_) (a' := ?_) (lm 35 301989887) rfl rfl (take_ofW HT_.out HW_.out (by kernel_rfl)) (fun _ _ _ h => h) (Or.inl ⟨by rfl, ?_⟩) hHeld ?_ ?_
        rotate_left
        ·rintro w' ⟨s0, s1, s2⟩
         go_simp
         with_reducible rfl
        rotate_left
        ·simp only [Act.put, List.setIfInBounds_toArray, List.set_cons_zero, List.set_cons_succ, i64_w, i32_w]
         rfl
        refine sP (i := 25) (N := some 65) (lm 35 335544319) ?_ (hc := any_of HT_.out (by kernel_rfl))
        refine sP (i := 26) (N := some 66) (lm 35 402653183) ?_ (hc := any_of HT_.out (by kernel_rfl))
        refine one_ (i := 27) (N := some 67) (lm 35 536870911) rfl rfl (one_of HT_.out (by kernel_rfl)) (by decide) (fun K hK => ?_)
        refine goes_ Try.func54 (by kernel_rfl) rfl #[.agg #[.slice A0_0 l0_0.length c0_0, .slice A0_1 l0_1.length c0_1, .int .i64 a0_2], .slice Ao35 t901.length co35, .int .i64 (Int.tmod (wrap64 (a1)) (l0_1.length : Int))] (by rfl) rfl rfl (by (try simp only [List.map_toArray, List.map_cons, List.map_nil]); first | done | rfl | (simp only [List.length_drop, List.length_take]; rfl)) ?_
        with_reducible refine (posserref03_Leaves.calls k _ _ l0_0 _ _ l0_1 a0_2 _ _ t901 (Int.tmod (wrap64 (a1)) (l0_1.length : Int)) t907 _ ?side1 ?side2 ?side3 ?side4 ?side5 ?side6 A21.out).mono ?_
        (case side1 => exact sCb HR0_0 HB)
        (case side2 => exact HC0_0.out)
        (case side3 => exact sCb HR0_1 HB)
        (case side4 => exact HC0_1.out)
        (case side5 => repeat (first | exact (Kd.N_reads' HO903.out).2.2 | (with_reducible refine Kd.C_alloc ?_ _) | (with_reducible refine Kd.C_drewN ?_ _) | (with_reducible refine Kd.C_drew ?_)))
        (case side6 => exact (Kd.N_reads' HO903.out).2.1)
        rintro e w37 ⟨rfl, hb⟩
        refine ⟨_, rfl, ?_⟩
        replace HO893 := Aside0.mk (Kd.R_below (sR HO893) hb)
        replace HO896 := Aside0.mk (Kd.N_below (sN_ HO896) hb)
        replace HO903 := Aside0.mk (Kd.N_below (sN_ HO903) hb)
        replace BK888 := Aside0.mk (sbb BK888 hb)
        replace HB := Aside0.mk (sbs1 HB GE888 hb)
        (try clear hb)
        (try clear hb2)
        (try clear hk)
        (try clear hi)
        refine hK.out _ _ ⟨(blk_cell BK888.out 0).trans rfl, (blk_cell BK888.out 1).trans rfl, (blk_cell BK888.out 2).trans rfl⟩ (fun hHeld => ?_)
        clear hK K
        refine sN ?_
        refine sP (i := 29) (N := some 69) (lm 35 1073741823) ?_ (hc := any_of HT_.out (by kernel_rfl))
        refine sP (i := 30) (N := some 70) (lm 35 2147483647) ?_ (hc := any_of HT_.out (by kernel_rfl))
        refine sP (i := 31) (N := some 71) (lm 35 4294967295) ?_ (hc := any_of HT_.out (by kernel_rfl))
        refine one_ (i := 32) (N := some 72) (lm 35 8589934591) rfl rfl (one_of HT_.out (by kernel_rfl)) (by decide) (fun K hK => ?_)
        refine goes_ Try.func21 (by kernel_rfl) rfl #[] (by rfl) rfl rfl (by (try simp only [List.map_toArray, List.map_cons, List.map_nil]); first | done | rfl | (simp only [List.length_drop, List.length_take]; rfl)) ?_
        with_reducible refine (posserlaw03_awake.calls  t908 _ A23.out).mono ?_
        rintro e w38 ⟨rfl, hb⟩
        refine ⟨_, rfl, ?_⟩
        replace HO893 := Aside0.mk (Kd.R_below (sR HO893) hb)
        replace HO896 := Aside0.mk (Kd.N_below (sN_ HO896) hb)
        replace HO903 := Aside0.mk (Kd.N_below (sN_ HO903) hb)
        replace BK888 := Aside0.mk (sbb BK888 hb)
        replace HB := Aside0.mk (sbs1 HB GE888 hb)
        (try clear hb)
        (try clear hb2)
        (try clear hk)
        (try clear hi)
        refine hK.out _ _ ⟨(blk_cell BK888.out 0).trans rfl, (blk_cell BK888.out 1).trans rfl, (blk_cell BK888.out 2).trans rfl⟩ (fun hHeld => ?_)
        clear hK K
        refine sN ?_
        refine sP (i := 33) (N := some 73) (lm 35 17179869183) ?_ (hc := any_of HT_.out (by kernel_rfl))
        refine sP (i := 34) (N := some 4) (lm 35 34359738367) ?_ (hc := any_of HT_.out (by kernel_rfl))
        refine done_ (done_of HT_.out (by kernel_rfl)) ?_
        try go_wp2
        go_ret
        exact ⟨by first | rfl | (simp [errW_none, errW_some] <;> rfl) | (simp [*, errW_none, errW_some] <;> rfl), (sbe1 HB GE888)⟩
       ·rw [if_neg c22] at H
        exact absurd H (by simp)
      ·rw [if_neg c20] at H
       exact absurd H (by simp)
     ·replace c18 := Bool.eq_false_iff.mpr c18
      subst c18
      have H1 : (none) = some r := by rw [if_neg (show ¬ (false = true) by decide)] at H; exact H
      clear H
      have H := H1
      clear H1
      exact absurd H (by simp)
    ·rw [if_neg c16] at H
     exact absurd H (by simp)
   ·rw [if_neg c15] at H
    have c15b0 : (t904 == 0) = false := beq_eq_false_iff_ne.mpr c15
    have c15b1 : (t904 != 0) = true := bne_iff_ne.mpr c15
    by_cases c39 : t900 = t904
    ·rw [if_pos c39] at H
     have c39b0 : (t900 == t904) = true := beq_iff_eq.mpr c39
     have c39b1 : (t900 != t904) = false := bne_eq_false_iff_eq.mpr c39
     clear c39
     replace H := Option.bind_eq_some_iff.mp H
     obtain ⟨t909, A400, H⟩ := H
     replace H : (some t909) = some r := H
     have A40 := Aside0.mk A400
     clear A400
     obtain rfl := Option.some.inj H
     go_enter Try.func14, Try.ntmps14
     go_wp2_with (first | ((with_reducible refine gate_dst (N := 2) rfl ?_); (try (refine gate_guard (by rfl) ?_; dsimp only)); refine sbox (N := 2) #[.slice A0_0 l0_0.length c0_0, .slice A0_1 l0_1.length c0_1, .int .i64 a0_2] 25 ?_; intro gb888 hg w41 hbox hb; have BK888 := Aside0.mk (hbox); have GW888 := Aside0.mk (sge hg HB : w.heap.size ≤ gb888); have GE888 := Aside0.mk (sge hg HB : w.heap.size ≤ gb888); replace HB := Aside0.mk (sbs HB hb); clear hb hbox hg; have hcz42_0 := sc 0 BK888; have hcz42_1 := sc 1 BK888; have hcz42_2 := sc 2 BK888; have hfz42_0 := blk_frozen BK888.out 0; have hfz42_1 := blk_frozen BK888.out 1; have hfz42_2 := blk_frozen BK888.out 2) | ((with_reducible refine gate_callee (f := 47) rfl ?_); refine goesL_ (some 11) rfl rfl Try.func47 (by kernel_rfl) rfl #[.agg #[.slice A0_0 l0_0.length c0_0, .slice A0_1 l0_1.length c0_1, .int .i64 a0_2]] rfl (by (try simp only [List.map_toArray, List.map_cons, List.map_nil]); first | done | rfl | (simp only [List.length_drop, List.length_take]; rfl)) ?_; (with_reducible refine (posserlaw03_ready.calls k _ _ l0_0 _ _ l0_1 a0_2 true _ ?side1 ?side2 ?side3 ?side4 A3.out).mono ?_); (case side1 => exact sCb HR0_0 HB); (case side2 => exact HC0_0.out); (case side3 => exact sCb HR0_1 HB); (case side4 => exact HC0_1.out); rintro e w43 ⟨rfl, hb⟩; refine ⟨_, rfl, ?_⟩; replace BK888 := Aside0.mk (sbb BK888 hb); replace HB := Aside0.mk (sbs1 HB GE888 hb); (try clear hb); (try clear hb2); (try clear hk); (try clear hi); have hcz44_0 := sc 0 BK888; have hcz44_1 := sc 1 BK888; have hcz44_2 := sc 2 BK888; have hfz44_0 := blk_frozen BK888.out 0; have hfz44_1 := blk_frozen BK888.out 1; have hfz44_2 := blk_frozen BK888.out 2) | ((with_reducible refine gate_callee (f := 23) rfl ?_); refine goesL_ (some 22) rfl rfl Try.func23 (by kernel_rfl) rfl #[.agg #[.slice A0_0 l0_0.length c0_0, .slice A0_1 l0_1.length c0_1, .int .i64 a0_2]] rfl (by (try simp only [List.map_toArray, List.map_cons, List.map_nil]); first | done | rfl | (simp only [List.length_drop, List.length_take]; rfl)) ?_; (with_reducible refine (posserlaw03_Table.calls _ _ l0_0 _ _ l0_1 a0_2 t891 t894 t897 _ ?side1 ?side2 ?side3 ?side4 A12.out).mono ?_); (case side1 => exact sCb HR0_0 HB); (case side2 => exact HC0_0.out); (case side3 => exact sCb HR0_1 HB); (case side4 => exact HC0_1.out); rintro e w45 ⟨v892, v895, rfl, ho0, ho1, hb⟩; refine ⟨_, rfl, ?_⟩; have HO893 := Aside0.mk (Kd.R_lower (Kd.R_mono (ok' := fun k_ => True) ho0 (fun _ hk_ => trivial)) (below_size (sbe1 HB GE888))); have HO896 := Aside0.mk (Kd.N_lower (Kd.N_mono (ok' := fun k_ => some k_ ≠ (v892 : Value).ownBlock ∧ k_ ≠ gb888) ho1 (fun k_ hk_ => ⟨hk_.2, (Kd.freshB (g := gb888) (o := .cells #[.slice A0_0 l0_0.length c0_0, .slice A0_1 l0_1.length c0_1, .int .i64 a0_2] 25 (0, 0)) (sbk BK888) k_ hk_.1)⟩)) (below_size (sbe1 HB GE888))); replace BK888 := Aside0.mk (sbb BK888 hb); replace HB := Aside0.mk (sbs1 HB GE888 hb); (try clear hb); (try clear hb2); (try clear hk); (try clear hi); (try clear ho0); (try clear ho1); obtain ⟨Ao46, co46, eo46⟩ := Kd.R_slice HO893.out; subst eo46; obtain ⟨Ao47, co47, eo47⟩ := Kd.N_slice HO896.out; subst eo47) | ((with_reducible refine gate_callee (f := 29) rfl ?_); refine goesL_ (some 23) rfl rfl Try.func29 (by kernel_rfl) rfl #[.agg #[.slice Ao46 t891.length co46, .slice Ao47 t894.length co47, .int .i64 t897]] rfl (by (try simp only [List.map_toArray, List.map_cons, List.map_nil]); first | done | rfl | (simp only [List.length_drop, List.length_take]; rfl)) ?_; (with_reducible refine (bundle_Look.calls _ _ t891 _ _ t894 t897 t898 t899 t900 _ ?side1 ?side2 ?side3 ?side4 A13.out).mono ?_); (case side1 => repeat (first | exact (Kd.R_reads' HO893.out).2.2 | (with_reducible refine Kd.C_alloc ?_ _) | (with_reducible refine Kd.C_drewN ?_ _) | (with_reducible refine Kd.C_drew ?_))); (case side2 => exact (Kd.R_reads' HO893.out).2.1); (case side3 => repeat (first | exact (Kd.N_reads' HO896.out).2.2 | (with_reducible refine Kd.C_alloc ?_ _) | (with_reducible refine Kd.C_drewN ?_ _) | (with_reducible refine Kd.C_drew ?_))); (case side4 => exact (Kd.N_reads' HO896.out).2.1); rintro e w48 ⟨rfl, hb⟩; refine ⟨_, rfl, ?_⟩; replace HO893 := Aside0.mk (Kd.R_below (sR HO893) hb); replace HO896 := Aside0.mk (Kd.N_below (sN_ HO896) hb); replace BK888 := Aside0.mk (sbb BK888 hb); replace HB := Aside0.mk (sbs1 HB GE888 hb); (try clear hb); (try clear hb2); (try clear hk); (try clear hi); have hcz49_0 := sc 0 BK888; have hcz49_1 := sc 1 BK888; have hcz49_2 := sc 2 BK888; have hfz49_0 := blk_frozen BK888.out 0; have hfz49_1 := blk_frozen BK888.out 1; have hfz49_2 := blk_frozen BK888.out 2) | ((with_reducible refine gate_callee (f := 24) rfl ?_); refine goesL_ (some 29) rfl rfl Try.func24 (by kernel_rfl) rfl #[.agg #[.slice A0_0 l0_0.length c0_0, .slice A0_1 l0_1.length c0_1, .int .i64 a0_2]] rfl (by (try simp only [List.map_toArray, List.map_cons, List.map_nil]); first | done | rfl | (simp only [List.length_drop, List.length_take]; rfl)) ?_; (with_reducible refine (posserlaw03_sure.calls k _ _ l0_0 _ _ l0_1 a0_2 t901 t904 _ ?side1 ?side2 ?side3 ?side4 A14.out).mono ?_); (case side1 => exact sCb HR0_0 HB); (case side2 => exact HC0_0.out); (case side3 => exact sCb HR0_1 HB); (case side4 => exact HC0_1.out); rintro e w50 ⟨v902, rfl, ho0, hb⟩; refine ⟨_, rfl, ?_⟩; have HO903 := Aside0.mk (Kd.N_lower (Kd.N_mono (ok' := fun k_ => some k_ ≠ (.slice Ao46 t891.length co46 : Value).ownBlock ∧ some k_ ≠ (.slice Ao47 t894.length co47 : Value).ownBlock ∧ k_ ≠ gb888) (Kd.S_N (Kd.S_bound ho0)) (fun k_ hk_ => ⟨(Kd.fresh' (Kd.R_lt (sR HO893)) k_ hk_.2.1), (Kd.fresh' (Kd.N_lt (sN_ HO896)) k_ hk_.2.1), (Kd.freshB (g := gb888) (o := .cells #[.slice A0_0 l0_0.length c0_0, .slice A0_1 l0_1.length c0_1, .int .i64 a0_2] 25 (0, 0)) (sbk BK888) k_ hk_.2.1)⟩)) (below_size (sbe1 HB GE888))); replace HO893 := Aside0.mk (Kd.R_below (sR HO893) hb); replace HO896 := Aside0.mk (Kd.N_elder' (sN_ HO896) (Kd.N_base (Kd.S_N ho0)) hb); replace BK888 := Aside0.mk (sbb BK888 hb); replace HB := Aside0.mk (sbs1 HB GE888 hb); (try clear hb); (try clear hb2); (try clear hk); (try clear hi); (try clear ho0)) | (go_at_call 21; (with_reducible refine (posserlaw03_awake.calls  t909 _ A40.out).mono ?_); rintro e w51 ⟨rfl, hb⟩; replace HO893 := Aside0.mk (Kd.R_below (sR HO893) hb); replace HO896 := Aside0.mk (Kd.N_below (sN_ HO896) hb); replace HO903 := Aside0.mk (Kd.N_below (sN_ HO903) hb); replace BK888 := Aside0.mk (sbb BK888 hb); replace HB := Aside0.mk (sbs1 HB GE888 hb); (try clear hb); (try clear hb2); (try clear hk); (try clear hi)))
     go_ret
     exact ⟨by first | rfl | (simp [errW_none, errW_some] <;> rfl) | (simp [*, errW_none, errW_some] <;> rfl), (sbe1 HB GE888)⟩
    ·rw [if_neg c39] at H
     exact absurd H (by simp)
 ·replace c4 := Bool.eq_false_iff.mpr c4
  subst c4
  have H1 : ((posserlaw03_awake.f).bind fun t910 => (some t910)) = some r := by rw [if_neg (show ¬ (false = true) by decide)] at H; exact H
  clear H
  have H := H1
  clear H1
  replace H := Option.bind_eq_some_iff.mp H
  obtain ⟨t910, A520, H⟩ := H
  replace H : (some t910) = some r := H
  have A52 := Aside0.mk A520
  clear A520
  obtain rfl := Option.some.inj H
  go_enter Try.func14, Try.ntmps14
  go_wp2_with (first | ((with_reducible refine gate_dst (N := 2) rfl ?_); (try (refine gate_guard (by rfl) ?_; dsimp only)); refine sbox (N := 2) #[.slice A0_0 l0_0.length c0_0, .slice A0_1 l0_1.length c0_1, .int .i64 a0_2] 25 ?_; intro gb888 hg w53 hbox hb; have BK888 := Aside0.mk (hbox); have GW888 := Aside0.mk (sge hg HB : w.heap.size ≤ gb888); have GE888 := Aside0.mk (sge hg HB : w.heap.size ≤ gb888); replace HB := Aside0.mk (sbs HB hb); clear hb hbox hg; have hcz54_0 := sc 0 BK888; have hcz54_1 := sc 1 BK888; have hcz54_2 := sc 2 BK888; have hfz54_0 := blk_frozen BK888.out 0; have hfz54_1 := blk_frozen BK888.out 1; have hfz54_2 := blk_frozen BK888.out 2) | ((with_reducible refine gate_callee (f := 47) rfl ?_); refine goesL_ (some 11) rfl rfl Try.func47 (by kernel_rfl) rfl #[.agg #[.slice A0_0 l0_0.length c0_0, .slice A0_1 l0_1.length c0_1, .int .i64 a0_2]] rfl (by (try simp only [List.map_toArray, List.map_cons, List.map_nil]); first | done | rfl | (simp only [List.length_drop, List.length_take]; rfl)) ?_; (with_reducible refine (posserlaw03_ready.calls k _ _ l0_0 _ _ l0_1 a0_2 false _ ?side1 ?side2 ?side3 ?side4 A3.out).mono ?_); (case side1 => exact sCb HR0_0 HB); (case side2 => exact HC0_0.out); (case side3 => exact sCb HR0_1 HB); (case side4 => exact HC0_1.out); rintro e w55 ⟨rfl, hb⟩; refine ⟨_, rfl, ?_⟩; replace BK888 := Aside0.mk (sbb BK888 hb); replace HB := Aside0.mk (sbs1 HB GE888 hb); (try clear hb); (try clear hb2); (try clear hk); (try clear hi)) | ((with_reducible refine gate_callee (f := 21) rfl ?_); refine goesL_ (some 19) rfl rfl Try.func21 (by kernel_rfl) rfl #[] rfl (by (try simp only [List.map_toArray, List.map_cons, List.map_nil]); first | done | rfl | (simp only [List.length_drop, List.length_take]; rfl)) ?_; (with_reducible refine (posserlaw03_awake.calls  t910 _ A52.out).mono ?_); rintro e w56 ⟨rfl, hb⟩; refine ⟨_, rfl, ?_⟩; replace BK888 := Aside0.mk (sbb BK888 hb); replace HB := Aside0.mk (sbs1 HB GE888 hb); (try clear hb); (try clear hb2); (try clear hk); (try clear hi)))
  go_ret
  exact ⟨by first | rfl | (simp [errW_none, errW_some] <;> rfl) | (simp [*, errW_none, errW_some] <;> rfl), (sbe1 HB GE888)⟩
end Go.Proofs.Ytnbbbeghgomnoaa.X
namespace Go.Proofs.Ytnbbbeghgomnoaa.X
open Go.RowKit Go.Proofs.YtnbbbeghgomnoaaW.PrintWords Go.Proofs.YtnbbbeghgomnoaaW.PrintLast Go.Proofs.YtnbbbeghgomnoaaW.PrintMore
theorem mx_ge (a b : Int) : a ≤ mx a b ∧ b ≤ mx a b ∧ (mx a b = a ∨ mx a b = b) := by
 unfold mx
 split
 ·exact ⟨by omega, by omega, .inr rfl⟩
 ·exact ⟨by omega, by omega, .inl rfl⟩
theorem Leaves_ev {l0 : List S85} {l1 : List S71} (wg : Int) (h0 : l0.length ≤ 30) (ts : List (List Int)) (hts : ts.length ≤ 100000) (i : Nat) (hi : i < l1.length) (hel : ∀ x ∈ ts, x.length = l1.length) : Evt (fun k => posserref03_Leaves.f k l0 l1 wg ts (i : Int)) (mostL l1.length ts (i : Int) l0.length) := by
 have hmany : ∀ w : Nat, manyS l1.length ts (i : Int) (w : Int) = ((ts.filter fun x => x.getD i 0 == (w : Int)).length : Int) := fun w => by
  unfold manyS
  rw [if_pos ⟨by omega, by omega⟩, Int.toNat_natCast]; rfl
 have inner : ∀ (w : Nat) (m X : Int), Evt (fun k => posserref03_Leaves.l0 k ts (i : Int) (mx m (manyS l1.length ts (i : Int) (w : Int))) ((w + 1 : Nat) : Int) l0 l1 wg) X → w < l0.length → ∀ (d j : Nat), j + d = ts.length → Evt (fun k => posserref03_Leaves.l1 k ts (i : Int) m (w : Int) (((ts.take j).filter fun x => x.getD i 0 == (w : Int)).length : Int) (j : Int) l0 l1 wg) X := by
  intro w m X hX hw d
  induction d with
  | zero =>
   intro j hj
   obtain rfl : j = ts.length := by omega
   rw [List.take_length, ← hmany]
   refine Evt.succ hX (fun k => ?_)
   simp only [posserref03_Leaves.l1]
   rw [if_neg (by omega), wrap_succ w _ hw (by omega)]
  | succ d ih =>
   intro j hj
   have hlt : j < ts.length := by omega
   have hg : rd_L1 ts (j : Int) = ts[j] := by
    show ts.getD j [] = _
    rw [List.getD_eq_getElem?_getD, List.getElem?_eq_getElem hlt]; rfl
   have hl := hel _ (List.getElem_mem hlt)
   have h2 := ih (j + 1) (by omega)
   have hfl : ((ts.take j).filter fun x => x.getD i 0 == (w : Int)).length ≤ j := Nat.le_trans (List.length_filter_le _ _) (List.length_take_le _ _)
   rw [List.take_succ_eq_append_getElem hlt, List.filter_append, List.length_append] at h2
   refine Evt.succ h2 (fun k => ?_)
   simp only [posserref03_Leaves.l1]
   rw [if_pos (by omega), if_pos (by omega), if_pos (by omega), hg, if_pos (by omega), rd_nat, wrap_succ j _ hlt (by omega)]
   by_cases he : ts[j].getD i 0 = (w : Int)
   ·rw [if_pos he, List.filter_cons_of_pos (by simpa using he), List.filter_nil, List.length_singleton, wrap_succ _ (j + 1) (by omega) (by omega)]
   ·rw [if_neg he, List.filter_cons_of_neg (by simpa using he), List.filter_nil, List.length_nil]; rfl
 have main : ∀ (d w : Nat), w + d = l0.length → Evt (fun k => posserref03_Leaves.l0 k ts (i : Int) (mostL l1.length ts (i : Int) w) (w : Int) l0 l1 wg) (mostL l1.length ts (i : Int) l0.length) := by
  intro d
  induction d with
  | zero =>
   intro w hw
   obtain rfl : w = l0.length := by omega
   refine Evt.succ (Evt.const _) (fun k => ?_)
   simp only [posserref03_Leaves.l0]
   rw [if_neg (by omega)]
  | succ d ih =>
   intro w hw
   have hlt : w < l0.length := by omega
   have h2 := ih (w + 1) (by omega)
   rw [mostL_succ] at h2
   refine Evt.succ (inner w _ _ h2 hlt ts.length 0 (by omega)) (fun k => ?_)
   simp only [posserref03_Leaves.l0]
   rw [if_pos (by omega)]; rfl
 exact main l0.length 0 (by omega)
theorem mostL_le (n1 : Nat) (ts : List (List Int)) (i : Int) (m : Nat) : 0 ≤ mostL n1 ts i m ∧ mostL n1 ts i m ≤ ts.length := by
 induction m with
 | zero => exact ⟨Int.le_refl _, by show (0 : Int) ≤ _; omega⟩
 | succ m ih =>
  rw [mostL_succ]
  have := manyS_bound n1 ts i (m : Int)
  rcases (mx_ge (mostL n1 ts i m) (manyS n1 ts i (m : Int))).2.2 with e | e <;> rw [e] <;> omega
end Go.Proofs.Ytnbbbeghgomnoaa.X
namespace Go.Proofs.Ytnbbbeghgomnoaa.X
open Go.RowKit Go.Proofs.YtnbbbeghgomnoaaW.PrintWords Go.Proofs.YtnbbbeghgomnoaaW.PrintLast Go.Proofs.YtnbbbeghgomnoaaW.PrintMore
theorem ready_no {l0 : List S85} {l1 : List S71} (wg : Int) (h : ¬ (thinR l0 l1 = true ∧ checkT (l0.map cvW) (l1.map cvP) wg = 0)) : Evt (fun k => posserlaw03_ready.f k l0 l1 wg) false := by
 obtain ⟨K, hK⟩ := Thin_ev l0 l1 wg
 cases hth : thinR l0 l1 with
 | false =>
  refine ⟨K, fun k hk => ?_⟩
  have g1 := hK k hk
  dsimp only at g1 ⊢
  unfold posserlaw03_ready.f
  rw [g1, hth]; rfl
 | true =>
  obtain ⟨L, hL⟩ := Fault_ev wg (thinR_iff.1 hth)
  have hc : ¬ checkT (l0.map cvW) (l1.map cvP) wg = 0 := fun e => h ⟨hth, e⟩
  refine ⟨K + L, fun k hk => ?_⟩
  have g1 := hK k (by omega)
  have g2 := hL k (by omega)
  dsimp only at g1 g2 ⊢
  unfold posserlaw03_ready.f
  rw [g1, hth]
  simp only [Option.bind_some, if_true]
  rw [g2]
  simp only [Option.bind_some]
  exact congrArg some (beq_eq_false_iff_ne.2 hc)
theorem ready_yes {l0 : List S85} {l1 : List S71} {wg : Int} (h : VR l0 l1 wg) (hc : checkT (l0.map cvW) (l1.map cvP) wg = 0) : Evt (fun k => posserlaw03_ready.f k l0 l1 wg) true := by
 obtain ⟨K, hK⟩ := Thin_ev l0 l1 wg
 obtain ⟨L, hL⟩ := Fault_ev wg h.thn
 refine ⟨K + L, fun k hk => ?_⟩
 have g1 := hK k (by omega)
 have g2 := hL k (by omega)
 dsimp only at g1 g2 ⊢
 unfold posserlaw03_ready.f
 rw [g1, thinR_iff.2 h.thn]
 simp only [Option.bind_some, if_true]
 rw [g2, hc]; rfl
theorem Table_f {l0 : List S85} {l1 : List S71} (wg : Int) (h : Thn l0 l1) : posserlaw03_Table.f l0 l1 wg = some (l0.map cvW, l1.map cvP, wg) := by
 unfold posserlaw03_Table.f
 rw [thinR_iff.2 h]; rfl
theorem lookL_spec (n0 n1 : Nat) (ts : List (List Int)) : ∀ m, 0 < m → ∃ i : Nat, i < m ∧ lookL n0 n1 ts m = ((i : Int), mostL n1 ts (i : Int) n0) ∧ ∀ j : Nat, j < m → mostL n1 ts (i : Int) n0 ≤ mostL n1 ts (j : Int) n0 := by
 intro m
 induction m with
 | zero => intro h; omega
 | succ m ih =>
  intro _
  rw [lookL_succ]
  rcases Nat.eq_zero_or_pos m with rfl | hm
  ·have hb := mostL_le n1 ts ((0 : Nat) : Int) n0
   refine ⟨0, by omega, ?_, fun j hj => ?_⟩
   ·show (if mostL n1 ts ((0 : Nat) : Int) n0 < (ts.length : Int) + 1 then _ else _) = _
    rw [if_pos (by omega)]
   ·obtain rfl : j = 0 := by omega
    exact Int.le_refl _
  ·obtain ⟨i, h1, h2, h3⟩ := ih hm
   rw [h2]
   dsimp only
   by_cases hc : mostL n1 ts (m : Int) n0 < mostL n1 ts (i : Int) n0
   ·rw [if_pos hc]
    refine ⟨m, by omega, rfl, fun j hj => ?_⟩
    by_cases e : j = m
    ·rw [e]; exact Int.le_refl _
    ·have := h3 j (by omega)
     omega
   ·rw [if_neg hc]
    refine ⟨i, by omega, rfl, fun j hj => ?_⟩
    by_cases e : j = m
    ·rw [e]; omega
    ·exact h3 j (by omega)
theorem tmod_u (a n : Int) (h0 : 0 ≤ a) (h1 : a ≤ 65535) (hn : 0 < n) : Int.tmod (wrap64 a) n = ((a.toNat % n.toNat : Nat) : Int) := by
 rw [wrap64_id _ (by omega) (by omega), Int.tmod_eq_emod_of_nonneg h0]
 obtain ⟨x, rfl⟩ : ∃ x : Nat, a = (x : Int) := ⟨a.toNat, by omega⟩
 obtain ⟨y, rfl⟩ : ∃ y : Nat, n = (y : Int) := ⟨n.toNat, by omega⟩
 rw [Int.toNat_natCast, Int.toNat_natCast]; rfl
theorem BundleLooked_pure (l0 : List S85) (l1 : List S71) (wg a1 : Int) (ha0 : 0 ≤ a1) (ha1 : a1 ≤ 65535) : ∃ k, posserlaw03_BundleLooked.f k l0 l1 wg a1 = some true := by
 by_cases hr : thinR l0 l1 = true ∧ checkT (l0.map cvW) (l1.map cvP) wg = 0
 ·obtain ⟨hth, hc⟩ := hr
  have ht := thinR_iff.1 hth
  have hv := VR.of ht hc
  obtain ⟨K, hK⟩ := ready_yes hv hc
  by_cases hp : l1.length = 0
  ·refine ⟨K, ?_⟩
   have g1 := hK K (Nat.le_refl _)
   dsimp only at g1
   unfold posserlaw03_BundleLooked.f
   rw [g1]
   simp only [Option.bind_some, if_true]
   rw [if_pos (by omega)]; rfl
  ·obtain ⟨L, hL⟩ := sure_ev wg ht
   have hW : bundle_Look.f (l0.map cvW) (l1.map cvP) wg = some (if askE (l0.map cvW) (l1.map cvP) wg = 0 then (if l1.length = 0 then (0, 0, 7) else ((lookL l0.length l1.length (truthsL (l0.map cvW) (l1.map cvP) wg) l1.length).1, (lookL l0.length l1.length (truthsL (l0.map cvW) (l1.map cvP) wg) l1.length).2, 0)) else (0, 0, askE (l0.map cvW) (l1.map cvP) wg)) := by
    unfold bundle_Look.f
    rw [if_pos (thinP_of ht), List.length_map, List.length_map]
   by_cases he : askE (l0.map cvW) (l1.map cvP) wg = 0
   ·obtain ⟨ts, hts⟩ : ∃ ts, truthsL (l0.map cvW) (l1.map cvP) wg = ts := ⟨_, rfl⟩
    have hlen : ts.length ≤ 2000 := by
     rw [← hts]
     exact Nat.le_trans (List.length_filter_le _ _) hv.mny
    have hel : ∀ x ∈ ts, x.length = l1.length := by
     intro x hx
     rw [← hts] at hx
     rw [((allL_mem _ _ x).1 (truths_mem hx)).1, List.length_map]
    obtain ⟨i, hi, e1, e2⟩ := lookL_spec l0.length l1.length ts l1.length (by omega)
    have hj : a1.toNat % l1.length < l1.length := Nat.mod_lt _ (by omega)
    obtain ⟨M, hM⟩ := Leaves_ev (l0 := l0) (l1 := l1) wg ht.n0 ts (by omega) i hi hel
    obtain ⟨J, hJ⟩ := Leaves_ev (l0 := l0) (l1 := l1) wg ht.n0 ts (by omega) (a1.toNat % l1.length) hj hel
    refine ⟨K + L + M + J, ?_⟩
    have g1 := hK (K + L + M + J) (by omega)
    have g2 := hL (K + L + M + J) (by omega)
    have g3 := hM (K + L + M + J) (by omega)
    have g4 := hJ (K + L + M + J) (by omega)
    dsimp only at g1 g2 g3 g4
    generalize K + L + M + J = k at g1 g2 g3 g4 ⊢
    have hn1 := ht.n1
    have hmin := e2 (a1.toNat % l1.length) hj
    unfold posserlaw03_BundleLooked.f
    rw [g1]
    simp only [Option.bind_some, if_true]
    rw [if_neg (by omega), Table_f wg ht]
    simp only [Option.bind_some]
    rw [hW]
    simp only [Option.bind_some]
    rw [g2]
    simp only [Option.bind_some]
    rw [if_pos he, if_pos he, if_neg hp, hts, e1]
    dsimp only
    rw [if_pos rfl, if_pos rfl, In_f]
    simp only [Option.bind_some]
    have hin : okIn (i : Int) 0 (wrap64 ((l1.length : Int) - 1)) = true := by
     rw [wrap64_id _ (by omega) (by omega)]
     unfold okIn
     rw [decide_eq_true (by omega), decide_eq_true (by omega)]; rfl
    rw [hin, if_pos rfl, g3]
    simp only [Option.bind_some]
    rw [if_pos trivial, tmod_u a1 _ ha0 ha1 (by omega), Int.toNat_natCast, g4]
    simp only [Option.bind_some]
    rw [if_pos (by omega)]; rfl
   ·refine ⟨K + L, ?_⟩
    have g1 := hK (K + L) (by omega)
    have g2 := hL (K + L) (by omega)
    dsimp only at g1 g2
    unfold posserlaw03_BundleLooked.f
    rw [g1]
    simp only [Option.bind_some, if_true]
    rw [if_neg (by omega), Table_f wg ht]
    simp only [Option.bind_some]
    rw [hW]
    simp only [Option.bind_some]
    rw [g2]
    simp only [Option.bind_some]
    rw [if_neg he, if_neg he]
    dsimp only
    rw [if_neg he, if_pos rfl]; rfl
 ·obtain ⟨K, hK⟩ := ready_no wg hr
  refine ⟨K, ?_⟩
  have g1 := hK K (Nat.le_refl _)
  dsimp only at g1
  unfold posserlaw03_BundleLooked.f
  rw [g1]; rfl
theorem u8_range {a : Int} (h : (Lit.int .u8 a).wf = true) : 0 ≤ a ∧ a ≤ 255 := by
 unfold Lit.wf at h
 rw [Bool.and_eq_true, decide_eq_true_eq, decide_eq_true_eq] at h
 exact ⟨h.1, h.2⟩
theorem BundleLooked_walk (A0 : Option Addr) (c0 : Nat) (l0 : List S85) (A1 : Option Addr) (c1 : Nat) (l1 : List S71) (wg a1 : Int) (W : World) (C0 : Kd.C k85 W A0 l0.length l0) (g0 : l0.length ≤ c0) (C1 : Kd.C k71 W A1 l1.length l1) (g1 : l1.length ≤ c1) (w1 : (Lit.int .u8 a1).wf = true) :
  Calls Try.prog 14 #[.agg #[.slice A0 l0.length c0, .slice A1 l1.length c1, .int .i64 wg], .int .u8 a1] W fun e w' => e = .returned (.bool true) ∧ Below W.heap.size W w' := by
 obtain ⟨b0, b1⟩ := u8_range w1
 obtain ⟨k, hk⟩ := BundleLooked_pure l0 l1 wg a1 b0 (by omega)
 exact posserlaw03_BundleLooked.calls k A0 c0 l0 A1 c1 l1 wg a1 true W C0 g0 C1 g1 hk
end Go.Proofs.Ytnbbbeghgomnoaa.X
namespace Go.Proofs.Ytnbbbeghgomnoaa.bundleLooked
open Go.ChangeShapes Go.WideShapes Go.ChangeAt Go.RowKit
open Go.ChangeMaps (open_string shut_string)
open Go.Proofs.Ytnbbbeghgomnoaa.X
theorem own : ownKnob Try.prog.godebug = none := by kernel_rfl
theorem laidOut : laidOutB Try.prog = true := by kernel_rfl
set_option maxRecDepth 100000 in
theorem lifted (os : Os) (started : os.Started) (H : Type) (enc : TypeId × Value → H) :
  ReturnsInHanded {} Try.checked os 14 .any (Rows.bundleLookedSpec.pre6 enc Try.prog Try.f14 Rows.bundleLookedRow.domain false) (Rows.bundleLookedSpec.post enc Try.prog Try.f14 false true false false) := by
 refine returnsInHanded_of_change_sized (C := Try.checked) own started (by kernel_rfl) Try.func14
  (ChangeSpec.witness6 (enc := enc) (C := Try.checked) false ⟨#[], #[.agg #[.slice none 0 0, .slice none 0 0, .int .i64 0], .int .u8 0], []⟩ 8 (by kernel_rfl) (by kernel_rfl) (by kernel_rfl) (by kernel_rfl)) ?_
 intro W base args ds gs before hval0 hW hcnd hsz0 _
 have hsz : (DataW.weightsEach Try.prog (Try.f14.params.toList ++ Rows.bundleLookedSpec.plain.varTypes Try.prog) (ds ++ gs)).all (· ≤ reachBytes) = true := hsz0
 have hval : ∀ (j : Nat) t v, Try.f14.params[j]? = some t → args[j]? = some v → Value.okWide Try.prog W .any base t v := hval0
 have hW' := hW
 obtain ⟨p, q, hA0, hV, rfl, hfz, hnd⟩ := hW
 have hA : DataW.TrodAll enc Try.prog W 0 (fun _ => true) true Try.f14.params.toList args.toList ds p := hA0
 rw [Try.params14] at hA hval hsz
 obtain ⟨v0, vs0, d0, ds0, p0, q0, hargs, rfl, rfl, h0, r0⟩ := trodAll_cons hA
 obtain ⟨v1, vs1, d1, ds1, p1, q1, rfl, rfl, rfl, h1, r1⟩ := trodAll_cons r0
 obtain ⟨rfl, rfl, rfl⟩ := trodAll_nil r1
 obtain rfl : args = #[v0, v1] := by cases args; simp_all
 obtain ⟨rfl, rfl⟩ := trodVars_none hV
 have k0 := h0
 have lt0 : ∀ x ∈ p0, x.block < W.heap.size := by obtain ⟨m, hm⟩ := k0; exact DataW.trod_lt m _ _ _ hm
 obtain ⟨A0, c0, l0, A1, c1, l1, wg, rfl, C0, g0, C1, g1⟩ := open_table (hval 0 25 v0 rfl rfl) h0
 obtain ⟨a1, rfl, rfl, rfl, w1⟩ := open_int Try.underlying5 (hval 1 5 v1 rfl rfl) h1
 clear hA0 hval0 hsz0 hsz
 refine (BundleLooked_walk A0 c0 l0 A1 c1 l1 wg a1 W C0 g0 C1 g1 w1).mono fun e W' ⟨he, bel⟩ => ?_
 subst he
 exact ⟨_, rfl, _, _, _, [], _, [], hW', trodAll_mk1 (shut_bool Try.underlying4 _), (trodAll_cons_mk (Below.trod laidOut (by kernel_rfl) (of_decide_eq_true (by kernel_rfl)) k0 bel lt0) (trodAll_cons_mk (shut_int Try.underlying5 w1) trodAll_mk0)), rfl, bel.frame _, fun h => by cases h⟩
theorem over : Rows.bundleLookedRow.holds Try.pinned (OpenSpec.ofChange Rows.bundleLookedSpec) :=
 OpenClaim.holds_of_wide 14 Try.f14 rfl rfl rfl rfl rfl rfl rfl ⟨rfl, rfl, rfl, rfl, rfl⟩ rfl rfl rfl rfl rfl (by kernel_rfl) Try.func14 (by kernel_rfl)
  (of_decide_eq_true (by kernel_rfl)) (by unfold Func.isWrapper; first | (rw [if_pos (by decide +kernel)]; kernel_rfl) | (rw [if_neg (by decide +kernel)]; exact ⟨rfl, rfl⟩))
  (fun os started H enc _ => lifted os started H enc)
theorem proved : Rows.BundleLookedSaid := over
end Go.Proofs.Ytnbbbeghgomnoaa.bundleLooked
namespace Go.Proofs.Ytnbbbeghgomnoaa
theorem bundleLooked_holds : Rows.BundleLookedSaid := bundleLooked.proved
#print axioms bundleLooked_holds
end Go.Proofs.Ytnbbbeghgomnoaa
