/-
  Words and walks that the proof of BundleMisses leans on, part 2 of 6.
-/
import Derived.Test.YtnbbbeghgomnoaaQMisses01
set_option linter.unusedVariables false
set_option linter.unusedSimpArgs false
namespace Go.Proofs.Ytnbbbeghgomnoaa.X
open Go.RowKit Go.Proofs.YtnbbbeghgomnoaaW.PrintWords Go.Proofs.YtnbbbeghgomnoaaW.PrintLast Go.Proofs.YtnbbbeghgomnoaaW.PrintMore
attribute [local go_sem] max2_int min2_int max_two min_two max_three min_three max_four min_four
set_option linter.unusedVariables false
set_option linter.unusedSimpArgs false
def posserref03_Own.l0 : Nat → List Int → Int → Int → Int → Option (Int)
 | 0, _, _, _, _ => none
 | k + 1, x0, x1, x5, x6 => if x6 < (x0.length : Int) then (if 0 ≤ x6 then (if (rd x0 x6) = x1 then (posserref03_Own.l0 k x0 x1 (wrap64 (x5 + 1)) (wrap64 (x6 + 1))) else (posserref03_Own.l0 k x0 x1 x5 (wrap64 (x6 + 1)))) else (none)) else (some x5)
def posserref03_Own.f (k : Nat) (l0 : List Int) (a1 : Int) : Option (Int) := posserref03_Own.l0 k l0 a1 0 0
set_option maxHeartbeats 8000000 in
set_option maxRecDepth 100000 in
theorem posserref03_Own.calls (k : Nat) (A0 : Option Addr) (c0 : Nat) (l0 : List Int) (a1 : Int) (r : Int) (w : World) (hr0 : Kd.C (Kd.int .i64) w A0 l0.length l0) (hc0 : l0.length ≤ c0) (h : posserref03_Own.f k l0 a1 = some r) :
  Calls Try.prog 63 #[.slice A0 l0.length c0, .int .i64 a1] w fun e w' => e = .returned (.int .i64 r) ∧ Drawn0 w w' := by
 have HR0 := Aside0.mk hr0
 have HC0 := Aside0.mk hc0
 clear hr0 hc0
 have H : (posserref03_Own.l0 k l0 a1 0 0) = some r := h
 clear h
 have H' := Aside0.mk H
 clear H
 go_enter Try.func63, Try.ntmps63
 go_wp2
 go_loopg [5, 6] k (fun kq v5 v6 w' => ∃ (x5_1 : Int) (x6_1 : Int), v5 = .int .i64 x5_1 ∧ v6 = .int .i64 x6_1 ∧ Aside0 (posserref03_Own.l0 kq l0 a1 x5_1 x6_1 = some r) ∧ Aside0 (kq ≤ k) ∧ Drawn0 w w')
 case atStart => exact ⟨(0), (0), (by first | rfl | (simp; done) | (simp [*]; done)), (by first | rfl | (simp; done) | (simp [*]; done)), H', ⟨Nat.le_refl _⟩, by repeat (first | exact Drawn0.refl _ | apply Drawn0.step)⟩
 case round =>
  clear H'
  try clear p2
  obtain ⟨x5_1, x6_1, rfl, rfl, HA, HK1, ⟨m1, rfl⟩⟩ := hrel
  cases gk with
  | zero => exact absurd HA.out (by simp [posserref03_Own.l0])
  | succ k1 =>
   have H := HA.out
   clear HA
   simp only [posserref03_Own.l0] at H
   by_cases c3 : x6_1 < (l0.length : Int)
   ·rw [if_pos c3] at H
    have c3b0 : decide (x6_1 < (l0.length : Int)) = true := decide_eq_true c3
    clear c3
    by_cases c4 : 0 ≤ x6_1
    ·rw [if_pos c4] at H
     have c4b0 : decide (0 ≤ x6_1) = true := decide_eq_true c4
     clear c4
     by_cases c5 : (rd l0 x6_1) = a1
     ·rw [if_pos c5] at H
      have c5b0 : ((rd l0 x6_1) == a1) = true := beq_iff_eq.mpr c5
      have c5b1 : ((rd l0 x6_1) != a1) = false := bne_eq_false_iff_eq.mpr c5
      clear c5
      have H' := Aside0.mk H
      clear H
      have p143 : 0 ≤ (x6_1 : Int) := of_decide_eq_true (by first | (with_reducible assumption) | assumption)
      have q143 : x6_1 < (l0.length : Int) := of_decide_eq_true (by first | (with_reducible assumption) | assumption)
      obtain ⟨ad143, e143, hx143_0⟩ := Kd.at_int HR0.out x6_1 p143 q143
      cases e143
      replace p143 := eq_true p143
      replace q143 := eq_true q143
      go_wp2
      go_roundg k1
      case measure => have := HK1.out; omega
      case rel => exact ⟨(wrap64 (x5_1 + 1)), (wrap64 (x6_1 + 1)), (by first | rfl | (simp; done) | (simp [*]; done)), (by first | rfl | (simp; done) | (simp [*]; done)), H', ⟨by have := HK1.out; omega⟩, by repeat (first | exact Drawn0.refl _ | apply Drawn0.step)⟩
     ·rw [if_neg c5] at H
      have c5b0 : ((rd l0 x6_1) == a1) = false := beq_eq_false_iff_ne.mpr c5
      have c5b1 : ((rd l0 x6_1) != a1) = true := bne_iff_ne.mpr c5
      have H' := Aside0.mk H
      clear H
      have p143 : 0 ≤ (x6_1 : Int) := of_decide_eq_true (by first | (with_reducible assumption) | assumption)
      have q143 : x6_1 < (l0.length : Int) := of_decide_eq_true (by first | (with_reducible assumption) | assumption)
      obtain ⟨ad143, e143, hx143_0⟩ := Kd.at_int HR0.out x6_1 p143 q143
      cases e143
      replace p143 := eq_true p143
      replace q143 := eq_true q143
      go_wp2
      go_roundg k1
      case measure => have := HK1.out; omega
      case rel => exact ⟨(x5_1), (wrap64 (x6_1 + 1)), (by first | rfl | (simp; done) | (simp [*]; done)), (by first | rfl | (simp; done) | (simp [*]; done)), H', ⟨by have := HK1.out; omega⟩, by repeat (first | exact Drawn0.refl _ | apply Drawn0.step)⟩
    ·rw [if_neg c4] at H
     exact absurd H (by simp)
   ·rw [if_neg c3] at H
    have c3b0 : decide (x6_1 < (l0.length : Int)) = false := decide_eq_false c3
    clear c3
    obtain rfl := Option.some.inj H
    go_wp2
    go_ret
    exact ⟨by first | rfl | (simp; done) | (simp [*]; done), by repeat (first | exact Drawn0.refl _ | apply Drawn0.step)⟩
end Go.Proofs.Ytnbbbeghgomnoaa.X
namespace Go.Proofs.Ytnbbbeghgomnoaa.X
open Go.RowKit Go.Proofs.YtnbbbeghgomnoaaW.PrintWords Go.Proofs.YtnbbbeghgomnoaaW.PrintLast Go.Proofs.YtnbbbeghgomnoaaW.PrintMore
attribute [local go_sem] max2_int min2_int max_two min_two max_three min_three max_four min_four
set_option linter.unusedVariables false
set_option linter.unusedSimpArgs false
def posserref03_In.f (a0 : Int) (a1 : Int) (a2 : Int) : Option (Bool) := if a0 ≥ a1 then (some (decide (a0 ≤ a2))) else (some false)
set_option maxHeartbeats 8000000 in
set_option maxRecDepth 100000 in
theorem posserref03_In.calls (a0 : Int) (a1 : Int) (a2 : Int) (r : Bool) (w : World) (h : posserref03_In.f a0 a1 a2 = some r) :
  Calls Try.prog 49 #[.int .i64 a0, .int .i64 a1, .int .i64 a2] w fun e w' => e = .returned (.bool r) ∧ Drawn0 w w' := by
 have H : (if a0 ≥ a1 then (some (decide (a0 ≤ a2))) else (some false)) = some r := h
 clear h
 by_cases c4 : a0 ≥ a1
 ·rw [if_pos c4] at H
  have c4b0 : decide (a1 ≤ a0) = true := decide_eq_true c4
  clear c4
  obtain rfl := Option.some.inj H
  go_enter Try.func49, Try.ntmps49
  go_wp2
  go_ret
  exact ⟨by first | rfl | (simp; done) | (simp [*]; done), by repeat (first | exact Drawn0.refl _ | apply Drawn0.step)⟩
 ·rw [if_neg c4] at H
  have c4b0 : decide (a1 ≤ a0) = false := decide_eq_false c4
  clear c4
  obtain rfl := Option.some.inj H
  go_enter Try.func49, Try.ntmps49
  go_wp2
  go_ret
  exact ⟨by first | rfl | (simp; done) | (simp [*]; done), by repeat (first | exact Drawn0.refl _ | apply Drawn0.step)⟩
end Go.Proofs.Ytnbbbeghgomnoaa.X
namespace Go.Proofs.Ytnbbbeghgomnoaa.X
open Go.RowKit Go.Proofs.YtnbbbeghgomnoaaW.PrintWords Go.Proofs.YtnbbbeghgomnoaaW.PrintLast Go.Proofs.YtnbbbeghgomnoaaW.PrintMore
attribute [local go_sem] max2_int min2_int max_two min_two max_three min_three max_four min_four
set_option linter.unusedVariables false
set_option linter.unusedSimpArgs false
def posserref03_Right.l0 : Nat → List Int → Int → Int → List (S85) → List (S71) → Int → Option (Int)
 | 0, _, _, _, _, _, _ => none
 | k + 1, x1, x5, x6, x145000, x145001, x145002 => if x6 < (x145000.length : Int) then ((posserref03_Own.f k x1 x6).bind fun t145 => (if 0 ≤ x6 then ((posserref03_In.f t145 ((rd_T85 x145000 x6).f1.f0) ((rd_T85 x145000 x6).f1.f1)).bind fun t148 => (if t148 = true then (if 0 ≤ (IntKind.u64.wrap (x6)) then (posserref03_Right.l0 k x1 (Go.bits .or .i64 x5 (shl .i64 1 (IntKind.u64.wrap (x6)))) (wrap64 (x6 + 1)) x145000 x145001 x145002) else (none)) else (posserref03_Right.l0 k x1 x5 (wrap64 (x6 + 1)) x145000 x145001 x145002))) else (none))) else (some x5)
def posserref03_Right.f (k : Nat) (l0_0 : List (S85)) (l0_1 : List (S71)) (a0_2 : Int) (l1 : List Int) : Option (Int) := posserref03_Right.l0 k l1 0 0 l0_0 l0_1 a0_2
set_option maxHeartbeats 8000000 in
set_option maxRecDepth 100000 in
theorem posserref03_Right.calls (k : Nat) (A0_0 : Option Addr) (c0_0 : Nat) (l0_0 : List (S85)) (A0_1 : Option Addr) (c0_1 : Nat) (l0_1 : List (S71)) (a0_2 : Int) (A1 : Option Addr) (c1 : Nat) (l1 : List Int) (r : Int) (w : World) (hr0_0 : Kd.C k85 w A0_0 l0_0.length l0_0) (hc0_0 : l0_0.length ≤ c0_0) (hr0_1 : Kd.C k71 w A0_1 l0_1.length l0_1) (hc0_1 : l0_1.length ≤ c0_1) (hr1 : Kd.C (Kd.int .i64) w A1 l1.length l1) (hc1 : l1.length ≤ c1) (h : posserref03_Right.f k l0_0 l0_1 a0_2 l1 = some r) :
  Calls Try.prog 77 #[.agg #[.slice A0_0 l0_0.length c0_0, .slice A0_1 l0_1.length c0_1, .int .i64 a0_2], .slice A1 l1.length c1] w fun e w' => e = .returned (.int .i64 r) ∧ Below w.heap.size w w' := by
 have hu25 := Try.underlying25
 have HR0_0 := Aside0.mk hr0_0
 have HC0_0 := Aside0.mk hc0_0
 clear hr0_0 hc0_0
 have HR0_1 := Aside0.mk hr0_1
 have HC0_1 := Aside0.mk hc0_1
 clear hr0_1 hc0_1
 have HR1 := Aside0.mk hr1
 have HC1 := Aside0.mk hc1
 clear hr1 hc1
 have HB := Aside0.mk (Below.refl w.heap.size w)
 have H : (posserref03_Right.l0 k l1 0 0 l0_0 l0_1 a0_2) = some r := h
 clear h
 have H' := Aside0.mk H
 clear H
 go_enter Try.func77, Try.ntmps77
 go_wp2_with (first | ((with_reducible refine gate_dst (N := 2) rfl ?_); refine sbox (N := 2) #[.slice A0_0 l0_0.length c0_0, .slice A0_1 l0_1.length c0_1, .int .i64 a0_2] 25 ?_; intro gb144 hg w3 hbox hb; have BK144 := Aside0.mk (hbox); have GW144 := Aside0.mk (sge hg HB : w.heap.size ≤ gb144); have GE144 := Aside0.mk (sge hg HB : w.heap.size ≤ gb144); replace HB := Aside0.mk (sbs HB hb); clear hb hbox hg))
 repeat (go_quiet (first | ((with_reducible refine gate_dst (N := 2) rfl ?_); refine sbox (N := 2) #[.slice A0_0 l0_0.length c0_0, .slice A0_1 l0_1.length c0_1, .int .i64 a0_2] 25 ?_; intro gb144 hg w3 hbox hb; have BK144 := Aside0.mk (hbox); have GW144 := Aside0.mk (sge hg HB : w.heap.size ≤ gb144); have GE144 := Aside0.mk (sge hg HB : w.heap.size ≤ gb144); replace HB := Aside0.mk (sbs HB hb); clear hb hbox hg)); try go_wp2_with (first | ((with_reducible refine gate_dst (N := 2) rfl ?_); refine sbox (N := 2) #[.slice A0_0 l0_0.length c0_0, .slice A0_1 l0_1.length c0_1, .int .i64 a0_2] 25 ?_; intro gb144 hg w3 hbox hb; have BK144 := Aside0.mk (hbox); have GW144 := Aside0.mk (sge hg HB : w.heap.size ≤ gb144); have GE144 := Aside0.mk (sge hg HB : w.heap.size ≤ gb144); replace HB := Aside0.mk (sbs HB hb); clear hb hbox hg)))
 go_loopg [5, 6] k (fun kq v5 v6 w' => ∃ (x5_1 : Int) (x6_1 : Int), v5 = .int .i64 x5_1 ∧ v6 = .int .i64 x6_1 ∧ Aside0 (posserref03_Right.l0 kq l1 x5_1 x6_1 l0_0 l0_1 a0_2 = some r) ∧ Aside0 (kq ≤ k) ∧ Aside0 (w'.heap[gb144]? = some (.cells #[(.slice A0_0 l0_0.length c0_0), (.slice A0_1 l0_1.length c0_1), .int .i64 a0_2] 25 (0, 0))) ∧ Aside0 (Below w.heap.size w w'))
 case atStart => exact ⟨(0), (0), (by first | rfl | (simp; done) | (simp [*]; done)), (by first | rfl | (simp; done) | (simp [*]; done)), H', ⟨Nat.le_refl _⟩, ⟨by (with_reducible repeat (first | refine blk_drewN ?_ _ | refine blk_drew ?_ | refine blk_alloc ?_ _)); exact BK144.out⟩, ⟨(sbe1 HB GE144)⟩⟩
 case round =>
  clear H'
  try clear c1
  try clear p2
  obtain ⟨x5_1, x6_1, rfl, rfl, HA, HK1, BK144, HB⟩ := hrel
  cases gk with
  | zero => exact absurd HA.out (by simp [posserref03_Right.l0])
  | succ k1 =>
   have H := HA.out
   clear HA
   simp only [posserref03_Right.l0] at H
   by_cases c4 : x6_1 < (l0_0.length : Int)
   ·rw [if_pos c4] at H
    have c4b0 : decide (x6_1 < (l0_0.length : Int)) = true := decide_eq_true c4
    clear c4
    replace H := Option.bind_eq_some_iff.mp H
    obtain ⟨t145, A50, H⟩ := H
    replace H : (if 0 ≤ x6_1 then ((posserref03_In.f t145 ((rd_T85 l0_0 x6_1).f1.f0) ((rd_T85 l0_0 x6_1).f1.f1)).bind fun t148 => (if t148 = true then (if 0 ≤ (IntKind.u64.wrap (x6_1)) then (posserref03_Right.l0 k1 l1 (Go.bits .or .i64 x5_1 (shl .i64 1 (IntKind.u64.wrap (x6_1)))) (wrap64 (x6_1 + 1)) l0_0 l0_1 a0_2) else (none)) else (posserref03_Right.l0 k1 l1 x5_1 (wrap64 (x6_1 + 1)) l0_0 l0_1 a0_2))) else (none)) = some r := H
    have A5 := Aside0.mk A50
    clear A50
    by_cases c6 : 0 ≤ x6_1
    ·rw [if_pos c6] at H
     have c6b0 : decide (0 ≤ x6_1) = true := decide_eq_true c6
     clear c6
     replace H := Option.bind_eq_some_iff.mp H
     obtain ⟨t148, A70, H⟩ := H
     replace H : (if t148 = true then (if 0 ≤ (IntKind.u64.wrap (x6_1)) then (posserref03_Right.l0 k1 l1 (Go.bits .or .i64 x5_1 (shl .i64 1 (IntKind.u64.wrap (x6_1)))) (wrap64 (x6_1 + 1)) l0_0 l0_1 a0_2) else (none)) else (posserref03_Right.l0 k1 l1 x5_1 (wrap64 (x6_1 + 1)) l0_0 l0_1 a0_2)) = some r := H
     have A7 := Aside0.mk A70
     clear A70
     by_cases c8 : t148 = true
     ·subst c8
      have H1 : (if 0 ≤ (IntKind.u64.wrap (x6_1)) then (posserref03_Right.l0 k1 l1 (Go.bits .or .i64 x5_1 (shl .i64 1 (IntKind.u64.wrap (x6_1)))) (wrap64 (x6_1 + 1)) l0_0 l0_1 a0_2) else (none)) = some r := by rw [if_pos rfl] at H; exact H
      clear H
      have H := H1
      clear H1
      obtain ⟨ji9, hji9⟩ : ∃ j_ : Int, (IntKind.u64.wrap (x6_1)) = j_ := ⟨_, rfl⟩
      replace H : (if 0 ≤ (ji9) then (posserref03_Right.l0 k1 l1 (Go.bits .or .i64 x5_1 (shl .i64 1 (ji9))) (wrap64 (x6_1 + 1)) l0_0 l0_1 a0_2) else (none)) = some r := by first | (rw [hji9] at H; exact H) | (simp only [hji9] at H ⊢; exact H)
      (try rw [hji9] at A5)
      (try rw [hji9] at A7)
      by_cases c10 : 0 ≤ (ji9)
      ·rw [if_pos c10] at H
       have c10b0 := eq_true c10
       have c10b1 : decide (0 ≤ (ji9)) = true := decide_eq_true c10
       clear c10
       obtain ⟨ji11, hji11⟩ : ∃ j_ : Int, (shl .i64 1 (ji9)) = j_ := ⟨_, rfl⟩
       replace H : (posserref03_Right.l0 k1 l1 (Go.bits .or .i64 x5_1 (ji11)) (wrap64 (x6_1 + 1)) l0_0 l0_1 a0_2) = some r := by first | (rw [hji11] at H; exact H) | (simp only [hji11] at H ⊢; exact H)
       (try rw [hji11] at A5)
       (try rw [hji11] at A7)
       have hji11_ : (IntKind.i64.wrap (1 * 2 ^ min (ji9).toNat 64)) = ji11 := hji11
       have hji11z : (ji9) ≤ 64 → (IntKind.i64.wrap (1 * 2 ^ (ji9).toNat)) = ji11 := shl_small hji11
       have hji11u : (IntKind.i64.wrap (2 ^ min (ji9).toNat 64)) = ji11 := by have h_ := hji11_; rw [Int.one_mul] at h_; exact h_
       have hji11v : (ji9) ≤ 64 → (IntKind.i64.wrap (2 ^ (ji9).toNat)) = ji11 := fun hle_ => by have h_ := hji11z hle_; rw [Int.one_mul] at h_; exact h_
       have hji11y : (wrap64 (1 * 2 ^ min (ji9).toNat 64)) = ji11 := (i64_w _).symm.trans hji11_
       have hji11x : (ji9) ≤ 64 → (wrap64 (1 * 2 ^ (ji9).toNat)) = ji11 := fun h_ => (i64_w _).symm.trans (hji11z h_)
       have H' := Aside0.mk H
       clear H
       have hcz12_0 := sc 0 BK144
       have hcz12_1 := sc 1 BK144
       have hcz12_2 := sc 2 BK144
       have hfz12_0 := blk_frozen BK144.out 0
       have hfz12_1 := blk_frozen BK144.out 1
       have hfz12_2 := blk_frozen BK144.out 2
       go_wp2_with (first | (go_at_call 63; (with_reducible refine (posserref03_Own.calls k1 _ _ l1 x6_1 t145 _ ?side1 ?side2 A5.out).mono ?_); (case side1 => exact sCb HR1 HB); (case side2 => exact HC1.out); rintro e w' ⟨rfl, ⟨nd, rfl⟩⟩; (try first | exact ⟨rfl, _, World.drewN_drewN _ _ _⟩ | exact ⟨rfl, _, Eq.trans (World.drewN_drewN _ _ _) (congrArg (World.drewN _) (Nat.add_assoc _ _ _))⟩); have p146 : 0 ≤ (x6_1 : Int) := of_decide_eq_true (by first | (with_reducible assumption) | assumption); have q146 : x6_1 < (l0_0.length : Int) := of_decide_eq_true (by first | (with_reducible assumption) | assumption); obtain ⟨ad146, e146, hx146_0, hx146_1, hx146_2⟩ := at_T85 HR0_0.out x6_1 p146 q146; cases e146; replace hx146_0 := (HB.out.cell (World.block_lt_of_cell? w _ hx146_0)).trans hx146_0; replace hx146_1 := (HB.out.cell (World.block_lt_of_cell? w _ hx146_1)).trans hx146_1; replace hx146_2 := (HB.out.cell (World.block_lt_of_cell? w _ hx146_2)).trans hx146_2; replace p146 := eq_true p146; replace q146 := eq_true q146; have p147 : 0 ≤ (x6_1 : Int) := of_decide_eq_true (by first | (with_reducible assumption) | assumption); have q147 : x6_1 < (l0_0.length : Int) := of_decide_eq_true (by first | (with_reducible assumption) | assumption); obtain ⟨ad147, e147, hx147_0, hx147_1, hx147_2⟩ := at_T85 HR0_0.out x6_1 p147 q147; obtain rfl : ad146 = ad147 := (by injection e147); replace hx147_0 := (HB.out.cell (World.block_lt_of_cell? w _ hx147_0)).trans hx147_0; replace hx147_1 := (HB.out.cell (World.block_lt_of_cell? w _ hx147_1)).trans hx147_1; replace hx147_2 := (HB.out.cell (World.block_lt_of_cell? w _ hx147_2)).trans hx147_2; replace p147 := eq_true p147; replace q147 := eq_true q147) | (go_at_call 49; (with_reducible refine (posserref03_In.calls t145 ((rd_T85 l0_0 x6_1).f1.f0) ((rd_T85 l0_0 x6_1).f1.f1) true _ A7.out).mono ?_); rintro e w' ⟨rfl, ⟨nd, rfl⟩⟩; (try first | exact ⟨rfl, _, World.drewN_drewN _ _ _⟩ | exact ⟨rfl, _, Eq.trans (World.drewN_drewN _ _ _) (congrArg (World.drewN _) (Nat.add_assoc _ _ _))⟩)))
       repeat (go_quiet (first | (go_at_call 63; (with_reducible refine (posserref03_Own.calls k1 _ _ l1 x6_1 t145 _ ?side1 ?side2 A5.out).mono ?_); (case side1 => exact sCb HR1 HB); (case side2 => exact HC1.out); rintro e w' ⟨rfl, ⟨nd, rfl⟩⟩; (try first | exact ⟨rfl, _, World.drewN_drewN _ _ _⟩ | exact ⟨rfl, _, Eq.trans (World.drewN_drewN _ _ _) (congrArg (World.drewN _) (Nat.add_assoc _ _ _))⟩); have p146 : 0 ≤ (x6_1 : Int) := of_decide_eq_true (by first | (with_reducible assumption) | assumption); have q146 : x6_1 < (l0_0.length : Int) := of_decide_eq_true (by first | (with_reducible assumption) | assumption); obtain ⟨ad146, e146, hx146_0, hx146_1, hx146_2⟩ := at_T85 HR0_0.out x6_1 p146 q146; cases e146; replace hx146_0 := (HB.out.cell (World.block_lt_of_cell? w _ hx146_0)).trans hx146_0; replace hx146_1 := (HB.out.cell (World.block_lt_of_cell? w _ hx146_1)).trans hx146_1; replace hx146_2 := (HB.out.cell (World.block_lt_of_cell? w _ hx146_2)).trans hx146_2; replace p146 := eq_true p146; replace q146 := eq_true q146; have p147 : 0 ≤ (x6_1 : Int) := of_decide_eq_true (by first | (with_reducible assumption) | assumption); have q147 : x6_1 < (l0_0.length : Int) := of_decide_eq_true (by first | (with_reducible assumption) | assumption); obtain ⟨ad147, e147, hx147_0, hx147_1, hx147_2⟩ := at_T85 HR0_0.out x6_1 p147 q147; obtain rfl : ad146 = ad147 := (by injection e147); replace hx147_0 := (HB.out.cell (World.block_lt_of_cell? w _ hx147_0)).trans hx147_0; replace hx147_1 := (HB.out.cell (World.block_lt_of_cell? w _ hx147_1)).trans hx147_1; replace hx147_2 := (HB.out.cell (World.block_lt_of_cell? w _ hx147_2)).trans hx147_2; replace p147 := eq_true p147; replace q147 := eq_true q147) | (go_at_call 49; (with_reducible refine (posserref03_In.calls t145 ((rd_T85 l0_0 x6_1).f1.f0) ((rd_T85 l0_0 x6_1).f1.f1) true _ A7.out).mono ?_); rintro e w' ⟨rfl, ⟨nd, rfl⟩⟩; (try first | exact ⟨rfl, _, World.drewN_drewN _ _ _⟩ | exact ⟨rfl, _, Eq.trans (World.drewN_drewN _ _ _) (congrArg (World.drewN _) (Nat.add_assoc _ _ _))⟩))); try go_wp2_with (first | (go_at_call 63; (with_reducible refine (posserref03_Own.calls k1 _ _ l1 x6_1 t145 _ ?side1 ?side2 A5.out).mono ?_); (case side1 => exact sCb HR1 HB); (case side2 => exact HC1.out); rintro e w' ⟨rfl, ⟨nd, rfl⟩⟩; (try first | exact ⟨rfl, _, World.drewN_drewN _ _ _⟩ | exact ⟨rfl, _, Eq.trans (World.drewN_drewN _ _ _) (congrArg (World.drewN _) (Nat.add_assoc _ _ _))⟩); have p146 : 0 ≤ (x6_1 : Int) := of_decide_eq_true (by first | (with_reducible assumption) | assumption); have q146 : x6_1 < (l0_0.length : Int) := of_decide_eq_true (by first | (with_reducible assumption) | assumption); obtain ⟨ad146, e146, hx146_0, hx146_1, hx146_2⟩ := at_T85 HR0_0.out x6_1 p146 q146; cases e146; replace hx146_0 := (HB.out.cell (World.block_lt_of_cell? w _ hx146_0)).trans hx146_0; replace hx146_1 := (HB.out.cell (World.block_lt_of_cell? w _ hx146_1)).trans hx146_1; replace hx146_2 := (HB.out.cell (World.block_lt_of_cell? w _ hx146_2)).trans hx146_2; replace p146 := eq_true p146; replace q146 := eq_true q146; have p147 : 0 ≤ (x6_1 : Int) := of_decide_eq_true (by first | (with_reducible assumption) | assumption); have q147 : x6_1 < (l0_0.length : Int) := of_decide_eq_true (by first | (with_reducible assumption) | assumption); obtain ⟨ad147, e147, hx147_0, hx147_1, hx147_2⟩ := at_T85 HR0_0.out x6_1 p147 q147; obtain rfl : ad146 = ad147 := (by injection e147); replace hx147_0 := (HB.out.cell (World.block_lt_of_cell? w _ hx147_0)).trans hx147_0; replace hx147_1 := (HB.out.cell (World.block_lt_of_cell? w _ hx147_1)).trans hx147_1; replace hx147_2 := (HB.out.cell (World.block_lt_of_cell? w _ hx147_2)).trans hx147_2; replace p147 := eq_true p147; replace q147 := eq_true q147) | (go_at_call 49; (with_reducible refine (posserref03_In.calls t145 ((rd_T85 l0_0 x6_1).f1.f0) ((rd_T85 l0_0 x6_1).f1.f1) true _ A7.out).mono ?_); rintro e w' ⟨rfl, ⟨nd, rfl⟩⟩; (try first | exact ⟨rfl, _, World.drewN_drewN _ _ _⟩ | exact ⟨rfl, _, Eq.trans (World.drewN_drewN _ _ _) (congrArg (World.drewN _) (Nat.add_assoc _ _ _))⟩))))
       go_roundg k1
       case measure => have := HK1.out; omega
       case rel => exact ⟨(Go.bits .or .i64 x5_1 (ji11)), (wrap64 (x6_1 + 1)), (by first | rfl | (simp; done) | (simp only [← hji11] <;> (first | rfl | simp)) | (simp [*]; done)), (by first | rfl | (simp; done) | (simp [*]; done)), H', ⟨by have := HK1.out; omega⟩, ⟨by (with_reducible repeat (first | refine blk_drewN ?_ _ | refine blk_drew ?_ | refine blk_alloc ?_ _)); exact BK144.out⟩, ⟨(sbe1 HB GE144)⟩⟩
      ·rw [if_neg c10] at H
       exact absurd H (by simp)
     ·replace c8 := Bool.eq_false_iff.mpr c8
      subst c8
      have H1 : (posserref03_Right.l0 k1 l1 x5_1 (wrap64 (x6_1 + 1)) l0_0 l0_1 a0_2) = some r := by rw [if_neg (show ¬ (false = true) by decide)] at H; exact H
      clear H
      have H := H1
      clear H1
      have H' := Aside0.mk H
      clear H
      have hcz13_0 := sc 0 BK144
      have hcz13_1 := sc 1 BK144
      have hcz13_2 := sc 2 BK144
      have hfz13_0 := blk_frozen BK144.out 0
      have hfz13_1 := blk_frozen BK144.out 1
      have hfz13_2 := blk_frozen BK144.out 2
      go_wp2_with (first | (go_at_call 63; (with_reducible refine (posserref03_Own.calls k1 _ _ l1 x6_1 t145 _ ?side1 ?side2 A5.out).mono ?_); (case side1 => exact sCb HR1 HB); (case side2 => exact HC1.out); rintro e w' ⟨rfl, ⟨nd, rfl⟩⟩; (try first | exact ⟨rfl, _, World.drewN_drewN _ _ _⟩ | exact ⟨rfl, _, Eq.trans (World.drewN_drewN _ _ _) (congrArg (World.drewN _) (Nat.add_assoc _ _ _))⟩); have p146 : 0 ≤ (x6_1 : Int) := of_decide_eq_true (by first | (with_reducible assumption) | assumption); have q146 : x6_1 < (l0_0.length : Int) := of_decide_eq_true (by first | (with_reducible assumption) | assumption); obtain ⟨ad146, e146, hx146_0, hx146_1, hx146_2⟩ := at_T85 HR0_0.out x6_1 p146 q146; cases e146; replace hx146_0 := (HB.out.cell (World.block_lt_of_cell? w _ hx146_0)).trans hx146_0; replace hx146_1 := (HB.out.cell (World.block_lt_of_cell? w _ hx146_1)).trans hx146_1; replace hx146_2 := (HB.out.cell (World.block_lt_of_cell? w _ hx146_2)).trans hx146_2; replace p146 := eq_true p146; replace q146 := eq_true q146; have p147 : 0 ≤ (x6_1 : Int) := of_decide_eq_true (by first | (with_reducible assumption) | assumption); have q147 : x6_1 < (l0_0.length : Int) := of_decide_eq_true (by first | (with_reducible assumption) | assumption); obtain ⟨ad147, e147, hx147_0, hx147_1, hx147_2⟩ := at_T85 HR0_0.out x6_1 p147 q147; obtain rfl : ad146 = ad147 := (by injection e147); replace hx147_0 := (HB.out.cell (World.block_lt_of_cell? w _ hx147_0)).trans hx147_0; replace hx147_1 := (HB.out.cell (World.block_lt_of_cell? w _ hx147_1)).trans hx147_1; replace hx147_2 := (HB.out.cell (World.block_lt_of_cell? w _ hx147_2)).trans hx147_2; replace p147 := eq_true p147; replace q147 := eq_true q147) | (go_at_call 49; (with_reducible refine (posserref03_In.calls t145 ((rd_T85 l0_0 x6_1).f1.f0) ((rd_T85 l0_0 x6_1).f1.f1) false _ A7.out).mono ?_); rintro e w' ⟨rfl, ⟨nd, rfl⟩⟩; (try first | exact ⟨rfl, _, World.drewN_drewN _ _ _⟩ | exact ⟨rfl, _, Eq.trans (World.drewN_drewN _ _ _) (congrArg (World.drewN _) (Nat.add_assoc _ _ _))⟩)))
      repeat (go_quiet (first | (go_at_call 63; (with_reducible refine (posserref03_Own.calls k1 _ _ l1 x6_1 t145 _ ?side1 ?side2 A5.out).mono ?_); (case side1 => exact sCb HR1 HB); (case side2 => exact HC1.out); rintro e w' ⟨rfl, ⟨nd, rfl⟩⟩; (try first | exact ⟨rfl, _, World.drewN_drewN _ _ _⟩ | exact ⟨rfl, _, Eq.trans (World.drewN_drewN _ _ _) (congrArg (World.drewN _) (Nat.add_assoc _ _ _))⟩); have p146 : 0 ≤ (x6_1 : Int) := of_decide_eq_true (by first | (with_reducible assumption) | assumption); have q146 : x6_1 < (l0_0.length : Int) := of_decide_eq_true (by first | (with_reducible assumption) | assumption); obtain ⟨ad146, e146, hx146_0, hx146_1, hx146_2⟩ := at_T85 HR0_0.out x6_1 p146 q146; cases e146; replace hx146_0 := (HB.out.cell (World.block_lt_of_cell? w _ hx146_0)).trans hx146_0; replace hx146_1 := (HB.out.cell (World.block_lt_of_cell? w _ hx146_1)).trans hx146_1; replace hx146_2 := (HB.out.cell (World.block_lt_of_cell? w _ hx146_2)).trans hx146_2; replace p146 := eq_true p146; replace q146 := eq_true q146; have p147 : 0 ≤ (x6_1 : Int) := of_decide_eq_true (by first | (with_reducible assumption) | assumption); have q147 : x6_1 < (l0_0.length : Int) := of_decide_eq_true (by first | (with_reducible assumption) | assumption); obtain ⟨ad147, e147, hx147_0, hx147_1, hx147_2⟩ := at_T85 HR0_0.out x6_1 p147 q147; obtain rfl : ad146 = ad147 := (by injection e147); replace hx147_0 := (HB.out.cell (World.block_lt_of_cell? w _ hx147_0)).trans hx147_0; replace hx147_1 := (HB.out.cell (World.block_lt_of_cell? w _ hx147_1)).trans hx147_1; replace hx147_2 := (HB.out.cell (World.block_lt_of_cell? w _ hx147_2)).trans hx147_2; replace p147 := eq_true p147; replace q147 := eq_true q147) | (go_at_call 49; (with_reducible refine (posserref03_In.calls t145 ((rd_T85 l0_0 x6_1).f1.f0) ((rd_T85 l0_0 x6_1).f1.f1) false _ A7.out).mono ?_); rintro e w' ⟨rfl, ⟨nd, rfl⟩⟩; (try first | exact ⟨rfl, _, World.drewN_drewN _ _ _⟩ | exact ⟨rfl, _, Eq.trans (World.drewN_drewN _ _ _) (congrArg (World.drewN _) (Nat.add_assoc _ _ _))⟩))); try go_wp2_with (first | (go_at_call 63; (with_reducible refine (posserref03_Own.calls k1 _ _ l1 x6_1 t145 _ ?side1 ?side2 A5.out).mono ?_); (case side1 => exact sCb HR1 HB); (case side2 => exact HC1.out); rintro e w' ⟨rfl, ⟨nd, rfl⟩⟩; (try first | exact ⟨rfl, _, World.drewN_drewN _ _ _⟩ | exact ⟨rfl, _, Eq.trans (World.drewN_drewN _ _ _) (congrArg (World.drewN _) (Nat.add_assoc _ _ _))⟩); have p146 : 0 ≤ (x6_1 : Int) := of_decide_eq_true (by first | (with_reducible assumption) | assumption); have q146 : x6_1 < (l0_0.length : Int) := of_decide_eq_true (by first | (with_reducible assumption) | assumption); obtain ⟨ad146, e146, hx146_0, hx146_1, hx146_2⟩ := at_T85 HR0_0.out x6_1 p146 q146; cases e146; replace hx146_0 := (HB.out.cell (World.block_lt_of_cell? w _ hx146_0)).trans hx146_0; replace hx146_1 := (HB.out.cell (World.block_lt_of_cell? w _ hx146_1)).trans hx146_1; replace hx146_2 := (HB.out.cell (World.block_lt_of_cell? w _ hx146_2)).trans hx146_2; replace p146 := eq_true p146; replace q146 := eq_true q146; have p147 : 0 ≤ (x6_1 : Int) := of_decide_eq_true (by first | (with_reducible assumption) | assumption); have q147 : x6_1 < (l0_0.length : Int) := of_decide_eq_true (by first | (with_reducible assumption) | assumption); obtain ⟨ad147, e147, hx147_0, hx147_1, hx147_2⟩ := at_T85 HR0_0.out x6_1 p147 q147; obtain rfl : ad146 = ad147 := (by injection e147); replace hx147_0 := (HB.out.cell (World.block_lt_of_cell? w _ hx147_0)).trans hx147_0; replace hx147_1 := (HB.out.cell (World.block_lt_of_cell? w _ hx147_1)).trans hx147_1; replace hx147_2 := (HB.out.cell (World.block_lt_of_cell? w _ hx147_2)).trans hx147_2; replace p147 := eq_true p147; replace q147 := eq_true q147) | (go_at_call 49; (with_reducible refine (posserref03_In.calls t145 ((rd_T85 l0_0 x6_1).f1.f0) ((rd_T85 l0_0 x6_1).f1.f1) false _ A7.out).mono ?_); rintro e w' ⟨rfl, ⟨nd, rfl⟩⟩; (try first | exact ⟨rfl, _, World.drewN_drewN _ _ _⟩ | exact ⟨rfl, _, Eq.trans (World.drewN_drewN _ _ _) (congrArg (World.drewN _) (Nat.add_assoc _ _ _))⟩))))
      go_roundg k1
      case measure => have := HK1.out; omega
      case rel => exact ⟨(x5_1), (wrap64 (x6_1 + 1)), (by first | rfl | (simp; done) | (simp [*]; done)), (by first | rfl | (simp; done) | (simp [*]; done)), H', ⟨by have := HK1.out; omega⟩, ⟨by (with_reducible repeat (first | refine blk_drewN ?_ _ | refine blk_drew ?_ | refine blk_alloc ?_ _)); exact BK144.out⟩, ⟨(sbe1 HB GE144)⟩⟩
    ·rw [if_neg c6] at H
     exact absurd H (by simp)
   ·rw [if_neg c4] at H
    have c4b0 : decide (x6_1 < (l0_0.length : Int)) = false := decide_eq_false c4
    clear c4
    obtain rfl := Option.some.inj H
    have hcz14_0 := sc 0 BK144
    have hcz14_1 := sc 1 BK144
    have hcz14_2 := sc 2 BK144
    have hfz14_0 := blk_frozen BK144.out 0
    have hfz14_1 := blk_frozen BK144.out 1
    have hfz14_2 := blk_frozen BK144.out 2
    go_wp2
    repeat (go_quiet (fail); try go_wp2)
    go_ret
    exact ⟨by first | rfl | (simp [errW_none, errW_some] <;> rfl) | (simp [*, errW_none, errW_some] <;> rfl), (sbe1 HB GE144)⟩
end Go.Proofs.Ytnbbbeghgomnoaa.X
namespace Go.Proofs.Ytnbbbeghgomnoaa.X
open Go.RowKit Go.Proofs.YtnbbbeghgomnoaaW.PrintWords Go.Proofs.YtnbbbeghgomnoaaW.PrintLast Go.Proofs.YtnbbbeghgomnoaaW.PrintMore
attribute [local go_sem] max2_int min2_int max_two min_two max_three min_three max_four min_four
set_option linter.unusedVariables false
set_option linter.unusedSimpArgs false
def posserref03_Bits.l0 : Nat → Int → List Int → Int → Option (List Int)
 | 0, _, _, _ => none
 | k + 1, x0, x3, x4 => if 0 ≤ (IntKind.u64.wrap (x4)) then (if (shr .i64 x0 (IntKind.u64.wrap (x4))) > 0 then (if (Int.tmod (shr .i64 x0 (IntKind.u64.wrap (x4))) 2) = 1 then (if x3.length < 17592186044416 then (posserref03_Bits.l0 k x0 (x3 ++ [x4]) (wrap64 (x4 + 1))) else (none)) else (posserref03_Bits.l0 k x0 x3 (wrap64 (x4 + 1)))) else (some x3)) else (none)
def posserref03_Bits.f (k : Nat) (a0 : Int) : Option (List Int) := posserref03_Bits.l0 k a0 ([] : List Int) 0
theorem posserref03_Bits.mono_l : ∀ k, (∀ y0 y1 y2, LeO (posserref03_Bits.l0 k y0 y1 y2) (posserref03_Bits.l0 (k + 1) y0 y1 y2))
 | 0 => fun _ _ _ r h => by simp [posserref03_Bits.l0] at h
 | k + 1 => by
  have ih0 := posserref03_Bits.mono_l k
  ·intro y0 y1 y2
   unfold posserref03_Bits.l0
   repeat' first
   | (with_reducible exact ih0 _ _ _)
   | (with_reducible exact LeO.refl _)
   | (with_reducible exact LeO.none _)
   | (with_reducible refine LeO.ite ?_ ?_)
   | (with_reducible refine LeO.bind ?_ (fun _ => ?_))
   | exact ih0 _ _ _
   | exact LeO.none _
   | refine LeO.ite ?_ ?_
   | refine LeO.bind ?_ (fun _ => ?_)
theorem posserref03_Bits.mono : ∀ a0 k, LeO (posserref03_Bits.f k a0) (posserref03_Bits.f (k + 1) a0) := by
 intro a0 k
 have ih0 := posserref03_Bits.mono_l k
 unfold posserref03_Bits.f
 repeat' first
   | (with_reducible exact ih0 _ _ _)
   | (with_reducible exact LeO.refl _)
   | (with_reducible exact LeO.none _)
   | (with_reducible refine LeO.ite ?_ ?_)
   | (with_reducible refine LeO.bind ?_ (fun _ => ?_))
   | exact ih0 _ _ _
   | exact LeO.none _
   | refine LeO.ite ?_ ?_
   | refine LeO.bind ?_ (fun _ => ?_)
set_option maxHeartbeats 8000000 in
set_option maxRecDepth 100000 in
theorem posserref03_Bits.calls (k : Nat) (a0 : Int) (r : List Int) (w : World) (h : posserref03_Bits.f k a0 = some r) :
  Calls Try.prog 48 #[.int .i64 a0] w fun e w' => ∃ v0_ : Value, e = .returned (v0_) ∧ Kd.R (Kd.int .i64) 3 w' w.heap.size (fun _ => True) v0_ r ∧ Below w.heap.size w w' := by
 have HB := Aside0.mk (Below.refl w.heap.size w)
 have H : (posserref03_Bits.l0 k a0 ([] : List Int) 0) = some r := h
 clear h
 have H' := Aside0.mk H
 clear H
 go_enter Try.func48, Try.ntmps48
 go_wp2
 go_loopg [3, 4] k (fun kq v3 v4 w' => ∃ (x3_1 : List Int) (x4_1 : Int), v4 = .int .i64 x4_1 ∧ Aside0 (posserref03_Bits.l0 kq a0 x3_1 x4_1 = some r) ∧ Aside0 (kq ≤ k) ∧ Aside0 (Kd.R (Kd.int .i64) 3 w' w.heap.size (fun _ => True) v3 x3_1) ∧ Aside0 (Below w.heap.size w w'))
 case atStart => exact ⟨(([] : List Int)), (0), (by first | rfl | (simp; done) | (simp [*]; done)), H', ⟨Nat.le_refl _⟩, ⟨by first | exact Kd.R_nil _ _ _ _ _ | exact Kd.N_nil _ _ _ _ _ | exact Kd.V_nil _ _ _ _ _ | exact Kd.Q_nil _ _ _ _ _ | exact Kd.S_nil _ _ _ _ _⟩, ⟨(sbe HB)⟩⟩
 case round =>
  clear H'
  obtain ⟨x3_1, x4_1, rfl, HA, HK1, HO_3, HB⟩ := hrel
  cases gk with
  | zero => exact absurd HA.out (by simp [posserref03_Bits.l0])
  | succ k1 =>
   have H := HA.out
   clear HA
   simp only [posserref03_Bits.l0] at H
   obtain ⟨ji2, hji2⟩ : ∃ j_ : Int, (IntKind.u64.wrap (x4_1)) = j_ := ⟨_, rfl⟩
   replace H : (if 0 ≤ (ji2) then (if (shr .i64 a0 (ji2)) > 0 then (if (Int.tmod (shr .i64 a0 (ji2)) 2) = 1 then (if x3_1.length < 17592186044416 then (posserref03_Bits.l0 k1 a0 (x3_1 ++ [x4_1]) (wrap64 (x4_1 + 1))) else (none)) else (posserref03_Bits.l0 k1 a0 x3_1 (wrap64 (x4_1 + 1)))) else (some x3_1)) else (none)) = some r := by first | (rw [hji2] at H; exact H) | (simp only [hji2] at H ⊢; exact H)
   by_cases c3 : 0 ≤ (ji2)
   ·rw [if_pos c3] at H
    have c3b0 := eq_true c3
    have c3b1 : decide (0 ≤ (ji2)) = true := decide_eq_true c3
    clear c3
    obtain ⟨ji4, hji4⟩ : ∃ j_ : Int, (shr .i64 a0 (ji2)) = j_ := ⟨_, rfl⟩
    replace H : (if (ji4) > 0 then (if (Int.tmod (ji4) 2) = 1 then (if x3_1.length < 17592186044416 then (posserref03_Bits.l0 k1 a0 (x3_1 ++ [x4_1]) (wrap64 (x4_1 + 1))) else (none)) else (posserref03_Bits.l0 k1 a0 x3_1 (wrap64 (x4_1 + 1)))) else (some x3_1)) = some r := by first | (rw [hji4] at H; exact H) | (simp only [hji4] at H ⊢; exact H)
    have hji4_ : (a0 / 2 ^ min (ji2).toNat 64) = ji4 := hji4
    have hji4z : (ji2) ≤ 64 → (a0 / 2 ^ (ji2).toNat) = ji4 := shr_small hji4
    by_cases c5 : (ji4) > 0
    ·rw [if_pos c5] at H
     have c5b0 : decide (0 < (ji4)) = true := decide_eq_true c5
     clear c5
     have c6b0 := eq_true (of_decide_eq_true (by first | (with_reducible assumption) | assumption) : 0 ≤ (ji2))
     by_cases c7 : (Int.tmod (ji4) 2) = 1
     ·rw [if_pos c7] at H
      have c7b0 : ((Int.tmod (ji4) 2) == 1) = true := beq_iff_eq.mpr c7
      have c7b1 : ((Int.tmod (ji4) 2) != 1) = false := bne_eq_false_iff_eq.mpr c7
      clear c7
      by_cases c8 : x3_1.length < 17592186044416
      ·rw [if_pos c8] at H
       have LMc8 := Aside0.mk c8
       clear c8
       obtain ⟨y133, hy133⟩ : ∃ y_ : List Int, y_ = (x3_1 ++ [x4_1]) := ⟨_, rfl⟩
       replace H : (posserref03_Bits.l0 k1 a0 y133 (wrap64 (x4_1 + 1))) = some r := by first | (rw [hy133]; with_reducible exact H) | (have H2_ := (Option.bind_some _ _).symm.trans H; rw [hy133]; with_reducible exact H2_) | (have H2_ := (Option.bind_some _ _).symm.trans H; with_reducible exact H2_) | with_reducible exact H | (rw [hy133]; exact H) | exact H
       have Ny133 := Aside0.mk hy133
       clear hy133
       have H' := Aside0.mk H
       clear H
       go_wp2_with (first | ((with_reducible refine gate_builtin (b := .append) (xs := #[.tmp 18, .tmp 20]) rfl ?_); at_builtin; refine Kd.R_append (Kd.int .i64) (w0 := w) w.heap.size rfl (.tmp 18) (.tmp 20) 39 3 (.int .i64 0) 8 rfl Try.underlying39 info3 rfl (by decide) (by omega) u3 x3_1 x4_1 [.int .i64 x4_1] (fun _ => True) (fun _ => False) rfl rfl ?aP (fun _ hk => hk.elim) ?aF ?aO ?aB ?aS ?aL ?_; (case aP => exact rfl); (case aB => exact (sbe HB)); (case aF => exact (fun _ _ => trivial)); (case aO => exact (sR HO_3)); (case aS => exact (below_size (sbe HB))); (case aL => have := LMc8.out; omega); intro v134 w9 ho hb hg hat; rw [← Ny133.out] at ho; have n0_ := Aside0.mk (hb); have n1_ := Aside0.mk (ho); clear HB; clear HO_3; have HB := n0_; have HO135 := n1_; clear n0_ n1_; clear ho hb hg hat))
       go_roundg k1
       case measure => have := HK1.out; omega
       case rel => exact ⟨(y133), (wrap64 (x4_1 + 1)), (by first | rfl | (simp; done) | (simp [*]; done)), H', ⟨by have := HK1.out; omega⟩, ⟨by (with_reducible repeat (first | apply Kd.R_alloc | apply Kd.R_drewN | apply Kd.R_drew)); exact HO135.out⟩, ⟨(sbe HB)⟩⟩
      ·rw [if_neg c8] at H
       exact absurd H (by simp)
     ·rw [if_neg c7] at H
      have c7b0 : ((Int.tmod (ji4) 2) == 1) = false := beq_eq_false_iff_ne.mpr c7
      have c7b1 : ((Int.tmod (ji4) 2) != 1) = true := bne_iff_ne.mpr c7
      have H' := Aside0.mk H
      clear H
      go_wp2
      go_roundg k1
      case measure => have := HK1.out; omega
      case rel => exact ⟨(x3_1), (wrap64 (x4_1 + 1)), (by first | rfl | (simp; done) | (simp [*]; done)), H', ⟨by have := HK1.out; omega⟩, ⟨by (with_reducible repeat (first | apply Kd.R_alloc | apply Kd.R_drewN | apply Kd.R_drew)); exact HO_3.out⟩, ⟨(sbe HB)⟩⟩
    ·rw [if_neg c5] at H
     have c5b0 : decide (0 < (ji4)) = false := decide_eq_false c5
     clear c5
     obtain rfl := Option.some.inj H
     go_wp2
     go_ret
     exact ⟨_, by first | rfl | (simp [errW_none, errW_some] <;> rfl) | (simp only [← hji2, ← hji4]; first | rfl | (simp [errW_none, errW_some] <;> rfl)) | (simp [*, errW_none, errW_some] <;> rfl), by (with_reducible repeat (first | apply Kd.R_alloc | apply Kd.R_drewN | apply Kd.R_drew)); exact HO_3.out, (sbe HB)⟩
   ·rw [if_neg c3] at H
    exact absurd H (by simp)
end Go.Proofs.Ytnbbbeghgomnoaa.X
namespace Go.Proofs.Ytnbbbeghgomnoaa.X
open Go.RowKit Go.Proofs.YtnbbbeghgomnoaaW.PrintWords Go.Proofs.YtnbbbeghgomnoaaW.PrintLast Go.Proofs.YtnbbbeghgomnoaaW.PrintMore
attribute [local go_sem] max2_int min2_int max_two min_two max_three min_three max_four min_four
set_option linter.unusedVariables false
set_option linter.unusedSimpArgs false
def posserref03_Full.f (l0_0 : List (S85)) (l0_1 : List (S71)) (a0_2 : Int) : Option (Int) := if 0 ≤ (IntKind.u64.wrap ((l0_0.length : Int))) then (some (wrap64 ((shl .i64 1 (IntKind.u64.wrap ((l0_0.length : Int)))) - 1))) else (none)
set_option maxHeartbeats 8000000 in
set_option maxRecDepth 100000 in
theorem posserref03_Full.calls (A0_0 : Option Addr) (c0_0 : Nat) (l0_0 : List (S85)) (A0_1 : Option Addr) (c0_1 : Nat) (l0_1 : List (S71)) (a0_2 : Int) (r : Int) (w : World) (hr0_0 : Kd.C k85 w A0_0 l0_0.length l0_0) (hc0_0 : l0_0.length ≤ c0_0) (hr0_1 : Kd.C k71 w A0_1 l0_1.length l0_1) (hc0_1 : l0_1.length ≤ c0_1) (h : posserref03_Full.f l0_0 l0_1 a0_2 = some r) :
  Calls Try.prog 58 #[.agg #[.slice A0_0 l0_0.length c0_0, .slice A0_1 l0_1.length c0_1, .int .i64 a0_2]] w fun e w' => e = .returned (.int .i64 r) ∧ Below w.heap.size w w' := by
 have hu25 := Try.underlying25
 have HR0_0 := Aside0.mk hr0_0
 have HC0_0 := Aside0.mk hc0_0
 clear hr0_0 hc0_0
 have HR0_1 := Aside0.mk hr0_1
 have HC0_1 := Aside0.mk hc0_1
 clear hr0_1 hc0_1
 have HB := Aside0.mk (Below.refl w.heap.size w)
 have H : (if 0 ≤ (IntKind.u64.wrap ((l0_0.length : Int))) then (some (wrap64 ((shl .i64 1 (IntKind.u64.wrap ((l0_0.length : Int)))) - 1))) else (none)) = some r := h
 clear h
 obtain ⟨ji2, hji2⟩ : ∃ j_ : Int, (IntKind.u64.wrap ((l0_0.length : Int))) = j_ := ⟨_, rfl⟩
 replace H : (if 0 ≤ (ji2) then (some (wrap64 ((shl .i64 1 (ji2)) - 1))) else (none)) = some r := by first | (rw [hji2] at H; exact H) | (simp only [hji2] at H ⊢; exact H)
 by_cases c3 : 0 ≤ (ji2)
 ·rw [if_pos c3] at H
  have c3b0 := eq_true c3
  have c3b1 : decide (0 ≤ (ji2)) = true := decide_eq_true c3
  clear c3
  obtain ⟨ji4, hji4⟩ : ∃ j_ : Int, (shl .i64 1 (ji2)) = j_ := ⟨_, rfl⟩
  replace H : (some (wrap64 ((ji4) - 1))) = some r := by first | (rw [hji4] at H; exact H) | (simp only [hji4] at H ⊢; exact H)
  have hji4_ : (IntKind.i64.wrap (1 * 2 ^ min (ji2).toNat 64)) = ji4 := hji4
  have hji4z : (ji2) ≤ 64 → (IntKind.i64.wrap (1 * 2 ^ (ji2).toNat)) = ji4 := shl_small hji4
  have hji4u : (IntKind.i64.wrap (2 ^ min (ji2).toNat 64)) = ji4 := by have h_ := hji4_; rw [Int.one_mul] at h_; exact h_
  have hji4v : (ji2) ≤ 64 → (IntKind.i64.wrap (2 ^ (ji2).toNat)) = ji4 := fun hle_ => by have h_ := hji4z hle_; rw [Int.one_mul] at h_; exact h_
  have hji4y : (wrap64 (1 * 2 ^ min (ji2).toNat 64)) = ji4 := (i64_w _).symm.trans hji4_
  have hji4x : (ji2) ≤ 64 → (wrap64 (1 * 2 ^ (ji2).toNat)) = ji4 := fun h_ => (i64_w _).symm.trans (hji4z h_)
  obtain rfl := Option.some.inj H
  go_enter Try.func58, Try.ntmps58
  go_wp2_with (first | ((with_reducible refine gate_dst (N := 1) rfl ?_); refine sbox (N := 1) #[.slice A0_0 l0_0.length c0_0, .slice A0_1 l0_1.length c0_1, .int .i64 a0_2] 25 ?_; intro gb136 hg w5 hbox hb; have BK136 := Aside0.mk (hbox); have GW136 := Aside0.mk (sge hg HB : w.heap.size ≤ gb136); have GE136 := Aside0.mk (sge hg HB : w.heap.size ≤ gb136); replace HB := Aside0.mk (sbs HB hb); clear hb hbox hg; have hcz6_0 := sc 0 BK136; have hcz6_1 := sc 1 BK136; have hcz6_2 := sc 2 BK136; have hfz6_0 := blk_frozen BK136.out 0; have hfz6_1 := blk_frozen BK136.out 1; have hfz6_2 := blk_frozen BK136.out 2))
  go_ret
  exact ⟨by first | rfl | (simp [errW_none, errW_some] <;> rfl) | (simp only [← hji2, ← hji4]; first | rfl | (simp [errW_none, errW_some] <;> rfl)) | (simp [*, errW_none, errW_some] <;> rfl), (sbe1 HB GE136)⟩
 ·rw [if_neg c3] at H
  exact absurd H (by simp)
end Go.Proofs.Ytnbbbeghgomnoaa.X
namespace Go.Proofs.Ytnbbbeghgomnoaa.X
open Go.RowKit Go.Proofs.YtnbbbeghgomnoaaW.PrintWords Go.Proofs.YtnbbbeghgomnoaaW.PrintLast Go.Proofs.YtnbbbeghgomnoaaW.PrintMore
attribute [local go_sem] max2_int min2_int max_two min_two max_three min_three max_four min_four
set_option linter.unusedVariables false
set_option linter.unusedSimpArgs false
def posserref03_IsTruth.f (k : Nat) (l0_0 : List (S85)) (l0_1 : List (S71)) (a0_2 : Int) (l1 : List Int) : Option (Bool) := (posserref03_AreOwners.f k l0_0 l0_1 a0_2 l1).bind fun t150 => (if t150 = true then ((posserref03_Full.f l0_0 l0_1 a0_2).bind fun t151 => ((posserref03_Right.f k l0_0 l0_1 a0_2 l1).bind fun t152 => ((posserref03_Bits.f k (Go.bits .andNot .i64 t151 t152)).bind fun t153 => (some (decide ((t153.length : Int) ≤ a0_2)))))) else (some false))
def posserref03_IsTruth.T1 : Bool × List (List Nat × List Nat) := (true, [([], []), ([], []), ([0, 1], [0, 1]), ([2, 2], [2]), ([3], [3]), ([4, 3, 3], [3, 4]), ([3], [3]), ([3], [3]), ([6, 7, 5, 3], [3, 6, 7]), ([5, 8, 3], [3, 5, 8]), ([9, 8, 3], [3, 9]), ([10, 3], [3, 10]), ([3], [3]), ([12, 3], [3, 12]), ([11, 13, 3], [3, 11, 13]), ([3, 14], [3, 14]), ([15, 10, 0, 1, 2, 3, 4, 5, 6, 7, 8, 9, 10, 11, 12, 13, 14, 15], [15])])
def posserref03_IsTruth.B1 : List Nat := [0, 0, 3, 7, 15, 31, 15, 15, 255, 511, 1023, 2047, 15, 4111, 16383, 32767, 65535]
theorem posserref03_IsTruth.tab1 : rtab .any (opsOf Try.f42 1) = posserref03_IsTruth.T1 := by kernel_rfl
theorem posserref03_IsTruth.bits1 : waitsOk posserref03_IsTruth.T1.2 posserref03_IsTruth.B1 = true := by kernel_rfl
set_option maxHeartbeats 8000000 in
set_option maxRecDepth 100000 in
theorem posserref03_IsTruth.calls (k : Nat) (A0_0 : Option Addr) (c0_0 : Nat) (l0_0 : List (S85)) (A0_1 : Option Addr) (c0_1 : Nat) (l0_1 : List (S71)) (a0_2 : Int) (A1 : Option Addr) (c1 : Nat) (l1 : List Int) (r : Bool) (w : World) (hr0_0 : Kd.C k85 w A0_0 l0_0.length l0_0) (hc0_0 : l0_0.length ≤ c0_0) (hr0_1 : Kd.C k71 w A0_1 l0_1.length l0_1) (hc0_1 : l0_1.length ≤ c0_1) (hr1 : Kd.C (Kd.int .i64) w A1 l1.length l1) (hc1 : l1.length ≤ c1) (h : posserref03_IsTruth.f k l0_0 l0_1 a0_2 l1 = some r) :
  Calls Try.prog 42 #[.agg #[.slice A0_0 l0_0.length c0_0, .slice A0_1 l0_1.length c0_1, .int .i64 a0_2], .slice A1 l1.length c1] w fun e w' => e = .returned (.bool r) ∧ Below w.heap.size w w' := by
 have hu25 := Try.underlying25
 have HR0_0 := Aside0.mk hr0_0
 have HC0_0 := Aside0.mk hc0_0
 clear hr0_0 hc0_0
 have HR0_1 := Aside0.mk hr0_1
 have HC0_1 := Aside0.mk hc0_1
 clear hr0_1 hc0_1
 have HR1 := Aside0.mk hr1
 have HC1 := Aside0.mk hc1
 clear hr1 hc1
 have HB := Aside0.mk (Below.refl w.heap.size w)
 have H : ((posserref03_AreOwners.f k l0_0 l0_1 a0_2 l1).bind fun t150 => (if t150 = true then ((posserref03_Full.f l0_0 l0_1 a0_2).bind fun t151 => ((posserref03_Right.f k l0_0 l0_1 a0_2 l1).bind fun t152 => ((posserref03_Bits.f k (Go.bits .andNot .i64 t151 t152)).bind fun t153 => (some (decide ((t153.length : Int) ≤ a0_2)))))) else (some false))) = some r := h
 clear h
 replace H := Option.bind_eq_some_iff.mp H
 obtain ⟨t150, A30, H⟩ := H
 replace H : (if t150 = true then ((posserref03_Full.f l0_0 l0_1 a0_2).bind fun t151 => ((posserref03_Right.f k l0_0 l0_1 a0_2 l1).bind fun t152 => ((posserref03_Bits.f k (Go.bits .andNot .i64 t151 t152)).bind fun t153 => (some (decide ((t153.length : Int) ≤ a0_2)))))) else (some false)) = some r := H
 have A3 := Aside0.mk A30
 clear A30
 by_cases c4 : t150 = true
 ·subst c4
  have H1 : ((posserref03_Full.f l0_0 l0_1 a0_2).bind fun t151 => ((posserref03_Right.f k l0_0 l0_1 a0_2 l1).bind fun t152 => ((posserref03_Bits.f k (Go.bits .andNot .i64 t151 t152)).bind fun t153 => (some (decide ((t153.length : Int) ≤ a0_2)))))) = some r := by rw [if_pos rfl] at H; exact H
  clear H
  have H := H1
  clear H1
  replace H := Option.bind_eq_some_iff.mp H
  obtain ⟨t151, A50, H⟩ := H
  replace H : ((posserref03_Right.f k l0_0 l0_1 a0_2 l1).bind fun t152 => ((posserref03_Bits.f k (Go.bits .andNot .i64 t151 t152)).bind fun t153 => (some (decide ((t153.length : Int) ≤ a0_2))))) = some r := H
  have A5 := Aside0.mk A50
  clear A50
  replace H := Option.bind_eq_some_iff.mp H
  obtain ⟨t152, A60, H⟩ := H
  replace H : ((posserref03_Bits.f k (Go.bits .andNot .i64 t151 t152)).bind fun t153 => (some (decide ((t153.length : Int) ≤ a0_2)))) = some r := H
  have A6 := Aside0.mk A60
  clear A60
  replace H := Option.bind_eq_some_iff.mp H
  obtain ⟨t153, A70, H⟩ := H
  replace H : (some (decide ((t153.length : Int) ≤ a0_2))) = some r := H
  have A7 := Aside0.mk A70
  clear A70
  obtain rfl := Option.some.inj H
  go_enter Try.func42, Try.ntmps42
  try go_wp2_with (first | ((with_reducible refine gate_dst (N := 2) rfl ?_); (try (refine gate_guard (by rfl) ?_; dsimp only)); refine sbox (N := 2) #[.slice A0_0 l0_0.length c0_0, .slice A0_1 l0_1.length c0_1, .int .i64 a0_2] 25 ?_; intro gb149 hg w8 hbox hb; have BK149 := Aside0.mk (hbox); have GW149 := Aside0.mk (sge hg HB : w.heap.size ≤ gb149); have GE149 := Aside0.mk (sge hg HB : w.heap.size ≤ gb149); replace HB := Aside0.mk (sbs HB hb); clear hb hbox hg))
  replace BK149 := Aside0.mk (blk_drew BK149.out)
  replace HB := Aside0.mk (below_drew1 HB.out)
  refine start_ (n := 17) (S := fun w' => w'.cell? ⟨gb149, 0, none⟩ = some (.slice A0_0 l0_0.length c0_0) ∧ w'.cell? ⟨gb149, 1, none⟩ = some (.slice A0_1 l0_1.length c0_1) ∧ w'.cell? ⟨gb149, 2, none⟩ = some (.int .i64 a0_2)) (ds := []) (lm 17 0) (by kernel_rfl) rfl (by kernel_rfl) ⟨(blk_cell BK149.out 0).trans rfl, (blk_cell BK149.out 1).trans rfl, (blk_cell BK149.out 2).trans rfl⟩ (fun hHeld => ?_); refine with_tabW posserref03_IsTruth.tab1 posserref03_IsTruth.bits1 (fun HT_ HW_ => ?_)
  generalize w8.drew = w9 at BK149 HB hHeld ⊢
  refine sP (i := 1) (N := some 6) (lm 17 2) ?_ (hc := any_of HT_.out (by kernel_rfl))
  refine take_ (i := 0) (N := some 5) (v := ?_) (a' := ?_) (lm 17 3) rfl rfl (take_ofW HT_.out HW_.out (by kernel_rfl)) (fun _ _ _ h => h) (Or.inl ⟨by rfl, ?_⟩) hHeld ?_ ?_
  rotate_left
  ·rintro w' ⟨s0, s1, s2⟩
   go_simp
   with_reducible rfl
  rotate_left
  ·simp only [Act.put, List.setIfInBounds_toArray, List.set_cons_zero, List.set_cons_succ, i64_w, i32_w]
   rfl
  refine one_ (i := 2) (N := some 7) (lm 17 7) rfl rfl (one_of HT_.out (by kernel_rfl)) (by decide) (fun K hK => ?_)
  refine goes_ Try.func62 (by kernel_rfl) rfl #[.agg #[.slice A0_0 l0_0.length c0_0, .slice A0_1 l0_1.length c0_1, .int .i64 a0_2], .slice A1 l1.length c1] (by rfl) rfl rfl (by (try simp only [List.map_toArray, List.map_cons, List.map_nil]); first | done | rfl | (simp only [List.length_drop, List.length_take]; rfl)) ?_
  with_reducible refine (posserref03_AreOwners.calls k _ _ l0_0 _ _ l0_1 a0_2 _ _ l1 true _ ?side1 ?side2 ?side3 ?side4 ?side5 ?side6 A3.out).mono ?_
  (case side1 => exact sCb HR0_0 HB)
  (case side2 => exact HC0_0.out)
  (case side3 => exact sCb HR0_1 HB)
  (case side4 => exact HC0_1.out)
  (case side5 => exact sCb HR1 HB)
  (case side6 => exact HC1.out)
  rintro e w10 ⟨rfl, hb⟩
  refine ⟨_, rfl, ?_⟩
  replace BK149 := Aside0.mk (sbb BK149 hb)
  replace HB := Aside0.mk (sbs1 HB GE149 hb)
  (try clear hb)
  (try clear hb2)
  (try clear hk)
  (try clear hi)
  refine hK.out _ _ ⟨(blk_cell BK149.out 0).trans rfl, (blk_cell BK149.out 1).trans rfl, (blk_cell BK149.out 2).trans rfl⟩ (fun hHeld => ?_)
  clear hK K
  refine sN ?_
  refine sP (i := 3) (N := some 8) (lm 17 15) ?_ (hc := any_of HT_.out (by kernel_rfl))
  refine sP (i := 7) (N := some 12) (lm 17 143) ?_ (hc := any_of HT_.out (by kernel_rfl))
  refine sP (i := 12) (N := some 17) (lm 17 4239) ?_ (hc := any_of HT_.out (by kernel_rfl))
  refine take_ (i := 4) (N := some 9) (v := ?_) (a' := ?_) (lm 17 4255) rfl rfl (take_ofW HT_.out HW_.out (by kernel_rfl)) (fun _ _ _ h => h) (Or.inl ⟨by rfl, ?_⟩) hHeld ?_ ?_
  rotate_left
  ·rintro w' ⟨s0, s1, s2⟩
   go_simp
   with_reducible rfl
  rotate_left
  ·simp only [Act.put, List.setIfInBounds_toArray, List.set_cons_zero, List.set_cons_succ, i64_w, i32_w]
   rfl
  refine take_ (i := 6) (N := some 11) (v := ?_) (a' := ?_) (lm 17 4319) rfl rfl (take_ofW HT_.out HW_.out (by kernel_rfl)) (fun _ _ _ h => h) (Or.inl ⟨by rfl, ?_⟩) hHeld ?_ ?_
  rotate_left
  ·rintro w' ⟨s0, s1, s2⟩
   go_simp
   with_reducible rfl
  rotate_left
  ·simp only [Act.put, List.setIfInBounds_toArray, List.set_cons_zero, List.set_cons_succ, i64_w, i32_w]
   rfl
  refine take_ (i := 13) (N := some 18) (v := ?_) (a' := ?_) (lm 17 12511) rfl rfl (take_ofW HT_.out HW_.out (by kernel_rfl)) (fun _ _ _ h => h) (Or.inl ⟨by rfl, ?_⟩) hHeld ?_ ?_
  rotate_left
  ·rintro w' ⟨s0, s1, s2⟩
   go_simp
   with_reducible rfl
  rotate_left
  ·simp only [Act.put, List.setIfInBounds_toArray, List.set_cons_zero, List.set_cons_succ, i64_w, i32_w]
   rfl
  refine one_ (i := 5) (N := some 10) (lm 17 12543) rfl rfl (one_of HT_.out (by kernel_rfl)) (by decide) (fun K hK => ?_)
  refine goes_ Try.func58 (by kernel_rfl) rfl #[.agg #[.slice A0_0 l0_0.length c0_0, .slice A0_1 l0_1.length c0_1, .int .i64 a0_2]] (by rfl) rfl rfl (by (try simp only [List.map_toArray, List.map_cons, List.map_nil]); first | done | rfl | (simp only [List.length_drop, List.length_take]; rfl)) ?_
  with_reducible refine (posserref03_Full.calls _ _ l0_0 _ _ l0_1 a0_2 t151 _ ?side1 ?side2 ?side3 ?side4 A5.out).mono ?_
  (case side1 => exact sCb HR0_0 HB)
  (case side2 => exact HC0_0.out)
  (case side3 => exact sCb HR0_1 HB)
  (case side4 => exact HC0_1.out)
  rintro e w11 ⟨rfl, hb⟩
  refine ⟨_, rfl, ?_⟩
  replace BK149 := Aside0.mk (sbb BK149 hb)
  replace HB := Aside0.mk (sbs1 HB GE149 hb)
  (try clear hb)
  (try clear hb2)
  (try clear hk)
  (try clear hi)
  refine hK.out _ _ ⟨(blk_cell BK149.out 0).trans rfl, (blk_cell BK149.out 1).trans rfl, (blk_cell BK149.out 2).trans rfl⟩ (fun hHeld => ?_)
  clear hK K
  refine sN ?_
  refine one_ (i := 8) (N := some 13) (lm 17 12799) rfl rfl (one_of HT_.out (by kernel_rfl)) (by decide) (fun K hK => ?_)
  refine goes_ Try.func77 (by kernel_rfl) rfl #[.agg #[.slice A0_0 l0_0.length c0_0, .slice A0_1 l0_1.length c0_1, .int .i64 a0_2], .slice A1 l1.length c1] (by rfl) rfl rfl (by (try simp only [List.map_toArray, List.map_cons, List.map_nil]); first | done | rfl | (simp only [List.length_drop, List.length_take]; rfl)) ?_
  with_reducible refine (posserref03_Right.calls k _ _ l0_0 _ _ l0_1 a0_2 _ _ l1 t152 _ ?side1 ?side2 ?side3 ?side4 ?side5 ?side6 A6.out).mono ?_
  (case side1 => exact sCb HR0_0 HB)
  (case side2 => exact HC0_0.out)
  (case side3 => exact sCb HR0_1 HB)
  (case side4 => exact HC0_1.out)
  (case side5 => exact sCb HR1 HB)
  (case side6 => exact HC1.out)
  rintro e w12 ⟨rfl, hb⟩
  refine ⟨_, rfl, ?_⟩
  replace BK149 := Aside0.mk (sbb BK149 hb)
  replace HB := Aside0.mk (sbs1 HB GE149 hb)
  (try clear hb)
  (try clear hb2)
  (try clear hk)
  (try clear hi)
  refine hK.out _ _ ⟨(blk_cell BK149.out 0).trans rfl, (blk_cell BK149.out 1).trans rfl, (blk_cell BK149.out 2).trans rfl⟩ (fun hHeld => ?_)
  clear hK K
  refine sN ?_
  refine sP (i := 9) (N := some 14) (lm 17 13311) ?_ (hc := any_of HT_.out (by kernel_rfl))
  refine one_ (i := 10) (N := some 15) (lm 17 14335) rfl rfl (one_of HT_.out (by kernel_rfl)) (by decide) (fun K hK => ?_)
  refine goes_ Try.func48 (by kernel_rfl) rfl #[.int .i64 (Go.bits .andNot .i64 t151 t152)] (by rfl) rfl rfl (by (try simp only [List.map_toArray, List.map_cons, List.map_nil]); first | done | rfl | (simp only [List.length_drop, List.length_take]; rfl)) ?_
  with_reducible refine (posserref03_Bits.calls k (Go.bits .andNot .i64 t151 t152) t153 _ A7.out).mono ?_
  rintro e w13 ⟨v154, rfl, ho0, hb⟩
  refine ⟨_, rfl, ?_⟩
  have HO155 := Aside0.mk (Kd.R_lower ho0 (below_size (sbe1 HB GE149)))
  replace BK149 := Aside0.mk (sbb BK149 hb)
  replace HB := Aside0.mk (sbs1 HB GE149 hb)
  (try clear hb)
  (try clear hb2)
  (try clear hk)
  (try clear hi)
  (try clear ho0)
  obtain ⟨Ao14, co14, eo14⟩ := Kd.R_slice HO155.out
  (first | subst eo14 | (injection eo14 with f1_ f2_ f3_; have f4_ := f1_.symm; have f5_ := f3_.symm; clear f1_ f2_ f3_; subst f4_; subst f5_))
  refine hK.out _ _ ⟨(blk_cell BK149.out 0).trans rfl, (blk_cell BK149.out 1).trans rfl, (blk_cell BK149.out 2).trans rfl⟩ (fun hHeld => ?_)
  clear hK K
  refine sN ?_
  refine sP (i := 11) (N := some 16) (lm 17 16383) ?_ (hc := any_of HT_.out (by kernel_rfl))
  refine sP (i := 14) (N := some 19) (lm 17 32767) ?_ (hc := any_of HT_.out (by kernel_rfl))
  refine sP (i := 15) (N := some 20) (lm 17 65535) ?_ (hc := any_of HT_.out (by kernel_rfl))
  refine sP (i := 16) (N := some 4) (lm 17 131071) ?_ (hc := any_of HT_.out (by kernel_rfl))
  refine done_ (done_of HT_.out (by kernel_rfl)) ?_
  try go_wp2
  go_ret
  exact ⟨by first | rfl | (simp [errW_none, errW_some] <;> rfl) | (simp [*, errW_none, errW_some] <;> rfl), (sbe1 HB GE149)⟩
 ·replace c4 := Bool.eq_false_iff.mpr c4
  subst c4
  have H1 : (some false) = some r := by rw [if_neg (show ¬ (false = true) by decide)] at H; exact H
  clear H
  have H := H1
  clear H1
  obtain rfl := Option.some.inj H
  go_enter Try.func42, Try.ntmps42
  try go_wp2_with (first | ((with_reducible refine gate_dst (N := 2) rfl ?_); (try (refine gate_guard (by rfl) ?_; dsimp only)); refine sbox (N := 2) #[.slice A0_0 l0_0.length c0_0, .slice A0_1 l0_1.length c0_1, .int .i64 a0_2] 25 ?_; intro gb149 hg w15 hbox hb; have BK149 := Aside0.mk (hbox); have GW149 := Aside0.mk (sge hg HB : w.heap.size ≤ gb149); have GE149 := Aside0.mk (sge hg HB : w.heap.size ≤ gb149); replace HB := Aside0.mk (sbs HB hb); clear hb hbox hg))
  replace BK149 := Aside0.mk (blk_drew BK149.out)
  replace HB := Aside0.mk (below_drew1 HB.out)
  refine start_ (n := 17) (S := fun w' => w'.cell? ⟨gb149, 0, none⟩ = some (.slice A0_0 l0_0.length c0_0) ∧ w'.cell? ⟨gb149, 1, none⟩ = some (.slice A0_1 l0_1.length c0_1) ∧ w'.cell? ⟨gb149, 2, none⟩ = some (.int .i64 a0_2)) (ds := []) (lm 17 0) (by kernel_rfl) rfl (by kernel_rfl) ⟨(blk_cell BK149.out 0).trans rfl, (blk_cell BK149.out 1).trans rfl, (blk_cell BK149.out 2).trans rfl⟩ (fun hHeld => ?_); refine with_tabW posserref03_IsTruth.tab1 posserref03_IsTruth.bits1 (fun HT_ HW_ => ?_)
  generalize w15.drew = w16 at BK149 HB hHeld ⊢
  refine sP (i := 1) (N := some 6) (lm 17 2) ?_ (hc := any_of HT_.out (by kernel_rfl))
  refine take_ (i := 0) (N := some 5) (v := ?_) (a' := ?_) (lm 17 3) rfl rfl (take_ofW HT_.out HW_.out (by kernel_rfl)) (fun _ _ _ h => h) (Or.inl ⟨by rfl, ?_⟩) hHeld ?_ ?_
  rotate_left
  ·rintro w' ⟨s0, s1, s2⟩
   go_simp
   with_reducible rfl
  rotate_left
  ·simp only [Act.put, List.setIfInBounds_toArray, List.set_cons_zero, List.set_cons_succ, i64_w, i32_w]
   rfl
  refine one_ (i := 2) (N := some 7) (lm 17 7) rfl rfl (one_of HT_.out (by kernel_rfl)) (by decide) (fun K hK => ?_)
  refine goes_ Try.func62 (by kernel_rfl) rfl #[.agg #[.slice A0_0 l0_0.length c0_0, .slice A0_1 l0_1.length c0_1, .int .i64 a0_2], .slice A1 l1.length c1] (by rfl) rfl rfl (by (try simp only [List.map_toArray, List.map_cons, List.map_nil]); first | done | rfl | (simp only [List.length_drop, List.length_take]; rfl)) ?_
  with_reducible refine (posserref03_AreOwners.calls k _ _ l0_0 _ _ l0_1 a0_2 _ _ l1 false _ ?side1 ?side2 ?side3 ?side4 ?side5 ?side6 A3.out).mono ?_
  (case side1 => exact sCb HR0_0 HB)
  (case side2 => exact HC0_0.out)
  (case side3 => exact sCb HR0_1 HB)
  (case side4 => exact HC0_1.out)
  (case side5 => exact sCb HR1 HB)
  (case side6 => exact HC1.out)
  rintro e w17 ⟨rfl, hb⟩
  refine ⟨_, rfl, ?_⟩
  replace BK149 := Aside0.mk (sbb BK149 hb)
  replace HB := Aside0.mk (sbs1 HB GE149 hb)
  (try clear hb)
  (try clear hb2)
  (try clear hk)
  (try clear hi)
  refine hK.out _ _ ⟨(blk_cell BK149.out 0).trans rfl, (blk_cell BK149.out 1).trans rfl, (blk_cell BK149.out 2).trans rfl⟩ (fun hHeld => ?_)
  clear hK K
  refine sN ?_
  refine sP (i := 3) (N := some 8) (lm 17 15) ?_ (hc := any_of HT_.out (by kernel_rfl))
  refine pure_ (i := 4) (N := some 9) (v := undef) (a' := ?_) (lm 17 31) rfl rfl (any_of HT_.out (by kernel_rfl)) (fun _ _ _ h => h) (Or.inr ⟨by rfl, rfl⟩) ?_ ?_
  rotate_left
  ·simp only [Act.put, List.setIfInBounds_toArray, List.set_cons_zero, List.set_cons_succ, i64_w, i32_w]
   rfl
  refine pure_ (i := 5) (N := some 10) (v := undef) (a' := ?_) (lm 17 63) rfl rfl (any_of HT_.out (by kernel_rfl)) (fun _ _ _ h => h) (Or.inr ⟨by rfl, rfl⟩) ?_ ?_
  rotate_left
  ·simp only [Act.put, List.setIfInBounds_toArray, List.set_cons_zero, List.set_cons_succ, i64_w, i32_w]
   rfl
  refine pure_ (i := 6) (N := some 11) (v := undef) (a' := ?_) (lm 17 127) rfl rfl (any_of HT_.out (by kernel_rfl)) (fun _ _ _ h => h) (Or.inr ⟨by rfl, rfl⟩) ?_ ?_
  rotate_left
  ·simp only [Act.put, List.setIfInBounds_toArray, List.set_cons_zero, List.set_cons_succ, i64_w, i32_w]
   rfl
  refine pure_ (i := 7) (N := some 12) (v := undef) (a' := ?_) (lm 17 255) rfl rfl (any_of HT_.out (by kernel_rfl)) (fun _ _ _ h => h) (Or.inr ⟨by rfl, rfl⟩) ?_ ?_
  rotate_left
  ·simp only [Act.put, List.setIfInBounds_toArray, List.set_cons_zero, List.set_cons_succ, i64_w, i32_w]
   rfl
  refine pure_ (i := 8) (N := some 13) (v := undef) (a' := ?_) (lm 17 511) rfl rfl (any_of HT_.out (by kernel_rfl)) (fun _ _ _ h => h) (Or.inr ⟨by rfl, rfl⟩) ?_ ?_
  rotate_left
  ·simp only [Act.put, List.setIfInBounds_toArray, List.set_cons_zero, List.set_cons_succ, i64_w, i32_w]
   rfl
  refine pure_ (i := 9) (N := some 14) (v := undef) (a' := ?_) (lm 17 1023) rfl rfl (any_of HT_.out (by kernel_rfl)) (fun _ _ _ h => h) (Or.inr ⟨by rfl, rfl⟩) ?_ ?_
  rotate_left
  ·simp only [Act.put, List.setIfInBounds_toArray, List.set_cons_zero, List.set_cons_succ, i64_w, i32_w]
   rfl
  refine pure_ (i := 10) (N := some 15) (v := undef) (a' := ?_) (lm 17 2047) rfl rfl (any_of HT_.out (by kernel_rfl)) (fun _ _ _ h => h) (Or.inr ⟨by rfl, rfl⟩) ?_ ?_
  rotate_left
  ·simp only [Act.put, List.setIfInBounds_toArray, List.set_cons_zero, List.set_cons_succ, i64_w, i32_w]
   rfl
  refine pure_ (i := 11) (N := some 16) (v := undef) (a' := ?_) (lm 17 4095) rfl rfl (any_of HT_.out (by kernel_rfl)) (fun _ _ _ h => h) (Or.inr ⟨by rfl, rfl⟩) ?_ ?_
  rotate_left
  ·simp only [Act.put, List.setIfInBounds_toArray, List.set_cons_zero, List.set_cons_succ, i64_w, i32_w]
   rfl
  refine pure_ (i := 12) (N := some 17) (v := undef) (a' := ?_) (lm 17 8191) rfl rfl (any_of HT_.out (by kernel_rfl)) (fun _ _ _ h => h) (Or.inr ⟨by rfl, rfl⟩) ?_ ?_
  rotate_left
  ·simp only [Act.put, List.setIfInBounds_toArray, List.set_cons_zero, List.set_cons_succ, i64_w, i32_w]
   rfl
  refine pure_ (i := 13) (N := some 18) (v := undef) (a' := ?_) (lm 17 16383) rfl rfl (any_of HT_.out (by kernel_rfl)) (fun _ _ _ h => h) (Or.inr ⟨by rfl, rfl⟩) ?_ ?_
  rotate_left
  ·simp only [Act.put, List.setIfInBounds_toArray, List.set_cons_zero, List.set_cons_succ, i64_w, i32_w]
   rfl
  refine pure_ (i := 14) (N := some 19) (v := undef) (a' := ?_) (lm 17 32767) rfl rfl (any_of HT_.out (by kernel_rfl)) (fun _ _ _ h => h) (Or.inr ⟨by rfl, rfl⟩) ?_ ?_
  rotate_left
  ·simp only [Act.put, List.setIfInBounds_toArray, List.set_cons_zero, List.set_cons_succ, i64_w, i32_w]
   rfl
  refine sP (i := 15) (N := some 20) (lm 17 65535) ?_ (hc := any_of HT_.out (by kernel_rfl))
  refine sP (i := 16) (N := some 4) (lm 17 131071) ?_ (hc := any_of HT_.out (by kernel_rfl))
  refine done_ (done_of HT_.out (by kernel_rfl)) ?_
  try go_wp2
  go_ret
  exact ⟨by first | rfl | (simp [errW_none, errW_some] <;> rfl) | (simp [*, errW_none, errW_some] <;> rfl), (sbe1 HB GE149)⟩
end Go.Proofs.Ytnbbbeghgomnoaa.X
namespace Go.Proofs.Ytnbbbeghgomnoaa.X
open Go.RowKit Go.Proofs.YtnbbbeghgomnoaaW.PrintWords Go.Proofs.YtnbbbeghgomnoaaW.PrintLast Go.Proofs.YtnbbbeghgomnoaaW.PrintMore
attribute [local go_sem] max2_int min2_int max_two min_two max_three min_three max_four min_four
set_option linter.unusedVariables false
set_option linter.unusedSimpArgs false
def posserref03_Nth.l0 : Nat → Int → List Int → Int → List (S85) → List (S71) → Int → Option (List Int)
 | 0, _, _, _, _, _, _ => none
 | k + 1, x1, x5, x6, x157000, x157001, x157002 => if x6 ≥ 0 then ((posserref03_WomenOf.f k x157000 x157001 x157002 x6).bind fun t160 => (if (t160.length : Int) = 0 then (none) else (if 0 ≤ (Int.tmod x1 (t160.length : Int)) then (if (Int.tmod x1 (t160.length : Int)) < (t160.length : Int) then (if 0 ≤ x6 then (if x6 < (x5.length : Int) then (posserref03_Nth.l0 k (wrap64 (Int.tdiv x1 (t160.length : Int))) (x5.set (x6 : Int).toNat (rd t160 (Int.tmod x1 (t160.length : Int)))) (wrap64 (x6 - 1)) x157000 x157001 x157002) else (none)) else (none)) else (none)) else (none)))) else (some x5)
def posserref03_Nth.f (k : Nat) (l0_0 : List (S85)) (l0_1 : List (S71)) (a0_2 : Int) (a1 : Int) : Option (List Int) := if 0 ≤ (l0_1.length : Int) then (if ((l0_1.length : Int) : Int).toNat ≤ 35184372088832 then (posserref03_Nth.l0 k a1 (List.replicate ((l0_1.length : Int) : Int).toNat 0) (wrap64 ((l0_1.length : Int) - 1)) l0_0 l0_1 a0_2) else (none)) else (none)
def posserref03_Nth.T6 : Bool × List (List Nat × List Nat) := (true, [([], []), ([], []), ([], []), ([], []), ([], []), ([4], [4]), ([3, 5], [3, 5]), ([2, 6], [2, 6]), ([7], [7]), ([], []), ([], []), ([10], [10]), ([9, 11], [9, 11]), ([0, 1, 0, 1, 2, 3, 4, 5, 6, 7, 8], [0, 1]), ([13, 8, 0, 1, 2, 3, 4, 5, 6, 7, 8], [8, 13]), ([12, 14, 0, 1, 2, 3, 4, 5, 6, 7, 8, 9, 10, 11, 12, 13, 14], [3, 9, 12])])
def posserref03_Nth.B6 : List Nat := [0, 0, 0, 0, 0, 16, 56, 124, 252, 0, 0, 1024, 3584, 511, 8703, 32767]
theorem posserref03_Nth.tab6 : rtab .any (opsOf Try.f78 6) = posserref03_Nth.T6 := by kernel_rfl
theorem posserref03_Nth.bits6 : waitsOk posserref03_Nth.T6.2 posserref03_Nth.B6 = true := by kernel_rfl
set_option maxHeartbeats 8000000 in
set_option maxRecDepth 100000 in
theorem posserref03_Nth.calls (k : Nat) (A0_0 : Option Addr) (c0_0 : Nat) (l0_0 : List (S85)) (A0_1 : Option Addr) (c0_1 : Nat) (l0_1 : List (S71)) (a0_2 : Int) (a1 : Int) (r : List Int) (w : World) (hr0_0 : Kd.C k85 w A0_0 l0_0.length l0_0) (hc0_0 : l0_0.length ≤ c0_0) (hr0_1 : Kd.C k71 w A0_1 l0_1.length l0_1) (hc0_1 : l0_1.length ≤ c0_1) (h : posserref03_Nth.f k l0_0 l0_1 a0_2 a1 = some r) :
  Calls Try.prog 78 #[.agg #[.slice A0_0 l0_0.length c0_0, .slice A0_1 l0_1.length c0_1, .int .i64 a0_2], .int .i64 a1] w fun e w' => ∃ v0_ : Value, e = .returned (v0_) ∧ Kd.R (Kd.int .i64) 3 w' w.heap.size (fun _ => True) v0_ r ∧ Below w.heap.size w w' := by
 have hu25 := Try.underlying25
 have HR0_0 := Aside0.mk hr0_0
 have HC0_0 := Aside0.mk hc0_0
 clear hr0_0 hc0_0
 have HR0_1 := Aside0.mk hr0_1
 have HC0_1 := Aside0.mk hc0_1
 clear hr0_1 hc0_1
 have HB := Aside0.mk (Below.refl w.heap.size w)
 have H : (if 0 ≤ (l0_1.length : Int) then (if ((l0_1.length : Int) : Int).toNat ≤ 35184372088832 then (posserref03_Nth.l0 k a1 (List.replicate ((l0_1.length : Int) : Int).toNat 0) (wrap64 ((l0_1.length : Int) - 1)) l0_0 l0_1 a0_2) else (none)) else (none)) = some r := h
 clear h
 by_cases c3 : 0 ≤ (l0_1.length : Int)
 ·rw [if_pos c3] at H
  have c3b0 := eq_true c3
  have c3b1 : decide (0 ≤ (l0_1.length : Int)) = true := decide_eq_true c3
  clear c3
  by_cases c4 : ((l0_1.length : Int) : Int).toNat ≤ 35184372088832
  ·rw [if_pos c4] at H
   have c4b0 := eq_true c4
   have c4b1 : decide (((l0_1.length : Int) : Int).toNat ≤ 35184372088832) = true := decide_eq_true c4
   clear c4
   obtain ⟨y157, hy157⟩ : ∃ y_ : List Int, y_ = (List.replicate ((l0_1.length : Int) : Int).toNat 0) := ⟨_, rfl⟩
   replace H : (posserref03_Nth.l0 k a1 y157 (wrap64 ((l0_1.length : Int) - 1)) l0_0 l0_1 a0_2) = some r := by first | (rw [hy157]; with_reducible exact H) | (have H2_ := (Option.bind_some _ _).symm.trans H; rw [hy157]; with_reducible exact H2_) | (have H2_ := (Option.bind_some _ _).symm.trans H; with_reducible exact H2_) | with_reducible exact H | (rw [hy157]; exact H) | exact H
   have Ny157 := Aside0.mk hy157
   clear hy157
   have H' := Aside0.mk H
   clear H
   go_enter Try.func78, Try.ntmps78
   go_wp2_with (first | ((with_reducible refine gate_dst (N := 2) rfl ?_); refine sbox (N := 2) #[.slice A0_0 l0_0.length c0_0, .slice A0_1 l0_1.length c0_1, .int .i64 a0_2] 25 ?_; intro gb156 hg w5 hbox hb; have BK156 := Aside0.mk (hbox); have GW156 := Aside0.mk (sge hg HB : w.heap.size ≤ gb156); have GE156 := Aside0.mk (sge hg HB : w.heap.size ≤ gb156); replace HB := Aside0.mk (sbs HB hb); clear hb hbox hg; have hcz6_0 := sc 0 BK156; have hcz6_1 := sc 1 BK156; have hcz6_2 := sc 2 BK156; have hfz6_0 := blk_frozen BK156.out 0; have hfz6_1 := blk_frozen BK156.out 1; have hfz6_2 := blk_frozen BK156.out 2) | ((with_reducible refine gate_dst (N := 11) rfl ?_); refine Kd.R_make (Kd.int .i64) _ 3 rfl (N := 11) rfl 39 _ _ rfl (l0_1.length : Int) rfl rfl Try.underlying39 (.int .i64 0) 8 info3 rfl (by decide) (by omega) 0 (ok := fun _ => True) (okp := fun _ => True) rfl (fun _ hk => hk) trivial (of_decide_eq_true (by first | (with_reducible assumption) | assumption)) (Nat.le_trans (Nat.mul_le_mul_right _ (of_decide_eq_true (by first | (with_reducible assumption) | assumption) : (l0_1.length : Int).toNat ≤ 35184372088832)) (by omega)) (Below.refl _ _) (Nat.le_refl _) ?_; intro v158 w7 ho8 hb hg_ hnew_; clear hg_ hnew_; (first | rw [← Ny157.out] at ho8 | (simp only [Int.reduceToNat] at ho8; rw [← Ny157.out] at ho8)); have HO159 := Aside0.mk (Kd.R_lower ho8 (below_size (sbe1 HB GE156))); replace BK156 := Aside0.mk (sbb BK156 hb); replace HB := Aside0.mk (sbs1 HB GE156 hb); clear hb ho8; have hcz9_0 := sc 0 BK156; have hcz9_1 := sc 1 BK156; have hcz9_2 := sc 2 BK156; have hfz9_0 := blk_frozen BK156.out 0; have hfz9_1 := blk_frozen BK156.out 1; have hfz9_2 := blk_frozen BK156.out 2))
   go_loopg [1, 6] k (fun kq v1 v6 w' => ∃ (x1_1 : Int) (x5_1 : List Int) (x6_1 : Int), v1 = .int .i64 x1_1 ∧ v6 = .int .i64 x6_1 ∧ Aside0 (posserref03_Nth.l0 kq x1_1 x5_1 x6_1 l0_0 l0_1 a0_2 = some r) ∧ Aside0 (kq ≤ k) ∧ Aside0 (Kd.R (Kd.int .i64) 3 w' w.heap.size (fun _ => True) v158 x5_1) ∧ Aside0 (w'.heap[gb156]? = some (.cells #[(.slice A0_0 l0_0.length c0_0), (.slice A0_1 l0_1.length c0_1), .int .i64 a0_2] 25 (0, 0))) ∧ Aside0 (Below w.heap.size w w'))
   case atStart => exact ⟨(a1), (y157), (wrap64 ((l0_1.length : Int) - 1)), (by first | rfl | (simp; done) | (simp [*]; done)), (by first | rfl | (simp; done) | (simp [*]; done)), H', ⟨Nat.le_refl _⟩, ⟨by (with_reducible repeat (first | apply Kd.R_alloc | apply Kd.R_drewN | apply Kd.R_drew)); exact HO159.out⟩, ⟨by (with_reducible repeat (first | refine blk_drewN ?_ _ | refine blk_drew ?_ | refine blk_alloc ?_ _)); exact BK156.out⟩, ⟨(sbe1 HB GE156)⟩⟩
   case round =>
    clear H'
    try clear p2
    try clear c3
    try clear c3b0
    try clear c3b1
    try clear c4
    try clear c4b0
    try clear c4b1
    try clear p6
    try clear c7
    try clear hcz6_0
    try clear hcz6_1
    try clear hcz6_2
    try clear hcz9_0
    try clear hcz9_1
    try clear hcz9_2
    try clear hfz6_0
    try clear hfz6_1
    try clear hfz6_2
    try clear hfz9_0
    try clear hfz9_1
    try clear hfz9_2
    obtain ⟨x1_1, x5_1, x6_1, rfl, rfl, HA, HK1, HO_5, BK156, HB⟩ := hrel
    cases gk with
    | zero => exact absurd HA.out (by simp [posserref03_Nth.l0])
    | succ k1 =>
     have H := HA.out
     clear HA
     simp only [posserref03_Nth.l0] at H
     by_cases c10 : x6_1 ≥ 0
     ·rw [if_pos c10] at H
      have c10b0 : decide (0 ≤ x6_1) = true := decide_eq_true c10
      clear c10
      replace H := Option.bind_eq_some_iff.mp H
      obtain ⟨t160, A110, H⟩ := H
      replace H : (if (t160.length : Int) = 0 then (none) else (if 0 ≤ (Int.tmod x1_1 (t160.length : Int)) then (if (Int.tmod x1_1 (t160.length : Int)) < (t160.length : Int) then (if 0 ≤ x6_1 then (if x6_1 < (x5_1.length : Int) then (posserref03_Nth.l0 k1 (wrap64 (Int.tdiv x1_1 (t160.length : Int))) (x5_1.set (x6_1 : Int).toNat (rd t160 (Int.tmod x1_1 (t160.length : Int)))) (wrap64 (x6_1 - 1)) l0_0 l0_1 a0_2) else (none)) else (none)) else (none)) else (none))) = some r := H
      have A11 := Aside0.mk A110
      clear A110
      by_cases c12 : (t160.length : Int) = 0
      ·rw [if_pos c12] at H
       exact absurd H (by simp)
      ·rw [if_neg c12] at H
       have c12b0 : ((t160.length : Int) == 0) = false := beq_eq_false_iff_ne.mpr c12
       have c12b1 : ((t160.length : Int) != 0) = true := bne_iff_ne.mpr c12
       have c12b2 : ¬ (t160 = []) := fun h_ => c12 (by rw [h_]; rfl)
       obtain ⟨ji13, hji13⟩ : ∃ j_ : Int, (Int.tmod x1_1 (t160.length : Int)) = j_ := ⟨_, rfl⟩
       replace H : (if 0 ≤ (ji13) then (if (ji13) < (t160.length : Int) then (if 0 ≤ x6_1 then (if x6_1 < (x5_1.length : Int) then (posserref03_Nth.l0 k1 (wrap64 (Int.tdiv x1_1 (t160.length : Int))) (x5_1.set (x6_1 : Int).toNat (rd t160 (ji13))) (wrap64 (x6_1 - 1)) l0_0 l0_1 a0_2) else (none)) else (none)) else (none)) else (none)) = some r := by first | (rw [hji13] at H; exact H) | (simp only [hji13] at H ⊢; exact H)
       (try rw [hji13] at A11)
       by_cases c14 : 0 ≤ (ji13)
       ·rw [if_pos c14] at H
        have c14b0 : decide (0 ≤ (ji13)) = true := decide_eq_true c14
        clear c14
        by_cases c15 : (ji13) < (t160.length : Int)
        ·rw [if_pos c15] at H
         have c15b0 : decide ((ji13) < (t160.length : Int)) = true := decide_eq_true c15
         clear c15
         by_cases c16 : 0 ≤ x6_1
         ·rw [if_pos c16] at H
          have c16b0 : decide (0 ≤ x6_1) = true := decide_eq_true c16
          clear c16
          by_cases c17 : x6_1 < (x5_1.length : Int)
          ·rw [if_pos c17] at H
           have c17b0 : decide (x6_1 < (x5_1.length : Int)) = true := decide_eq_true c17
           clear c17
           obtain ⟨y164, hy164⟩ : ∃ y_ : List Int, y_ = (x5_1.set (x6_1 : Int).toNat (rd t160 (ji13))) := ⟨_, rfl⟩
           replace H : (posserref03_Nth.l0 k1 (wrap64 (Int.tdiv x1_1 (t160.length : Int))) y164 (wrap64 (x6_1 - 1)) l0_0 l0_1 a0_2) = some r := by first | (rw [hy164]; with_reducible exact H) | (have H2_ := (Option.bind_some _ _).symm.trans H; rw [hy164]; with_reducible exact H2_) | (have H2_ := (Option.bind_some _ _).symm.trans H; with_reducible exact H2_) | with_reducible exact H | (rw [hy164]; exact H) | exact H
           have Ny164 := Aside0.mk hy164
           clear hy164
           have H' := Aside0.mk H
           clear H
           have hcz19_0 := sc 0 BK156
           have hcz19_1 := sc 1 BK156
           have hcz19_2 := sc 2 BK156
           have hfz19_0 := blk_frozen BK156.out 0
           have hfz19_1 := blk_frozen BK156.out 1
           have hfz19_2 := blk_frozen BK156.out 2
           try go_wp2_with (first | ((with_reducible refine gate_callee (f := 94) rfl ?_); refine goesL_ (some 22) rfl rfl Try.func94 (by kernel_rfl) rfl #[.agg #[.slice A0_0 l0_0.length c0_0, .slice A0_1 l0_1.length c0_1, .int .i64 a0_2], .int .i64 x6_1] rfl (by (try simp only [List.map_toArray, List.map_cons, List.map_nil]); first | done | rfl | (simp only [List.length_drop, List.length_take]; rfl)) ?_; (with_reducible refine (posserref03_WomenOf.calls k1 _ _ l0_0 _ _ l0_1 a0_2 x6_1 t160 _ ?side1 ?side2 ?side3 ?side4 A11.out).mono ?_); (case side1 => exact sCb HR0_0 HB); (case side2 => exact HC0_0.out); (case side3 => exact sCb HR0_1 HB); (case side4 => exact HC0_1.out); rintro e w20 ⟨v161, rfl, ho0, hb⟩; refine ⟨_, rfl, ?_⟩; have HO162 := Aside0.mk (Kd.R_lower (Kd.R_new' ho0 (Kd.R_lt (sR HO_5))) (below_size (sbe1 HB GE156))); replace HO_5 := Aside0.mk (Kd.R_elder' (sR HO_5) (Kd.R_base ho0) hb); replace BK156 := Aside0.mk (sbb BK156 hb); replace HB := Aside0.mk (sbs1 HB GE156 hb); (try clear hb); (try clear hb2); (try clear hk); (try clear hi); (try clear ho0)))
           replace HO_5 := Aside0.mk (Kd.R_drew HO_5.out)
           replace HO162 := Aside0.mk (Kd.R_drew HO162.out)
           replace BK156 := Aside0.mk (blk_drew BK156.out)
           replace HB := Aside0.mk (below_drew1 HB.out)
           obtain ⟨Ao22, co22, eo22⟩ := Kd.R_slice HO162.out
           (first | subst eo22 | (injection eo22 with f1_ f2_ f3_; have f4_ := f1_.symm; have f5_ := f3_.symm; clear f1_ f2_ f3_; subst f4_; subst f5_))
           have p163 : 0 ≤ ((ji13) : Int) := of_decide_eq_true (by first | (with_reducible assumption) | assumption)
           have q163 : (ji13) < (t160.length : Int) := of_decide_eq_true (by first | (with_reducible assumption) | assumption)
           obtain ⟨ad163, e163, hx163_0⟩ := Kd.at_int (Kd.R_reads' HO162.out).2.2 (ji13) p163 q163
           cases e163
           replace p163 := eq_true p163
           replace q163 := eq_true q163
           have p18 : 0 ≤ (x6_1 : Int) := of_decide_eq_true (by first | (with_reducible assumption) | assumption)
           have q18 : (x6_1 : Int) < ((x5_1.length : Int) : Int) := of_decide_eq_true (by first | (with_reducible assumption) | assumption)
           obtain ⟨go18, co18, eo18, gb18, gl18, cl18, HG18⟩ := Kd.R_form HO_5.out (by omega)
           (first | cases eo18 | (injection eo18 with ea_ en_ ec_; (first | subst ea_ | (injection ea_ with ea_; subst ea_)); subst ec_; clear en_))
           have GB18 := Aside0.mk gb18
           have GG18 := Aside0.mk HG18
           clear gb18 gl18 HG18
           obtain ⟨hx18_0, hf18_0⟩ := Kd.R_celln 0 HO_5.out (x6_1 : Int) p18 q18
           replace p18 := eq_true p18
           replace q18 := eq_true q18
           have HP23 := Kd.R_putn HO_5.out (x6_1 : Int) (rd t160 (ji13))
           rw [← Ny164.out] at HP23
           have HQ23 := Aside0.mk HP23
           clear HP23
           refine start_ (n := 16) (S := fun w' => w'.cell? (ad163.add ((ji13)).toNat) = some (.int .i64 (rd t160 (ji13)))) (ds := [14]) (lm 16 0) (by kernel_rfl) rfl (by kernel_rfl) (hx163_0) (fun hHeld => ?_); refine with_tabW posserref03_Nth.tab6 posserref03_Nth.bits6 (fun HT_ HW_ => ?_)
           generalize w20.drew = w21 at HO_5 HO162 BK156 HB GG18 HQ23 hf18_0 hx163_0 hx18_0 hHeld ⊢
           refine sP (i := 0) (N := some 23) (lm 16 1) ?_ (hc := any_of HT_.out (by kernel_rfl))
           refine sP (i := 1) (N := some 24) (lm 16 3) ?_ (hc := any_of HT_.out (by kernel_rfl))
           refine sP (i := 2) (N := some 25) (lm 16 7) ?_ (hc := any_of HT_.out (by kernel_rfl))
           refine sP (i := 3) (N := some 26) (lm 16 15) ?_ (hc := any_of HT_.out (by kernel_rfl))
           refine sP (i := 4) (N := some 27) (lm 16 31) ?_ (hc := any_of HT_.out (by kernel_rfl))
           refine sP (i := 5) (N := some 28) (lm 16 63) ?_ (hc := any_of HT_.out (by kernel_rfl))
           refine sP (i := 6) (N := some 29) (lm 16 127) ?_ (hc := any_of HT_.out (by kernel_rfl))
           refine sP (i := 7) (N := some 30) (lm 16 255) ?_ (hc := any_of HT_.out (by kernel_rfl))
           refine sP (i := 9) (N := some 32) (lm 16 767) ?_ (hc := any_of HT_.out (by kernel_rfl))
           refine sP (i := 10) (N := some 33) (lm 16 1791) ?_ (hc := any_of HT_.out (by kernel_rfl))
           refine sP (i := 11) (N := some 34) (lm 16 3839) ?_ (hc := any_of HT_.out (by kernel_rfl))
           refine sP (i := 12) (N := some 35) (lm 16 7935) ?_ (hc := any_of HT_.out (by kernel_rfl))
           refine take_ (i := 8) (N := some 31) (v := ?_) (a' := ?_) (lm 16 8191) rfl rfl (take_ofW HT_.out HW_.out (by kernel_rfl)) (fun _ _ _ h => h) (Or.inl ⟨by rfl, ?_⟩) hHeld ?_ ?_
           rotate_left
           ·intro w' s0
            go_simp
            with_reducible rfl
           rotate_left
           ·simp only [Act.put, List.setIfInBounds_toArray, List.set_cons_zero, List.set_cons_succ, i64_w, i32_w]
            rfl
           refine sP (i := 13) (N := some 36) (lm 16 16383) ?_ (hc := any_of HT_.out (by kernel_rfl))
           refine last_ (i := 14) (N := none) (lm 16 32767) rfl rfl (one_of HT_.out (by kernel_rfl)) (by decide) (fun K hK => ?_)
           refine skip_ (w1 := ?_) (by rfl) rfl ?_ ?_
           rotate_left
           ·go_simp
            rfl
           refine hK.out _ _ ?_
           clear hK K
           refine sP (i := 15) (N := some 1) (lm 16 65535) ?_ (hc := any_of HT_.out (by kernel_rfl))
           refine done_ (done_of HT_.out (by kernel_rfl)) ?_
           try go_wp2
           go_roundg k1
           case measure => have := HK1.out; omega
           case rel => exact ⟨(wrap64 (Int.tdiv x1_1 (t160.length : Int))), (y164), (wrap64 (x6_1 - 1)), (by first | rfl | (simp; done) | (simp [*]; done)), (by first | rfl | (simp; done) | (simp [*]; done)), H', ⟨by have := HK1.out; omega⟩, ⟨by (with_reducible repeat (first | apply Kd.R_alloc | apply Kd.R_drewN | apply Kd.R_drew)); exact Kd.R_mono HQ23.out (fun _ hk => trivial)⟩, ⟨by (with_reducible repeat (first | refine blk_drewN ?_ _ | refine blk_drew ?_ | refine blk_alloc ?_ _)); refine blk_far ?_ (by have h_ := Kd.R_ne HO_5.out BK156.out (by decide); intro e_; exact h_ (by rw [e_]; rfl)) _; (with_reducible repeat (first | refine blk_drewN ?_ _ | refine blk_drew ?_ | refine blk_alloc ?_ _)); exact BK156.out⟩, ⟨(sbe2 HB GB18 GE156)⟩⟩
          ·rw [if_neg c17] at H
           exact absurd H (by simp)
         ·rw [if_neg c16] at H
          exact absurd H (by simp)
        ·rw [if_neg c15] at H
         exact absurd H (by simp)
       ·rw [if_neg c14] at H
        exact absurd H (by simp)
     ·rw [if_neg c10] at H
      have c10b0 : decide (0 ≤ x6_1) = false := decide_eq_false c10
      clear c10
      obtain rfl := Option.some.inj H
      go_wp2
      go_ret
      exact ⟨_, by first | rfl | (simp [errW_none, errW_some] <;> rfl) | (simp [*, errW_none, errW_some] <;> rfl), by (with_reducible repeat (first | apply Kd.R_alloc | apply Kd.R_drewN | apply Kd.R_drew)); exact HO_5.out, (sbe1 HB GE156)⟩
  ·rw [if_neg c4] at H
   exact absurd H (by simp)
 ·rw [if_neg c3] at H
  exact absurd H (by simp)
end Go.Proofs.Ytnbbbeghgomnoaa.X
namespace Go.Proofs.Ytnbbbeghgomnoaa.X
open Go.RowKit Go.Proofs.YtnbbbeghgomnoaaW.PrintWords Go.Proofs.YtnbbbeghgomnoaaW.PrintLast Go.Proofs.YtnbbbeghgomnoaaW.PrintMore
attribute [local go_sem] max2_int min2_int max_two min_two max_three min_three max_four min_four
set_option linter.unusedVariables false
set_option linter.unusedSimpArgs false
def posserref03_Many.l0 : Nat → Int → Int → List (S85) → List (S71) → Int → Option (Int)
 | 0, _, _, _, _, _ => none
 | k + 1, x3, x4, x112000, x112001, x112002 => if x4 < (x112001.length : Int) then ((posserref03_WomenOf.f k x112000 x112001 x112002 x4).bind fun t112 => (posserref03_Many.l0 k (mn 3000 (wrap64 (x3 * (t112.length : Int)))) (wrap64 (x4 + 1)) x112000 x112001 x112002)) else (some x3)
def posserref03_Many.f (k : Nat) (l0_0 : List (S85)) (l0_1 : List (S71)) (a0_2 : Int) : Option (Int) := posserref03_Many.l0 k 1 0 l0_0 l0_1 a0_2
set_option maxHeartbeats 8000000 in
set_option maxRecDepth 100000 in
theorem posserref03_Many.calls (k : Nat) (A0_0 : Option Addr) (c0_0 : Nat) (l0_0 : List (S85)) (A0_1 : Option Addr) (c0_1 : Nat) (l0_1 : List (S71)) (a0_2 : Int) (r : Int) (w : World) (hr0_0 : Kd.C k85 w A0_0 l0_0.length l0_0) (hc0_0 : l0_0.length ≤ c0_0) (hr0_1 : Kd.C k71 w A0_1 l0_1.length l0_1) (hc0_1 : l0_1.length ≤ c0_1) (h : posserref03_Many.f k l0_0 l0_1 a0_2 = some r) :
  Calls Try.prog 76 #[.agg #[.slice A0_0 l0_0.length c0_0, .slice A0_1 l0_1.length c0_1, .int .i64 a0_2]] w fun e w' => e = .returned (.int .i64 r) ∧ Below w.heap.size w w' := by
 have hu25 := Try.underlying25
 have HR0_0 := Aside0.mk hr0_0
 have HC0_0 := Aside0.mk hc0_0
 clear hr0_0 hc0_0
 have HR0_1 := Aside0.mk hr0_1
 have HC0_1 := Aside0.mk hc0_1
 clear hr0_1 hc0_1
 have HB := Aside0.mk (Below.refl w.heap.size w)
 have H : (posserref03_Many.l0 k 1 0 l0_0 l0_1 a0_2) = some r := h
 clear h
 have H' := Aside0.mk H
 clear H
 go_enter Try.func76, Try.ntmps76
 go_wp2_with (first | ((with_reducible refine gate_dst (N := 1) rfl ?_); refine sbox (N := 1) #[.slice A0_0 l0_0.length c0_0, .slice A0_1 l0_1.length c0_1, .int .i64 a0_2] 25 ?_; intro gb111 hg w2 hbox hb; have BK111 := Aside0.mk (hbox); have GW111 := Aside0.mk (sge hg HB : w.heap.size ≤ gb111); have GE111 := Aside0.mk (sge hg HB : w.heap.size ≤ gb111); replace HB := Aside0.mk (sbs HB hb); clear hb hbox hg))
 go_loopg [3, 4] k (fun kq v3 v4 w' => ∃ (x3_1 : Int) (x4_1 : Int), v3 = .int .i64 x3_1 ∧ v4 = .int .i64 x4_1 ∧ Aside0 (posserref03_Many.l0 kq x3_1 x4_1 l0_0 l0_1 a0_2 = some r) ∧ Aside0 (kq ≤ k) ∧ Aside0 (w'.heap[gb111]? = some (.cells #[(.slice A0_0 l0_0.length c0_0), (.slice A0_1 l0_1.length c0_1), .int .i64 a0_2] 25 (0, 0))) ∧ Aside0 (Below w.heap.size w w'))
 case atStart => exact ⟨(1), (0), (by first | rfl | (simp; done) | (simp [*]; done)), (by first | rfl | (simp; done) | (simp [*]; done)), H', ⟨Nat.le_refl _⟩, ⟨by (with_reducible repeat (first | refine blk_drewN ?_ _ | refine blk_drew ?_ | refine blk_alloc ?_ _)); exact BK111.out⟩, ⟨(sbe1 HB GE111)⟩⟩
 case round =>
  clear H'
  try clear p2
  obtain ⟨x3_1, x4_1, rfl, rfl, HA, HK1, BK111, HB⟩ := hrel
  cases gk with
  | zero => exact absurd HA.out (by simp [posserref03_Many.l0])
  | succ k1 =>
   have H := HA.out
   clear HA
   simp only [posserref03_Many.l0] at H
   by_cases c3 : x4_1 < (l0_1.length : Int)
   ·rw [if_pos c3] at H
    have c3b0 : decide (x4_1 < (l0_1.length : Int)) = true := decide_eq_true c3
    clear c3
    replace H := Option.bind_eq_some_iff.mp H
    obtain ⟨t112, A40, H⟩ := H
    replace H : (posserref03_Many.l0 k1 (mn 3000 (wrap64 (x3_1 * (t112.length : Int)))) (wrap64 (x4_1 + 1)) l0_0 l0_1 a0_2) = some r := H
    have A4 := Aside0.mk A40
    clear A40
    obtain ⟨ji5, hji5⟩ : ∃ j_ : Int, (mn 3000 (wrap64 (x3_1 * (t112.length : Int)))) = j_ := ⟨_, rfl⟩
    replace H : (posserref03_Many.l0 k1 ji5 (wrap64 (x4_1 + 1)) l0_0 l0_1 a0_2) = some r := by first | (rw [hji5] at H; exact H) | (simp only [hji5] at H ⊢; exact H)
    (try rw [hji5] at A4)
    have hji5_ : (if (wrap64 (x3_1 * (t112.length : Int))) < 3000 then (wrap64 (x3_1 * (t112.length : Int))) else 3000) = ji5 := hji5
    have H' := Aside0.mk H
    clear H
    have hcz6_0 := sc 0 BK111
    have hcz6_1 := sc 1 BK111
    have hcz6_2 := sc 2 BK111
    have hfz6_0 := blk_frozen BK111.out 0
    have hfz6_1 := blk_frozen BK111.out 1
    have hfz6_2 := blk_frozen BK111.out 2
    go_wp2_with (first | ((with_reducible refine gate_callee (f := 94) rfl ?_); refine goesL_ (some 15) rfl rfl Try.func94 (by kernel_rfl) rfl #[.agg #[.slice A0_0 l0_0.length c0_0, .slice A0_1 l0_1.length c0_1, .int .i64 a0_2], .int .i64 x4_1] rfl (by (try simp only [List.map_toArray, List.map_cons, List.map_nil]); first | done | rfl | (simp only [List.length_drop, List.length_take]; rfl)) ?_; (with_reducible refine (posserref03_WomenOf.calls k1 _ _ l0_0 _ _ l0_1 a0_2 x4_1 t112 _ ?side1 ?side2 ?side3 ?side4 A4.out).mono ?_); (case side1 => exact sCb HR0_0 HB); (case side2 => exact HC0_0.out); (case side3 => exact sCb HR0_1 HB); (case side4 => exact HC0_1.out); rintro e w7 ⟨v113, rfl, ho0, hb⟩; refine ⟨_, rfl, ?_⟩; have HO114 := Aside0.mk (Kd.R_lower ho0 (below_size (sbe1 HB GE111))); replace BK111 := Aside0.mk (sbb BK111 hb); replace HB := Aside0.mk (sbs1 HB GE111 hb); (try clear hb); (try clear hb2); (try clear hk); (try clear hi); (try clear ho0); obtain ⟨Ao8, co8, eo8⟩ := Kd.R_slice HO114.out; subst eo8))
    go_roundg k1
    case measure => have := HK1.out; omega
    case rel => exact ⟨(ji5), (wrap64 (x4_1 + 1)), (by first | rfl | (simp; done) | (simp only [← hji5] <;> (first | rfl | simp)) | (simp [*]; done)), (by first | rfl | (simp; done) | (simp [*]; done)), H', ⟨by have := HK1.out; omega⟩, ⟨by (with_reducible repeat (first | refine blk_drewN ?_ _ | refine blk_drew ?_ | refine blk_alloc ?_ _)); exact BK111.out⟩, ⟨(sbe1 HB GE111)⟩⟩
   ·rw [if_neg c3] at H
    have c3b0 : decide (x4_1 < (l0_1.length : Int)) = false := decide_eq_false c3
    clear c3
    obtain rfl := Option.some.inj H
    have hcz9_0 := sc 0 BK111
    have hcz9_1 := sc 1 BK111
    have hcz9_2 := sc 2 BK111
    have hfz9_0 := blk_frozen BK111.out 0
    have hfz9_1 := blk_frozen BK111.out 1
    have hfz9_2 := blk_frozen BK111.out 2
    go_wp2
    go_ret
    exact ⟨by first | rfl | (simp [errW_none, errW_some] <;> rfl) | (simp [*, errW_none, errW_some] <;> rfl), (sbe1 HB GE111)⟩
end Go.Proofs.Ytnbbbeghgomnoaa.X
namespace Go.Proofs.Ytnbbbeghgomnoaa.X
open Go.RowKit Go.Proofs.YtnbbbeghgomnoaaW.PrintWords Go.Proofs.YtnbbbeghgomnoaaW.PrintLast Go.Proofs.YtnbbbeghgomnoaaW.PrintMore
attribute [local go_sem] max2_int min2_int max_two min_two max_three min_three max_four min_four
set_option linter.unusedVariables false
set_option linter.unusedSimpArgs false
def posserref03_Truths.l0 : Nat → List (List Int) → Int → List (S85) → List (S71) → Int → Option ((List (List Int)))
 | 0, _, _, _, _, _ => none
 | k + 1, x3, x4, x166000, x166001, x166002 => (posserref03_Many.f k x166000 x166001 x166002).bind fun t166 => (if x4 < t166 then ((posserref03_Nth.f k x166000 x166001 x166002 x4).bind fun t167 => ((posserref03_IsTruth.f k x166000 x166001 x166002 t167).bind fun t170 => (if t170 = true then (if x3.length < 5864062014805 then (posserref03_Truths.l0 k (x3 ++ [t167]) (wrap64 (x4 + 1)) x166000 x166001 x166002) else (none)) else (posserref03_Truths.l0 k x3 (wrap64 (x4 + 1)) x166000 x166001 x166002)))) else (some x3))
def posserref03_Truths.f (k : Nat) (l0_0 : List (S85)) (l0_1 : List (S71)) (a0_2 : Int) : Option ((List (List Int))) := posserref03_Truths.l0 k ([] : List (List Int)) 0 l0_0 l0_1 a0_2
set_option maxHeartbeats 8000000 in
set_option maxRecDepth 100000 in
theorem posserref03_Truths.calls (k : Nat) (A0_0 : Option Addr) (c0_0 : Nat) (l0_0 : List (S85)) (A0_1 : Option Addr) (c0_1 : Nat) (l0_1 : List (S71)) (a0_2 : Int) (r : List (List Int)) (w : World) (hr0_0 : Kd.C k85 w A0_0 l0_0.length l0_0) (hc0_0 : l0_0.length ≤ c0_0) (hr0_1 : Kd.C k71 w A0_1 l0_1.length l0_1) (hc0_1 : l0_1.length ≤ c0_1) (h : posserref03_Truths.f k l0_0 l0_1 a0_2 = some r) :
  Calls Try.prog 69 #[.agg #[.slice A0_0 l0_0.length c0_0, .slice A0_1 l0_1.length c0_1, .int .i64 a0_2]] w fun e w' => ∃ v0_ : Value, e = .returned (v0_) ∧ Kd.S (Kd.slice 3 (Kd.int .i64)) 39 w' w.heap.size (fun _ => True) v0_ r ∧ Below w.heap.size w w' := by
 have hu25 := Try.underlying25
 have HR0_0 := Aside0.mk hr0_0
 have HC0_0 := Aside0.mk hc0_0
 clear hr0_0 hc0_0
 have HR0_1 := Aside0.mk hr0_1
 have HC0_1 := Aside0.mk hc0_1
 clear hr0_1 hc0_1
 have HB := Aside0.mk (Below.refl w.heap.size w)
 have H : (posserref03_Truths.l0 k ([] : List (List Int)) 0 l0_0 l0_1 a0_2) = some r := h
 clear h
 have H' := Aside0.mk H
 clear H
 go_enter Try.func69, Try.ntmps69
 go_wp2_with (first | ((with_reducible refine gate_dst (N := 1) rfl ?_); refine sbox (N := 1) #[.slice A0_0 l0_0.length c0_0, .slice A0_1 l0_1.length c0_1, .int .i64 a0_2] 25 ?_; intro gb165 hg w2 hbox hb; have BK165 := Aside0.mk (hbox); have GW165 := Aside0.mk (sge hg HB : w.heap.size ≤ gb165); have GE165 := Aside0.mk (sge hg HB : w.heap.size ≤ gb165); replace HB := Aside0.mk (sbs HB hb); clear hb hbox hg))
 go_loopg [3, 4] k (fun kq v3 v4 w' => ∃ (x3_1 : List (List Int)) (x4_1 : Int), v4 = .int .i64 x4_1 ∧ Aside0 (posserref03_Truths.l0 kq x3_1 x4_1 l0_0 l0_1 a0_2 = some r) ∧ Aside0 (kq ≤ k) ∧ Aside0 (Kd.S (Kd.slice 3 (Kd.int .i64)) 39 w' w.heap.size (fun _ => True) v3 x3_1) ∧ Aside0 (w'.heap[gb165]? = some (.cells #[(.slice A0_0 l0_0.length c0_0), (.slice A0_1 l0_1.length c0_1), .int .i64 a0_2] 25 (0, 0))) ∧ Aside0 (Below w.heap.size w w'))
 case atStart => exact ⟨(([] : List (List Int))), (0), (by first | rfl | (simp; done) | (simp [*]; done)), H', ⟨Nat.le_refl _⟩, ⟨by first | exact Kd.S_nil _ _ _ _ _ | exact Kd.N_nil _ _ _ _ _ | exact Kd.V_nil _ _ _ _ _ | exact Kd.Q_nil _ _ _ _ _ | exact Kd.R_nil _ _ _ _ _⟩, ⟨by (with_reducible repeat (first | refine blk_drewN ?_ _ | refine blk_drew ?_ | refine blk_alloc ?_ _)); exact BK165.out⟩, ⟨(sbe1 HB GE165)⟩⟩
 case round =>
  clear H'
  try clear p2
  obtain ⟨x3_1, x4_1, rfl, HA, HK1, HO_3, BK165, HB⟩ := hrel
  cases gk with
  | zero => exact absurd HA.out (by simp [posserref03_Truths.l0])
  | succ k1 =>
   have H := HA.out
   clear HA
   simp only [posserref03_Truths.l0] at H
   replace H := Option.bind_eq_some_iff.mp H
   obtain ⟨t166, A30, H⟩ := H
   replace H : (if x4_1 < t166 then ((posserref03_Nth.f k1 l0_0 l0_1 a0_2 x4_1).bind fun t167 => ((posserref03_IsTruth.f k1 l0_0 l0_1 a0_2 t167).bind fun t170 => (if t170 = true then (if x3_1.length < 5864062014805 then (posserref03_Truths.l0 k1 (x3_1 ++ [t167]) (wrap64 (x4_1 + 1)) l0_0 l0_1 a0_2) else (none)) else (posserref03_Truths.l0 k1 x3_1 (wrap64 (x4_1 + 1)) l0_0 l0_1 a0_2)))) else (some x3_1)) = some r := H
   have A3 := Aside0.mk A30
   clear A30
   by_cases c4 : x4_1 < t166
   ·rw [if_pos c4] at H
    have c4b0 : decide (x4_1 < t166) = true := decide_eq_true c4
    clear c4
    replace H := Option.bind_eq_some_iff.mp H
    obtain ⟨t167, A50, H⟩ := H
    replace H : ((posserref03_IsTruth.f k1 l0_0 l0_1 a0_2 t167).bind fun t170 => (if t170 = true then (if x3_1.length < 5864062014805 then (posserref03_Truths.l0 k1 (x3_1 ++ [t167]) (wrap64 (x4_1 + 1)) l0_0 l0_1 a0_2) else (none)) else (posserref03_Truths.l0 k1 x3_1 (wrap64 (x4_1 + 1)) l0_0 l0_1 a0_2))) = some r := H
    have A5 := Aside0.mk A50
    clear A50
    replace H := Option.bind_eq_some_iff.mp H
    obtain ⟨t170, A60, H⟩ := H
    replace H : (if t170 = true then (if x3_1.length < 5864062014805 then (posserref03_Truths.l0 k1 (x3_1 ++ [t167]) (wrap64 (x4_1 + 1)) l0_0 l0_1 a0_2) else (none)) else (posserref03_Truths.l0 k1 x3_1 (wrap64 (x4_1 + 1)) l0_0 l0_1 a0_2)) = some r := H
    have A6 := Aside0.mk A60
    clear A60
    by_cases c7 : t170 = true
    ·subst c7
     have H1 : (if x3_1.length < 5864062014805 then (posserref03_Truths.l0 k1 (x3_1 ++ [t167]) (wrap64 (x4_1 + 1)) l0_0 l0_1 a0_2) else (none)) = some r := by rw [if_pos rfl] at H; exact H
     clear H
     have H := H1
     clear H1
     by_cases c8 : x3_1.length < 5864062014805
     ·rw [if_pos c8] at H
      have LMc8 := Aside0.mk c8
      clear c8
      obtain ⟨y171, hy171⟩ : ∃ y_ : List (List Int), y_ = (x3_1 ++ [t167]) := ⟨_, rfl⟩
      replace H : (posserref03_Truths.l0 k1 y171 (wrap64 (x4_1 + 1)) l0_0 l0_1 a0_2) = some r := by first | (rw [hy171]; with_reducible exact H) | (have H2_ := (Option.bind_some _ _).symm.trans H; rw [hy171]; with_reducible exact H2_) | (have H2_ := (Option.bind_some _ _).symm.trans H; with_reducible exact H2_) | with_reducible exact H | (rw [hy171]; exact H) | exact H
      have Ny171 := Aside0.mk hy171
      clear hy171
      have H' := Aside0.mk H
      clear H
      have hcz9_0 := sc 0 BK165
      have hcz9_1 := sc 1 BK165
      have hcz9_2 := sc 2 BK165
      have hfz9_0 := blk_frozen BK165.out 0
      have hfz9_1 := blk_frozen BK165.out 1
      have hfz9_2 := blk_frozen BK165.out 2
      go_wp2_with (first | ((with_reducible refine gate_callee (f := 76) rfl ?_); refine goesL_ (some 8) rfl rfl Try.func76 (by kernel_rfl) rfl #[.agg #[.slice A0_0 l0_0.length c0_0, .slice A0_1 l0_1.length c0_1, .int .i64 a0_2]] rfl (by (try simp only [List.map_toArray, List.map_cons, List.map_nil]); first | done | rfl | (simp only [List.length_drop, List.length_take]; rfl)) ?_; (with_reducible refine (posserref03_Many.calls k1 _ _ l0_0 _ _ l0_1 a0_2 t166 _ ?side1 ?side2 ?side3 ?side4 A3.out).mono ?_); (case side1 => exact sCb HR0_0 HB); (case side2 => exact HC0_0.out); (case side3 => exact sCb HR0_1 HB); (case side4 => exact HC0_1.out); rintro e w10 ⟨rfl, hb⟩; refine ⟨_, rfl, ?_⟩; replace HO_3 := Aside0.mk (Kd.S_below (by (with_reducible repeat (first | apply Kd.S_alloc | apply Kd.S_drewN | apply Kd.S_drew)); exact HO_3.out) hb); replace BK165 := Aside0.mk (sbb BK165 hb); replace HB := Aside0.mk (sbs1 HB GE165 hb); (try clear hb); (try clear hb2); (try clear hk); (try clear hi); have hcz11_0 := sc 0 BK165; have hcz11_1 := sc 1 BK165; have hcz11_2 := sc 2 BK165; have hfz11_0 := blk_frozen BK165.out 0; have hfz11_1 := blk_frozen BK165.out 1; have hfz11_2 := blk_frozen BK165.out 2) | ((with_reducible refine gate_callee (f := 78) rfl ?_); refine goesL_ (some 14) rfl rfl Try.func78 (by kernel_rfl) rfl #[.agg #[.slice A0_0 l0_0.length c0_0, .slice A0_1 l0_1.length c0_1, .int .i64 a0_2], .int .i64 x4_1] rfl (by (try simp only [List.map_toArray, List.map_cons, List.map_nil]); first | done | rfl | (simp only [List.length_drop, List.length_take]; rfl)) ?_; (with_reducible refine (posserref03_Nth.calls k1 _ _ l0_0 _ _ l0_1 a0_2 x4_1 t167 _ ?side1 ?side2 ?side3 ?side4 A5.out).mono ?_); (case side1 => exact sCb HR0_0 HB); (case side2 => exact HC0_0.out); (case side3 => exact sCb HR0_1 HB); (case side4 => exact HC0_1.out); rintro e w12 ⟨v168, rfl, ho0, hb⟩; refine ⟨_, rfl, ?_⟩; have HO169 := Aside0.mk (Kd.R_lower ho0 (below_size (sbe1 HB GE165))); replace HO_3 := Aside0.mk (Kd.S_elder' (by (with_reducible repeat (first | apply Kd.S_alloc | apply Kd.S_drewN | apply Kd.S_drew)); exact HO_3.out) (Kd.R_base ho0) hb); replace BK165 := Aside0.mk (sbb BK165 hb); replace HB := Aside0.mk (sbs1 HB GE165 hb); (try clear hb); (try clear hb2); (try clear hk); (try clear hi); (try clear ho0); have hcz13_0 := sc 0 BK165; have hcz13_1 := sc 1 BK165; have hcz13_2 := sc 2 BK165; have hfz13_0 := blk_frozen BK165.out 0; have hfz13_1 := blk_frozen BK165.out 1; have hfz13_2 := blk_frozen BK165.out 2; obtain ⟨Ao14, co14, eo14⟩ := Kd.R_slice HO169.out; subst eo14) | ((with_reducible refine gate_callee (f := 42) rfl ?_); refine goesL_ (some 17) rfl rfl Try.func42 (by kernel_rfl) rfl #[.agg #[.slice A0_0 l0_0.length c0_0, .slice A0_1 l0_1.length c0_1, .int .i64 a0_2], .slice Ao14 t167.length co14] rfl (by (try simp only [List.map_toArray, List.map_cons, List.map_nil]); first | done | rfl | (simp only [List.length_drop, List.length_take]; rfl)) ?_; (with_reducible refine (posserref03_IsTruth.calls k1 _ _ l0_0 _ _ l0_1 a0_2 _ _ t167 true _ ?side1 ?side2 ?side3 ?side4 ?side5 ?side6 A6.out).mono ?_); (case side1 => exact sCb HR0_0 HB); (case side2 => exact HC0_0.out); (case side3 => exact sCb HR0_1 HB); (case side4 => exact HC0_1.out); (case side5 => repeat (first | exact (Kd.R_reads' HO169.out).2.2 | (with_reducible refine Kd.C_alloc ?_ _) | (with_reducible refine Kd.C_drewN ?_ _) | (with_reducible refine Kd.C_drew ?_))); (case side6 => exact (Kd.R_reads' HO169.out).2.1); rintro e w15 ⟨rfl, hb⟩; refine ⟨_, rfl, ?_⟩; replace HO_3 := Aside0.mk (Kd.S_below (by (with_reducible repeat (first | apply Kd.S_alloc | apply Kd.S_drewN | apply Kd.S_drew)); exact HO_3.out) hb); replace HO169 := Aside0.mk (Kd.R_below (sR HO169) hb); replace BK165 := Aside0.mk (sbb BK165 hb); replace HB := Aside0.mk (sbs1 HB GE165 hb); (try clear hb); (try clear hb2); (try clear hk); (try clear hi)) | ((with_reducible refine gate_builtin (b := .append) (xs := #[.tmp 18, .tmp 20]) rfl ?_); at_builtin; refine Kd.S_append (Kd.slice 3 (Kd.int .i64)) (w0 := w) w.heap.size rfl (.tmp 18) (.tmp 20) 28 39 (.slice none 0 0) 24 rfl Try.underlying28 info39 rfl (by decide) (by omega) u3 x3_1 t167 [.slice Ao14 t167.length co14] (fun _ => True) (fun k_ => some k_ = (.slice Ao14 t167.length co14 : Value).ownBlock) rfl rfl ?aP (fun k_ hk_ => ((Kd.R_mono (ok' := fun k_ => ((fun _ => True)) k_ ∧ some k_ ≠ (u3 : Value).ownBlock) (Kd.R_apart' (HO169.out) (Kd.S_typed HO_3.out) (by decide)) (fun k_ hk => ⟨trivial, hk.2⟩))).1 k_ hk_.symm) ?aF ?aO ?aB ?aS ?aL ?_; (case aP => exact Kd.M_row (Kd.R_mono (Kd.R_tight rfl (Kd.R_mono (ok' := fun k_ => ((fun _ => True)) k_ ∧ some k_ ≠ (u3 : Value).ownBlock) (Kd.R_apart' (HO169.out) (Kd.S_typed HO_3.out) (by decide)) (fun k_ hk => ⟨trivial, hk.2⟩))) (fun _ h_ => h_))); (case aB => exact (sbe1 HB GE165)); (case aF => exact (fun _ _ => trivial)); (case aO => exact (by (with_reducible repeat (first | apply Kd.S_alloc | apply Kd.S_drewN | apply Kd.S_drew)); exact Kd.S_mono HO_3.out (fun k_ hk => ⟨trivial, fun e_ => hk.2 e_⟩))); (case aS => exact (below_size (sbe1 HB GE165))); (case aL => have := LMc8.out; omega); intro v172 w16 ho hb hg hat; rw [← Ny171.out] at ho; have n0_ := Aside0.mk (blk_grown (g := gb165) (o := .cells #[.slice A0_0 l0_0.length c0_0, .slice A0_1 l0_1.length c0_1, .int .i64 a0_2] 25 (0, 0)) (sbk BK165) hg (Kd.S_ne HO_3.out BK165.out (by decide))); have n1_ := Aside0.mk (hb); have n2_ := Aside0.mk (ho); clear BK165; clear HB; clear HO_3; clear HO169; have BK165 := n0_; have HB := n1_; have HO173 := n2_; clear n0_ n1_ n2_; clear ho hb hg hat))
      go_roundg k1
      case measure => have := HK1.out; omega
      case rel => exact ⟨(y171), (wrap64 (x4_1 + 1)), (by first | rfl | (simp; done) | (simp [*]; done)), H', ⟨by have := HK1.out; omega⟩, ⟨by (with_reducible repeat (first | apply Kd.S_alloc | apply Kd.S_drewN | apply Kd.S_drew)); exact HO173.out⟩, ⟨by (with_reducible repeat (first | refine blk_drewN ?_ _ | refine blk_drew ?_ | refine blk_alloc ?_ _)); exact BK165.out⟩, ⟨(sbe1 HB GE165)⟩⟩
     ·rw [if_neg c8] at H
      exact absurd H (by simp)
    ·replace c7 := Bool.eq_false_iff.mpr c7
     subst c7
     have H1 : (posserref03_Truths.l0 k1 x3_1 (wrap64 (x4_1 + 1)) l0_0 l0_1 a0_2) = some r := by rw [if_neg (show ¬ (false = true) by decide)] at H; exact H
     clear H
     have H := H1
     clear H1
     have H' := Aside0.mk H
     clear H
     have hcz17_0 := sc 0 BK165
     have hcz17_1 := sc 1 BK165
     have hcz17_2 := sc 2 BK165
     have hfz17_0 := blk_frozen BK165.out 0
     have hfz17_1 := blk_frozen BK165.out 1
     have hfz17_2 := blk_frozen BK165.out 2
     go_wp2_with (first | ((with_reducible refine gate_callee (f := 76) rfl ?_); refine goesL_ (some 8) rfl rfl Try.func76 (by kernel_rfl) rfl #[.agg #[.slice A0_0 l0_0.length c0_0, .slice A0_1 l0_1.length c0_1, .int .i64 a0_2]] rfl (by (try simp only [List.map_toArray, List.map_cons, List.map_nil]); first | done | rfl | (simp only [List.length_drop, List.length_take]; rfl)) ?_; (with_reducible refine (posserref03_Many.calls k1 _ _ l0_0 _ _ l0_1 a0_2 t166 _ ?side1 ?side2 ?side3 ?side4 A3.out).mono ?_); (case side1 => exact sCb HR0_0 HB); (case side2 => exact HC0_0.out); (case side3 => exact sCb HR0_1 HB); (case side4 => exact HC0_1.out); rintro e w18 ⟨rfl, hb⟩; refine ⟨_, rfl, ?_⟩; replace HO_3 := Aside0.mk (Kd.S_below (by (with_reducible repeat (first | apply Kd.S_alloc | apply Kd.S_drewN | apply Kd.S_drew)); exact HO_3.out) hb); replace BK165 := Aside0.mk (sbb BK165 hb); replace HB := Aside0.mk (sbs1 HB GE165 hb); (try clear hb); (try clear hb2); (try clear hk); (try clear hi); have hcz19_0 := sc 0 BK165; have hcz19_1 := sc 1 BK165; have hcz19_2 := sc 2 BK165; have hfz19_0 := blk_frozen BK165.out 0; have hfz19_1 := blk_frozen BK165.out 1; have hfz19_2 := blk_frozen BK165.out 2) | ((with_reducible refine gate_callee (f := 78) rfl ?_); refine goesL_ (some 14) rfl rfl Try.func78 (by kernel_rfl) rfl #[.agg #[.slice A0_0 l0_0.length c0_0, .slice A0_1 l0_1.length c0_1, .int .i64 a0_2], .int .i64 x4_1] rfl (by (try simp only [List.map_toArray, List.map_cons, List.map_nil]); first | done | rfl | (simp only [List.length_drop, List.length_take]; rfl)) ?_; (with_reducible refine (posserref03_Nth.calls k1 _ _ l0_0 _ _ l0_1 a0_2 x4_1 t167 _ ?side1 ?side2 ?side3 ?side4 A5.out).mono ?_); (case side1 => exact sCb HR0_0 HB); (case side2 => exact HC0_0.out); (case side3 => exact sCb HR0_1 HB); (case side4 => exact HC0_1.out); rintro e w20 ⟨v168, rfl, ho0, hb⟩; refine ⟨_, rfl, ?_⟩; have HO169 := Aside0.mk (Kd.R_lower ho0 (below_size (sbe1 HB GE165))); replace HO_3 := Aside0.mk (Kd.S_elder' (by (with_reducible repeat (first | apply Kd.S_alloc | apply Kd.S_drewN | apply Kd.S_drew)); exact HO_3.out) (Kd.R_base ho0) hb); replace BK165 := Aside0.mk (sbb BK165 hb); replace HB := Aside0.mk (sbs1 HB GE165 hb); (try clear hb); (try clear hb2); (try clear hk); (try clear hi); (try clear ho0); have hcz21_0 := sc 0 BK165; have hcz21_1 := sc 1 BK165; have hcz21_2 := sc 2 BK165; have hfz21_0 := blk_frozen BK165.out 0; have hfz21_1 := blk_frozen BK165.out 1; have hfz21_2 := blk_frozen BK165.out 2; obtain ⟨Ao22, co22, eo22⟩ := Kd.R_slice HO169.out; subst eo22) | ((with_reducible refine gate_callee (f := 42) rfl ?_); refine goesL_ (some 17) rfl rfl Try.func42 (by kernel_rfl) rfl #[.agg #[.slice A0_0 l0_0.length c0_0, .slice A0_1 l0_1.length c0_1, .int .i64 a0_2], .slice Ao22 t167.length co22] rfl (by (try simp only [List.map_toArray, List.map_cons, List.map_nil]); first | done | rfl | (simp only [List.length_drop, List.length_take]; rfl)) ?_; (with_reducible refine (posserref03_IsTruth.calls k1 _ _ l0_0 _ _ l0_1 a0_2 _ _ t167 false _ ?side1 ?side2 ?side3 ?side4 ?side5 ?side6 A6.out).mono ?_); (case side1 => exact sCb HR0_0 HB); (case side2 => exact HC0_0.out); (case side3 => exact sCb HR0_1 HB); (case side4 => exact HC0_1.out); (case side5 => repeat (first | exact (Kd.R_reads' HO169.out).2.2 | (with_reducible refine Kd.C_alloc ?_ _) | (with_reducible refine Kd.C_drewN ?_ _) | (with_reducible refine Kd.C_drew ?_))); (case side6 => exact (Kd.R_reads' HO169.out).2.1); rintro e w23 ⟨rfl, hb⟩; refine ⟨_, rfl, ?_⟩; replace HO_3 := Aside0.mk (Kd.S_below (by (with_reducible repeat (first | apply Kd.S_alloc | apply Kd.S_drewN | apply Kd.S_drew)); exact HO_3.out) hb); replace HO169 := Aside0.mk (Kd.R_below (sR HO169) hb); replace BK165 := Aside0.mk (sbb BK165 hb); replace HB := Aside0.mk (sbs1 HB GE165 hb); (try clear hb); (try clear hb2); (try clear hk); (try clear hi)))
     go_roundg k1
     case measure => have := HK1.out; omega
     case rel => exact ⟨(x3_1), (wrap64 (x4_1 + 1)), (by first | rfl | (simp; done) | (simp [*]; done)), H', ⟨by have := HK1.out; omega⟩, ⟨by (with_reducible repeat (first | apply Kd.S_alloc | apply Kd.S_drewN | apply Kd.S_drew)); exact Kd.S_mono HO_3.out (fun _ hk => trivial)⟩, ⟨by (with_reducible repeat (first | refine blk_drewN ?_ _ | refine blk_drew ?_ | refine blk_alloc ?_ _)); exact BK165.out⟩, ⟨(sbe1 HB GE165)⟩⟩
   ·rw [if_neg c4] at H
    have c4b0 : decide (x4_1 < t166) = false := decide_eq_false c4
    clear c4
    obtain rfl := Option.some.inj H
    have hcz24_0 := sc 0 BK165
    have hcz24_1 := sc 1 BK165
    have hcz24_2 := sc 2 BK165
    have hfz24_0 := blk_frozen BK165.out 0
    have hfz24_1 := blk_frozen BK165.out 1
    have hfz24_2 := blk_frozen BK165.out 2
    go_wp2_with (first | ((with_reducible refine gate_callee (f := 76) rfl ?_); refine goesL_ (some 8) rfl rfl Try.func76 (by kernel_rfl) rfl #[.agg #[.slice A0_0 l0_0.length c0_0, .slice A0_1 l0_1.length c0_1, .int .i64 a0_2]] rfl (by (try simp only [List.map_toArray, List.map_cons, List.map_nil]); first | done | rfl | (simp only [List.length_drop, List.length_take]; rfl)) ?_; (with_reducible refine (posserref03_Many.calls k1 _ _ l0_0 _ _ l0_1 a0_2 t166 _ ?side1 ?side2 ?side3 ?side4 A3.out).mono ?_); (case side1 => exact sCb HR0_0 HB); (case side2 => exact HC0_0.out); (case side3 => exact sCb HR0_1 HB); (case side4 => exact HC0_1.out); rintro e w25 ⟨rfl, hb⟩; refine ⟨_, rfl, ?_⟩; replace HO_3 := Aside0.mk (Kd.S_below (by (with_reducible repeat (first | apply Kd.S_alloc | apply Kd.S_drewN | apply Kd.S_drew)); exact HO_3.out) hb); replace BK165 := Aside0.mk (sbb BK165 hb); replace HB := Aside0.mk (sbs1 HB GE165 hb); (try clear hb); (try clear hb2); (try clear hk); (try clear hi)))
    go_ret
    exact ⟨_, by first | rfl | (simp [errW_none, errW_some] <;> rfl) | (simp [*, errW_none, errW_some] <;> rfl), by (with_reducible repeat (first | apply Kd.S_alloc | apply Kd.S_drewN | apply Kd.S_drew)); exact HO_3.out, (sbe1 HB GE165)⟩
end Go.Proofs.Ytnbbbeghgomnoaa.X
namespace Go.Proofs.Ytnbbbeghgomnoaa.X
open Go.RowKit Go.Proofs.YtnbbbeghgomnoaaW.PrintWords Go.Proofs.YtnbbbeghgomnoaaW.PrintLast Go.Proofs.YtnbbbeghgomnoaaW.PrintMore
attribute [local go_sem] max2_int min2_int max_two min_two max_three min_three max_four min_four
set_option linter.unusedVariables false
set_option linter.unusedSimpArgs false
mutual
def posserref03_Fault.j0 : Nat → Bool → List (S85) → List (S71) → Int → Option (Int)
 | 0, _, _, _, _ => none
 | k + 1, x17, x116000, x116001, x116002 => if x17 = true then (some 3) else ((posserref03_In.f x116002 0 5).bind fun t116 => (if t116 = true then (posserref03_Fault.l0 k 0 x116000 x116001 x116002) else (some 1)))
def posserref03_Fault.l0 : Nat → Int → List (S85) → List (S71) → Int → Option (Int)
 | 0, _, _, _, _ => none
 | k + 1, x3, x116000, x116001, x116002 => if x3 < (x116000.length : Int) then (if 0 ≤ x3 then ((posserref03_In.f ((rd_T85 x116000 x3).f0) 0 9).bind fun t119 => (if t119 = true then (if ((rd_T85 x116000 x3).f1.f0) < 0 then (some 1) else (if ((rd_T85 x116000 x3).f1.f0) > ((rd_T85 x116000 x3).f1.f1) then (some 1) else (if ((rd_T85 x116000 x3).f1.f1) > 7 then (some 1) else (posserref03_Fault.l0 k (wrap64 (x3 + 1)) x116000 x116001 x116002)))) else (some 1))) else (none)) else (posserref03_Fault.l1 k 0 x116000 x116001 x116002)
def posserref03_Fault.l1 : Nat → Int → List (S85) → List (S71) → Int → Option (Int)
 | 0, _, _, _, _ => none
 | k + 1, x5, x116000, x116001, x116002 => if x5 < (x116001.length : Int) then (if 0 ≤ x5 then (posserref03_Fault.l2 k x5 0 x116000 x116001 x116002 ((rd_T71 x116001 x5).f0) ((rd_T71 x116001 x5).f1)) else (none)) else ((posserref03_Many.f k x116000 x116001 x116002).bind fun t120 => (if t120 > 2000 then (some 3) else (some 0)))
def posserref03_Fault.l2 : Nat → Int → Int → List (S85) → List (S71) → Int → List Int → Int → Option (Int)
 | 0, _, _, _, _, _, _, _ => none
 | k + 1, x5, x7, x116000, x116001, x116002, x123000, x123001 => if x7 < (x123000.length : Int) then (if 0 ≤ x7 then ((posserref03_In.f (rd x123000 x7) 0 9).bind fun t124 => (if t124 = true then (if x7 > 0 then (if 0 ≤ (wrap64 (x7 - 1)) then (if (wrap64 (x7 - 1)) < (x123000.length : Int) then (if (rd x123000 x7) ≤ (rd x123000 (wrap64 (x7 - 1))) then (some 1) else (posserref03_Fault.l2 k x5 (wrap64 (x7 + 1)) x116000 x116001 x116002 x123000 x123001)) else (none)) else (none)) else (posserref03_Fault.l2 k x5 (wrap64 (x7 + 1)) x116000 x116001 x116002 x123000 x123001)) else (some 1))) else (none)) else ((posserref03_In.f x123001 0 (wrap64 ((x116000.length : Int) - 1))).bind fun t127 => (if t127 = true then ((posserref03_WomenOf.f k x116000 x116001 x116002 x5).bind fun t128 => (if (t128.length : Int) = 0 then (some 1) else (posserref03_Fault.l1 k (wrap64 (x5 + 1)) x116000 x116001 x116002))) else (some 1)))
end
def posserref03_Fault.f (k : Nat) (l0_0 : List (S85)) (l0_1 : List (S71)) (a0_2 : Int) : Option (Int) := if (l0_0.length : Int) > 5 then (posserref03_Fault.j0 k true l0_0 l0_1 a0_2) else (posserref03_Fault.j0 k (decide ((l0_1.length : Int) > 7)) l0_0 l0_1 a0_2)
set_option maxHeartbeats 8000000 in
set_option maxRecDepth 100000 in
theorem posserref03_Fault.calls (k : Nat) (A0_0 : Option Addr) (c0_0 : Nat) (l0_0 : List (S85)) (A0_1 : Option Addr) (c0_1 : Nat) (l0_1 : List (S71)) (a0_2 : Int) (r : Int) (w : World) (hr0_0 : Kd.C k85 w A0_0 l0_0.length l0_0) (hc0_0 : l0_0.length ≤ c0_0) (hr0_1 : Kd.C k71 w A0_1 l0_1.length l0_1) (hc0_1 : l0_1.length ≤ c0_1) (h : posserref03_Fault.f k l0_0 l0_1 a0_2 = some r) :
  Calls Try.prog 75 #[.agg #[.slice A0_0 l0_0.length c0_0, .slice A0_1 l0_1.length c0_1, .int .i64 a0_2]] w fun e w' => e = .returned (.int .i64 r) ∧ Below w.heap.size w w' := by
 have hu25 := Try.underlying25
 have hu85 := Try.underlying85
 have hu71 := Try.underlying71
 have HR0_0 := Aside0.mk hr0_0
 have HC0_0 := Aside0.mk hc0_0
 clear hr0_0 hc0_0
 have HR0_1 := Aside0.mk hr0_1
 have HC0_1 := Aside0.mk hc0_1
 clear hr0_1 hc0_1
 have HB := Aside0.mk (Below.refl w.heap.size w)
 have H : (if (l0_0.length : Int) > 5 then (posserref03_Fault.j0 k true l0_0 l0_1 a0_2) else (posserref03_Fault.j0 k (decide ((l0_1.length : Int) > 7)) l0_0 l0_1 a0_2)) = some r := h
 clear h
 have HC2 := Aside0.mk H
 clear H
 go_enter Try.func75, Try.ntmps75
 go_upto_region 1 with (first | ((with_reducible refine gate_dst (N := 1) rfl ?_); (try (refine gate_guard (by rfl) ?_; dsimp only)); refine sbox (N := 1) #[.slice A0_0 l0_0.length c0_0, .slice A0_1 l0_1.length c0_1, .int .i64 a0_2] 25 ?_; intro gb115 hg w3 hbox hb; have BK115 := Aside0.mk (hbox); have GW115 := Aside0.mk (sge hg HB : w.heap.size ≤ gb115); have GE115 := Aside0.mk (sge hg HB : w.heap.size ≤ gb115); replace HB := Aside0.mk (sbs HB hb); clear hb hbox hg))
 repeat (go_quiet (first | ((with_reducible refine gate_dst (N := 1) rfl ?_); (try (refine gate_guard (by rfl) ?_; dsimp only)); refine sbox (N := 1) #[.slice A0_0 l0_0.length c0_0, .slice A0_1 l0_1.length c0_1, .int .i64 a0_2] 25 ?_; intro gb115 hg w3 hbox hb; have BK115 := Aside0.mk (hbox); have GW115 := Aside0.mk (sge hg HB : w.heap.size ≤ gb115); have GE115 := Aside0.mk (sge hg HB : w.heap.size ≤ gb115); replace HB := Aside0.mk (sbs HB hb); clear hb hbox hg)); go_upto_region 1 with (first | ((with_reducible refine gate_dst (N := 1) rfl ?_); (try (refine gate_guard (by rfl) ?_; dsimp only)); refine sbox (N := 1) #[.slice A0_0 l0_0.length c0_0, .slice A0_1 l0_1.length c0_1, .int .i64 a0_2] 25 ?_; intro gb115 hg w3 hbox hb; have BK115 := Aside0.mk (hbox); have GW115 := Aside0.mk (sge hg HB : w.heap.size ≤ gb115); have GE115 := Aside0.mk (sge hg HB : w.heap.size ≤ gb115); replace HB := Aside0.mk (sbs HB hb); clear hb hbox hg)))
 (try simp only [Act.put, List.setIfInBounds_toArray, List.set_cons_zero, List.set_cons_succ])
 go_cut [17] (fun v17 wc => ∃ (kq : Nat) (x17_1 : Bool), v17 = .bool x17_1 ∧ Aside0 (posserref03_Fault.j0 kq x17_1 l0_0 l0_1 a0_2 = some r) ∧ Aside0 (kq ≤ k) ∧ Aside0 (wc.heap[gb115]? = some (.cells #[(.slice A0_0 l0_0.length c0_0), (.slice A0_1 l0_1.length c0_1), .int .i64 a0_2] 25 (0, 0))) ∧ Aside0 (Below w.heap.size w wc))
 case first =>
  have H := HC2.out
  clear HC2
  by_cases c4 : (l0_0.length : Int) > 5
  ·rw [if_pos c4] at H
   have c4b0 : decide (5 < (l0_0.length : Int)) = true := decide_eq_true c4
   have c4b1 : decide (5 < l0_0.length) = true := decide_eq_true (by omega)
   clear c4
   (first | rw [c4b0] | (simp only [i64_w, i32_w]; rw [c4b0]) | skip)
   have H' := Aside0.mk H
   clear H
   have hcz5_0 := sc 0 BK115
   have hcz5_1 := sc 1 BK115
   have hcz5_2 := sc 2 BK115
   have hfz5_0 := blk_frozen BK115.out 0
   have hfz5_1 := blk_frozen BK115.out 1
   have hfz5_2 := blk_frozen BK115.out 2
   go_wp2
   repeat (go_quiet (fail); try go_wp2)
   go_meet
   case rel => exact ⟨_, (true), (by first | rfl | (simp; done) | (simp [*]; done)), H', ⟨by first | omega | exact Nat.le_refl _⟩, ⟨by (with_reducible repeat (first | refine blk_drewN ?_ _ | refine blk_drew ?_ | refine blk_alloc ?_ _)); exact BK115.out⟩, ⟨(sbe1 HB GE115)⟩⟩
  ·rw [if_neg c4] at H
   have c4b0 : decide (5 < (l0_0.length : Int)) = false := decide_eq_false c4
   have c4b1 : decide (5 < l0_0.length) = false := decide_eq_false (by omega)
   clear c4
   (first | rw [c4b0] | (simp only [i64_w, i32_w]; rw [c4b0]) | skip)
   have H' := Aside0.mk H
   clear H
   have hcz6_0 := sc 0 BK115
   have hcz6_1 := sc 1 BK115
   have hcz6_2 := sc 2 BK115
   have hfz6_0 := blk_frozen BK115.out 0
   have hfz6_1 := blk_frozen BK115.out 1
   have hfz6_2 := blk_frozen BK115.out 2
   go_wp2
   repeat (go_quiet (fail); try go_wp2)
   go_meet
   case rel => exact ⟨_, (decide ((l0_1.length : Int) > 7)), (by first | rfl | (simp; done) | (simp [*]; done)), H', ⟨by first | omega | exact Nat.le_refl _⟩, ⟨by (with_reducible repeat (first | refine blk_drewN ?_ _ | refine blk_drew ?_ | refine blk_alloc ?_ _)); exact BK115.out⟩, ⟨(sbe1 HB GE115)⟩⟩
 case rest =>
  clear HC2
  try clear p2
  try clear c4
  try clear c4b0
  try clear c4b1
  try clear hcz5_0
  try clear hcz5_1
  try clear hcz5_2
  try clear hcz6_0
  try clear hcz6_1
  try clear hcz6_2
  try clear hfz5_0
  try clear hfz5_1
  try clear hfz5_2
  try clear hfz6_0
  try clear hfz6_1
  try clear hfz6_2
  obtain ⟨kq, x17_1, rfl, HA, HJ1, BK115, HB⟩ := hcut
  cases kq with
  | zero => exact absurd HA.out (by simp [posserref03_Fault.j0])
  | succ kj1 =>
   have H := HA.out
   clear HA
   simp only [posserref03_Fault.j0] at H
   by_cases c7 : x17_1 = true
   ·subst c7
    have H1 : (some 3) = some r := by rw [if_pos rfl] at H; exact H
    clear H
    have H := H1
    clear H1
    obtain rfl := Option.some.inj H
    go_wp2
    repeat (go_quiet (fail); try go_wp2)
    go_ret
    exact ⟨by first | rfl | (simp [errW_none, errW_some] <;> rfl) | (simp [*, errW_none, errW_some] <;> rfl), (sbe1 HB GE115)⟩
   ·replace c7 := Bool.eq_false_iff.mpr c7
    subst c7
    have H1 : ((posserref03_In.f a0_2 0 5).bind fun t116 => (if t116 = true then (posserref03_Fault.l0 kj1 0 l0_0 l0_1 a0_2) else (some 1))) = some r := by rw [if_neg (show ¬ (false = true) by decide)] at H; exact H
    clear H
    have H := H1
    clear H1
    replace H := Option.bind_eq_some_iff.mp H
    obtain ⟨t116, A80, H⟩ := H
    replace H : (if t116 = true then (posserref03_Fault.l0 kj1 0 l0_0 l0_1 a0_2) else (some 1)) = some r := H
    have A8 := Aside0.mk A80
    clear A80
    by_cases c9 : t116 = true
    ·subst c9
     have H1 : (posserref03_Fault.l0 kj1 0 l0_0 l0_1 a0_2) = some r := by rw [if_pos rfl] at H; exact H
     clear H
     have H := H1
     clear H1
     have H' := Aside0.mk H
     clear H
     have hcz10_0 := sc 0 BK115
     have hcz10_1 := sc 1 BK115
     have hcz10_2 := sc 2 BK115
     have hfz10_0 := blk_frozen BK115.out 0
     have hfz10_1 := blk_frozen BK115.out 1
     have hfz10_2 := blk_frozen BK115.out 2
     go_wp2_with (first | (go_at_call 49; (with_reducible refine (posserref03_In.calls a0_2 0 5 true _ A8.out).mono ?_); rintro e w' ⟨rfl, ⟨nd, rfl⟩⟩; (try first | exact ⟨rfl, _, World.drewN_drewN _ _ _⟩ | exact ⟨rfl, _, Eq.trans (World.drewN_drewN _ _ _) (congrArg (World.drewN _) (Nat.add_assoc _ _ _))⟩)))
     repeat (go_quiet (first | (go_at_call 49; (with_reducible refine (posserref03_In.calls a0_2 0 5 true _ A8.out).mono ?_); rintro e w' ⟨rfl, ⟨nd, rfl⟩⟩; (try first | exact ⟨rfl, _, World.drewN_drewN _ _ _⟩ | exact ⟨rfl, _, Eq.trans (World.drewN_drewN _ _ _) (congrArg (World.drewN _) (Nat.add_assoc _ _ _))⟩))); try go_wp2_with (first | (go_at_call 49; (with_reducible refine (posserref03_In.calls a0_2 0 5 true _ A8.out).mono ?_); rintro e w' ⟨rfl, ⟨nd, rfl⟩⟩; (try first | exact ⟨rfl, _, World.drewN_drewN _ _ _⟩ | exact ⟨rfl, _, Eq.trans (World.drewN_drewN _ _ _) (congrArg (World.drewN _) (Nat.add_assoc _ _ _))⟩))))
     go_loopg [3] kj1 (fun kq v3 w' => ∃ (x3_2 : Int), v3 = .int .i64 x3_2 ∧ Aside0 (posserref03_Fault.l0 kq x3_2 l0_0 l0_1 a0_2 = some r) ∧ Aside0 (kq ≤ kj1) ∧ Aside0 (w'.heap[gb115]? = some (.cells #[(.slice A0_0 l0_0.length c0_0), (.slice A0_1 l0_1.length c0_1), .int .i64 a0_2] 25 (0, 0))) ∧ Aside0 (Below w.heap.size w w'))
     case atStart => exact ⟨(0), (by first | rfl | (simp; done) | (simp [*]; done)), H', ⟨Nat.le_refl _⟩, ⟨by (with_reducible repeat (first | refine blk_drewN ?_ _ | refine blk_drew ?_ | refine blk_alloc ?_ _)); exact BK115.out⟩, ⟨(sbe1 HB GE115)⟩⟩
     case round =>
      clear H'
      try clear p2
      try clear c4
      try clear c4b0
      try clear c4b1
      try clear c7
      try clear c9
      try clear hcz10_0
      try clear hcz10_1
      try clear hcz10_2
      try clear hcz5_0
      try clear hcz5_1
      try clear hcz5_2
      try clear hcz6_0
      try clear hcz6_1
      try clear hcz6_2
      try clear hfz10_0
      try clear hfz10_1
      try clear hfz10_2
      try clear hfz5_0
      try clear hfz5_1
      try clear hfz5_2
      try clear hfz6_0
      try clear hfz6_1
      try clear hfz6_2
      try clear p2
      obtain ⟨x3_2, rfl, HA, HK2, BK115, HB⟩ := hrel
      cases gk with
      | zero => exact absurd HA.out (by simp [posserref03_Fault.l0])
      | succ k2 =>
       have H := HA.out
       clear HA
       simp only [posserref03_Fault.l0] at H
       by_cases c11 : x3_2 < (l0_0.length : Int)
       ·rw [if_pos c11] at H
        have c11b0 : decide (x3_2 < (l0_0.length : Int)) = true := decide_eq_true c11
        clear c11
        by_cases c12 : 0 ≤ x3_2
        ·rw [if_pos c12] at H
         have c12b0 : decide (0 ≤ x3_2) = true := decide_eq_true c12
         clear c12
         replace H := Option.bind_eq_some_iff.mp H
         obtain ⟨t119, A130, H⟩ := H
         replace H : (if t119 = true then (if ((rd_T85 l0_0 x3_2).f1.f0) < 0 then (some 1) else (if ((rd_T85 l0_0 x3_2).f1.f0) > ((rd_T85 l0_0 x3_2).f1.f1) then (some 1) else (if ((rd_T85 l0_0 x3_2).f1.f1) > 7 then (some 1) else (posserref03_Fault.l0 k2 (wrap64 (x3_2 + 1)) l0_0 l0_1 a0_2)))) else (some 1)) = some r := H
         have A13 := Aside0.mk A130
         clear A130
         by_cases c14 : t119 = true
         ·subst c14
          have H1 : (if ((rd_T85 l0_0 x3_2).f1.f0) < 0 then (some 1) else (if ((rd_T85 l0_0 x3_2).f1.f0) > ((rd_T85 l0_0 x3_2).f1.f1) then (some 1) else (if ((rd_T85 l0_0 x3_2).f1.f1) > 7 then (some 1) else (posserref03_Fault.l0 k2 (wrap64 (x3_2 + 1)) l0_0 l0_1 a0_2)))) = some r := by rw [if_pos rfl] at H; exact H
          clear H
          have H := H1
          clear H1
          by_cases c15 : ((rd_T85 l0_0 x3_2).f1.f0) < 0
          ·rw [if_pos c15] at H
           have c15b0 : decide (((rd_T85 l0_0 x3_2).f1.f0) < 0) = true := decide_eq_true c15
           clear c15
           obtain rfl := Option.some.inj H
           have hcz16_0 := sc 0 BK115
           have hcz16_1 := sc 1 BK115
           have hcz16_2 := sc 2 BK115
           have hfz16_0 := blk_frozen BK115.out 0
           have hfz16_1 := blk_frozen BK115.out 1
           have hfz16_2 := blk_frozen BK115.out 2
           have p117 : 0 ≤ (x3_2 : Int) := of_decide_eq_true (by first | (with_reducible assumption) | assumption)
           have q117 : x3_2 < (l0_0.length : Int) := of_decide_eq_true (by first | (with_reducible assumption) | assumption)
           obtain ⟨ad117, e117, hx117_0, hx117_1, hx117_2⟩ := at_T85 HR0_0.out x3_2 p117 q117
           cases e117
           replace hx117_0 := (HB.out.cell (World.block_lt_of_cell? w _ hx117_0)).trans hx117_0
           replace hx117_1 := (HB.out.cell (World.block_lt_of_cell? w _ hx117_1)).trans hx117_1
           replace hx117_2 := (HB.out.cell (World.block_lt_of_cell? w _ hx117_2)).trans hx117_2
           replace p117 := eq_true p117
           replace q117 := eq_true q117
           go_wp2_with (first | ((with_reducible refine gate_dst (N := 4) rfl ?_); (try (refine gate_guard (by rfl) ?_; dsimp only)); refine sbox (N := 4) #[.int .i64 0, .int .i64 0, .int .i64 0] 85 ?_; intro gb118 hg w17 hbox hb; have BK118 := Aside0.mk (hbox); have GW118 := Aside0.mk (sge1 hg HB GE115 : w.heap.size ≤ gb118); have GE118 := Aside0.mk (sge1 hg HB GE115 : w.heap.size ≤ gb118); have NB115_118 := Aside0.mk (snl hg BK115 : gb115 ≠ gb118); have NB118_115 := Aside0.mk (snr hg BK115 : gb118 ≠ gb115); replace BK115 := Aside0.mk (sbb BK115 hb); replace HB := Aside0.mk (sbs1 HB GE115 hb); clear hb hbox hg; have hnb18 := NB118_115.out; have hnc18 := NB115_118.out; have hcz19_0 := sc 0 BK118; have hcz19_1 := sc 1 BK118; have hcz19_2 := sc 2 BK118; have hfz19_0 := blk_frozen BK118.out 0; have hfz19_1 := blk_frozen BK118.out 1; have hfz19_2 := blk_frozen BK118.out 2) | (go_at_call 49; (with_reducible refine (posserref03_In.calls ((rd_T85 l0_0 x3_2).f0) 0 9 true _ A13.out).mono ?_); rintro e w' ⟨rfl, ⟨nd, rfl⟩⟩; (try first | exact ⟨rfl, _, World.drewN_drewN _ _ _⟩ | exact ⟨rfl, _, Eq.trans (World.drewN_drewN _ _ _) (congrArg (World.drewN _) (Nat.add_assoc _ _ _))⟩)))
           repeat (go_quiet (first | ((with_reducible refine gate_dst (N := 4) rfl ?_); (try (refine gate_guard (by rfl) ?_; dsimp only)); refine sbox (N := 4) #[.int .i64 0, .int .i64 0, .int .i64 0] 85 ?_; intro gb118 hg w17 hbox hb; have BK118 := Aside0.mk (hbox); have GW118 := Aside0.mk (sge1 hg HB GE115 : w.heap.size ≤ gb118); have GE118 := Aside0.mk (sge1 hg HB GE115 : w.heap.size ≤ gb118); have NB115_118 := Aside0.mk (snl hg BK115 : gb115 ≠ gb118); have NB118_115 := Aside0.mk (snr hg BK115 : gb118 ≠ gb115); replace BK115 := Aside0.mk (sbb BK115 hb); replace HB := Aside0.mk (sbs1 HB GE115 hb); clear hb hbox hg; have hnb18 := NB118_115.out; have hnc18 := NB115_118.out; have hcz19_0 := sc 0 BK118; have hcz19_1 := sc 1 BK118; have hcz19_2 := sc 2 BK118; have hfz19_0 := blk_frozen BK118.out 0; have hfz19_1 := blk_frozen BK118.out 1; have hfz19_2 := blk_frozen BK118.out 2) | (go_at_call 49; (with_reducible refine (posserref03_In.calls ((rd_T85 l0_0 x3_2).f0) 0 9 true _ A13.out).mono ?_); rintro e w' ⟨rfl, ⟨nd, rfl⟩⟩; (try first | exact ⟨rfl, _, World.drewN_drewN _ _ _⟩ | exact ⟨rfl, _, Eq.trans (World.drewN_drewN _ _ _) (congrArg (World.drewN _) (Nat.add_assoc _ _ _))⟩))); try go_wp2_with (first | ((with_reducible refine gate_dst (N := 4) rfl ?_); (try (refine gate_guard (by rfl) ?_; dsimp only)); refine sbox (N := 4) #[.int .i64 0, .int .i64 0, .int .i64 0] 85 ?_; intro gb118 hg w17 hbox hb; have BK118 := Aside0.mk (hbox); have GW118 := Aside0.mk (sge1 hg HB GE115 : w.heap.size ≤ gb118); have GE118 := Aside0.mk (sge1 hg HB GE115 : w.heap.size ≤ gb118); have NB115_118 := Aside0.mk (snl hg BK115 : gb115 ≠ gb118); have NB118_115 := Aside0.mk (snr hg BK115 : gb118 ≠ gb115); replace BK115 := Aside0.mk (sbb BK115 hb); replace HB := Aside0.mk (sbs1 HB GE115 hb); clear hb hbox hg; have hnb18 := NB118_115.out; have hnc18 := NB115_118.out; have hcz19_0 := sc 0 BK118; have hcz19_1 := sc 1 BK118; have hcz19_2 := sc 2 BK118; have hfz19_0 := blk_frozen BK118.out 0; have hfz19_1 := blk_frozen BK118.out 1; have hfz19_2 := blk_frozen BK118.out 2) | (go_at_call 49; (with_reducible refine (posserref03_In.calls ((rd_T85 l0_0 x3_2).f0) 0 9 true _ A13.out).mono ?_); rintro e w' ⟨rfl, ⟨nd, rfl⟩⟩; (try first | exact ⟨rfl, _, World.drewN_drewN _ _ _⟩ | exact ⟨rfl, _, Eq.trans (World.drewN_drewN _ _ _) (congrArg (World.drewN _) (Nat.add_assoc _ _ _))⟩))))
           go_ret
           exact ⟨by first | rfl | (simp [errW_none, errW_some] <;> rfl) | (simp [*, errW_none, errW_some] <;> rfl), (sbe2 HB GE115 GE118)⟩
          ·rw [if_neg c15] at H
           have c15b0 : decide (((rd_T85 l0_0 x3_2).f1.f0) < 0) = false := decide_eq_false c15
           clear c15
           by_cases c20 : ((rd_T85 l0_0 x3_2).f1.f0) > ((rd_T85 l0_0 x3_2).f1.f1)
           ·rw [if_pos c20] at H
            have c20b0 : decide (((rd_T85 l0_0 x3_2).f1.f1) < ((rd_T85 l0_0 x3_2).f1.f0)) = true := decide_eq_true c20
            clear c20
            obtain rfl := Option.some.inj H
            have hcz21_0 := sc 0 BK115
            have hcz21_1 := sc 1 BK115
            have hcz21_2 := sc 2 BK115
            have hfz21_0 := blk_frozen BK115.out 0
            have hfz21_1 := blk_frozen BK115.out 1
            have hfz21_2 := blk_frozen BK115.out 2
            have p117 : 0 ≤ (x3_2 : Int) := of_decide_eq_true (by first | (with_reducible assumption) | assumption)
            have q117 : x3_2 < (l0_0.length : Int) := of_decide_eq_true (by first | (with_reducible assumption) | assumption)
            obtain ⟨ad117, e117, hx117_0, hx117_1, hx117_2⟩ := at_T85 HR0_0.out x3_2 p117 q117
            cases e117
            replace hx117_0 := (HB.out.cell (World.block_lt_of_cell? w _ hx117_0)).trans hx117_0
            replace hx117_1 := (HB.out.cell (World.block_lt_of_cell? w _ hx117_1)).trans hx117_1
            replace hx117_2 := (HB.out.cell (World.block_lt_of_cell? w _ hx117_2)).trans hx117_2
            replace p117 := eq_true p117
            replace q117 := eq_true q117
            go_wp2_with (first | ((with_reducible refine gate_dst (N := 4) rfl ?_); (try (refine gate_guard (by rfl) ?_; dsimp only)); refine sbox (N := 4) #[.int .i64 0, .int .i64 0, .int .i64 0] 85 ?_; intro gb118 hg w22 hbox hb; have BK118 := Aside0.mk (hbox); have GW118 := Aside0.mk (sge1 hg HB GE115 : w.heap.size ≤ gb118); have GE118 := Aside0.mk (sge1 hg HB GE115 : w.heap.size ≤ gb118); have NB115_118 := Aside0.mk (snl hg BK115 : gb115 ≠ gb118); have NB118_115 := Aside0.mk (snr hg BK115 : gb118 ≠ gb115); replace BK115 := Aside0.mk (sbb BK115 hb); replace HB := Aside0.mk (sbs1 HB GE115 hb); clear hb hbox hg; have hnb23 := NB118_115.out; have hnc23 := NB115_118.out; have hcz24_0 := sc 0 BK118; have hcz24_1 := sc 1 BK118; have hcz24_2 := sc 2 BK118; have hfz24_0 := blk_frozen BK118.out 0; have hfz24_1 := blk_frozen BK118.out 1; have hfz24_2 := blk_frozen BK118.out 2) | (go_at_call 49; (with_reducible refine (posserref03_In.calls ((rd_T85 l0_0 x3_2).f0) 0 9 true _ A13.out).mono ?_); rintro e w' ⟨rfl, ⟨nd, rfl⟩⟩; (try first | exact ⟨rfl, _, World.drewN_drewN _ _ _⟩ | exact ⟨rfl, _, Eq.trans (World.drewN_drewN _ _ _) (congrArg (World.drewN _) (Nat.add_assoc _ _ _))⟩)))
            repeat (go_quiet (first | ((with_reducible refine gate_dst (N := 4) rfl ?_); (try (refine gate_guard (by rfl) ?_; dsimp only)); refine sbox (N := 4) #[.int .i64 0, .int .i64 0, .int .i64 0] 85 ?_; intro gb118 hg w22 hbox hb; have BK118 := Aside0.mk (hbox); have GW118 := Aside0.mk (sge1 hg HB GE115 : w.heap.size ≤ gb118); have GE118 := Aside0.mk (sge1 hg HB GE115 : w.heap.size ≤ gb118); have NB115_118 := Aside0.mk (snl hg BK115 : gb115 ≠ gb118); have NB118_115 := Aside0.mk (snr hg BK115 : gb118 ≠ gb115); replace BK115 := Aside0.mk (sbb BK115 hb); replace HB := Aside0.mk (sbs1 HB GE115 hb); clear hb hbox hg; have hnb23 := NB118_115.out; have hnc23 := NB115_118.out; have hcz24_0 := sc 0 BK118; have hcz24_1 := sc 1 BK118; have hcz24_2 := sc 2 BK118; have hfz24_0 := blk_frozen BK118.out 0; have hfz24_1 := blk_frozen BK118.out 1; have hfz24_2 := blk_frozen BK118.out 2) | (go_at_call 49; (with_reducible refine (posserref03_In.calls ((rd_T85 l0_0 x3_2).f0) 0 9 true _ A13.out).mono ?_); rintro e w' ⟨rfl, ⟨nd, rfl⟩⟩; (try first | exact ⟨rfl, _, World.drewN_drewN _ _ _⟩ | exact ⟨rfl, _, Eq.trans (World.drewN_drewN _ _ _) (congrArg (World.drewN _) (Nat.add_assoc _ _ _))⟩))); try go_wp2_with (first | ((with_reducible refine gate_dst (N := 4) rfl ?_); (try (refine gate_guard (by rfl) ?_; dsimp only)); refine sbox (N := 4) #[.int .i64 0, .int .i64 0, .int .i64 0] 85 ?_; intro gb118 hg w22 hbox hb; have BK118 := Aside0.mk (hbox); have GW118 := Aside0.mk (sge1 hg HB GE115 : w.heap.size ≤ gb118); have GE118 := Aside0.mk (sge1 hg HB GE115 : w.heap.size ≤ gb118); have NB115_118 := Aside0.mk (snl hg BK115 : gb115 ≠ gb118); have NB118_115 := Aside0.mk (snr hg BK115 : gb118 ≠ gb115); replace BK115 := Aside0.mk (sbb BK115 hb); replace HB := Aside0.mk (sbs1 HB GE115 hb); clear hb hbox hg; have hnb23 := NB118_115.out; have hnc23 := NB115_118.out; have hcz24_0 := sc 0 BK118; have hcz24_1 := sc 1 BK118; have hcz24_2 := sc 2 BK118; have hfz24_0 := blk_frozen BK118.out 0; have hfz24_1 := blk_frozen BK118.out 1; have hfz24_2 := blk_frozen BK118.out 2) | (go_at_call 49; (with_reducible refine (posserref03_In.calls ((rd_T85 l0_0 x3_2).f0) 0 9 true _ A13.out).mono ?_); rintro e w' ⟨rfl, ⟨nd, rfl⟩⟩; (try first | exact ⟨rfl, _, World.drewN_drewN _ _ _⟩ | exact ⟨rfl, _, Eq.trans (World.drewN_drewN _ _ _) (congrArg (World.drewN _) (Nat.add_assoc _ _ _))⟩))))
            go_ret
            exact ⟨by first | rfl | (simp [errW_none, errW_some] <;> rfl) | (simp [*, errW_none, errW_some] <;> rfl), (sbe2 HB GE115 GE118)⟩
           ·rw [if_neg c20] at H
            have c20b0 : decide (((rd_T85 l0_0 x3_2).f1.f1) < ((rd_T85 l0_0 x3_2).f1.f0)) = false := decide_eq_false c20
            clear c20
            by_cases c25 : ((rd_T85 l0_0 x3_2).f1.f1) > 7
            ·rw [if_pos c25] at H
             have c25b0 : decide (7 < ((rd_T85 l0_0 x3_2).f1.f1)) = true := decide_eq_true c25
             clear c25
             obtain rfl := Option.some.inj H
             have hcz26_0 := sc 0 BK115
             have hcz26_1 := sc 1 BK115
             have hcz26_2 := sc 2 BK115
             have hfz26_0 := blk_frozen BK115.out 0
             have hfz26_1 := blk_frozen BK115.out 1
             have hfz26_2 := blk_frozen BK115.out 2
             have p117 : 0 ≤ (x3_2 : Int) := of_decide_eq_true (by first | (with_reducible assumption) | assumption)
             have q117 : x3_2 < (l0_0.length : Int) := of_decide_eq_true (by first | (with_reducible assumption) | assumption)
             obtain ⟨ad117, e117, hx117_0, hx117_1, hx117_2⟩ := at_T85 HR0_0.out x3_2 p117 q117
             cases e117
             replace hx117_0 := (HB.out.cell (World.block_lt_of_cell? w _ hx117_0)).trans hx117_0
             replace hx117_1 := (HB.out.cell (World.block_lt_of_cell? w _ hx117_1)).trans hx117_1
             replace hx117_2 := (HB.out.cell (World.block_lt_of_cell? w _ hx117_2)).trans hx117_2
             replace p117 := eq_true p117
             replace q117 := eq_true q117
             go_wp2_with (first | ((with_reducible refine gate_dst (N := 4) rfl ?_); (try (refine gate_guard (by rfl) ?_; dsimp only)); refine sbox (N := 4) #[.int .i64 0, .int .i64 0, .int .i64 0] 85 ?_; intro gb118 hg w27 hbox hb; have BK118 := Aside0.mk (hbox); have GW118 := Aside0.mk (sge1 hg HB GE115 : w.heap.size ≤ gb118); have GE118 := Aside0.mk (sge1 hg HB GE115 : w.heap.size ≤ gb118); have NB115_118 := Aside0.mk (snl hg BK115 : gb115 ≠ gb118); have NB118_115 := Aside0.mk (snr hg BK115 : gb118 ≠ gb115); replace BK115 := Aside0.mk (sbb BK115 hb); replace HB := Aside0.mk (sbs1 HB GE115 hb); clear hb hbox hg; have hnb28 := NB118_115.out; have hnc28 := NB115_118.out; have hcz29_0 := sc 0 BK118; have hcz29_1 := sc 1 BK118; have hcz29_2 := sc 2 BK118; have hfz29_0 := blk_frozen BK118.out 0; have hfz29_1 := blk_frozen BK118.out 1; have hfz29_2 := blk_frozen BK118.out 2) | (go_at_call 49; (with_reducible refine (posserref03_In.calls ((rd_T85 l0_0 x3_2).f0) 0 9 true _ A13.out).mono ?_); rintro e w' ⟨rfl, ⟨nd, rfl⟩⟩; (try first | exact ⟨rfl, _, World.drewN_drewN _ _ _⟩ | exact ⟨rfl, _, Eq.trans (World.drewN_drewN _ _ _) (congrArg (World.drewN _) (Nat.add_assoc _ _ _))⟩)))
             repeat (go_quiet (first | ((with_reducible refine gate_dst (N := 4) rfl ?_); (try (refine gate_guard (by rfl) ?_; dsimp only)); refine sbox (N := 4) #[.int .i64 0, .int .i64 0, .int .i64 0] 85 ?_; intro gb118 hg w27 hbox hb; have BK118 := Aside0.mk (hbox); have GW118 := Aside0.mk (sge1 hg HB GE115 : w.heap.size ≤ gb118); have GE118 := Aside0.mk (sge1 hg HB GE115 : w.heap.size ≤ gb118); have NB115_118 := Aside0.mk (snl hg BK115 : gb115 ≠ gb118); have NB118_115 := Aside0.mk (snr hg BK115 : gb118 ≠ gb115); replace BK115 := Aside0.mk (sbb BK115 hb); replace HB := Aside0.mk (sbs1 HB GE115 hb); clear hb hbox hg; have hnb28 := NB118_115.out; have hnc28 := NB115_118.out; have hcz29_0 := sc 0 BK118; have hcz29_1 := sc 1 BK118; have hcz29_2 := sc 2 BK118; have hfz29_0 := blk_frozen BK118.out 0; have hfz29_1 := blk_frozen BK118.out 1; have hfz29_2 := blk_frozen BK118.out 2) | (go_at_call 49; (with_reducible refine (posserref03_In.calls ((rd_T85 l0_0 x3_2).f0) 0 9 true _ A13.out).mono ?_); rintro e w' ⟨rfl, ⟨nd, rfl⟩⟩; (try first | exact ⟨rfl, _, World.drewN_drewN _ _ _⟩ | exact ⟨rfl, _, Eq.trans (World.drewN_drewN _ _ _) (congrArg (World.drewN _) (Nat.add_assoc _ _ _))⟩))); try go_wp2_with (first | ((with_reducible refine gate_dst (N := 4) rfl ?_); (try (refine gate_guard (by rfl) ?_; dsimp only)); refine sbox (N := 4) #[.int .i64 0, .int .i64 0, .int .i64 0] 85 ?_; intro gb118 hg w27 hbox hb; have BK118 := Aside0.mk (hbox); have GW118 := Aside0.mk (sge1 hg HB GE115 : w.heap.size ≤ gb118); have GE118 := Aside0.mk (sge1 hg HB GE115 : w.heap.size ≤ gb118); have NB115_118 := Aside0.mk (snl hg BK115 : gb115 ≠ gb118); have NB118_115 := Aside0.mk (snr hg BK115 : gb118 ≠ gb115); replace BK115 := Aside0.mk (sbb BK115 hb); replace HB := Aside0.mk (sbs1 HB GE115 hb); clear hb hbox hg; have hnb28 := NB118_115.out; have hnc28 := NB115_118.out; have hcz29_0 := sc 0 BK118; have hcz29_1 := sc 1 BK118; have hcz29_2 := sc 2 BK118; have hfz29_0 := blk_frozen BK118.out 0; have hfz29_1 := blk_frozen BK118.out 1; have hfz29_2 := blk_frozen BK118.out 2) | (go_at_call 49; (with_reducible refine (posserref03_In.calls ((rd_T85 l0_0 x3_2).f0) 0 9 true _ A13.out).mono ?_); rintro e w' ⟨rfl, ⟨nd, rfl⟩⟩; (try first | exact ⟨rfl, _, World.drewN_drewN _ _ _⟩ | exact ⟨rfl, _, Eq.trans (World.drewN_drewN _ _ _) (congrArg (World.drewN _) (Nat.add_assoc _ _ _))⟩))))
             go_ret
             exact ⟨by first | rfl | (simp [errW_none, errW_some] <;> rfl) | (simp [*, errW_none, errW_some] <;> rfl), (sbe2 HB GE115 GE118)⟩
            ·rw [if_neg c25] at H
             have c25b0 : decide (7 < ((rd_T85 l0_0 x3_2).f1.f1)) = false := decide_eq_false c25
             clear c25
             have H' := Aside0.mk H
             clear H
             have hcz30_0 := sc 0 BK115
             have hcz30_1 := sc 1 BK115
             have hcz30_2 := sc 2 BK115
             have hfz30_0 := blk_frozen BK115.out 0
             have hfz30_1 := blk_frozen BK115.out 1
             have hfz30_2 := blk_frozen BK115.out 2
             have p117 : 0 ≤ (x3_2 : Int) := of_decide_eq_true (by first | (with_reducible assumption) | assumption)
             have q117 : x3_2 < (l0_0.length : Int) := of_decide_eq_true (by first | (with_reducible assumption) | assumption)
             obtain ⟨ad117, e117, hx117_0, hx117_1, hx117_2⟩ := at_T85 HR0_0.out x3_2 p117 q117
             cases e117
             replace hx117_0 := (HB.out.cell (World.block_lt_of_cell? w _ hx117_0)).trans hx117_0
             replace hx117_1 := (HB.out.cell (World.block_lt_of_cell? w _ hx117_1)).trans hx117_1
             replace hx117_2 := (HB.out.cell (World.block_lt_of_cell? w _ hx117_2)).trans hx117_2
             replace p117 := eq_true p117
             replace q117 := eq_true q117
             go_wp2_with (first | ((with_reducible refine gate_dst (N := 4) rfl ?_); (try (refine gate_guard (by rfl) ?_; dsimp only)); refine sbox (N := 4) #[.int .i64 0, .int .i64 0, .int .i64 0] 85 ?_; intro gb118 hg w31 hbox hb; have BK118 := Aside0.mk (hbox); have GW118 := Aside0.mk (sge1 hg HB GE115 : w.heap.size ≤ gb118); have GE118 := Aside0.mk (sge1 hg HB GE115 : w.heap.size ≤ gb118); have NB115_118 := Aside0.mk (snl hg BK115 : gb115 ≠ gb118); have NB118_115 := Aside0.mk (snr hg BK115 : gb118 ≠ gb115); replace BK115 := Aside0.mk (sbb BK115 hb); replace HB := Aside0.mk (sbs1 HB GE115 hb); clear hb hbox hg; have hnb32 := NB118_115.out; have hnc32 := NB115_118.out; have hcz33_0 := sc 0 BK118; have hcz33_1 := sc 1 BK118; have hcz33_2 := sc 2 BK118; have hfz33_0 := blk_frozen BK118.out 0; have hfz33_1 := blk_frozen BK118.out 1; have hfz33_2 := blk_frozen BK118.out 2) | (go_at_call 49; (with_reducible refine (posserref03_In.calls ((rd_T85 l0_0 x3_2).f0) 0 9 true _ A13.out).mono ?_); rintro e w' ⟨rfl, ⟨nd, rfl⟩⟩; (try first | exact ⟨rfl, _, World.drewN_drewN _ _ _⟩ | exact ⟨rfl, _, Eq.trans (World.drewN_drewN _ _ _) (congrArg (World.drewN _) (Nat.add_assoc _ _ _))⟩)))
             repeat (go_quiet (first | ((with_reducible refine gate_dst (N := 4) rfl ?_); (try (refine gate_guard (by rfl) ?_; dsimp only)); refine sbox (N := 4) #[.int .i64 0, .int .i64 0, .int .i64 0] 85 ?_; intro gb118 hg w31 hbox hb; have BK118 := Aside0.mk (hbox); have GW118 := Aside0.mk (sge1 hg HB GE115 : w.heap.size ≤ gb118); have GE118 := Aside0.mk (sge1 hg HB GE115 : w.heap.size ≤ gb118); have NB115_118 := Aside0.mk (snl hg BK115 : gb115 ≠ gb118); have NB118_115 := Aside0.mk (snr hg BK115 : gb118 ≠ gb115); replace BK115 := Aside0.mk (sbb BK115 hb); replace HB := Aside0.mk (sbs1 HB GE115 hb); clear hb hbox hg; have hnb32 := NB118_115.out; have hnc32 := NB115_118.out; have hcz33_0 := sc 0 BK118; have hcz33_1 := sc 1 BK118; have hcz33_2 := sc 2 BK118; have hfz33_0 := blk_frozen BK118.out 0; have hfz33_1 := blk_frozen BK118.out 1; have hfz33_2 := blk_frozen BK118.out 2) | (go_at_call 49; (with_reducible refine (posserref03_In.calls ((rd_T85 l0_0 x3_2).f0) 0 9 true _ A13.out).mono ?_); rintro e w' ⟨rfl, ⟨nd, rfl⟩⟩; (try first | exact ⟨rfl, _, World.drewN_drewN _ _ _⟩ | exact ⟨rfl, _, Eq.trans (World.drewN_drewN _ _ _) (congrArg (World.drewN _) (Nat.add_assoc _ _ _))⟩))); try go_wp2_with (first | ((with_reducible refine gate_dst (N := 4) rfl ?_); (try (refine gate_guard (by rfl) ?_; dsimp only)); refine sbox (N := 4) #[.int .i64 0, .int .i64 0, .int .i64 0] 85 ?_; intro gb118 hg w31 hbox hb; have BK118 := Aside0.mk (hbox); have GW118 := Aside0.mk (sge1 hg HB GE115 : w.heap.size ≤ gb118); have GE118 := Aside0.mk (sge1 hg HB GE115 : w.heap.size ≤ gb118); have NB115_118 := Aside0.mk (snl hg BK115 : gb115 ≠ gb118); have NB118_115 := Aside0.mk (snr hg BK115 : gb118 ≠ gb115); replace BK115 := Aside0.mk (sbb BK115 hb); replace HB := Aside0.mk (sbs1 HB GE115 hb); clear hb hbox hg; have hnb32 := NB118_115.out; have hnc32 := NB115_118.out; have hcz33_0 := sc 0 BK118; have hcz33_1 := sc 1 BK118; have hcz33_2 := sc 2 BK118; have hfz33_0 := blk_frozen BK118.out 0; have hfz33_1 := blk_frozen BK118.out 1; have hfz33_2 := blk_frozen BK118.out 2) | (go_at_call 49; (with_reducible refine (posserref03_In.calls ((rd_T85 l0_0 x3_2).f0) 0 9 true _ A13.out).mono ?_); rintro e w' ⟨rfl, ⟨nd, rfl⟩⟩; (try first | exact ⟨rfl, _, World.drewN_drewN _ _ _⟩ | exact ⟨rfl, _, Eq.trans (World.drewN_drewN _ _ _) (congrArg (World.drewN _) (Nat.add_assoc _ _ _))⟩))))
             go_roundg k2
             case measure => have := HJ1.out; have := HK2.out; omega
             case rel => exact ⟨(wrap64 (x3_2 + 1)), (by first | rfl | (simp; done) | (simp [*]; done)), H', ⟨by have := HJ1.out; have := HK2.out; omega⟩, ⟨by (with_reducible repeat (first | refine blk_drewN ?_ _ | refine blk_drew ?_ | refine blk_alloc ?_ _)); refine blk_far ?_ NB115_118.out _; (with_reducible repeat (first | refine blk_drewN ?_ _ | refine blk_drew ?_ | refine blk_alloc ?_ _)); refine blk_far ?_ NB115_118.out _; (with_reducible repeat (first | refine blk_drewN ?_ _ | refine blk_drew ?_ | refine blk_alloc ?_ _)); refine blk_far ?_ NB115_118.out _; (with_reducible repeat (first | refine blk_drewN ?_ _ | refine blk_drew ?_ | refine blk_alloc ?_ _)); exact BK115.out⟩, ⟨(sbe2 HB GE115 GE118)⟩⟩
         ·replace c14 := Bool.eq_false_iff.mpr c14
          subst c14
          have H1 : (some 1) = some r := by rw [if_neg (show ¬ (false = true) by decide)] at H; exact H
          clear H
          have H := H1
          clear H1
          obtain rfl := Option.some.inj H
          have hcz34_0 := sc 0 BK115
          have hcz34_1 := sc 1 BK115
          have hcz34_2 := sc 2 BK115
          have hfz34_0 := blk_frozen BK115.out 0
          have hfz34_1 := blk_frozen BK115.out 1
          have hfz34_2 := blk_frozen BK115.out 2
          have p117 : 0 ≤ (x3_2 : Int) := of_decide_eq_true (by first | (with_reducible assumption) | assumption)
          have q117 : x3_2 < (l0_0.length : Int) := of_decide_eq_true (by first | (with_reducible assumption) | assumption)
          obtain ⟨ad117, e117, hx117_0, hx117_1, hx117_2⟩ := at_T85 HR0_0.out x3_2 p117 q117
          cases e117
          replace hx117_0 := (HB.out.cell (World.block_lt_of_cell? w _ hx117_0)).trans hx117_0
          replace hx117_1 := (HB.out.cell (World.block_lt_of_cell? w _ hx117_1)).trans hx117_1
          replace hx117_2 := (HB.out.cell (World.block_lt_of_cell? w _ hx117_2)).trans hx117_2
          replace p117 := eq_true p117
          replace q117 := eq_true q117
          go_wp2_with (first | ((with_reducible refine gate_dst (N := 4) rfl ?_); (try (refine gate_guard (by rfl) ?_; dsimp only)); refine sbox (N := 4) #[.int .i64 0, .int .i64 0, .int .i64 0] 85 ?_; intro gb118 hg w35 hbox hb; have BK118 := Aside0.mk (hbox); have GW118 := Aside0.mk (sge1 hg HB GE115 : w.heap.size ≤ gb118); have GE118 := Aside0.mk (sge1 hg HB GE115 : w.heap.size ≤ gb118); have NB115_118 := Aside0.mk (snl hg BK115 : gb115 ≠ gb118); have NB118_115 := Aside0.mk (snr hg BK115 : gb118 ≠ gb115); replace BK115 := Aside0.mk (sbb BK115 hb); replace HB := Aside0.mk (sbs1 HB GE115 hb); clear hb hbox hg; have hnb36 := NB118_115.out; have hnc36 := NB115_118.out; have hcz37_0 := sc 0 BK118; have hcz37_1 := sc 1 BK118; have hcz37_2 := sc 2 BK118; have hfz37_0 := blk_frozen BK118.out 0; have hfz37_1 := blk_frozen BK118.out 1; have hfz37_2 := blk_frozen BK118.out 2) | (go_at_call 49; (with_reducible refine (posserref03_In.calls ((rd_T85 l0_0 x3_2).f0) 0 9 false _ A13.out).mono ?_); rintro e w' ⟨rfl, ⟨nd, rfl⟩⟩; (try first | exact ⟨rfl, _, World.drewN_drewN _ _ _⟩ | exact ⟨rfl, _, Eq.trans (World.drewN_drewN _ _ _) (congrArg (World.drewN _) (Nat.add_assoc _ _ _))⟩)))
          repeat (go_quiet (first | ((with_reducible refine gate_dst (N := 4) rfl ?_); (try (refine gate_guard (by rfl) ?_; dsimp only)); refine sbox (N := 4) #[.int .i64 0, .int .i64 0, .int .i64 0] 85 ?_; intro gb118 hg w35 hbox hb; have BK118 := Aside0.mk (hbox); have GW118 := Aside0.mk (sge1 hg HB GE115 : w.heap.size ≤ gb118); have GE118 := Aside0.mk (sge1 hg HB GE115 : w.heap.size ≤ gb118); have NB115_118 := Aside0.mk (snl hg BK115 : gb115 ≠ gb118); have NB118_115 := Aside0.mk (snr hg BK115 : gb118 ≠ gb115); replace BK115 := Aside0.mk (sbb BK115 hb); replace HB := Aside0.mk (sbs1 HB GE115 hb); clear hb hbox hg; have hnb36 := NB118_115.out; have hnc36 := NB115_118.out; have hcz37_0 := sc 0 BK118; have hcz37_1 := sc 1 BK118; have hcz37_2 := sc 2 BK118; have hfz37_0 := blk_frozen BK118.out 0; have hfz37_1 := blk_frozen BK118.out 1; have hfz37_2 := blk_frozen BK118.out 2) | (go_at_call 49; (with_reducible refine (posserref03_In.calls ((rd_T85 l0_0 x3_2).f0) 0 9 false _ A13.out).mono ?_); rintro e w' ⟨rfl, ⟨nd, rfl⟩⟩; (try first | exact ⟨rfl, _, World.drewN_drewN _ _ _⟩ | exact ⟨rfl, _, Eq.trans (World.drewN_drewN _ _ _) (congrArg (World.drewN _) (Nat.add_assoc _ _ _))⟩))); try go_wp2_with (first | ((with_reducible refine gate_dst (N := 4) rfl ?_); (try (refine gate_guard (by rfl) ?_; dsimp only)); refine sbox (N := 4) #[.int .i64 0, .int .i64 0, .int .i64 0] 85 ?_; intro gb118 hg w35 hbox hb; have BK118 := Aside0.mk (hbox); have GW118 := Aside0.mk (sge1 hg HB GE115 : w.heap.size ≤ gb118); have GE118 := Aside0.mk (sge1 hg HB GE115 : w.heap.size ≤ gb118); have NB115_118 := Aside0.mk (snl hg BK115 : gb115 ≠ gb118); have NB118_115 := Aside0.mk (snr hg BK115 : gb118 ≠ gb115); replace BK115 := Aside0.mk (sbb BK115 hb); replace HB := Aside0.mk (sbs1 HB GE115 hb); clear hb hbox hg; have hnb36 := NB118_115.out; have hnc36 := NB115_118.out; have hcz37_0 := sc 0 BK118; have hcz37_1 := sc 1 BK118; have hcz37_2 := sc 2 BK118; have hfz37_0 := blk_frozen BK118.out 0; have hfz37_1 := blk_frozen BK118.out 1; have hfz37_2 := blk_frozen BK118.out 2) | (go_at_call 49; (with_reducible refine (posserref03_In.calls ((rd_T85 l0_0 x3_2).f0) 0 9 false _ A13.out).mono ?_); rintro e w' ⟨rfl, ⟨nd, rfl⟩⟩; (try first | exact ⟨rfl, _, World.drewN_drewN _ _ _⟩ | exact ⟨rfl, _, Eq.trans (World.drewN_drewN _ _ _) (congrArg (World.drewN _) (Nat.add_assoc _ _ _))⟩))))
          go_ret
          exact ⟨by first | rfl | (simp [errW_none, errW_some] <;> rfl) | (simp [*, errW_none, errW_some] <;> rfl), (sbe2 HB GE115 GE118)⟩
        ·rw [if_neg c12] at H
         exact absurd H (by simp)
       ·rw [if_neg c11] at H
        have c11b0 : decide (x3_2 < (l0_0.length : Int)) = false := decide_eq_false c11
        clear c11
        have H' := Aside0.mk H
        clear H
        have hcz38_0 := sc 0 BK115
        have hcz38_1 := sc 1 BK115
        have hcz38_2 := sc 2 BK115
        have hfz38_0 := blk_frozen BK115.out 0
        have hfz38_1 := blk_frozen BK115.out 1
        have hfz38_2 := blk_frozen BK115.out 2
        go_wp2
        repeat (go_quiet (fail); try go_wp2)
        go_loopg [5] k2 (fun kq v5 w' => ∃ (x5_3 : Int), v5 = .int .i64 x5_3 ∧ Aside0 (posserref03_Fault.l1 kq x5_3 l0_0 l0_1 a0_2 = some r) ∧ Aside0 (kq ≤ k2) ∧ Aside0 (w'.heap[gb115]? = some (.cells #[(.slice A0_0 l0_0.length c0_0), (.slice A0_1 l0_1.length c0_1), .int .i64 a0_2] 25 (0, 0))) ∧ Aside0 (Below w.heap.size w w'))
        case atStart => exact ⟨(0), (by first | rfl | (simp; done) | (simp [*]; done)), H', ⟨Nat.le_refl _⟩, ⟨by (with_reducible repeat (first | refine blk_drewN ?_ _ | refine blk_drew ?_ | refine blk_alloc ?_ _)); exact BK115.out⟩, ⟨(sbe1 HB GE115)⟩⟩
        case round =>
         clear H'
         try clear c1
         try clear p1
         try clear q1
         try clear hx1
         try clear c2
         try clear p2
         try clear c3
         try clear c4
         try clear c4b0
         try clear c4b1
         try clear p6
         try clear c7
         try clear c9
         try clear c11
         try clear c11b0
         try clear p11
         try clear q11
         try clear hx11
         try clear c12
         try clear c12b0
         try clear c14
         try clear c15
         try clear c15b0
         try clear c18
         try clear c20
         try clear c20b0
         try clear c23
         try clear c25
         try clear c25b0
         try clear c28
         try clear c32
         try clear c36
         try clear hcz10_0
         try clear hcz10_1
         try clear hcz10_2
         try clear hcz16_0
         try clear hcz16_1
         try clear hcz16_2
         try clear hcz19_0
         try clear hcz19_1
         try clear hcz19_2
         try clear hcz21_0
         try clear hcz21_1
         try clear hcz21_2
         try clear hcz24_0
         try clear hcz24_1
         try clear hcz24_2
         try clear hcz26_0
         try clear hcz26_1
         try clear hcz26_2
         try clear hcz29_0
         try clear hcz29_1
         try clear hcz29_2
         try clear hcz30_0
         try clear hcz30_1
         try clear hcz30_2
         try clear hcz33_0
         try clear hcz33_1
         try clear hcz33_2
         try clear hcz34_0
         try clear hcz34_1
         try clear hcz34_2
         try clear hcz37_0
         try clear hcz37_1
         try clear hcz37_2
         try clear hcz38_0
         try clear hcz38_1
         try clear hcz38_2
         try clear hcz5_0
         try clear hcz5_1
         try clear hcz5_2
         try clear hcz6_0
         try clear hcz6_1
         try clear hcz6_2
         try clear hfz10_0
         try clear hfz10_1
         try clear hfz10_2
         try clear hfz16_0
         try clear hfz16_1
         try clear hfz16_2
         try clear hfz19_0
         try clear hfz19_1
         try clear hfz19_2
         try clear hfz21_0
         try clear hfz21_1
         try clear hfz21_2
         try clear hfz24_0
         try clear hfz24_1
         try clear hfz24_2
         try clear hfz26_0
         try clear hfz26_1
         try clear hfz26_2
         try clear hfz29_0
         try clear hfz29_1
         try clear hfz29_2
         try clear hfz30_0
         try clear hfz30_1
         try clear hfz30_2
         try clear hfz33_0
         try clear hfz33_1
         try clear hfz33_2
         try clear hfz34_0
         try clear hfz34_1
         try clear hfz34_2
         try clear hfz37_0
         try clear hfz37_1
         try clear hfz37_2
         try clear hfz38_0
         try clear hfz38_1
         try clear hfz38_2
         try clear hfz5_0
         try clear hfz5_1
         try clear hfz5_2
         try clear hfz6_0
         try clear hfz6_1
         try clear hfz6_2
         try clear hx117_0
         try clear hx117_1
         try clear hx117_2
         try clear p117
         try clear p2
         try clear q117
         obtain ⟨x5_3, rfl, HA, HK3, BK115, HB⟩ := hrel
         cases gk with
         | zero => exact absurd HA.out (by simp [posserref03_Fault.l1])
         | succ k3 =>
          have H := HA.out
          clear HA
          simp only [posserref03_Fault.l1] at H
          by_cases c39 : x5_3 < (l0_1.length : Int)
          ·rw [if_pos c39] at H
           have c39b0 : decide (x5_3 < (l0_1.length : Int)) = true := decide_eq_true c39
           clear c39
           by_cases c40 : 0 ≤ x5_3
           ·rw [if_pos c40] at H
            have c40b0 : decide (0 ≤ x5_3) = true := decide_eq_true c40
            clear c40
            have H' := Aside0.mk H
            clear H
            have hcz41_0 := sc 0 BK115
            have hcz41_1 := sc 1 BK115
            have hcz41_2 := sc 2 BK115
            have hfz41_0 := blk_frozen BK115.out 0
            have hfz41_1 := blk_frozen BK115.out 1
            have hfz41_2 := blk_frozen BK115.out 2
            have p121 : 0 ≤ (x5_3 : Int) := of_decide_eq_true (by first | (with_reducible assumption) | assumption)
            have q121 : x5_3 < (l0_1.length : Int) := of_decide_eq_true (by first | (with_reducible assumption) | assumption)
            obtain ⟨ad121, A121_0, c121_0, e121, hx121_0, hx121_1, hl121_0, hi121_0⟩ := at_T71 HR0_1.out x5_3 p121 q121
            cases e121
            replace hx121_0 := (HB.out.cell (World.block_lt_of_cell? w _ hx121_0)).trans hx121_0
            replace hx121_1 := (HB.out.cell (World.block_lt_of_cell? w _ hx121_1)).trans hx121_1
            have HR121_0 := Aside0.mk hi121_0
            have HC121_0 := Aside0.mk hl121_0
            clear hi121_0 hl121_0
            replace p121 := eq_true p121
            replace q121 := eq_true q121
            go_wp2_with (first | ((with_reducible refine gate_dst (N := 6) rfl ?_); (try (refine gate_guard (by rfl) ?_; dsimp only)); refine sbox (N := 6) #[.slice none 0 0, .int .i64 0] 71 ?_; intro gb122 hg w42 hbox hb; have BK122 := Aside0.mk (hbox); have GW122 := Aside0.mk (sge1 hg HB GE115 : w.heap.size ≤ gb122); have GE122 := Aside0.mk (sge1 hg HB GE115 : w.heap.size ≤ gb122); have NB115_122 := Aside0.mk (snl hg BK115 : gb115 ≠ gb122); have NB122_115 := Aside0.mk (snr hg BK115 : gb122 ≠ gb115); replace BK115 := Aside0.mk (sbb BK115 hb); replace HB := Aside0.mk (sbs1 HB GE115 hb); clear hb hbox hg; have hnb43 := NB122_115.out; have hnc43 := NB115_122.out; have hcz44_0 := sc 0 BK122; have hcz44_1 := sc 1 BK122; have hfz44_0 := blk_frozen BK122.out 0; have hfz44_1 := blk_frozen BK122.out 1))
            repeat (go_quiet (first | ((with_reducible refine gate_dst (N := 6) rfl ?_); (try (refine gate_guard (by rfl) ?_; dsimp only)); refine sbox (N := 6) #[.slice none 0 0, .int .i64 0] 71 ?_; intro gb122 hg w42 hbox hb; have BK122 := Aside0.mk (hbox); have GW122 := Aside0.mk (sge1 hg HB GE115 : w.heap.size ≤ gb122); have GE122 := Aside0.mk (sge1 hg HB GE115 : w.heap.size ≤ gb122); have NB115_122 := Aside0.mk (snl hg BK115 : gb115 ≠ gb122); have NB122_115 := Aside0.mk (snr hg BK115 : gb122 ≠ gb115); replace BK115 := Aside0.mk (sbb BK115 hb); replace HB := Aside0.mk (sbs1 HB GE115 hb); clear hb hbox hg; have hnb43 := NB122_115.out; have hnc43 := NB115_122.out; have hcz44_0 := sc 0 BK122; have hcz44_1 := sc 1 BK122; have hfz44_0 := blk_frozen BK122.out 0; have hfz44_1 := blk_frozen BK122.out 1)); try go_wp2_with (first | ((with_reducible refine gate_dst (N := 6) rfl ?_); (try (refine gate_guard (by rfl) ?_; dsimp only)); refine sbox (N := 6) #[.slice none 0 0, .int .i64 0] 71 ?_; intro gb122 hg w42 hbox hb; have BK122 := Aside0.mk (hbox); have GW122 := Aside0.mk (sge1 hg HB GE115 : w.heap.size ≤ gb122); have GE122 := Aside0.mk (sge1 hg HB GE115 : w.heap.size ≤ gb122); have NB115_122 := Aside0.mk (snl hg BK115 : gb115 ≠ gb122); have NB122_115 := Aside0.mk (snr hg BK115 : gb122 ≠ gb115); replace BK115 := Aside0.mk (sbb BK115 hb); replace HB := Aside0.mk (sbs1 HB GE115 hb); clear hb hbox hg; have hnb43 := NB122_115.out; have hnc43 := NB115_122.out; have hcz44_0 := sc 0 BK122; have hcz44_1 := sc 1 BK122; have hfz44_0 := blk_frozen BK122.out 0; have hfz44_1 := blk_frozen BK122.out 1)))
            go_loopg [7] k3 (fun kq v7 w' => ∃ (x7_4 : Int), v7 = .int .i64 x7_4 ∧ Aside0 (posserref03_Fault.l2 kq x5_3 x7_4 l0_0 l0_1 a0_2 ((rd_T71 l0_1 x5_3).f0) ((rd_T71 l0_1 x5_3).f1) = some r) ∧ Aside0 (kq ≤ k3) ∧ Aside0 (w'.heap[gb115]? = some (.cells #[(.slice A0_0 l0_0.length c0_0), (.slice (some ad121) l0_1.length c0_1), .int .i64 a0_2] 25 (0, 0))) ∧ Aside0 (w'.heap[gb122]? = some (.cells #[(.slice A121_0 ((rd_T71 l0_1 x5_3).f0).length c121_0), .int .i64 ((rd_T71 l0_1 x5_3).f1)] 71 (0, 0))) ∧ Aside0 (Below w.heap.size w w'))
            case atStart => exact ⟨(0), (by first | rfl | (simp; done) | (simp [*]; done)), H', ⟨Nat.le_refl _⟩, ⟨by (with_reducible repeat (first | refine blk_drewN ?_ _ | refine blk_drew ?_ | refine blk_alloc ?_ _)); refine blk_far ?_ NB115_122.out _; (with_reducible repeat (first | refine blk_drewN ?_ _ | refine blk_drew ?_ | refine blk_alloc ?_ _)); refine blk_far ?_ NB115_122.out _; (with_reducible repeat (first | refine blk_drewN ?_ _ | refine blk_drew ?_ | refine blk_alloc ?_ _)); exact BK115.out⟩, ⟨by (with_reducible repeat (first | refine blk_drewN ?_ _ | refine blk_drew ?_ | refine blk_alloc ?_ _)); refine blk_put (cs := #[.slice A121_0 ((rd_T71 l0_1 x5_3).f0).length c121_0, .int .i64 0]) ?_ 1 _ rfl; (with_reducible repeat (first | refine blk_drewN ?_ _ | refine blk_drew ?_ | refine blk_alloc ?_ _)); refine blk_put (cs := #[.slice none 0 0, .int .i64 0]) ?_ 0 _ rfl; (with_reducible repeat (first | refine blk_drewN ?_ _ | refine blk_drew ?_ | refine blk_alloc ?_ _)); exact BK122.out⟩, ⟨(sbe2 HB GE115 GE122)⟩⟩
            case round =>
             clear H'
             try clear c1
             try clear p1
             try clear q1
             try clear hx1
             try clear c2
             try clear p2
             try clear c3
             try clear c4
             try clear c4b0
             try clear c4b1
             try clear p6
             try clear c7
             try clear c9
             try clear c11
             try clear c11b0
             try clear p11
             try clear q11
             try clear hx11
             try clear c12
             try clear c12b0
             try clear p12
             try clear q12
             try clear hx12
             try clear c14
             try clear c15
             try clear c15b0
             try clear c18
             try clear c20
             try clear c20b0
             try clear c23
             try clear c25
             try clear c25b0
             try clear c28
             try clear c32
             try clear c36
             try clear c39
             try clear c39b0
             try clear c40
             try clear c40b0
             try clear c43
             try clear hcz10_0
             try clear hcz10_1
             try clear hcz10_2
             try clear hcz16_0
             try clear hcz16_1
             try clear hcz16_2
             try clear hcz19_0
             try clear hcz19_1
             try clear hcz19_2
             try clear hcz21_0
             try clear hcz21_1
             try clear hcz21_2
             try clear hcz24_0
             try clear hcz24_1
             try clear hcz24_2
             try clear hcz26_0
             try clear hcz26_1
             try clear hcz26_2
             try clear hcz29_0
             try clear hcz29_1
             try clear hcz29_2
             try clear hcz30_0
             try clear hcz30_1
             try clear hcz30_2
             try clear hcz33_0
             try clear hcz33_1
             try clear hcz33_2
             try clear hcz34_0
             try clear hcz34_1
             try clear hcz34_2
             try clear hcz37_0
             try clear hcz37_1
             try clear hcz37_2
             try clear hcz38_0
             try clear hcz38_1
             try clear hcz38_2
             try clear hcz41_0
             try clear hcz41_1
             try clear hcz41_2
             try clear hcz44_0
             try clear hcz44_1
             try clear hcz5_0
             try clear hcz5_1
             try clear hcz5_2
             try clear hcz6_0
             try clear hcz6_1
             try clear hcz6_2
             try clear hfz10_0
             try clear hfz10_1
             try clear hfz10_2
             try clear hfz16_0
             try clear hfz16_1
             try clear hfz16_2
             try clear hfz19_0
             try clear hfz19_1
             try clear hfz19_2
             try clear hfz21_0
             try clear hfz21_1
             try clear hfz21_2
             try clear hfz24_0
             try clear hfz24_1
             try clear hfz24_2
             try clear hfz26_0
             try clear hfz26_1
             try clear hfz26_2
             try clear hfz29_0
             try clear hfz29_1
             try clear hfz29_2
             try clear hfz30_0
             try clear hfz30_1
             try clear hfz30_2
             try clear hfz33_0
             try clear hfz33_1
             try clear hfz33_2
             try clear hfz34_0
             try clear hfz34_1
             try clear hfz34_2
             try clear hfz37_0
             try clear hfz37_1
             try clear hfz37_2
             try clear hfz38_0
             try clear hfz38_1
             try clear hfz38_2
             try clear hfz41_0
             try clear hfz41_1
             try clear hfz41_2
             try clear hfz44_0
             try clear hfz44_1
             try clear hfz5_0
             try clear hfz5_1
             try clear hfz5_2
             try clear hfz6_0
             try clear hfz6_1
             try clear hfz6_2
             try clear hx117_0
             try clear hx117_1
             try clear hx117_2
             try clear hx121_0
             try clear hx121_1
             try clear p1
             try clear p11
             try clear p117
             try clear p121
             try clear p2
             try clear p6
             try clear q1
             try clear q11
             try clear q117
             try clear q121
             obtain ⟨x7_4, rfl, HA, HK4, BK115, BK122, HB⟩ := hrel
             cases gk with
             | zero => exact absurd HA.out (by simp [posserref03_Fault.l2])
             | succ k4 =>
              have H := HA.out
              clear HA
              simp only [posserref03_Fault.l2] at H
              by_cases c45 : x7_4 < (((rd_T71 l0_1 x5_3).f0).length : Int)
              ·rw [if_pos c45] at H
               have c45b0 : decide (x7_4 < (((rd_T71 l0_1 x5_3).f0).length : Int)) = true := decide_eq_true c45
               clear c45
               by_cases c46 : 0 ≤ x7_4
               ·rw [if_pos c46] at H
                have c46b0 : decide (0 ≤ x7_4) = true := decide_eq_true c46
                clear c46
                replace H := Option.bind_eq_some_iff.mp H
                obtain ⟨t124, A470, H⟩ := H
                replace H : (if t124 = true then (if x7_4 > 0 then (if 0 ≤ (wrap64 (x7_4 - 1)) then (if (wrap64 (x7_4 - 1)) < (((rd_T71 l0_1 x5_3).f0).length : Int) then (if (rd ((rd_T71 l0_1 x5_3).f0) x7_4) ≤ (rd ((rd_T71 l0_1 x5_3).f0) (wrap64 (x7_4 - 1))) then (some 1) else (posserref03_Fault.l2 k4 x5_3 (wrap64 (x7_4 + 1)) l0_0 l0_1 a0_2 ((rd_T71 l0_1 x5_3).f0) ((rd_T71 l0_1 x5_3).f1))) else (none)) else (none)) else (posserref03_Fault.l2 k4 x5_3 (wrap64 (x7_4 + 1)) l0_0 l0_1 a0_2 ((rd_T71 l0_1 x5_3).f0) ((rd_T71 l0_1 x5_3).f1))) else (some 1)) = some r := H
                have A47 := Aside0.mk A470
                clear A470
                by_cases c48 : t124 = true
                ·subst c48
                 have H1 : (if x7_4 > 0 then (if 0 ≤ (wrap64 (x7_4 - 1)) then (if (wrap64 (x7_4 - 1)) < (((rd_T71 l0_1 x5_3).f0).length : Int) then (if (rd ((rd_T71 l0_1 x5_3).f0) x7_4) ≤ (rd ((rd_T71 l0_1 x5_3).f0) (wrap64 (x7_4 - 1))) then (some 1) else (posserref03_Fault.l2 k4 x5_3 (wrap64 (x7_4 + 1)) l0_0 l0_1 a0_2 ((rd_T71 l0_1 x5_3).f0) ((rd_T71 l0_1 x5_3).f1))) else (none)) else (none)) else (posserref03_Fault.l2 k4 x5_3 (wrap64 (x7_4 + 1)) l0_0 l0_1 a0_2 ((rd_T71 l0_1 x5_3).f0) ((rd_T71 l0_1 x5_3).f1))) = some r := by rw [if_pos rfl] at H; exact H
                 clear H
                 have H := H1
                 clear H1
                 by_cases c49 : x7_4 > 0
                 ·rw [if_pos c49] at H
                  have c49b0 : decide (0 < x7_4) = true := decide_eq_true c49
                  clear c49
                  obtain ⟨ji50, hji50⟩ : ∃ j_ : Int, (wrap64 (x7_4 - 1)) = j_ := ⟨_, rfl⟩
                  replace H : (if 0 ≤ (ji50) then (if (ji50) < (((rd_T71 l0_1 x5_3).f0).length : Int) then (if (rd ((rd_T71 l0_1 x5_3).f0) x7_4) ≤ (rd ((rd_T71 l0_1 x5_3).f0) (ji50)) then (some 1) else (posserref03_Fault.l2 k4 x5_3 (wrap64 (x7_4 + 1)) l0_0 l0_1 a0_2 ((rd_T71 l0_1 x5_3).f0) ((rd_T71 l0_1 x5_3).f1))) else (none)) else (none)) = some r := by first | (rw [hji50] at H; exact H) | (simp only [hji50] at H ⊢; exact H)
                  (try rw [hji50] at A47)
                  have hji50w : (IntKind.i64.wrap (x7_4 - 1)) = ji50 := (i64_w _).trans hji50
                  by_cases c51 : 0 ≤ (ji50)
                  ·rw [if_pos c51] at H
                   have c51b0 : decide (0 ≤ (ji50)) = true := decide_eq_true c51
                   clear c51
                   by_cases c52 : (ji50) < (((rd_T71 l0_1 x5_3).f0).length : Int)
                   ·rw [if_pos c52] at H
                    have c52b0 : decide ((ji50) < (((rd_T71 l0_1 x5_3).f0).length : Int)) = true := decide_eq_true c52
                    clear c52
                    by_cases c53 : (rd ((rd_T71 l0_1 x5_3).f0) x7_4) ≤ (rd ((rd_T71 l0_1 x5_3).f0) (ji50))
                    ·rw [if_pos c53] at H
                     have c53b0 : decide ((rd ((rd_T71 l0_1 x5_3).f0) x7_4) ≤ (rd ((rd_T71 l0_1 x5_3).f0) (ji50))) = true := decide_eq_true c53
                     clear c53
                     obtain rfl := Option.some.inj H
                     have hnb54 := NB122_115.out
                     have hnc54 := NB115_122.out
                     have hcz55_0 := sc 0 BK122
                     have hcz55_1 := sc 1 BK122
                     have hfz55_0 := blk_frozen BK122.out 0
                     have hfz55_1 := blk_frozen BK122.out 1
                     have p123 : 0 ≤ (x7_4 : Int) := of_decide_eq_true (by first | (with_reducible assumption) | assumption)
                     have q123 : x7_4 < (((rd_T71 l0_1 x5_3).f0).length : Int) := of_decide_eq_true (by first | (with_reducible assumption) | assumption)
                     obtain ⟨ad123, e123, hx123_0⟩ := Kd.at_int HR121_0.out x7_4 p123 q123
                     cases e123
                     replace hx123_0 := (HB.out.cell (World.block_lt_of_cell? w _ hx123_0)).trans hx123_0
                     replace p123 := eq_true p123
                     replace q123 := eq_true q123
                     go_wp2_with (first | (go_at_call 49; (with_reducible refine (posserref03_In.calls (rd ((rd_T71 l0_1 x5_3).f0) x7_4) 0 9 true _ A47.out).mono ?_); rintro e w' ⟨rfl, ⟨nd, rfl⟩⟩; (try first | exact ⟨rfl, _, World.drewN_drewN _ _ _⟩ | exact ⟨rfl, _, Eq.trans (World.drewN_drewN _ _ _) (congrArg (World.drewN _) (Nat.add_assoc _ _ _))⟩); have p125 : 0 ≤ (x7_4 : Int) := of_decide_eq_true (by first | (with_reducible assumption) | assumption); have q125 : x7_4 < (((rd_T71 l0_1 x5_3).f0).length : Int) := of_decide_eq_true (by first | (with_reducible assumption) | assumption); obtain ⟨ad125, e125, hx125_0⟩ := Kd.at_int HR121_0.out x7_4 p125 q125; obtain rfl : ad123 = ad125 := (by injection e125); replace hx125_0 := (HB.out.cell (World.block_lt_of_cell? w _ hx125_0)).trans hx125_0; replace p125 := eq_true p125; replace q125 := eq_true q125; have p126 : 0 ≤ ((ji50) : Int) := of_decide_eq_true (by first | (with_reducible assumption) | assumption); have q126 : (ji50) < (((rd_T71 l0_1 x5_3).f0).length : Int) := of_decide_eq_true (by first | (with_reducible assumption) | assumption); obtain ⟨ad126, e126, hx126_0⟩ := Kd.at_int HR121_0.out (ji50) p126 q126; obtain rfl : ad123 = ad126 := (by injection e126); replace hx126_0 := (HB.out.cell (World.block_lt_of_cell? w _ hx126_0)).trans hx126_0; replace p126 := eq_true p126; replace q126 := eq_true q126))
                     repeat (go_quiet (first | (go_at_call 49; (with_reducible refine (posserref03_In.calls (rd ((rd_T71 l0_1 x5_3).f0) x7_4) 0 9 true _ A47.out).mono ?_); rintro e w' ⟨rfl, ⟨nd, rfl⟩⟩; (try first | exact ⟨rfl, _, World.drewN_drewN _ _ _⟩ | exact ⟨rfl, _, Eq.trans (World.drewN_drewN _ _ _) (congrArg (World.drewN _) (Nat.add_assoc _ _ _))⟩); have p125 : 0 ≤ (x7_4 : Int) := of_decide_eq_true (by first | (with_reducible assumption) | assumption); have q125 : x7_4 < (((rd_T71 l0_1 x5_3).f0).length : Int) := of_decide_eq_true (by first | (with_reducible assumption) | assumption); obtain ⟨ad125, e125, hx125_0⟩ := Kd.at_int HR121_0.out x7_4 p125 q125; obtain rfl : ad123 = ad125 := (by injection e125); replace hx125_0 := (HB.out.cell (World.block_lt_of_cell? w _ hx125_0)).trans hx125_0; replace p125 := eq_true p125; replace q125 := eq_true q125; have p126 : 0 ≤ ((ji50) : Int) := of_decide_eq_true (by first | (with_reducible assumption) | assumption); have q126 : (ji50) < (((rd_T71 l0_1 x5_3).f0).length : Int) := of_decide_eq_true (by first | (with_reducible assumption) | assumption); obtain ⟨ad126, e126, hx126_0⟩ := Kd.at_int HR121_0.out (ji50) p126 q126; obtain rfl : ad123 = ad126 := (by injection e126); replace hx126_0 := (HB.out.cell (World.block_lt_of_cell? w _ hx126_0)).trans hx126_0; replace p126 := eq_true p126; replace q126 := eq_true q126)); try go_wp2_with (first | (go_at_call 49; (with_reducible refine (posserref03_In.calls (rd ((rd_T71 l0_1 x5_3).f0) x7_4) 0 9 true _ A47.out).mono ?_); rintro e w' ⟨rfl, ⟨nd, rfl⟩⟩; (try first | exact ⟨rfl, _, World.drewN_drewN _ _ _⟩ | exact ⟨rfl, _, Eq.trans (World.drewN_drewN _ _ _) (congrArg (World.drewN _) (Nat.add_assoc _ _ _))⟩); have p125 : 0 ≤ (x7_4 : Int) := of_decide_eq_true (by first | (with_reducible assumption) | assumption); have q125 : x7_4 < (((rd_T71 l0_1 x5_3).f0).length : Int) := of_decide_eq_true (by first | (with_reducible assumption) | assumption); obtain ⟨ad125, e125, hx125_0⟩ := Kd.at_int HR121_0.out x7_4 p125 q125; obtain rfl : ad123 = ad125 := (by injection e125); replace hx125_0 := (HB.out.cell (World.block_lt_of_cell? w _ hx125_0)).trans hx125_0; replace p125 := eq_true p125; replace q125 := eq_true q125; have p126 : 0 ≤ ((ji50) : Int) := of_decide_eq_true (by first | (with_reducible assumption) | assumption); have q126 : (ji50) < (((rd_T71 l0_1 x5_3).f0).length : Int) := of_decide_eq_true (by first | (with_reducible assumption) | assumption); obtain ⟨ad126, e126, hx126_0⟩ := Kd.at_int HR121_0.out (ji50) p126 q126; obtain rfl : ad123 = ad126 := (by injection e126); replace hx126_0 := (HB.out.cell (World.block_lt_of_cell? w _ hx126_0)).trans hx126_0; replace p126 := eq_true p126; replace q126 := eq_true q126)))
                     go_ret
                     exact ⟨by first | rfl | (simp [errW_none, errW_some] <;> rfl) | (simp only [← hji50]; first | rfl | (simp [errW_none, errW_some] <;> rfl)) | (simp [*, errW_none, errW_some] <;> rfl), (sbe2 HB GE115 GE122)⟩
                    ·rw [if_neg c53] at H
                     have c53b0 : decide ((rd ((rd_T71 l0_1 x5_3).f0) x7_4) ≤ (rd ((rd_T71 l0_1 x5_3).f0) (ji50))) = false := decide_eq_false c53
                     clear c53
                     have H' := Aside0.mk H
                     clear H
                     have hnb56 := NB122_115.out
                     have hnc56 := NB115_122.out
                     have hcz57_0 := sc 0 BK122
                     have hcz57_1 := sc 1 BK122
                     have hfz57_0 := blk_frozen BK122.out 0
                     have hfz57_1 := blk_frozen BK122.out 1
                     have p123 : 0 ≤ (x7_4 : Int) := of_decide_eq_true (by first | (with_reducible assumption) | assumption)
                     have q123 : x7_4 < (((rd_T71 l0_1 x5_3).f0).length : Int) := of_decide_eq_true (by first | (with_reducible assumption) | assumption)
                     obtain ⟨ad123, e123, hx123_0⟩ := Kd.at_int HR121_0.out x7_4 p123 q123
                     cases e123
                     replace hx123_0 := (HB.out.cell (World.block_lt_of_cell? w _ hx123_0)).trans hx123_0
                     replace p123 := eq_true p123
                     replace q123 := eq_true q123
                     go_wp2_with (first | (go_at_call 49; (with_reducible refine (posserref03_In.calls (rd ((rd_T71 l0_1 x5_3).f0) x7_4) 0 9 true _ A47.out).mono ?_); rintro e w' ⟨rfl, ⟨nd, rfl⟩⟩; (try first | exact ⟨rfl, _, World.drewN_drewN _ _ _⟩ | exact ⟨rfl, _, Eq.trans (World.drewN_drewN _ _ _) (congrArg (World.drewN _) (Nat.add_assoc _ _ _))⟩); have p125 : 0 ≤ (x7_4 : Int) := of_decide_eq_true (by first | (with_reducible assumption) | assumption); have q125 : x7_4 < (((rd_T71 l0_1 x5_3).f0).length : Int) := of_decide_eq_true (by first | (with_reducible assumption) | assumption); obtain ⟨ad125, e125, hx125_0⟩ := Kd.at_int HR121_0.out x7_4 p125 q125; obtain rfl : ad123 = ad125 := (by injection e125); replace hx125_0 := (HB.out.cell (World.block_lt_of_cell? w _ hx125_0)).trans hx125_0; replace p125 := eq_true p125; replace q125 := eq_true q125; have p126 : 0 ≤ ((ji50) : Int) := of_decide_eq_true (by first | (with_reducible assumption) | assumption); have q126 : (ji50) < (((rd_T71 l0_1 x5_3).f0).length : Int) := of_decide_eq_true (by first | (with_reducible assumption) | assumption); obtain ⟨ad126, e126, hx126_0⟩ := Kd.at_int HR121_0.out (ji50) p126 q126; obtain rfl : ad123 = ad126 := (by injection e126); replace hx126_0 := (HB.out.cell (World.block_lt_of_cell? w _ hx126_0)).trans hx126_0; replace p126 := eq_true p126; replace q126 := eq_true q126))
                     repeat (go_quiet (first | (go_at_call 49; (with_reducible refine (posserref03_In.calls (rd ((rd_T71 l0_1 x5_3).f0) x7_4) 0 9 true _ A47.out).mono ?_); rintro e w' ⟨rfl, ⟨nd, rfl⟩⟩; (try first | exact ⟨rfl, _, World.drewN_drewN _ _ _⟩ | exact ⟨rfl, _, Eq.trans (World.drewN_drewN _ _ _) (congrArg (World.drewN _) (Nat.add_assoc _ _ _))⟩); have p125 : 0 ≤ (x7_4 : Int) := of_decide_eq_true (by first | (with_reducible assumption) | assumption); have q125 : x7_4 < (((rd_T71 l0_1 x5_3).f0).length : Int) := of_decide_eq_true (by first | (with_reducible assumption) | assumption); obtain ⟨ad125, e125, hx125_0⟩ := Kd.at_int HR121_0.out x7_4 p125 q125; obtain rfl : ad123 = ad125 := (by injection e125); replace hx125_0 := (HB.out.cell (World.block_lt_of_cell? w _ hx125_0)).trans hx125_0; replace p125 := eq_true p125; replace q125 := eq_true q125; have p126 : 0 ≤ ((ji50) : Int) := of_decide_eq_true (by first | (with_reducible assumption) | assumption); have q126 : (ji50) < (((rd_T71 l0_1 x5_3).f0).length : Int) := of_decide_eq_true (by first | (with_reducible assumption) | assumption); obtain ⟨ad126, e126, hx126_0⟩ := Kd.at_int HR121_0.out (ji50) p126 q126; obtain rfl : ad123 = ad126 := (by injection e126); replace hx126_0 := (HB.out.cell (World.block_lt_of_cell? w _ hx126_0)).trans hx126_0; replace p126 := eq_true p126; replace q126 := eq_true q126)); try go_wp2_with (first | (go_at_call 49; (with_reducible refine (posserref03_In.calls (rd ((rd_T71 l0_1 x5_3).f0) x7_4) 0 9 true _ A47.out).mono ?_); rintro e w' ⟨rfl, ⟨nd, rfl⟩⟩; (try first | exact ⟨rfl, _, World.drewN_drewN _ _ _⟩ | exact ⟨rfl, _, Eq.trans (World.drewN_drewN _ _ _) (congrArg (World.drewN _) (Nat.add_assoc _ _ _))⟩); have p125 : 0 ≤ (x7_4 : Int) := of_decide_eq_true (by first | (with_reducible assumption) | assumption); have q125 : x7_4 < (((rd_T71 l0_1 x5_3).f0).length : Int) := of_decide_eq_true (by first | (with_reducible assumption) | assumption); obtain ⟨ad125, e125, hx125_0⟩ := Kd.at_int HR121_0.out x7_4 p125 q125; obtain rfl : ad123 = ad125 := (by injection e125); replace hx125_0 := (HB.out.cell (World.block_lt_of_cell? w _ hx125_0)).trans hx125_0; replace p125 := eq_true p125; replace q125 := eq_true q125; have p126 : 0 ≤ ((ji50) : Int) := of_decide_eq_true (by first | (with_reducible assumption) | assumption); have q126 : (ji50) < (((rd_T71 l0_1 x5_3).f0).length : Int) := of_decide_eq_true (by first | (with_reducible assumption) | assumption); obtain ⟨ad126, e126, hx126_0⟩ := Kd.at_int HR121_0.out (ji50) p126 q126; obtain rfl : ad123 = ad126 := (by injection e126); replace hx126_0 := (HB.out.cell (World.block_lt_of_cell? w _ hx126_0)).trans hx126_0; replace p126 := eq_true p126; replace q126 := eq_true q126)))
                     go_roundg k4
                     case measure => have := HJ1.out; have := HK2.out; have := HK3.out; have := HK4.out; omega
                     case rel => exact ⟨(wrap64 (x7_4 + 1)), (by first | rfl | (simp; done) | (simp [*]; done)), H', ⟨by have := HJ1.out; have := HK2.out; have := HK3.out; have := HK4.out; omega⟩, ⟨by (with_reducible repeat (first | refine blk_drewN ?_ _ | refine blk_drew ?_ | refine blk_alloc ?_ _)); exact BK115.out⟩, ⟨by (with_reducible repeat (first | refine blk_drewN ?_ _ | refine blk_drew ?_ | refine blk_alloc ?_ _)); exact BK122.out⟩, ⟨(sbe2 HB GE115 GE122)⟩⟩
                   ·rw [if_neg c52] at H
                    exact absurd H (by simp)
                  ·rw [if_neg c51] at H
                   exact absurd H (by simp)
                 ·rw [if_neg c49] at H
                  have c49b0 : decide (0 < x7_4) = false := decide_eq_false c49
                  clear c49
                  have H' := Aside0.mk H
                  clear H
                  have hnb58 := NB122_115.out
                  have hnc58 := NB115_122.out
                  have hcz59_0 := sc 0 BK122
                  have hcz59_1 := sc 1 BK122
                  have hfz59_0 := blk_frozen BK122.out 0
                  have hfz59_1 := blk_frozen BK122.out 1
                  have p123 : 0 ≤ (x7_4 : Int) := of_decide_eq_true (by first | (with_reducible assumption) | assumption)
                  have q123 : x7_4 < (((rd_T71 l0_1 x5_3).f0).length : Int) := of_decide_eq_true (by first | (with_reducible assumption) | assumption)
                  obtain ⟨ad123, e123, hx123_0⟩ := Kd.at_int HR121_0.out x7_4 p123 q123
                  cases e123
                  replace hx123_0 := (HB.out.cell (World.block_lt_of_cell? w _ hx123_0)).trans hx123_0
                  replace p123 := eq_true p123
                  replace q123 := eq_true q123
                  go_wp2_with (first | (go_at_call 49; (with_reducible refine (posserref03_In.calls (rd ((rd_T71 l0_1 x5_3).f0) x7_4) 0 9 true _ A47.out).mono ?_); rintro e w' ⟨rfl, ⟨nd, rfl⟩⟩; (try first | exact ⟨rfl, _, World.drewN_drewN _ _ _⟩ | exact ⟨rfl, _, Eq.trans (World.drewN_drewN _ _ _) (congrArg (World.drewN _) (Nat.add_assoc _ _ _))⟩)))
                  repeat (go_quiet (first | (go_at_call 49; (with_reducible refine (posserref03_In.calls (rd ((rd_T71 l0_1 x5_3).f0) x7_4) 0 9 true _ A47.out).mono ?_); rintro e w' ⟨rfl, ⟨nd, rfl⟩⟩; (try first | exact ⟨rfl, _, World.drewN_drewN _ _ _⟩ | exact ⟨rfl, _, Eq.trans (World.drewN_drewN _ _ _) (congrArg (World.drewN _) (Nat.add_assoc _ _ _))⟩))); try go_wp2_with (first | (go_at_call 49; (with_reducible refine (posserref03_In.calls (rd ((rd_T71 l0_1 x5_3).f0) x7_4) 0 9 true _ A47.out).mono ?_); rintro e w' ⟨rfl, ⟨nd, rfl⟩⟩; (try first | exact ⟨rfl, _, World.drewN_drewN _ _ _⟩ | exact ⟨rfl, _, Eq.trans (World.drewN_drewN _ _ _) (congrArg (World.drewN _) (Nat.add_assoc _ _ _))⟩))))
                  go_roundg k4
                  case measure => have := HJ1.out; have := HK2.out; have := HK3.out; have := HK4.out; omega
                  case rel => exact ⟨(wrap64 (x7_4 + 1)), (by first | rfl | (simp; done) | (simp [*]; done)), H', ⟨by have := HJ1.out; have := HK2.out; have := HK3.out; have := HK4.out; omega⟩, ⟨by (with_reducible repeat (first | refine blk_drewN ?_ _ | refine blk_drew ?_ | refine blk_alloc ?_ _)); exact BK115.out⟩, ⟨by (with_reducible repeat (first | refine blk_drewN ?_ _ | refine blk_drew ?_ | refine blk_alloc ?_ _)); exact BK122.out⟩, ⟨(sbe2 HB GE115 GE122)⟩⟩
                ·replace c48 := Bool.eq_false_iff.mpr c48
                 subst c48
                 have H1 : (some 1) = some r := by rw [if_neg (show ¬ (false = true) by decide)] at H; exact H
                 clear H
                 have H := H1
                 clear H1
                 obtain rfl := Option.some.inj H
                 have hnb60 := NB122_115.out
                 have hnc60 := NB115_122.out
                 have hcz61_0 := sc 0 BK122
                 have hcz61_1 := sc 1 BK122
                 have hfz61_0 := blk_frozen BK122.out 0
                 have hfz61_1 := blk_frozen BK122.out 1
                 have p123 : 0 ≤ (x7_4 : Int) := of_decide_eq_true (by first | (with_reducible assumption) | assumption)
                 have q123 : x7_4 < (((rd_T71 l0_1 x5_3).f0).length : Int) := of_decide_eq_true (by first | (with_reducible assumption) | assumption)
                 obtain ⟨ad123, e123, hx123_0⟩ := Kd.at_int HR121_0.out x7_4 p123 q123
                 cases e123
                 replace hx123_0 := (HB.out.cell (World.block_lt_of_cell? w _ hx123_0)).trans hx123_0
                 replace p123 := eq_true p123
                 replace q123 := eq_true q123
                 go_wp2_with (first | (go_at_call 49; (with_reducible refine (posserref03_In.calls (rd ((rd_T71 l0_1 x5_3).f0) x7_4) 0 9 false _ A47.out).mono ?_); rintro e w' ⟨rfl, ⟨nd, rfl⟩⟩; (try first | exact ⟨rfl, _, World.drewN_drewN _ _ _⟩ | exact ⟨rfl, _, Eq.trans (World.drewN_drewN _ _ _) (congrArg (World.drewN _) (Nat.add_assoc _ _ _))⟩)))
                 repeat (go_quiet (first | (go_at_call 49; (with_reducible refine (posserref03_In.calls (rd ((rd_T71 l0_1 x5_3).f0) x7_4) 0 9 false _ A47.out).mono ?_); rintro e w' ⟨rfl, ⟨nd, rfl⟩⟩; (try first | exact ⟨rfl, _, World.drewN_drewN _ _ _⟩ | exact ⟨rfl, _, Eq.trans (World.drewN_drewN _ _ _) (congrArg (World.drewN _) (Nat.add_assoc _ _ _))⟩))); try go_wp2_with (first | (go_at_call 49; (with_reducible refine (posserref03_In.calls (rd ((rd_T71 l0_1 x5_3).f0) x7_4) 0 9 false _ A47.out).mono ?_); rintro e w' ⟨rfl, ⟨nd, rfl⟩⟩; (try first | exact ⟨rfl, _, World.drewN_drewN _ _ _⟩ | exact ⟨rfl, _, Eq.trans (World.drewN_drewN _ _ _) (congrArg (World.drewN _) (Nat.add_assoc _ _ _))⟩))))
                 go_ret
                 exact ⟨by first | rfl | (simp [errW_none, errW_some] <;> rfl) | (simp [*, errW_none, errW_some] <;> rfl), (sbe2 HB GE115 GE122)⟩
               ·rw [if_neg c46] at H
                exact absurd H (by simp)
              ·rw [if_neg c45] at H
               have c45b0 : decide (x7_4 < (((rd_T71 l0_1 x5_3).f0).length : Int)) = false := decide_eq_false c45
               clear c45
               replace H := Option.bind_eq_some_iff.mp H
               obtain ⟨t127, A620, H⟩ := H
               replace H : (if t127 = true then ((posserref03_WomenOf.f k4 l0_0 l0_1 a0_2 x5_3).bind fun t128 => (if (t128.length : Int) = 0 then (some 1) else (posserref03_Fault.l1 k4 (wrap64 (x5_3 + 1)) l0_0 l0_1 a0_2))) else (some 1)) = some r := H
               have A62 := Aside0.mk A620
               clear A620
               by_cases c63 : t127 = true
               ·subst c63
                have H1 : ((posserref03_WomenOf.f k4 l0_0 l0_1 a0_2 x5_3).bind fun t128 => (if (t128.length : Int) = 0 then (some 1) else (posserref03_Fault.l1 k4 (wrap64 (x5_3 + 1)) l0_0 l0_1 a0_2))) = some r := by rw [if_pos rfl] at H; exact H
                clear H
                have H := H1
                clear H1
                replace H := Option.bind_eq_some_iff.mp H
                obtain ⟨t128, A640, H⟩ := H
                replace H : (if (t128.length : Int) = 0 then (some 1) else (posserref03_Fault.l1 k4 (wrap64 (x5_3 + 1)) l0_0 l0_1 a0_2)) = some r := H
                have A64 := Aside0.mk A640
                clear A640
                by_cases c65 : (t128.length : Int) = 0
                ·rw [if_pos c65] at H
                 have c65b0 : ((t128.length : Int) == 0) = true := beq_iff_eq.mpr c65
                 have c65b1 : ((t128.length : Int) != 0) = false := bne_eq_false_iff_eq.mpr c65
                 clear c65
                 obtain rfl := Option.some.inj H
                 have hnb66 := NB122_115.out
                 have hnc66 := NB115_122.out
                 have hcz67_0 := sc 0 BK122
                 have hcz67_1 := sc 1 BK122
                 have hfz67_0 := blk_frozen BK122.out 0
                 have hfz67_1 := blk_frozen BK122.out 1
                 have hcz68_0 := sc 0 BK115
                 have hcz68_1 := sc 1 BK115
                 have hcz68_2 := sc 2 BK115
                 have hfz68_0 := blk_frozen BK115.out 0
                 have hfz68_1 := blk_frozen BK115.out 1
                 have hfz68_2 := blk_frozen BK115.out 2
                 go_wp2_with (first | (go_at_call 49; (with_reducible refine (posserref03_In.calls ((rd_T71 l0_1 x5_3).f1) 0 (wrap64 ((l0_0.length : Int) - 1)) true _ A62.out).mono ?_); rintro e w' ⟨rfl, ⟨nd, rfl⟩⟩; (try first | exact ⟨rfl, _, World.drewN_drewN _ _ _⟩ | exact ⟨rfl, _, Eq.trans (World.drewN_drewN _ _ _) (congrArg (World.drewN _) (Nat.add_assoc _ _ _))⟩)) | (go_at_call 94; (with_reducible refine (posserref03_WomenOf.calls k4 _ _ l0_0 _ _ l0_1 a0_2 x5_3 t128 _ ?side1 ?side2 ?side3 ?side4 A64.out).mono ?_); (case side1 => exact sCb2 HR0_0 HB GE115 GE122); (case side2 => exact HC0_0.out); (case side3 => exact sCb2 HR0_1 HB GE115 GE122); (case side4 => exact HC0_1.out); rintro e w69 ⟨v129, rfl, ho0, hb⟩; have HO130 := Aside0.mk (Kd.R_lower ho0 (below_size (sbe2 HB GE115 GE122))); replace BK115 := Aside0.mk (sbb BK115 hb); replace BK122 := Aside0.mk (blk_below (g := gb122) (o := .cells #[.slice A121_0 ((rd_T71 l0_1 x5_3).f0).length c121_0, .int .i64 ((rd_T71 l0_1 x5_3).f1)] 71 (0, 0)) (sbk BK122) hb); replace HB := Aside0.mk (sbs2 HB GE115 GE122 hb); (try clear hb); (try clear hb2); (try clear hk); (try clear hi); (try clear ho0); obtain ⟨Ao70, co70, eo70⟩ := Kd.R_slice HO130.out; subst eo70))
                 repeat (go_quiet (first | (go_at_call 49; (with_reducible refine (posserref03_In.calls ((rd_T71 l0_1 x5_3).f1) 0 (wrap64 ((l0_0.length : Int) - 1)) true _ A62.out).mono ?_); rintro e w' ⟨rfl, ⟨nd, rfl⟩⟩; (try first | exact ⟨rfl, _, World.drewN_drewN _ _ _⟩ | exact ⟨rfl, _, Eq.trans (World.drewN_drewN _ _ _) (congrArg (World.drewN _) (Nat.add_assoc _ _ _))⟩)) | (go_at_call 94; (with_reducible refine (posserref03_WomenOf.calls k4 _ _ l0_0 _ _ l0_1 a0_2 x5_3 t128 _ ?side1 ?side2 ?side3 ?side4 A64.out).mono ?_); (case side1 => exact sCb2 HR0_0 HB GE115 GE122); (case side2 => exact HC0_0.out); (case side3 => exact sCb2 HR0_1 HB GE115 GE122); (case side4 => exact HC0_1.out); rintro e w69 ⟨v129, rfl, ho0, hb⟩; have HO130 := Aside0.mk (Kd.R_lower ho0 (below_size (sbe2 HB GE115 GE122))); replace BK115 := Aside0.mk (sbb BK115 hb); replace BK122 := Aside0.mk (blk_below (g := gb122) (o := .cells #[.slice A121_0 ((rd_T71 l0_1 x5_3).f0).length c121_0, .int .i64 ((rd_T71 l0_1 x5_3).f1)] 71 (0, 0)) (sbk BK122) hb); replace HB := Aside0.mk (sbs2 HB GE115 GE122 hb); (try clear hb); (try clear hb2); (try clear hk); (try clear hi); (try clear ho0); obtain ⟨Ao70, co70, eo70⟩ := Kd.R_slice HO130.out; subst eo70)); try go_wp2_with (first | (go_at_call 49; (with_reducible refine (posserref03_In.calls ((rd_T71 l0_1 x5_3).f1) 0 (wrap64 ((l0_0.length : Int) - 1)) true _ A62.out).mono ?_); rintro e w' ⟨rfl, ⟨nd, rfl⟩⟩; (try first | exact ⟨rfl, _, World.drewN_drewN _ _ _⟩ | exact ⟨rfl, _, Eq.trans (World.drewN_drewN _ _ _) (congrArg (World.drewN _) (Nat.add_assoc _ _ _))⟩)) | (go_at_call 94; (with_reducible refine (posserref03_WomenOf.calls k4 _ _ l0_0 _ _ l0_1 a0_2 x5_3 t128 _ ?side1 ?side2 ?side3 ?side4 A64.out).mono ?_); (case side1 => exact sCb2 HR0_0 HB GE115 GE122); (case side2 => exact HC0_0.out); (case side3 => exact sCb2 HR0_1 HB GE115 GE122); (case side4 => exact HC0_1.out); rintro e w69 ⟨v129, rfl, ho0, hb⟩; have HO130 := Aside0.mk (Kd.R_lower ho0 (below_size (sbe2 HB GE115 GE122))); replace BK115 := Aside0.mk (sbb BK115 hb); replace BK122 := Aside0.mk (blk_below (g := gb122) (o := .cells #[.slice A121_0 ((rd_T71 l0_1 x5_3).f0).length c121_0, .int .i64 ((rd_T71 l0_1 x5_3).f1)] 71 (0, 0)) (sbk BK122) hb); replace HB := Aside0.mk (sbs2 HB GE115 GE122 hb); (try clear hb); (try clear hb2); (try clear hk); (try clear hi); (try clear ho0); obtain ⟨Ao70, co70, eo70⟩ := Kd.R_slice HO130.out; subst eo70)))
                 go_ret
                 exact ⟨by first | rfl | (simp [errW_none, errW_some] <;> rfl) | (simp [*, errW_none, errW_some] <;> rfl), (sbe2 HB GE115 GE122)⟩
                ·rw [if_neg c65] at H
                 have c65b0 : ((t128.length : Int) == 0) = false := beq_eq_false_iff_ne.mpr c65
                 have c65b1 : ((t128.length : Int) != 0) = true := bne_iff_ne.mpr c65
                 have c65b2 : ¬ (t128 = []) := fun h_ => c65 (by rw [h_]; rfl)
                 have H' := Aside0.mk H
                 clear H
                 have hnb71 := NB122_115.out
                 have hnc71 := NB115_122.out
                 have hcz72_0 := sc 0 BK122
                 have hcz72_1 := sc 1 BK122
                 have hfz72_0 := blk_frozen BK122.out 0
                 have hfz72_1 := blk_frozen BK122.out 1
                 have hcz73_0 := sc 0 BK115
                 have hcz73_1 := sc 1 BK115
                 have hcz73_2 := sc 2 BK115
                 have hfz73_0 := blk_frozen BK115.out 0
                 have hfz73_1 := blk_frozen BK115.out 1
                 have hfz73_2 := blk_frozen BK115.out 2
                 go_wp2_with (first | (go_at_call 49; (with_reducible refine (posserref03_In.calls ((rd_T71 l0_1 x5_3).f1) 0 (wrap64 ((l0_0.length : Int) - 1)) true _ A62.out).mono ?_); rintro e w' ⟨rfl, ⟨nd, rfl⟩⟩; (try first | exact ⟨rfl, _, World.drewN_drewN _ _ _⟩ | exact ⟨rfl, _, Eq.trans (World.drewN_drewN _ _ _) (congrArg (World.drewN _) (Nat.add_assoc _ _ _))⟩)) | (go_at_call 94; (with_reducible refine (posserref03_WomenOf.calls k4 _ _ l0_0 _ _ l0_1 a0_2 x5_3 t128 _ ?side1 ?side2 ?side3 ?side4 A64.out).mono ?_); (case side1 => exact sCb2 HR0_0 HB GE115 GE122); (case side2 => exact HC0_0.out); (case side3 => exact sCb2 HR0_1 HB GE115 GE122); (case side4 => exact HC0_1.out); rintro e w74 ⟨v129, rfl, ho0, hb⟩; have HO130 := Aside0.mk (Kd.R_lower ho0 (below_size (sbe2 HB GE115 GE122))); replace BK115 := Aside0.mk (sbb BK115 hb); replace BK122 := Aside0.mk (blk_below (g := gb122) (o := .cells #[.slice A121_0 ((rd_T71 l0_1 x5_3).f0).length c121_0, .int .i64 ((rd_T71 l0_1 x5_3).f1)] 71 (0, 0)) (sbk BK122) hb); replace HB := Aside0.mk (sbs2 HB GE115 GE122 hb); (try clear hb); (try clear hb2); (try clear hk); (try clear hi); (try clear ho0); obtain ⟨Ao75, co75, eo75⟩ := Kd.R_slice HO130.out; subst eo75))
                 repeat (go_quiet (first | (go_at_call 49; (with_reducible refine (posserref03_In.calls ((rd_T71 l0_1 x5_3).f1) 0 (wrap64 ((l0_0.length : Int) - 1)) true _ A62.out).mono ?_); rintro e w' ⟨rfl, ⟨nd, rfl⟩⟩; (try first | exact ⟨rfl, _, World.drewN_drewN _ _ _⟩ | exact ⟨rfl, _, Eq.trans (World.drewN_drewN _ _ _) (congrArg (World.drewN _) (Nat.add_assoc _ _ _))⟩)) | (go_at_call 94; (with_reducible refine (posserref03_WomenOf.calls k4 _ _ l0_0 _ _ l0_1 a0_2 x5_3 t128 _ ?side1 ?side2 ?side3 ?side4 A64.out).mono ?_); (case side1 => exact sCb2 HR0_0 HB GE115 GE122); (case side2 => exact HC0_0.out); (case side3 => exact sCb2 HR0_1 HB GE115 GE122); (case side4 => exact HC0_1.out); rintro e w74 ⟨v129, rfl, ho0, hb⟩; have HO130 := Aside0.mk (Kd.R_lower ho0 (below_size (sbe2 HB GE115 GE122))); replace BK115 := Aside0.mk (sbb BK115 hb); replace BK122 := Aside0.mk (blk_below (g := gb122) (o := .cells #[.slice A121_0 ((rd_T71 l0_1 x5_3).f0).length c121_0, .int .i64 ((rd_T71 l0_1 x5_3).f1)] 71 (0, 0)) (sbk BK122) hb); replace HB := Aside0.mk (sbs2 HB GE115 GE122 hb); (try clear hb); (try clear hb2); (try clear hk); (try clear hi); (try clear ho0); obtain ⟨Ao75, co75, eo75⟩ := Kd.R_slice HO130.out; subst eo75)); try go_wp2_with (first | (go_at_call 49; (with_reducible refine (posserref03_In.calls ((rd_T71 l0_1 x5_3).f1) 0 (wrap64 ((l0_0.length : Int) - 1)) true _ A62.out).mono ?_); rintro e w' ⟨rfl, ⟨nd, rfl⟩⟩; (try first | exact ⟨rfl, _, World.drewN_drewN _ _ _⟩ | exact ⟨rfl, _, Eq.trans (World.drewN_drewN _ _ _) (congrArg (World.drewN _) (Nat.add_assoc _ _ _))⟩)) | (go_at_call 94; (with_reducible refine (posserref03_WomenOf.calls k4 _ _ l0_0 _ _ l0_1 a0_2 x5_3 t128 _ ?side1 ?side2 ?side3 ?side4 A64.out).mono ?_); (case side1 => exact sCb2 HR0_0 HB GE115 GE122); (case side2 => exact HC0_0.out); (case side3 => exact sCb2 HR0_1 HB GE115 GE122); (case side4 => exact HC0_1.out); rintro e w74 ⟨v129, rfl, ho0, hb⟩; have HO130 := Aside0.mk (Kd.R_lower ho0 (below_size (sbe2 HB GE115 GE122))); replace BK115 := Aside0.mk (sbb BK115 hb); replace BK122 := Aside0.mk (blk_below (g := gb122) (o := .cells #[.slice A121_0 ((rd_T71 l0_1 x5_3).f0).length c121_0, .int .i64 ((rd_T71 l0_1 x5_3).f1)] 71 (0, 0)) (sbk BK122) hb); replace HB := Aside0.mk (sbs2 HB GE115 GE122 hb); (try clear hb); (try clear hb2); (try clear hk); (try clear hi); (try clear ho0); obtain ⟨Ao75, co75, eo75⟩ := Kd.R_slice HO130.out; subst eo75)))
                 go_roundg k4
                 case measure => have := HJ1.out; have := HK2.out; have := HK3.out; have := HK4.out; omega
                 case rel => exact ⟨(wrap64 (x5_3 + 1)), (by first | rfl | (simp; done) | (simp [*]; done)), H', ⟨by have := HJ1.out; have := HK2.out; have := HK3.out; have := HK4.out; omega⟩, ⟨by (with_reducible repeat (first | refine blk_drewN ?_ _ | refine blk_drew ?_ | refine blk_alloc ?_ _)); exact BK115.out⟩, ⟨(sbe2 HB GE115 GE122)⟩⟩
               ·replace c63 := Bool.eq_false_iff.mpr c63
                subst c63
                have H1 : (some 1) = some r := by rw [if_neg (show ¬ (false = true) by decide)] at H; exact H
                clear H
                have H := H1
                clear H1
                obtain rfl := Option.some.inj H
                have hnb76 := NB122_115.out
                have hnc76 := NB115_122.out
                have hcz77_0 := sc 0 BK122
                have hcz77_1 := sc 1 BK122
                have hfz77_0 := blk_frozen BK122.out 0
                have hfz77_1 := blk_frozen BK122.out 1
                have hcz78_0 := sc 0 BK115
                have hcz78_1 := sc 1 BK115
                have hcz78_2 := sc 2 BK115
                have hfz78_0 := blk_frozen BK115.out 0
                have hfz78_1 := blk_frozen BK115.out 1
                have hfz78_2 := blk_frozen BK115.out 2
                go_wp2_with (first | (go_at_call 49; (with_reducible refine (posserref03_In.calls ((rd_T71 l0_1 x5_3).f1) 0 (wrap64 ((l0_0.length : Int) - 1)) false _ A62.out).mono ?_); rintro e w' ⟨rfl, ⟨nd, rfl⟩⟩; (try first | exact ⟨rfl, _, World.drewN_drewN _ _ _⟩ | exact ⟨rfl, _, Eq.trans (World.drewN_drewN _ _ _) (congrArg (World.drewN _) (Nat.add_assoc _ _ _))⟩)))
                repeat (go_quiet (first | (go_at_call 49; (with_reducible refine (posserref03_In.calls ((rd_T71 l0_1 x5_3).f1) 0 (wrap64 ((l0_0.length : Int) - 1)) false _ A62.out).mono ?_); rintro e w' ⟨rfl, ⟨nd, rfl⟩⟩; (try first | exact ⟨rfl, _, World.drewN_drewN _ _ _⟩ | exact ⟨rfl, _, Eq.trans (World.drewN_drewN _ _ _) (congrArg (World.drewN _) (Nat.add_assoc _ _ _))⟩))); try go_wp2_with (first | (go_at_call 49; (with_reducible refine (posserref03_In.calls ((rd_T71 l0_1 x5_3).f1) 0 (wrap64 ((l0_0.length : Int) - 1)) false _ A62.out).mono ?_); rintro e w' ⟨rfl, ⟨nd, rfl⟩⟩; (try first | exact ⟨rfl, _, World.drewN_drewN _ _ _⟩ | exact ⟨rfl, _, Eq.trans (World.drewN_drewN _ _ _) (congrArg (World.drewN _) (Nat.add_assoc _ _ _))⟩))))
                go_ret
                exact ⟨by first | rfl | (simp [errW_none, errW_some] <;> rfl) | (simp [*, errW_none, errW_some] <;> rfl), (sbe2 HB GE115 GE122)⟩
           ·rw [if_neg c40] at H
            exact absurd H (by simp)
          ·rw [if_neg c39] at H
           have c39b0 : decide (x5_3 < (l0_1.length : Int)) = false := decide_eq_false c39
           clear c39
           replace H := Option.bind_eq_some_iff.mp H
           obtain ⟨t120, A790, H⟩ := H
           replace H : (if t120 > 2000 then (some 3) else (some 0)) = some r := H
           have A79 := Aside0.mk A790
           clear A790
           by_cases c80 : t120 > 2000
           ·rw [if_pos c80] at H
            have c80b0 : decide (2000 < t120) = true := decide_eq_true c80
            clear c80
            obtain rfl := Option.some.inj H
            have hcz81_0 := sc 0 BK115
            have hcz81_1 := sc 1 BK115
            have hcz81_2 := sc 2 BK115
            have hfz81_0 := blk_frozen BK115.out 0
            have hfz81_1 := blk_frozen BK115.out 1
            have hfz81_2 := blk_frozen BK115.out 2
            go_wp2_with (first | (go_at_call 76; (with_reducible refine (posserref03_Many.calls k3 _ _ l0_0 _ _ l0_1 a0_2 t120 _ ?side1 ?side2 ?side3 ?side4 A79.out).mono ?_); (case side1 => exact sCb HR0_0 HB); (case side2 => exact HC0_0.out); (case side3 => exact sCb HR0_1 HB); (case side4 => exact HC0_1.out); rintro e w82 ⟨rfl, hb⟩; replace BK115 := Aside0.mk (sbb BK115 hb); replace HB := Aside0.mk (sbs1 HB GE115 hb); (try clear hb); (try clear hb2); (try clear hk); (try clear hi)))
            repeat (go_quiet (first | (go_at_call 76; (with_reducible refine (posserref03_Many.calls k3 _ _ l0_0 _ _ l0_1 a0_2 t120 _ ?side1 ?side2 ?side3 ?side4 A79.out).mono ?_); (case side1 => exact sCb HR0_0 HB); (case side2 => exact HC0_0.out); (case side3 => exact sCb HR0_1 HB); (case side4 => exact HC0_1.out); rintro e w82 ⟨rfl, hb⟩; replace BK115 := Aside0.mk (sbb BK115 hb); replace HB := Aside0.mk (sbs1 HB GE115 hb); (try clear hb); (try clear hb2); (try clear hk); (try clear hi))); try go_wp2_with (first | (go_at_call 76; (with_reducible refine (posserref03_Many.calls k3 _ _ l0_0 _ _ l0_1 a0_2 t120 _ ?side1 ?side2 ?side3 ?side4 A79.out).mono ?_); (case side1 => exact sCb HR0_0 HB); (case side2 => exact HC0_0.out); (case side3 => exact sCb HR0_1 HB); (case side4 => exact HC0_1.out); rintro e w82 ⟨rfl, hb⟩; replace BK115 := Aside0.mk (sbb BK115 hb); replace HB := Aside0.mk (sbs1 HB GE115 hb); (try clear hb); (try clear hb2); (try clear hk); (try clear hi))))
            go_ret
            exact ⟨by first | rfl | (simp [errW_none, errW_some] <;> rfl) | (simp [*, errW_none, errW_some] <;> rfl), (sbe1 HB GE115)⟩
           ·rw [if_neg c80] at H
            have c80b0 : decide (2000 < t120) = false := decide_eq_false c80
            clear c80
            obtain rfl := Option.some.inj H
            have hcz83_0 := sc 0 BK115
            have hcz83_1 := sc 1 BK115
            have hcz83_2 := sc 2 BK115
            have hfz83_0 := blk_frozen BK115.out 0
            have hfz83_1 := blk_frozen BK115.out 1
            have hfz83_2 := blk_frozen BK115.out 2
            go_wp2_with (first | (go_at_call 76; (with_reducible refine (posserref03_Many.calls k3 _ _ l0_0 _ _ l0_1 a0_2 t120 _ ?side1 ?side2 ?side3 ?side4 A79.out).mono ?_); (case side1 => exact sCb HR0_0 HB); (case side2 => exact HC0_0.out); (case side3 => exact sCb HR0_1 HB); (case side4 => exact HC0_1.out); rintro e w84 ⟨rfl, hb⟩; replace BK115 := Aside0.mk (sbb BK115 hb); replace HB := Aside0.mk (sbs1 HB GE115 hb); (try clear hb); (try clear hb2); (try clear hk); (try clear hi)))
            repeat (go_quiet (first | (go_at_call 76; (with_reducible refine (posserref03_Many.calls k3 _ _ l0_0 _ _ l0_1 a0_2 t120 _ ?side1 ?side2 ?side3 ?side4 A79.out).mono ?_); (case side1 => exact sCb HR0_0 HB); (case side2 => exact HC0_0.out); (case side3 => exact sCb HR0_1 HB); (case side4 => exact HC0_1.out); rintro e w84 ⟨rfl, hb⟩; replace BK115 := Aside0.mk (sbb BK115 hb); replace HB := Aside0.mk (sbs1 HB GE115 hb); (try clear hb); (try clear hb2); (try clear hk); (try clear hi))); try go_wp2_with (first | (go_at_call 76; (with_reducible refine (posserref03_Many.calls k3 _ _ l0_0 _ _ l0_1 a0_2 t120 _ ?side1 ?side2 ?side3 ?side4 A79.out).mono ?_); (case side1 => exact sCb HR0_0 HB); (case side2 => exact HC0_0.out); (case side3 => exact sCb HR0_1 HB); (case side4 => exact HC0_1.out); rintro e w84 ⟨rfl, hb⟩; replace BK115 := Aside0.mk (sbb BK115 hb); replace HB := Aside0.mk (sbs1 HB GE115 hb); (try clear hb); (try clear hb2); (try clear hk); (try clear hi))))
            go_ret
            exact ⟨by first | rfl | (simp [errW_none, errW_some] <;> rfl) | (simp [*, errW_none, errW_some] <;> rfl), (sbe1 HB GE115)⟩
    ·replace c9 := Bool.eq_false_iff.mpr c9
     subst c9
     have H1 : (some 1) = some r := by rw [if_neg (show ¬ (false = true) by decide)] at H; exact H
     clear H
     have H := H1
     clear H1
     obtain rfl := Option.some.inj H
     have hcz85_0 := sc 0 BK115
     have hcz85_1 := sc 1 BK115
     have hcz85_2 := sc 2 BK115
     have hfz85_0 := blk_frozen BK115.out 0
     have hfz85_1 := blk_frozen BK115.out 1
     have hfz85_2 := blk_frozen BK115.out 2
     go_wp2_with (first | (go_at_call 49; (with_reducible refine (posserref03_In.calls a0_2 0 5 false _ A8.out).mono ?_); rintro e w' ⟨rfl, ⟨nd, rfl⟩⟩; (try first | exact ⟨rfl, _, World.drewN_drewN _ _ _⟩ | exact ⟨rfl, _, Eq.trans (World.drewN_drewN _ _ _) (congrArg (World.drewN _) (Nat.add_assoc _ _ _))⟩)))
     repeat (go_quiet (first | (go_at_call 49; (with_reducible refine (posserref03_In.calls a0_2 0 5 false _ A8.out).mono ?_); rintro e w' ⟨rfl, ⟨nd, rfl⟩⟩; (try first | exact ⟨rfl, _, World.drewN_drewN _ _ _⟩ | exact ⟨rfl, _, Eq.trans (World.drewN_drewN _ _ _) (congrArg (World.drewN _) (Nat.add_assoc _ _ _))⟩))); try go_wp2_with (first | (go_at_call 49; (with_reducible refine (posserref03_In.calls a0_2 0 5 false _ A8.out).mono ?_); rintro e w' ⟨rfl, ⟨nd, rfl⟩⟩; (try first | exact ⟨rfl, _, World.drewN_drewN _ _ _⟩ | exact ⟨rfl, _, Eq.trans (World.drewN_drewN _ _ _) (congrArg (World.drewN _) (Nat.add_assoc _ _ _))⟩))))
     go_ret
     exact ⟨by first | rfl | (simp [errW_none, errW_some] <;> rfl) | (simp [*, errW_none, errW_some] <;> rfl), (sbe1 HB GE115)⟩
end Go.Proofs.Ytnbbbeghgomnoaa.X
namespace Go.Proofs.Ytnbbbeghgomnoaa.X
open Go.RowKit Go.Proofs.YtnbbbeghgomnoaaW.PrintWords Go.Proofs.YtnbbbeghgomnoaaW.PrintLast Go.Proofs.YtnbbbeghgomnoaaW.PrintMore
attribute [local go_sem] max2_int min2_int max_two min_two max_three min_three max_four min_four
set_option linter.unusedVariables false
set_option linter.unusedSimpArgs false
def posserlaw03_fault.f (k : Nat) (l0_0 : List (S85)) (l0_1 : List (S71)) (a0_2 : Int) : Option (Int) := (posserref03_Fault.f k l0_0 l0_1 a0_2).bind fun t132 => (some t132)
set_option maxHeartbeats 8000000 in
set_option maxRecDepth 100000 in
theorem posserlaw03_fault.calls (k : Nat) (A0_0 : Option Addr) (c0_0 : Nat) (l0_0 : List (S85)) (A0_1 : Option Addr) (c0_1 : Nat) (l0_1 : List (S71)) (a0_2 : Int) (r : Int) (w : World) (hr0_0 : Kd.C k85 w A0_0 l0_0.length l0_0) (hc0_0 : l0_0.length ≤ c0_0) (hr0_1 : Kd.C k71 w A0_1 l0_1.length l0_1) (hc0_1 : l0_1.length ≤ c0_1) (h : posserlaw03_fault.f k l0_0 l0_1 a0_2 = some r) :
  Calls Try.prog 33 #[.agg #[.slice A0_0 l0_0.length c0_0, .slice A0_1 l0_1.length c0_1, .int .i64 a0_2]] w fun e w' => e = .returned (.int .i64 r) ∧ Below w.heap.size w w' := by
 have hu25 := Try.underlying25
 have HR0_0 := Aside0.mk hr0_0
 have HC0_0 := Aside0.mk hc0_0
 clear hr0_0 hc0_0
 have HR0_1 := Aside0.mk hr0_1
 have HC0_1 := Aside0.mk hc0_1
 clear hr0_1 hc0_1
 have HB := Aside0.mk (Below.refl w.heap.size w)
 have H : ((posserref03_Fault.f k l0_0 l0_1 a0_2).bind fun t132 => (some t132)) = some r := h
 clear h
 replace H := Option.bind_eq_some_iff.mp H
 obtain ⟨t132, A20, H⟩ := H
 replace H : (some t132) = some r := H
 have A2 := Aside0.mk A20
 clear A20
 obtain rfl := Option.some.inj H
 go_enter Try.func33, Try.ntmps33
 go_wp2_with (first | ((with_reducible refine gate_dst (N := 1) rfl ?_); refine sbox (N := 1) #[.slice A0_0 l0_0.length c0_0, .slice A0_1 l0_1.length c0_1, .int .i64 a0_2] 25 ?_; intro gb131 hg w3 hbox hb; have BK131 := Aside0.mk (hbox); have GW131 := Aside0.mk (sge hg HB : w.heap.size ≤ gb131); have GE131 := Aside0.mk (sge hg HB : w.heap.size ≤ gb131); replace HB := Aside0.mk (sbs HB hb); clear hb hbox hg; have hcz4_0 := sc 0 BK131; have hcz4_1 := sc 1 BK131; have hcz4_2 := sc 2 BK131; have hfz4_0 := blk_frozen BK131.out 0; have hfz4_1 := blk_frozen BK131.out 1; have hfz4_2 := blk_frozen BK131.out 2) | ((with_reducible refine gate_callee (f := 75) rfl ?_); refine goesL_ (some 4) rfl rfl Try.func75 (by kernel_rfl) rfl #[.agg #[.slice A0_0 l0_0.length c0_0, .slice A0_1 l0_1.length c0_1, .int .i64 a0_2]] rfl (by (try simp only [List.map_toArray, List.map_cons, List.map_nil]); first | done | rfl | (simp only [List.length_drop, List.length_take]; rfl)) ?_; (with_reducible refine (posserref03_Fault.calls k _ _ l0_0 _ _ l0_1 a0_2 t132 _ ?side1 ?side2 ?side3 ?side4 A2.out).mono ?_); (case side1 => exact sCb HR0_0 HB); (case side2 => exact HC0_0.out); (case side3 => exact sCb HR0_1 HB); (case side4 => exact HC0_1.out); rintro e w5 ⟨rfl, hb⟩; refine ⟨_, rfl, ?_⟩; replace BK131 := Aside0.mk (sbb BK131 hb); replace HB := Aside0.mk (sbs1 HB GE131 hb); (try clear hb); (try clear hb2); (try clear hk); (try clear hi)))
 go_ret
 exact ⟨by first | rfl | (simp [errW_none, errW_some] <;> rfl) | (simp [*, errW_none, errW_some] <;> rfl), (sbe1 HB GE131)⟩
end Go.Proofs.Ytnbbbeghgomnoaa.X
namespace Go.Proofs.Ytnbbbeghgomnoaa.X
open Go.RowKit Go.Proofs.YtnbbbeghgomnoaaW.PrintWords Go.Proofs.YtnbbbeghgomnoaaW.PrintLast Go.Proofs.YtnbbbeghgomnoaaW.PrintMore
attribute [local go_sem] max2_int min2_int max_two min_two max_three min_three max_four min_four
set_option linter.unusedVariables false
set_option linter.unusedSimpArgs false
def posserlaw03_sure.f (k : Nat) (l0_0 : List (S85)) (l0_1 : List (S71)) (a0_2 : Int) : Option ((List (List Int)) × Int) := (posserlaw03_fault.f k l0_0 l0_1 a0_2).bind fun t175 => (if t175 = 0 then ((posserref03_Truths.f k l0_0 l0_1 a0_2).bind fun t176 => (if (t176.length : Int) = 0 then (some (([] : List (List Int)), 11)) else (some (t176, 0)))) else (some (([] : List (List Int)), t175)))
set_option maxHeartbeats 8000000 in
set_option maxRecDepth 100000 in
theorem posserlaw03_sure.calls (k : Nat) (A0_0 : Option Addr) (c0_0 : Nat) (l0_0 : List (S85)) (A0_1 : Option Addr) (c0_1 : Nat) (l0_1 : List (S71)) (a0_2 : Int) (r1 : List (List Int)) (r2 : Int) (w : World) (hr0_0 : Kd.C k85 w A0_0 l0_0.length l0_0) (hc0_0 : l0_0.length ≤ c0_0) (hr0_1 : Kd.C k71 w A0_1 l0_1.length l0_1) (hc0_1 : l0_1.length ≤ c0_1) (h : posserlaw03_sure.f k l0_0 l0_1 a0_2 = some (r1, r2)) :
  Calls Try.prog 24 #[.agg #[.slice A0_0 l0_0.length c0_0, .slice A0_1 l0_1.length c0_1, .int .i64 a0_2]] w fun e w' => ∃ v0_ : Value, e = .returned (.tuple #[v0_, .int .i64 r2]) ∧ Kd.S (Kd.slice 3 (Kd.int .i64)) 39 w' w.heap.size (fun _ => True) v0_ r1 ∧ Below w.heap.size w w' := by
 have hu25 := Try.underlying25
 have HR0_0 := Aside0.mk hr0_0
 have HC0_0 := Aside0.mk hc0_0
 clear hr0_0 hc0_0
 have HR0_1 := Aside0.mk hr0_1
 have HC0_1 := Aside0.mk hc0_1
 clear hr0_1 hc0_1
 have HB := Aside0.mk (Below.refl w.heap.size w)
 have H : ((posserlaw03_fault.f k l0_0 l0_1 a0_2).bind fun t175 => (if t175 = 0 then ((posserref03_Truths.f k l0_0 l0_1 a0_2).bind fun t176 => (if (t176.length : Int) = 0 then (some (([] : List (List Int)), 11)) else (some (t176, 0)))) else (some (([] : List (List Int)), t175)))) = some (r1, r2) := h
 clear h
 replace H := Option.bind_eq_some_iff.mp H
 obtain ⟨t175, A20, H⟩ := H
 replace H : (if t175 = 0 then ((posserref03_Truths.f k l0_0 l0_1 a0_2).bind fun t176 => (if (t176.length : Int) = 0 then (some (([] : List (List Int)), 11)) else (some (t176, 0)))) else (some (([] : List (List Int)), t175))) = some (r1, r2) := H
 have A2 := Aside0.mk A20
 clear A20
 by_cases c3 : t175 = 0
 ·rw [if_pos c3] at H
  have c3b0 : (t175 == 0) = true := beq_iff_eq.mpr c3
  have c3b1 : (t175 != 0) = false := bne_eq_false_iff_eq.mpr c3
  clear c3
  replace H := Option.bind_eq_some_iff.mp H
  obtain ⟨t176, A40, H⟩ := H
  replace H : (if (t176.length : Int) = 0 then (some (([] : List (List Int)), 11)) else (some (t176, 0))) = some (r1, r2) := H
  have A4 := Aside0.mk A40
  clear A40
  by_cases c5 : (t176.length : Int) = 0
  ·rw [if_pos c5] at H
   have c5b0 : ((t176.length : Int) == 0) = true := beq_iff_eq.mpr c5
   have c5b1 : ((t176.length : Int) != 0) = false := bne_eq_false_iff_eq.mpr c5
   clear c5
   simp only [Option.some.injEq, Prod.mk.injEq] at H
   obtain ⟨rfl, rfl⟩ := H
   go_enter Try.func24, Try.ntmps24
   go_wp2_with (first | ((with_reducible refine gate_dst (N := 1) rfl ?_); refine sbox (N := 1) #[.slice A0_0 l0_0.length c0_0, .slice A0_1 l0_1.length c0_1, .int .i64 a0_2] 25 ?_; intro gb174 hg w6 hbox hb; have BK174 := Aside0.mk (hbox); have GW174 := Aside0.mk (sge hg HB : w.heap.size ≤ gb174); have GE174 := Aside0.mk (sge hg HB : w.heap.size ≤ gb174); replace HB := Aside0.mk (sbs HB hb); clear hb hbox hg; have hcz7_0 := sc 0 BK174; have hcz7_1 := sc 1 BK174; have hcz7_2 := sc 2 BK174; have hfz7_0 := blk_frozen BK174.out 0; have hfz7_1 := blk_frozen BK174.out 1; have hfz7_2 := blk_frozen BK174.out 2) | ((with_reducible refine gate_callee (f := 33) rfl ?_); refine goesL_ (some 7) rfl rfl Try.func33 (by kernel_rfl) rfl #[.agg #[.slice A0_0 l0_0.length c0_0, .slice A0_1 l0_1.length c0_1, .int .i64 a0_2]] rfl (by (try simp only [List.map_toArray, List.map_cons, List.map_nil]); first | done | rfl | (simp only [List.length_drop, List.length_take]; rfl)) ?_; (with_reducible refine (posserlaw03_fault.calls k _ _ l0_0 _ _ l0_1 a0_2 t175 _ ?side1 ?side2 ?side3 ?side4 A2.out).mono ?_); (case side1 => exact sCb HR0_0 HB); (case side2 => exact HC0_0.out); (case side3 => exact sCb HR0_1 HB); (case side4 => exact HC0_1.out); rintro e w8 ⟨rfl, hb⟩; refine ⟨_, rfl, ?_⟩; replace BK174 := Aside0.mk (sbb BK174 hb); replace HB := Aside0.mk (sbs1 HB GE174 hb); (try clear hb); (try clear hb2); (try clear hk); (try clear hi); have hcz9_0 := sc 0 BK174; have hcz9_1 := sc 1 BK174; have hcz9_2 := sc 2 BK174; have hfz9_0 := blk_frozen BK174.out 0; have hfz9_1 := blk_frozen BK174.out 1; have hfz9_2 := blk_frozen BK174.out 2) | ((with_reducible refine gate_callee (f := 69) rfl ?_); refine goesL_ (some 12) rfl rfl Try.func69 (by kernel_rfl) rfl #[.agg #[.slice A0_0 l0_0.length c0_0, .slice A0_1 l0_1.length c0_1, .int .i64 a0_2]] rfl (by (try simp only [List.map_toArray, List.map_cons, List.map_nil]); first | done | rfl | (simp only [List.length_drop, List.length_take]; rfl)) ?_; (with_reducible refine (posserref03_Truths.calls k _ _ l0_0 _ _ l0_1 a0_2 t176 _ ?side1 ?side2 ?side3 ?side4 A4.out).mono ?_); (case side1 => exact sCb HR0_0 HB); (case side2 => exact HC0_0.out); (case side3 => exact sCb HR0_1 HB); (case side4 => exact HC0_1.out); rintro e w10 ⟨v177, rfl, ho0, hb⟩; refine ⟨_, rfl, ?_⟩; have HO178 := Aside0.mk (Kd.S_lower ho0 (below_size (sbe1 HB GE174))); replace BK174 := Aside0.mk (sbb BK174 hb); replace HB := Aside0.mk (sbs1 HB GE174 hb); (try clear hb); (try clear hb2); (try clear hk); (try clear hi); (try clear ho0); obtain ⟨Ao11, co11, eo11⟩ := Kd.S_slice HO178.out; subst eo11))
   go_ret2
   exact ⟨_, by first | rfl | (simp [errW_none, errW_some] <;> rfl) | (simp [*, errW_none, errW_some] <;> rfl), by first | exact Kd.S_nil _ _ _ _ _ | exact Kd.N_nil _ _ _ _ _ | exact Kd.V_nil _ _ _ _ _ | exact Kd.Q_nil _ _ _ _ _ | exact Kd.R_nil _ _ _ _ _, (sbe1 HB GE174)⟩
  ·rw [if_neg c5] at H
   have c5b0 : ((t176.length : Int) == 0) = false := beq_eq_false_iff_ne.mpr c5
   have c5b1 : ((t176.length : Int) != 0) = true := bne_iff_ne.mpr c5
   have c5b2 : ¬ (t176 = []) := fun h_ => c5 (by rw [h_]; rfl)
   simp only [Option.some.injEq, Prod.mk.injEq] at H
   obtain ⟨rfl, rfl⟩ := H
   go_enter Try.func24, Try.ntmps24
   go_wp2_with (first | ((with_reducible refine gate_dst (N := 1) rfl ?_); refine sbox (N := 1) #[.slice A0_0 l0_0.length c0_0, .slice A0_1 l0_1.length c0_1, .int .i64 a0_2] 25 ?_; intro gb174 hg w12 hbox hb; have BK174 := Aside0.mk (hbox); have GW174 := Aside0.mk (sge hg HB : w.heap.size ≤ gb174); have GE174 := Aside0.mk (sge hg HB : w.heap.size ≤ gb174); replace HB := Aside0.mk (sbs HB hb); clear hb hbox hg; have hcz13_0 := sc 0 BK174; have hcz13_1 := sc 1 BK174; have hcz13_2 := sc 2 BK174; have hfz13_0 := blk_frozen BK174.out 0; have hfz13_1 := blk_frozen BK174.out 1; have hfz13_2 := blk_frozen BK174.out 2) | ((with_reducible refine gate_callee (f := 33) rfl ?_); refine goesL_ (some 7) rfl rfl Try.func33 (by kernel_rfl) rfl #[.agg #[.slice A0_0 l0_0.length c0_0, .slice A0_1 l0_1.length c0_1, .int .i64 a0_2]] rfl (by (try simp only [List.map_toArray, List.map_cons, List.map_nil]); first | done | rfl | (simp only [List.length_drop, List.length_take]; rfl)) ?_; (with_reducible refine (posserlaw03_fault.calls k _ _ l0_0 _ _ l0_1 a0_2 t175 _ ?side1 ?side2 ?side3 ?side4 A2.out).mono ?_); (case side1 => exact sCb HR0_0 HB); (case side2 => exact HC0_0.out); (case side3 => exact sCb HR0_1 HB); (case side4 => exact HC0_1.out); rintro e w14 ⟨rfl, hb⟩; refine ⟨_, rfl, ?_⟩; replace BK174 := Aside0.mk (sbb BK174 hb); replace HB := Aside0.mk (sbs1 HB GE174 hb); (try clear hb); (try clear hb2); (try clear hk); (try clear hi); have hcz15_0 := sc 0 BK174; have hcz15_1 := sc 1 BK174; have hcz15_2 := sc 2 BK174; have hfz15_0 := blk_frozen BK174.out 0; have hfz15_1 := blk_frozen BK174.out 1; have hfz15_2 := blk_frozen BK174.out 2) | ((with_reducible refine gate_callee (f := 69) rfl ?_); refine goesL_ (some 12) rfl rfl Try.func69 (by kernel_rfl) rfl #[.agg #[.slice A0_0 l0_0.length c0_0, .slice A0_1 l0_1.length c0_1, .int .i64 a0_2]] rfl (by (try simp only [List.map_toArray, List.map_cons, List.map_nil]); first | done | rfl | (simp only [List.length_drop, List.length_take]; rfl)) ?_; (with_reducible refine (posserref03_Truths.calls k _ _ l0_0 _ _ l0_1 a0_2 t176 _ ?side1 ?side2 ?side3 ?side4 A4.out).mono ?_); (case side1 => exact sCb HR0_0 HB); (case side2 => exact HC0_0.out); (case side3 => exact sCb HR0_1 HB); (case side4 => exact HC0_1.out); rintro e w16 ⟨v177, rfl, ho0, hb⟩; refine ⟨_, rfl, ?_⟩; have HO178 := Aside0.mk (Kd.S_lower ho0 (below_size (sbe1 HB GE174))); replace BK174 := Aside0.mk (sbb BK174 hb); replace HB := Aside0.mk (sbs1 HB GE174 hb); (try clear hb); (try clear hb2); (try clear hk); (try clear hi); (try clear ho0); obtain ⟨Ao17, co17, eo17⟩ := Kd.S_slice HO178.out; subst eo17))
   go_ret2
   exact ⟨_, by first | rfl | (simp [errW_none, errW_some] <;> rfl) | (simp [*, errW_none, errW_some] <;> rfl), by (with_reducible repeat (first | apply Kd.S_alloc | apply Kd.S_drewN | apply Kd.S_drew)); exact HO178.out, (sbe1 HB GE174)⟩
 ·rw [if_neg c3] at H
  have c3b0 : (t175 == 0) = false := beq_eq_false_iff_ne.mpr c3
  have c3b1 : (t175 != 0) = true := bne_iff_ne.mpr c3
  simp only [Option.some.injEq, Prod.mk.injEq] at H
  obtain ⟨rfl, rfl⟩ := H
  go_enter Try.func24, Try.ntmps24
  go_wp2_with (first | ((with_reducible refine gate_dst (N := 1) rfl ?_); refine sbox (N := 1) #[.slice A0_0 l0_0.length c0_0, .slice A0_1 l0_1.length c0_1, .int .i64 a0_2] 25 ?_; intro gb174 hg w18 hbox hb; have BK174 := Aside0.mk (hbox); have GW174 := Aside0.mk (sge hg HB : w.heap.size ≤ gb174); have GE174 := Aside0.mk (sge hg HB : w.heap.size ≤ gb174); replace HB := Aside0.mk (sbs HB hb); clear hb hbox hg; have hcz19_0 := sc 0 BK174; have hcz19_1 := sc 1 BK174; have hcz19_2 := sc 2 BK174; have hfz19_0 := blk_frozen BK174.out 0; have hfz19_1 := blk_frozen BK174.out 1; have hfz19_2 := blk_frozen BK174.out 2) | ((with_reducible refine gate_callee (f := 33) rfl ?_); refine goesL_ (some 7) rfl rfl Try.func33 (by kernel_rfl) rfl #[.agg #[.slice A0_0 l0_0.length c0_0, .slice A0_1 l0_1.length c0_1, .int .i64 a0_2]] rfl (by (try simp only [List.map_toArray, List.map_cons, List.map_nil]); first | done | rfl | (simp only [List.length_drop, List.length_take]; rfl)) ?_; (with_reducible refine (posserlaw03_fault.calls k _ _ l0_0 _ _ l0_1 a0_2 t175 _ ?side1 ?side2 ?side3 ?side4 A2.out).mono ?_); (case side1 => exact sCb HR0_0 HB); (case side2 => exact HC0_0.out); (case side3 => exact sCb HR0_1 HB); (case side4 => exact HC0_1.out); rintro e w20 ⟨rfl, hb⟩; refine ⟨_, rfl, ?_⟩; replace BK174 := Aside0.mk (sbb BK174 hb); replace HB := Aside0.mk (sbs1 HB GE174 hb); (try clear hb); (try clear hb2); (try clear hk); (try clear hi)))
  go_ret2
  exact ⟨_, by first | rfl | (simp [errW_none, errW_some] <;> rfl) | (simp [*, errW_none, errW_some] <;> rfl), by first | exact Kd.S_nil _ _ _ _ _ | exact Kd.N_nil _ _ _ _ _ | exact Kd.V_nil _ _ _ _ _ | exact Kd.Q_nil _ _ _ _ _ | exact Kd.R_nil _ _ _ _ _, (sbe1 HB GE174)⟩
end Go.Proofs.Ytnbbbeghgomnoaa.X
namespace Go.Proofs.Ytnbbbeghgomnoaa.X
open Go.RowKit Go.Proofs.YtnbbbeghgomnoaaW.PrintWords Go.Proofs.YtnbbbeghgomnoaaW.PrintLast Go.Proofs.YtnbbbeghgomnoaaW.PrintMore
attribute [local go_sem] max2_int min2_int max_two min_two max_three min_three max_four min_four
set_option linter.unusedVariables false
set_option linter.unusedSimpArgs false
def posserref03_DoesMiss.l0 : Nat → List Int → Int → Int → List (S85) → List (S71) → Int → Option (Bool)
  | 0, _, _, _, _, _, _ => none
  | k + 1, x1, x2, x7, x213000, x213001, x213002 => if x7 < (x1.length : Int) then (if 0 ≤ x7 then (if (rd x1 x7) = x2 then (if x7 < (x213001.length : Int) then (if ((rd_T71 x213001 x7).f1) = x2 then (posserref03_DoesMiss.l0 k x1 x2 (wrap64 (x7 + 1)) x213000 x213001 x213002) else (some true)) else (none)) else (posserref03_DoesMiss.l0 k x1 x2 (wrap64 (x7 + 1)) x213000 x213001 x213002)) else (none)) else (some false)
def posserref03_DoesMiss.f (k : Nat) (l0_0 : List (S85)) (l0_1 : List (S71)) (a0_2 : Int) (l1 : List Int) (a2 : Int) : Option (Bool) := posserref03_DoesMiss.l0 k l1 a2 0 l0_0 l0_1 a0_2
set_option maxHeartbeats 8000000 in
set_option maxRecDepth 100000 in
theorem posserref03_DoesMiss.calls (k : Nat) (A0_0 : Option Addr) (c0_0 : Nat) (l0_0 : List (S85)) (A0_1 : Option Addr) (c0_1 : Nat) (l0_1 : List (S71)) (a0_2 : Int) (A1 : Option Addr) (c1 : Nat) (l1 : List Int) (a2 : Int) (r : Bool) (w : World) (hr0_0 : Kd.C k85 w A0_0 l0_0.length l0_0) (hc0_0 : l0_0.length ≤ c0_0) (hr0_1 : Kd.C k71 w A0_1 l0_1.length l0_1) (hc0_1 : l0_1.length ≤ c0_1) (hr1 : Kd.C (Kd.int .i64) w A1 l1.length l1) (hc1 : l1.length ≤ c1) (h : posserref03_DoesMiss.f k l0_0 l0_1 a0_2 l1 a2 = some r) :
    Calls Try.prog 65 #[.agg #[.slice A0_0 l0_0.length c0_0, .slice A0_1 l0_1.length c0_1, .int .i64 a0_2], .slice A1 l1.length c1, .int .i64 a2] w fun e w' => e = .returned (.bool r) ∧ Below w.heap.size w w' := by
  have hu25 := Try.underlying25
  have HR0_0 := Aside0.mk hr0_0
  have HC0_0 := Aside0.mk hc0_0
  clear hr0_0 hc0_0
  have HR0_1 := Aside0.mk hr0_1
  have HC0_1 := Aside0.mk hc0_1
  clear hr0_1 hc0_1
  have HR1 := Aside0.mk hr1
  have HC1 := Aside0.mk hc1
  clear hr1 hc1
  have HB := Aside0.mk (Below.refl w.heap.size w)
  have H : (posserref03_DoesMiss.l0 k l1 a2 0 l0_0 l0_1 a0_2) = some r := h
  clear h
  have H' := Aside0.mk H
  clear H
  go_enter Try.func65, Try.ntmps65
  go_wp2_with (first | ((with_reducible refine gate_dst (N := 3) rfl ?_); refine box_event ?hg (N := 3) ?hd (cs := #[.slice A0_0 l0_0.length c0_0, .slice A0_1 l0_1.length c0_1, .int .i64 a0_2]) (t := 25) ?hr ?_; (case hd => rfl); (case hg => rfl); (case hr => first | (go_simp; done) | (go_simp; rfl)); intro gb212 hg w4 hbox hb; have n0_ := Aside0.mk (below_step (by repeat (first | (with_reducible first | exact HB.out | apply below_alloc | apply pw_below_drewN | apply below_drew1) | exact HB.out)) hb); have n1_ := Aside0.mk (hbox); have n2_ := Aside0.mk ((by rw [hg]; exact (below_size (by repeat (first | (with_reducible first | exact HB.out | apply below_alloc | apply pw_below_drewN | apply below_drew1) | exact HB.out))) : w.heap.size ≤ gb212)); have n3_ := Aside0.mk ((by rw [hg]; exact (below_size (by repeat (first | (with_reducible first | exact HB.out | apply below_alloc | apply pw_below_drewN | apply below_drew1) | exact HB.out))) : w.heap.size ≤ gb212)); clear HB; have HB := n0_; have BK212 := n1_; have GW212 := n2_; have GE212 := n3_; clear n0_ n1_ n2_ n3_; clear hb hbox hg))
  go_loopg [7] k (fun kq v7 w' => ∃ (x7_1 : Int), v7 = .int .i64 x7_1 ∧ Aside0 (posserref03_DoesMiss.l0 kq l1 a2 x7_1 l0_0 l0_1 a0_2 = some r) ∧ Aside0 (kq ≤ k) ∧ Aside0 (w'.heap[gb212]? = some (.cells #[(.slice A0_0 l0_0.length c0_0), (.slice A0_1 l0_1.length c0_1), .int .i64 a0_2] 25 (0, 0))) ∧ Aside0 (Below w.heap.size w w'))
  case atStart => exact ⟨(0), (by first | rfl | (simp; done) | (simp [*]; done)), H', ⟨Nat.le_refl _⟩, ⟨by (with_reducible repeat (first | refine blk_drewN ?_ _ | refine blk_drew ?_ | refine blk_alloc ?_ _)); exact BK212.out⟩, ⟨by repeat (first | (with_reducible first | exact HB.out | apply below_alloc | apply pw_below_drewN | apply below_drew1 | refine below_set ?_ GE212.out) | exact HB.out)⟩⟩
  case round =>
    clear H'
    try clear c1
    try clear p2
    obtain ⟨x7_1, rfl, HA, HK1, BK212, HB⟩ := hrel
    cases gk with
    | zero => exact absurd HA.out (by simp [posserref03_DoesMiss.l0])
    | succ k1 =>
      have H := HA.out
      clear HA
      simp only [posserref03_DoesMiss.l0] at H
      by_cases c5 : x7_1 < (l1.length : Int)
      · rw [if_pos c5] at H
        have c5b0 : decide (x7_1 < (l1.length : Int)) = true := decide_eq_true c5
        clear c5
        by_cases c6 : 0 ≤ x7_1
        · rw [if_pos c6] at H
          have c6b0 : decide (0 ≤ x7_1) = true := decide_eq_true c6
          clear c6
          by_cases c7 : (rd l1 x7_1) = a2
          · rw [if_pos c7] at H
            have c7b0 : ((rd l1 x7_1) == a2) = true := beq_iff_eq.mpr c7
            have c7b1 : ((rd l1 x7_1) != a2) = false := bne_eq_false_iff_eq.mpr c7
            clear c7
            by_cases c8 : x7_1 < (l0_1.length : Int)
            · rw [if_pos c8] at H
              have c8b0 : decide (x7_1 < (l0_1.length : Int)) = true := decide_eq_true c8
              clear c8
              by_cases c9 : ((rd_T71 l0_1 x7_1).f1) = a2
              · rw [if_pos c9] at H
                have c9b0 : (((rd_T71 l0_1 x7_1).f1) == a2) = true := beq_iff_eq.mpr c9
                have c9b1 : (((rd_T71 l0_1 x7_1).f1) != a2) = false := bne_eq_false_iff_eq.mpr c9
                clear c9
                have H' := Aside0.mk H
                clear H
                have p213 : 0 ≤ (x7_1 : Int) := of_decide_eq_true (by first | (with_reducible assumption) | assumption)
                have q213 : x7_1 < (l1.length : Int) := of_decide_eq_true (by first | (with_reducible assumption) | assumption)
                obtain ⟨ad213, e213, hx213_0⟩ := Kd.at_int HR1.out x7_1 p213 q213
                cases e213
                replace hx213_0 := (HB.out.cell (World.block_lt_of_cell? w _ hx213_0)).trans hx213_0
                replace p213 := eq_true p213
                replace q213 := eq_true q213
                have hcz10_0 : wr.cell? ⟨gb212, 0, none⟩ = some (.slice A0_0 l0_0.length c0_0) := (blk_cell BK212.out 0).trans rfl
                have hcz10_1 : wr.cell? ⟨gb212, 1, none⟩ = some (.slice A0_1 l0_1.length c0_1) := (blk_cell BK212.out 1).trans rfl
                have hcz10_2 : wr.cell? ⟨gb212, 2, none⟩ = some (.int .i64 a0_2) := (blk_cell BK212.out 2).trans rfl
                have hfz10_0 := blk_frozen BK212.out 0
                have hfz10_1 := blk_frozen BK212.out 1
                have hfz10_2 := blk_frozen BK212.out 2
                have p214 : 0 ≤ (x7_1 : Int) := of_decide_eq_true (by first | (with_reducible assumption) | assumption)
                have q214 : x7_1 < (l0_1.length : Int) := of_decide_eq_true (by first | (with_reducible assumption) | assumption)
                obtain ⟨ad214, A214_0, c214_0, e214, hx214_0, hx214_1, hl214_0, hi214_0⟩ := at_T71 HR0_1.out x7_1 p214 q214
                cases e214
                replace hx214_0 := (HB.out.cell (World.block_lt_of_cell? w _ hx214_0)).trans hx214_0
                replace hx214_1 := (HB.out.cell (World.block_lt_of_cell? w _ hx214_1)).trans hx214_1
                have HR214_0 := Aside0.mk hi214_0
                have HC214_0 := Aside0.mk hl214_0
                clear hi214_0 hl214_0
                replace p214 := eq_true p214
                replace q214 := eq_true q214
                go_wp2
                go_roundg k1
                case measure => have := HK1.out; omega
                case rel => exact ⟨(wrap64 (x7_1 + 1)), (by first | rfl | (simp; done) | (simp [*]; done)), H', ⟨by have := HK1.out; omega⟩, ⟨by (with_reducible repeat (first | refine blk_drewN ?_ _ | refine blk_drew ?_ | refine blk_alloc ?_ _)); exact BK212.out⟩, ⟨by repeat (first | (with_reducible first | exact HB.out | apply below_alloc | apply pw_below_drewN | apply below_drew1 | refine below_set ?_ GE212.out) | exact HB.out)⟩⟩
              · rw [if_neg c9] at H
                have c9b0 : (((rd_T71 l0_1 x7_1).f1) == a2) = false := beq_eq_false_iff_ne.mpr c9
                have c9b1 : (((rd_T71 l0_1 x7_1).f1) != a2) = true := bne_iff_ne.mpr c9
                obtain rfl := Option.some.inj H
                have p213 : 0 ≤ (x7_1 : Int) := of_decide_eq_true (by first | (with_reducible assumption) | assumption)
                have q213 : x7_1 < (l1.length : Int) := of_decide_eq_true (by first | (with_reducible assumption) | assumption)
                obtain ⟨ad213, e213, hx213_0⟩ := Kd.at_int HR1.out x7_1 p213 q213
                cases e213
                replace hx213_0 := (HB.out.cell (World.block_lt_of_cell? w _ hx213_0)).trans hx213_0
                replace p213 := eq_true p213
                replace q213 := eq_true q213
                have hcz11_0 : wr.cell? ⟨gb212, 0, none⟩ = some (.slice A0_0 l0_0.length c0_0) := (blk_cell BK212.out 0).trans rfl
                have hcz11_1 : wr.cell? ⟨gb212, 1, none⟩ = some (.slice A0_1 l0_1.length c0_1) := (blk_cell BK212.out 1).trans rfl
                have hcz11_2 : wr.cell? ⟨gb212, 2, none⟩ = some (.int .i64 a0_2) := (blk_cell BK212.out 2).trans rfl
                have hfz11_0 := blk_frozen BK212.out 0
                have hfz11_1 := blk_frozen BK212.out 1
                have hfz11_2 := blk_frozen BK212.out 2
                have p214 : 0 ≤ (x7_1 : Int) := of_decide_eq_true (by first | (with_reducible assumption) | assumption)
                have q214 : x7_1 < (l0_1.length : Int) := of_decide_eq_true (by first | (with_reducible assumption) | assumption)
                obtain ⟨ad214, A214_0, c214_0, e214, hx214_0, hx214_1, hl214_0, hi214_0⟩ := at_T71 HR0_1.out x7_1 p214 q214
                cases e214
                replace hx214_0 := (HB.out.cell (World.block_lt_of_cell? w _ hx214_0)).trans hx214_0
                replace hx214_1 := (HB.out.cell (World.block_lt_of_cell? w _ hx214_1)).trans hx214_1
                have HR214_0 := Aside0.mk hi214_0
                have HC214_0 := Aside0.mk hl214_0
                clear hi214_0 hl214_0
                replace p214 := eq_true p214
                replace q214 := eq_true q214
                go_wp2
                go_ret
                exact ⟨by first | rfl | (simp [errW_none, errW_some] <;> rfl) | (simp [*, errW_none, errW_some] <;> rfl), by repeat (first | (with_reducible first | exact HB.out | apply below_alloc | apply pw_below_drewN | apply below_drew1 | refine below_set ?_ GE212.out) | exact HB.out)⟩
            · rw [if_neg c8] at H
              exact absurd H (by simp)
          · rw [if_neg c7] at H
            have c7b0 : ((rd l1 x7_1) == a2) = false := beq_eq_false_iff_ne.mpr c7
            have c7b1 : ((rd l1 x7_1) != a2) = true := bne_iff_ne.mpr c7
            have H' := Aside0.mk H
            clear H
            have p213 : 0 ≤ (x7_1 : Int) := of_decide_eq_true (by first | (with_reducible assumption) | assumption)
            have q213 : x7_1 < (l1.length : Int) := of_decide_eq_true (by first | (with_reducible assumption) | assumption)
            obtain ⟨ad213, e213, hx213_0⟩ := Kd.at_int HR1.out x7_1 p213 q213
            cases e213
            replace hx213_0 := (HB.out.cell (World.block_lt_of_cell? w _ hx213_0)).trans hx213_0
            replace p213 := eq_true p213
            replace q213 := eq_true q213
            go_wp2
            go_roundg k1
            case measure => have := HK1.out; omega
            case rel => exact ⟨(wrap64 (x7_1 + 1)), (by first | rfl | (simp; done) | (simp [*]; done)), H', ⟨by have := HK1.out; omega⟩, ⟨by (with_reducible repeat (first | refine blk_drewN ?_ _ | refine blk_drew ?_ | refine blk_alloc ?_ _)); exact BK212.out⟩, ⟨by repeat (first | (with_reducible first | exact HB.out | apply below_alloc | apply pw_below_drewN | apply below_drew1 | refine below_set ?_ GE212.out) | exact HB.out)⟩⟩
        · rw [if_neg c6] at H
          exact absurd H (by simp)
      · rw [if_neg c5] at H
        have c5b0 : decide (x7_1 < (l1.length : Int)) = false := decide_eq_false c5
        clear c5
        obtain rfl := Option.some.inj H
        go_wp2
        go_ret
        exact ⟨by first | rfl | (simp [errW_none, errW_some] <;> rfl) | (simp [*, errW_none, errW_some] <;> rfl), by repeat (first | (with_reducible first | exact HB.out | apply below_alloc | apply pw_below_drewN | apply below_drew1 | refine below_set ?_ GE212.out) | exact HB.out)⟩
end Go.Proofs.Ytnbbbeghgomnoaa.X
