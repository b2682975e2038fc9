/-
  For every table that the statement lets in: each woman that Whose returns owns the piece in some truth, and both ends of the number of pieces astray are reached.
-/
import Derived.Test.YtnbbbeghgomnoaaQSure01
import Derived.Deep.DeepMust
import Derived.Test.YtnbbbeghgomnoaaRows
import Derived.WalkKit
import Derived.ProofKit
import Derived.OpenShut
import Derived.ShutString
import Derived.ChangeOld
import Derived.Below
import Derived.SizedLaws
set_option linter.unusedVariables false
set_option linter.unusedSimpArgs false
namespace Go.Proofs.Ytnbbbeghgomnoaa.X
open Go.RowKit Go.Proofs.YtnbbbeghgomnoaaW.PrintWords Go.Proofs.YtnbbbeghgomnoaaW.PrintLast Go.Proofs.YtnbbbeghgomnoaaW.PrintMore
theorem mn_le (a b : Int) : mn a b ≤ a ∧ mn a b ≤ b ∧ (mn a b = a ∨ mn a b = b) := by
 unfold mn
 split
 ·exact ⟨by omega, by omega, .inr rfl⟩
 ·exact ⟨by omega, by omega, .inl rfl⟩
theorem mx_ge (a b : Int) : a ≤ mx a b ∧ b ≤ mx a b ∧ (mx a b = a ∨ mx a b = b) := by
 unfold mx
 split
 ·exact ⟨by omega, by omega, .inr rfl⟩
 ·exact ⟨by omega, by omega, .inl rfl⟩
theorem bounds_fold {α : Type} (g : α → Int) : ∀ (ts : List α) (a b : Int), (ts.foldl (fun r x => (mn r.1 (g x), mx r.2 (g x))) (a, b)).1 ≤ a ∧ (∀ x ∈ ts, (ts.foldl (fun r x => (mn r.1 (g x), mx r.2 (g x))) (a, b)).1 ≤ g x) ∧
  ((ts.foldl (fun r x => (mn r.1 (g x), mx r.2 (g x))) (a, b)).1 = a ∨ ∃ x ∈ ts, g x = (ts.foldl (fun r x => (mn r.1 (g x), mx r.2 (g x))) (a, b)).1) ∧
  b ≤ (ts.foldl (fun r x => (mn r.1 (g x), mx r.2 (g x))) (a, b)).2 ∧ (∀ x ∈ ts, g x ≤ (ts.foldl (fun r x => (mn r.1 (g x), mx r.2 (g x))) (a, b)).2) ∧
  ((ts.foldl (fun r x => (mn r.1 (g x), mx r.2 (g x))) (a, b)).2 = b ∨ ∃ x ∈ ts, g x = (ts.foldl (fun r x => (mn r.1 (g x), mx r.2 (g x))) (a, b)).2) := by
 intro ts
 induction ts with
 | nil => intro a b; exact ⟨Int.le_refl _, fun _ h => by simp at h, .inl rfl, Int.le_refl _, fun _ h => by simp at h, .inl rfl⟩
 | cons y r ih =>
  intro a b
  rw [List.foldl_cons]
  obtain ⟨h1, h2, h3, h4, h5, h6⟩ := ih (mn a (g y)) (mx b (g y))
  obtain ⟨m1, m2, m3⟩ := mn_le a (g y)
  obtain ⟨n1, n2, n3⟩ := mx_ge b (g y)
  refine ⟨Int.le_trans h1 m1, fun x hx => ?_, ?_, Int.le_trans n1 h4, fun x hx => ?_, ?_⟩
  ·rcases List.mem_cons.1 hx with rfl | hx
   ·exact Int.le_trans h1 m2
   ·exact h2 x hx
  ·rcases h3 with h3 | ⟨x, hx, h3⟩
   ·rcases m3 with m3 | m3
    ·exact .inl (h3.trans m3)
    ·exact .inr ⟨y, List.mem_cons_self, (h3.trans m3).symm⟩
   ·exact .inr ⟨x, List.mem_cons_of_mem _ hx, h3⟩
  ·rcases List.mem_cons.1 hx with rfl | hx
   ·exact Int.le_trans n2 h4
   ·exact h5 x hx
  ·rcases h6 with h6 | ⟨x, hx, h6⟩
   ·rcases n3 with n3 | n3
    ·exact .inl (h6.trans n3)
    ·exact .inr ⟨y, List.mem_cons_self, (h6.trans n3).symm⟩
   ·exact .inr ⟨x, List.mem_cons_of_mem _ hx, h6⟩
theorem boundsL_spec (g : List Int → Int) {ts : List (List Int)} (h : ts ≠ []) : (∀ x ∈ ts, (boundsL g ts).1 ≤ g x ∧ g x ≤ (boundsL g ts).2) ∧ (∃ x ∈ ts, g x = (boundsL g ts).1) ∧ (∃ x ∈ ts, g x = (boundsL g ts).2) := by
 obtain ⟨y, r, rfl⟩ : ∃ y r, ts = y :: r := List.exists_cons_of_ne_nil h
 obtain ⟨h1, h2, h3, h4, h5, h6⟩ := bounds_fold g (y :: r) (g y) (g y)
 refine ⟨fun x hx => ⟨h2 x hx, h5 x hx⟩, ?_, ?_⟩
 ·rcases h3 with h3 | h3
  ·exact ⟨y, List.mem_cons_self, h3.symm⟩
  ·exact h3
 ·rcases h6 with h6 | h6
  ·exact ⟨y, List.mem_cons_self, h6.symm⟩
  ·exact h6
end Go.Proofs.Ytnbbbeghgomnoaa.X
namespace Go.Proofs.Ytnbbbeghgomnoaa.X
open Go.RowKit Go.Proofs.YtnbbbeghgomnoaaW.PrintWords Go.Proofs.YtnbbbeghgomnoaaW.PrintLast Go.Proofs.YtnbbbeghgomnoaaW.PrintMore
theorem whoP_any (n1 : Nat) (ts : List (List Int)) (i w : Nat) (hi : i < n1) : whoP n1 ts i w = ts.any (fun x => pad x i == (w : Int)) := by
  unfold whoP manyS
  rw [if_pos ⟨by omega, by omega⟩, Int.toNat_natCast, Bool.eq_iff_iff, decide_eq_true_eq, List.any_eq_true]
  constructor
  · intro h
    obtain ⟨x, hx⟩ := List.exists_mem_of_length_pos (by omega : 0 < (ts.filter fun xs => pad xs i == (w : Int)).length)
    rw [List.mem_filter] at hx
    exact ⟨x, hx.1, hx.2⟩
  · rintro ⟨x, h1, h2⟩
    have := List.length_pos_of_mem (List.mem_filter.2 ⟨h1, h2⟩ : x ∈ ts.filter fun xs => pad xs i == (w : Int))
    omega
theorem whoseL_len (n0 n1 : Nat) (ts : List (List Int)) : (whoseL n0 n1 ts).length = n1 := by simp [whoseL]
theorem whoseL_get (n0 n1 : Nat) (ts : List (List Int)) (i : Nat) (hi : i < n1) : (whoseL n0 n1 ts).getD i [] = sel (whoP n1 ts i) n0 := by
  unfold whoseL
  rw [List.getD_eq_getElem?_getD, List.getElem?_map, List.getElem?_range hi]; rfl
theorem truths_own {l0 : List S109} {l1 : List S110} {wg : Int} {x : List Int} (h : x ∈ truthsL l0 l1 wg) (i : Nat) (hi : i < l1.length) : 0 ≤ pad x i ∧ pad x i < l0.length := allL_owners l0 l1 x (truths_mem h) i hi
end Go.Proofs.Ytnbbbeghgomnoaa.X
namespace Go.Proofs.Ytnbbbeghgomnoaa.X
open Go.RowKit Go.Proofs.YtnbbbeghgomnoaaW.PrintWords Go.Proofs.YtnbbbeghgomnoaaW.PrintLast Go.Proofs.YtnbbbeghgomnoaaW.PrintMore
attribute [local go_sem] max2_int min2_int max_two min_two max_three min_three max_four min_four
set_option linter.unusedVariables false
set_option linter.unusedSimpArgs false
def posserlaw03_ready.f (k : Nat) (l0_0 : List (S85)) (l0_1 : List (S71)) (a0_2 : Int) : Option (Bool) := (posserlaw03_Thin.f k l0_0 l0_1 a0_2).bind fun t444 => (if t444 = true then ((posserref03_Fault.f k l0_0 l0_1 a0_2).bind fun t445 => (some (t445 == 0))) else (some false))
set_option maxHeartbeats 8000000 in
set_option maxRecDepth 100000 in
theorem posserlaw03_ready.calls (k : Nat) (A0_0 : Option Addr) (c0_0 : Nat) (l0_0 : List (S85)) (A0_1 : Option Addr) (c0_1 : Nat) (l0_1 : List (S71)) (a0_2 : Int) (r : Bool) (w : World) (hr0_0 : Kd.C k85 w A0_0 l0_0.length l0_0) (hc0_0 : l0_0.length ≤ c0_0) (hr0_1 : Kd.C k71 w A0_1 l0_1.length l0_1) (hc0_1 : l0_1.length ≤ c0_1) (h : posserlaw03_ready.f k l0_0 l0_1 a0_2 = some r) :
  Calls Try.prog 47 #[.agg #[.slice A0_0 l0_0.length c0_0, .slice A0_1 l0_1.length c0_1, .int .i64 a0_2]] w fun e w' => e = .returned (.bool r) ∧ Below w.heap.size w w' := by
 have hu25 := Try.underlying25
 have HR0_0 := Aside0.mk hr0_0
 have HC0_0 := Aside0.mk hc0_0
 clear hr0_0 hc0_0
 have HR0_1 := Aside0.mk hr0_1
 have HC0_1 := Aside0.mk hc0_1
 clear hr0_1 hc0_1
 have HB := Aside0.mk (Below.refl w.heap.size w)
 have H : ((posserlaw03_Thin.f k l0_0 l0_1 a0_2).bind fun t444 => (if t444 = true then ((posserref03_Fault.f k l0_0 l0_1 a0_2).bind fun t445 => (some (t445 == 0))) else (some false))) = some r := h
 clear h
 replace H := Option.bind_eq_some_iff.mp H
 obtain ⟨t444, A20, H⟩ := H
 replace H : (if t444 = true then ((posserref03_Fault.f k l0_0 l0_1 a0_2).bind fun t445 => (some (t445 == 0))) else (some false)) = some r := H
 have A2 := Aside0.mk A20
 clear A20
 by_cases c3 : t444 = true
 ·subst c3
  have H1 : ((posserref03_Fault.f k l0_0 l0_1 a0_2).bind fun t445 => (some (t445 == 0))) = some r := by rw [if_pos rfl] at H; exact H
  clear H
  have H := H1
  clear H1
  replace H := Option.bind_eq_some_iff.mp H
  obtain ⟨t445, A40, H⟩ := H
  replace H : (some (t445 == 0)) = some r := H
  have A4 := Aside0.mk A40
  clear A40
  obtain rfl := Option.some.inj H
  go_enter Try.func47, Try.ntmps47
  go_wp2_with (first | ((with_reducible refine gate_dst (N := 1) rfl ?_); refine sbox (N := 1) #[.slice A0_0 l0_0.length c0_0, .slice A0_1 l0_1.length c0_1, .int .i64 a0_2] 25 ?_; intro gb443 hg w5 hbox hb; have BK443 := Aside0.mk (hbox); have GW443 := Aside0.mk (sge hg HB : w.heap.size ≤ gb443); have GE443 := Aside0.mk (sge hg HB : w.heap.size ≤ gb443); replace HB := Aside0.mk (sbs HB hb); clear hb hbox hg; have hcz6_0 := sc 0 BK443; have hcz6_1 := sc 1 BK443; have hcz6_2 := sc 2 BK443; have hfz6_0 := blk_frozen BK443.out 0; have hfz6_1 := blk_frozen BK443.out 1; have hfz6_2 := blk_frozen BK443.out 2) | ((with_reducible refine gate_callee (f := 20) rfl ?_); refine goesL_ (some 4) rfl rfl Try.func20 (by kernel_rfl) rfl #[.agg #[.slice A0_0 l0_0.length c0_0, .slice A0_1 l0_1.length c0_1, .int .i64 a0_2]] rfl (by (try simp only [List.map_toArray, List.map_cons, List.map_nil]); first | done | rfl | (simp only [List.length_drop, List.length_take]; rfl)) ?_; (with_reducible refine (posserlaw03_Thin.calls k _ _ l0_0 _ _ l0_1 a0_2 true _ ?side1 ?side2 ?side3 ?side4 A2.out).mono ?_); (case side1 => exact sCb HR0_0 HB); (case side2 => exact HC0_0.out); (case side3 => exact sCb HR0_1 HB); (case side4 => exact HC0_1.out); rintro e w7 ⟨rfl, hb⟩; refine ⟨_, rfl, ?_⟩; replace BK443 := Aside0.mk (sbb BK443 hb); replace HB := Aside0.mk (sbs1 HB GE443 hb); (try clear hb); (try clear hb2); (try clear hk); (try clear hi); have hcz8_0 := sc 0 BK443; have hcz8_1 := sc 1 BK443; have hcz8_2 := sc 2 BK443; have hfz8_0 := blk_frozen BK443.out 0; have hfz8_1 := blk_frozen BK443.out 1; have hfz8_2 := blk_frozen BK443.out 2) | (go_at_call 75; (with_reducible refine (posserref03_Fault.calls k _ _ l0_0 _ _ l0_1 a0_2 t445 _ ?side1 ?side2 ?side3 ?side4 A4.out).mono ?_); (case side1 => exact sCb HR0_0 HB); (case side2 => exact HC0_0.out); (case side3 => exact sCb HR0_1 HB); (case side4 => exact HC0_1.out); rintro e w9 ⟨rfl, hb⟩; replace BK443 := Aside0.mk (sbb BK443 hb); replace HB := Aside0.mk (sbs1 HB GE443 hb); (try clear hb); (try clear hb2); (try clear hk); (try clear hi)))
  go_ret
  exact ⟨by first | rfl | (simp [errW_none, errW_some] <;> rfl) | (simp [*, errW_none, errW_some] <;> rfl), (sbe1 HB GE443)⟩
 ·replace c3 := Bool.eq_false_iff.mpr c3
  subst c3
  have H1 : (some false) = some r := by rw [if_neg (show ¬ (false = true) by decide)] at H; exact H
  clear H
  have H := H1
  clear H1
  obtain rfl := Option.some.inj H
  go_enter Try.func47, Try.ntmps47
  go_wp2_with (first | ((with_reducible refine gate_dst (N := 1) rfl ?_); refine sbox (N := 1) #[.slice A0_0 l0_0.length c0_0, .slice A0_1 l0_1.length c0_1, .int .i64 a0_2] 25 ?_; intro gb443 hg w10 hbox hb; have BK443 := Aside0.mk (hbox); have GW443 := Aside0.mk (sge hg HB : w.heap.size ≤ gb443); have GE443 := Aside0.mk (sge hg HB : w.heap.size ≤ gb443); replace HB := Aside0.mk (sbs HB hb); clear hb hbox hg; have hcz11_0 := sc 0 BK443; have hcz11_1 := sc 1 BK443; have hcz11_2 := sc 2 BK443; have hfz11_0 := blk_frozen BK443.out 0; have hfz11_1 := blk_frozen BK443.out 1; have hfz11_2 := blk_frozen BK443.out 2) | ((with_reducible refine gate_callee (f := 20) rfl ?_); refine goesL_ (some 4) rfl rfl Try.func20 (by kernel_rfl) rfl #[.agg #[.slice A0_0 l0_0.length c0_0, .slice A0_1 l0_1.length c0_1, .int .i64 a0_2]] rfl (by (try simp only [List.map_toArray, List.map_cons, List.map_nil]); first | done | rfl | (simp only [List.length_drop, List.length_take]; rfl)) ?_; (with_reducible refine (posserlaw03_Thin.calls k _ _ l0_0 _ _ l0_1 a0_2 false _ ?side1 ?side2 ?side3 ?side4 A2.out).mono ?_); (case side1 => exact sCb HR0_0 HB); (case side2 => exact HC0_0.out); (case side3 => exact sCb HR0_1 HB); (case side4 => exact HC0_1.out); rintro e w12 ⟨rfl, hb⟩; refine ⟨_, rfl, ?_⟩; replace BK443 := Aside0.mk (sbb BK443 hb); replace HB := Aside0.mk (sbs1 HB GE443 hb); (try clear hb); (try clear hb2); (try clear hk); (try clear hi)))
  go_ret
  exact ⟨by first | rfl | (simp [errW_none, errW_some] <;> rfl) | (simp [*, errW_none, errW_some] <;> rfl), (sbe1 HB GE443)⟩
end Go.Proofs.Ytnbbbeghgomnoaa.X
namespace Go.Proofs.Ytnbbbeghgomnoaa.X
open Go.RowKit Go.Proofs.YtnbbbeghgomnoaaW.PrintWords Go.Proofs.YtnbbbeghgomnoaaW.PrintLast Go.Proofs.YtnbbbeghgomnoaaW.PrintMore
theorem rdy_ev (l0 : List S85) (l1 : List S71) (wg : Int) : Evt (fun k => posserlaw03_ready.f k l0 l1 wg) (thinR l0 l1 && decide (checkT (l0.map cvW) (l1.map cvP) wg = 0)) := by
  obtain ⟨K, hK⟩ := Thin_ev l0 l1 wg
  cases hth : thinR l0 l1 with
  | false =>
    refine ⟨K, fun k hk => ?_⟩
    have g1 := hK k hk
    dsimp only at g1 ⊢
    unfold posserlaw03_ready.f
    rw [g1, hth]; rfl
  | true =>
    obtain ⟨L, hL⟩ := Fault_ev wg (thinR_iff.1 hth)
    refine ⟨K + L, fun k hk => ?_⟩
    have g1 := hK k (by omega)
    have g2 := hL k (by omega)
    dsimp only at g1 g2 ⊢
    unfold posserlaw03_ready.f
    rw [g1, hth]
    simp only [Option.bind_some, if_true]
    rw [g2]
    simp only [Option.bind_some]
    exact congrArg some (by rw [Bool.true_and, Bool.eq_iff_iff, beq_iff_eq, decide_eq_true_eq])
theorem rdy_cases (l0 : List S85) (l1 : List S71) (wg : Int) : (∃ K, ∀ k, K ≤ k → posserlaw03_ready.f k l0 l1 wg = some false) ∨ (VR l0 l1 wg ∧ checkT (l0.map cvW) (l1.map cvP) wg = 0 ∧ ∃ K, ∀ k, K ≤ k → posserlaw03_ready.f k l0 l1 wg = some true) := by
  have h := rdy_ev l0 l1 wg
  by_cases h1 : thinR l0 l1 = true
  · by_cases h2 : checkT (l0.map cvW) (l1.map cvP) wg = 0
    · rw [h1, decide_eq_true h2] at h
      exact .inr ⟨VR.of (thinR_iff.1 h1) h2, h2, h⟩
    · rw [h1, decide_eq_false h2] at h
      exact .inl h
  · rw [Bool.eq_false_iff.2 h1] at h
    exact .inl h
theorem ask_cases {l0 : List S109} {l1 : List S110} {wg : Int} (hc : checkT l0 l1 wg = 0) : (askE l0 l1 wg = 11 ∧ truthsL l0 l1 wg = []) ∨ (askE l0 l1 wg = 0 ∧ truthsL l0 l1 wg ≠ []) := by
  unfold askE
  rw [if_neg (fun h => h hc)]
  by_cases h : truthsL l0 l1 wg = []
  · rw [if_pos h]; exact .inl ⟨rfl, h⟩
  · rw [if_neg h]; exact .inr ⟨rfl, h⟩
theorem u8_rng {a : Int} (h : (Lit.int .u8 a).wf = true) : 0 ≤ a ∧ a ≤ 255 := by
  unfold Lit.wf at h
  rw [Bool.and_eq_true, decide_eq_true_eq, decide_eq_true_eq] at h
  exact ⟨h.1, h.2⟩
theorem tmod_nat (a n : Int) (h0 : 0 ≤ a) (h1 : a ≤ 65535) (hn : 0 < n) : Int.tmod (wrap64 a) n = ((a.toNat % n.toNat : Nat) : Int) := by
  rw [wrap64_id _ (by omega) (by omega), Int.tmod_eq_emod_of_nonneg h0]
  obtain ⟨x, rfl⟩ : ∃ x : Nat, a = (x : Int) := ⟨a.toNat, by omega⟩
  obtain ⟨y, rfl⟩ : ∃ y : Nat, n = (y : Int) := ⟨n.toNat, by omega⟩
  rw [Int.toNat_natCast, Int.toNat_natCast]; rfl
end Go.Proofs.Ytnbbbeghgomnoaa.X
namespace Go.Proofs.Ytnbbbeghgomnoaa.X
open Go.RowKit Go.Proofs.YtnbbbeghgomnoaaW.PrintWords Go.Proofs.YtnbbbeghgomnoaaW.PrintLast Go.Proofs.YtnbbbeghgomnoaaW.PrintMore
attribute [local go_sem] max2_int min2_int max_two min_two max_three min_three max_four min_four
set_option linter.unusedVariables false
set_option linter.unusedSimpArgs false
def posserref03_Astray.l0 : Nat → List Int → List Int → Int → List (S85) → List (S71) → Int → Option (List Int)
  | 0, _, _, _, _, _, _ => none
  | k + 1, x1, x5, x6, x336000, x336001, x336002 => if x6 < (x1.length : Int) then (if 0 ≤ x6 then (if x6 < (x336001.length : Int) then (if ((rd_T71 x336001 x6).f1) = (rd x1 x6) then (posserref03_Astray.l0 k x1 x5 (wrap64 (x6 + 1)) x336000 x336001 x336002) else (if x5.length < 17592186044416 then (posserref03_Astray.l0 k x1 (x5 ++ [x6]) (wrap64 (x6 + 1)) x336000 x336001 x336002) else (none))) else (none)) else (none)) else (some x5)
def posserref03_Astray.f (k : Nat) (l0_0 : List (S85)) (l0_1 : List (S71)) (a0_2 : Int) (l1 : List Int) : Option (List Int) := posserref03_Astray.l0 k l1 ([] : List Int) 0 l0_0 l0_1 a0_2
set_option maxHeartbeats 8000000 in
set_option maxRecDepth 100000 in
theorem posserref03_Astray.calls (k : Nat) (A0_0 : Option Addr) (c0_0 : Nat) (l0_0 : List (S85)) (A0_1 : Option Addr) (c0_1 : Nat) (l0_1 : List (S71)) (a0_2 : Int) (A1 : Option Addr) (c1 : Nat) (l1 : List Int) (r : List Int) (w : World) (hr0_0 : Kd.C k85 w A0_0 l0_0.length l0_0) (hc0_0 : l0_0.length ≤ c0_0) (hr0_1 : Kd.C k71 w A0_1 l0_1.length l0_1) (hc0_1 : l0_1.length ≤ c0_1) (hr1 : Kd.C (Kd.int .i64) w A1 l1.length l1) (hc1 : l1.length ≤ c1) (h : posserref03_Astray.f k l0_0 l0_1 a0_2 l1 = some r) :
    Calls Try.prog 43 #[.agg #[.slice A0_0 l0_0.length c0_0, .slice A0_1 l0_1.length c0_1, .int .i64 a0_2], .slice A1 l1.length c1] w fun e w' => ∃ v0_ : Value, e = .returned (v0_) ∧ Kd.R (Kd.int .i64) 3 w' w.heap.size (fun _ => True) v0_ r ∧ Below w.heap.size w w' := by
  have hu25 := Try.underlying25
  have HR0_0 := Aside0.mk hr0_0
  have HC0_0 := Aside0.mk hc0_0
  clear hr0_0 hc0_0
  have HR0_1 := Aside0.mk hr0_1
  have HC0_1 := Aside0.mk hc0_1
  clear hr0_1 hc0_1
  have HR1 := Aside0.mk hr1
  have HC1 := Aside0.mk hc1
  clear hr1 hc1
  have HB := Aside0.mk (Below.refl w.heap.size w)
  have H : (posserref03_Astray.l0 k l1 ([] : List Int) 0 l0_0 l0_1 a0_2) = some r := h
  clear h
  have H' := Aside0.mk H
  clear H
  go_enter Try.func43, Try.ntmps43
  go_wp2_with (first | ((with_reducible refine gate_dst (N := 2) rfl ?_); refine box_event ?hg (N := 2) ?hd (cs := #[.slice A0_0 l0_0.length c0_0, .slice A0_1 l0_1.length c0_1, .int .i64 a0_2]) (t := 25) ?hr ?_; (case hd => rfl); (case hg => rfl); (case hr => first | (go_simp; done) | (go_simp; rfl)); intro gb335 hg w3 hbox hb; have n0_ := Aside0.mk (below_step (by repeat (first | (with_reducible first | exact HB.out | apply below_alloc | apply pw_below_drewN | apply below_drew1) | exact HB.out)) hb); have n1_ := Aside0.mk (hbox); have n2_ := Aside0.mk ((by rw [hg]; exact (below_size (by repeat (first | (with_reducible first | exact HB.out | apply below_alloc | apply pw_below_drewN | apply below_drew1) | exact HB.out))) : w.heap.size ≤ gb335)); have n3_ := Aside0.mk ((by rw [hg]; exact (below_size (by repeat (first | (with_reducible first | exact HB.out | apply below_alloc | apply pw_below_drewN | apply below_drew1) | exact HB.out))) : w.heap.size ≤ gb335)); clear HB; have HB := n0_; have BK335 := n1_; have GW335 := n2_; have GE335 := n3_; clear n0_ n1_ n2_ n3_; clear hb hbox hg))
  repeat (go_quiet (first | ((with_reducible refine gate_dst (N := 2) rfl ?_); refine box_event ?hg (N := 2) ?hd (cs := #[.slice A0_0 l0_0.length c0_0, .slice A0_1 l0_1.length c0_1, .int .i64 a0_2]) (t := 25) ?hr ?_; (case hd => rfl); (case hg => rfl); (case hr => first | (go_simp; done) | (go_simp; rfl)); intro gb335 hg w3 hbox hb; have n0_ := Aside0.mk (below_step (by repeat (first | (with_reducible first | exact HB.out | apply below_alloc | apply pw_below_drewN | apply below_drew1) | exact HB.out)) hb); have n1_ := Aside0.mk (hbox); have n2_ := Aside0.mk ((by rw [hg]; exact (below_size (by repeat (first | (with_reducible first | exact HB.out | apply below_alloc | apply pw_below_drewN | apply below_drew1) | exact HB.out))) : w.heap.size ≤ gb335)); have n3_ := Aside0.mk ((by rw [hg]; exact (below_size (by repeat (first | (with_reducible first | exact HB.out | apply below_alloc | apply pw_below_drewN | apply below_drew1) | exact HB.out))) : w.heap.size ≤ gb335)); clear HB; have HB := n0_; have BK335 := n1_; have GW335 := n2_; have GE335 := n3_; clear n0_ n1_ n2_ n3_; clear hb hbox hg)); try go_wp2_with (first | ((with_reducible refine gate_dst (N := 2) rfl ?_); refine box_event ?hg (N := 2) ?hd (cs := #[.slice A0_0 l0_0.length c0_0, .slice A0_1 l0_1.length c0_1, .int .i64 a0_2]) (t := 25) ?hr ?_; (case hd => rfl); (case hg => rfl); (case hr => first | (go_simp; done) | (go_simp; rfl)); intro gb335 hg w3 hbox hb; have n0_ := Aside0.mk (below_step (by repeat (first | (with_reducible first | exact HB.out | apply below_alloc | apply pw_below_drewN | apply below_drew1) | exact HB.out)) hb); have n1_ := Aside0.mk (hbox); have n2_ := Aside0.mk ((by rw [hg]; exact (below_size (by repeat (first | (with_reducible first | exact HB.out | apply below_alloc | apply pw_below_drewN | apply below_drew1) | exact HB.out))) : w.heap.size ≤ gb335)); have n3_ := Aside0.mk ((by rw [hg]; exact (below_size (by repeat (first | (with_reducible first | exact HB.out | apply below_alloc | apply pw_below_drewN | apply below_drew1) | exact HB.out))) : w.heap.size ≤ gb335)); clear HB; have HB := n0_; have BK335 := n1_; have GW335 := n2_; have GE335 := n3_; clear n0_ n1_ n2_ n3_; clear hb hbox hg)))
  go_loopg [5, 6] k (fun kq v5 v6 w' => ∃ (x5_1 : List Int) (x6_1 : Int), v6 = .int .i64 x6_1 ∧ Aside0 (posserref03_Astray.l0 kq l1 x5_1 x6_1 l0_0 l0_1 a0_2 = some r) ∧ Aside0 (kq ≤ k) ∧ Aside0 (Kd.R (Kd.int .i64) 3 w' w.heap.size (fun _ => True) v5 x5_1) ∧ Aside0 (w'.heap[gb335]? = some (.cells #[(.slice A0_0 l0_0.length c0_0), (.slice A0_1 l0_1.length c0_1), .int .i64 a0_2] 25 (0, 0))) ∧ Aside0 (Below w.heap.size w w'))
  case atStart => exact ⟨(([] : List Int)), (0), (by first | rfl | (simp; done) | (simp [*]; done)), H', ⟨Nat.le_refl _⟩, ⟨by first | exact Kd.R_nil _ _ _ _ _ | exact Kd.N_nil _ _ _ _ _ | exact Kd.V_nil _ _ _ _ _ | exact Kd.Q_nil _ _ _ _ _ | exact Kd.S_nil _ _ _ _ _⟩, ⟨by (with_reducible repeat (first | refine blk_drewN ?_ _ | refine blk_drew ?_ | refine blk_alloc ?_ _)); exact BK335.out⟩, ⟨by repeat (first | (with_reducible first | exact HB.out | apply below_alloc | apply pw_below_drewN | apply below_drew1 | refine below_set ?_ GE335.out) | exact HB.out)⟩⟩
  case round =>
    clear H'
    try clear c1
    try clear p2
    obtain ⟨x5_1, x6_1, rfl, HA, HK1, HO_5, BK335, HB⟩ := hrel
    cases gk with
    | zero => exact absurd HA.out (by simp [posserref03_Astray.l0])
    | succ k1 =>
      have H := HA.out
      clear HA
      simp only [posserref03_Astray.l0] at H
      by_cases c4 : x6_1 < (l1.length : Int)
      · rw [if_pos c4] at H
        have c4b0 : decide (x6_1 < (l1.length : Int)) = true := decide_eq_true c4
        clear c4
        by_cases c5 : 0 ≤ x6_1
        · rw [if_pos c5] at H
          have c5b0 : decide (0 ≤ x6_1) = true := decide_eq_true c5
          clear c5
          by_cases c6 : x6_1 < (l0_1.length : Int)
          · rw [if_pos c6] at H
            have c6b0 : decide (x6_1 < (l0_1.length : Int)) = true := decide_eq_true c6
            clear c6
            by_cases c7 : ((rd_T71 l0_1 x6_1).f1) = (rd l1 x6_1)
            · rw [if_pos c7] at H
              have c7b0 : (((rd_T71 l0_1 x6_1).f1) == (rd l1 x6_1)) = true := beq_iff_eq.mpr c7
              have c7b1 : (((rd_T71 l0_1 x6_1).f1) != (rd l1 x6_1)) = false := bne_eq_false_iff_eq.mpr c7
              clear c7
              have H' := Aside0.mk H
              clear H
              have hcz8_0 : wr.cell? ⟨gb335, 0, none⟩ = some (.slice A0_0 l0_0.length c0_0) := (blk_cell BK335.out 0).trans rfl
              have hcz8_1 : wr.cell? ⟨gb335, 1, none⟩ = some (.slice A0_1 l0_1.length c0_1) := (blk_cell BK335.out 1).trans rfl
              have hcz8_2 : wr.cell? ⟨gb335, 2, none⟩ = some (.int .i64 a0_2) := (blk_cell BK335.out 2).trans rfl
              have hfz8_0 := blk_frozen BK335.out 0
              have hfz8_1 := blk_frozen BK335.out 1
              have hfz8_2 := blk_frozen BK335.out 2
              have p336 : 0 ≤ (x6_1 : Int) := of_decide_eq_true (by first | (with_reducible assumption) | assumption)
              have q336 : x6_1 < (l0_1.length : Int) := of_decide_eq_true (by first | (with_reducible assumption) | assumption)
              obtain ⟨ad336, A336_0, c336_0, e336, hx336_0, hx336_1, hl336_0, hi336_0⟩ := at_T71 HR0_1.out x6_1 p336 q336
              cases e336
              replace hx336_0 := (HB.out.cell (World.block_lt_of_cell? w _ hx336_0)).trans hx336_0
              replace hx336_1 := (HB.out.cell (World.block_lt_of_cell? w _ hx336_1)).trans hx336_1
              have HR336_0 := Aside0.mk hi336_0
              have HC336_0 := Aside0.mk hl336_0
              clear hi336_0 hl336_0
              replace p336 := eq_true p336
              replace q336 := eq_true q336
              have p337 : 0 ≤ (x6_1 : Int) := of_decide_eq_true (by first | (with_reducible assumption) | assumption)
              have q337 : x6_1 < (l1.length : Int) := of_decide_eq_true (by first | (with_reducible assumption) | assumption)
              obtain ⟨ad337, e337, hx337_0⟩ := Kd.at_int HR1.out x6_1 p337 q337
              cases e337
              replace hx337_0 := (HB.out.cell (World.block_lt_of_cell? w _ hx337_0)).trans hx337_0
              replace p337 := eq_true p337
              replace q337 := eq_true q337
              go_wp2
              repeat (go_quiet (fail); try go_wp2)
              go_roundg k1
              case measure => have := HK1.out; omega
              case rel => exact ⟨(x5_1), (wrap64 (x6_1 + 1)), (by first | rfl | (simp; done) | (simp [*]; done)), H', ⟨by have := HK1.out; omega⟩, ⟨by (with_reducible repeat (first | apply Kd.R_alloc | apply Kd.R_drewN | apply Kd.R_drew)); exact HO_5.out⟩, ⟨by (with_reducible repeat (first | refine blk_drewN ?_ _ | refine blk_drew ?_ | refine blk_alloc ?_ _)); exact BK335.out⟩, ⟨by repeat (first | (with_reducible first | exact HB.out | apply below_alloc | apply pw_below_drewN | apply below_drew1 | refine below_set ?_ GE335.out) | exact HB.out)⟩⟩
            · rw [if_neg c7] at H
              have c7b0 : (((rd_T71 l0_1 x6_1).f1) == (rd l1 x6_1)) = false := beq_eq_false_iff_ne.mpr c7
              have c7b1 : (((rd_T71 l0_1 x6_1).f1) != (rd l1 x6_1)) = true := bne_iff_ne.mpr c7
              by_cases c9 : x5_1.length < 17592186044416
              · rw [if_pos c9] at H
                have LMc9 := Aside0.mk c9
                clear c9
                obtain ⟨y338, hy338⟩ : ∃ y_ : List Int, y_ = (x5_1 ++ [x6_1]) := ⟨_, rfl⟩
                replace H : (posserref03_Astray.l0 k1 l1 y338 (wrap64 (x6_1 + 1)) l0_0 l0_1 a0_2) = some r := by first | (rw [hy338]; with_reducible exact H) | (have H2_ := (Option.bind_some _ _).symm.trans H; rw [hy338]; with_reducible exact H2_) | (have H2_ := (Option.bind_some _ _).symm.trans H; with_reducible exact H2_) | with_reducible exact H | (rw [hy338]; exact H) | exact H
                have Ny338 := Aside0.mk hy338
                clear hy338
                have H' := Aside0.mk H
                clear H
                have hcz10_0 : wr.cell? ⟨gb335, 0, none⟩ = some (.slice A0_0 l0_0.length c0_0) := (blk_cell BK335.out 0).trans rfl
                have hcz10_1 : wr.cell? ⟨gb335, 1, none⟩ = some (.slice A0_1 l0_1.length c0_1) := (blk_cell BK335.out 1).trans rfl
                have hcz10_2 : wr.cell? ⟨gb335, 2, none⟩ = some (.int .i64 a0_2) := (blk_cell BK335.out 2).trans rfl
                have hfz10_0 := blk_frozen BK335.out 0
                have hfz10_1 := blk_frozen BK335.out 1
                have hfz10_2 := blk_frozen BK335.out 2
                have p336 : 0 ≤ (x6_1 : Int) := of_decide_eq_true (by first | (with_reducible assumption) | assumption)
                have q336 : x6_1 < (l0_1.length : Int) := of_decide_eq_true (by first | (with_reducible assumption) | assumption)
                obtain ⟨ad336, A336_0, c336_0, e336, hx336_0, hx336_1, hl336_0, hi336_0⟩ := at_T71 HR0_1.out x6_1 p336 q336
                cases e336
                replace hx336_0 := (HB.out.cell (World.block_lt_of_cell? w _ hx336_0)).trans hx336_0
                replace hx336_1 := (HB.out.cell (World.block_lt_of_cell? w _ hx336_1)).trans hx336_1
                have HR336_0 := Aside0.mk hi336_0
                have HC336_0 := Aside0.mk hl336_0
                clear hi336_0 hl336_0
                replace p336 := eq_true p336
                replace q336 := eq_true q336
                have p337 : 0 ≤ (x6_1 : Int) := of_decide_eq_true (by first | (with_reducible assumption) | assumption)
                have q337 : x6_1 < (l1.length : Int) := of_decide_eq_true (by first | (with_reducible assumption) | assumption)
                obtain ⟨ad337, e337, hx337_0⟩ := Kd.at_int HR1.out x6_1 p337 q337
                cases e337
                replace hx337_0 := (HB.out.cell (World.block_lt_of_cell? w _ hx337_0)).trans hx337_0
                replace p337 := eq_true p337
                replace q337 := eq_true q337
                go_wp2_with (first | ((with_reducible refine gate_builtin (b := .append) (xs := #[.tmp 24, .tmp 26]) rfl ?_); at_builtin; refine Kd.R_append (Kd.int .i64) (w0 := w) w.heap.size rfl (.tmp 24) (.tmp 26) 39 3 (.int .i64 0) 8 rfl Try.underlying39 info3 rfl (by decide) (by omega) u5 x5_1 x6_1 [.int .i64 x6_1] (fun _ => True) (fun _ => False) rfl rfl ?aP (fun _ hk => hk.elim) ?aF ?aO ?aB ?aS ?aL ?_; (case aP => exact rfl); (case aB => exact (by repeat (first | (with_reducible first | exact HB.out | apply below_alloc | apply pw_below_drewN | apply below_drew1 | refine below_set ?_ GE335.out) | exact HB.out))); (case aF => exact (fun _ _ => trivial)); (case aO => exact (by (with_reducible repeat (first | apply Kd.R_alloc | apply Kd.R_drewN | apply Kd.R_drew)); exact HO_5.out)); (case aS => exact (below_size (by repeat (first | (with_reducible first | exact HB.out | apply below_alloc | apply pw_below_drewN | apply below_drew1 | refine below_set ?_ GE335.out) | exact HB.out)))); (case aL => have := LMc9.out; omega); intro v339 w11 ho hb hg hat; rw [← Ny338.out] at ho; have n0_ := Aside0.mk (blk_grown (g := gb335) (o := .cells #[.slice A0_0 l0_0.length c0_0, .slice (some ad336) l0_1.length c0_1, .int .i64 a0_2] 25 (0, 0)) (by (with_reducible repeat (first | refine blk_drewN ?_ _ | refine blk_drew ?_ | refine blk_alloc ?_ _)); exact BK335.out) hg (Kd.R_ne HO_5.out BK335.out (by decide))); have n1_ := Aside0.mk (hb); have n2_ := Aside0.mk (ho); clear BK335; clear HB; clear HO_5; have BK335 := n0_; have HB := n1_; have HO340 := n2_; clear n0_ n1_ n2_; clear ho hb hg hat))
                repeat (go_quiet (first | ((with_reducible refine gate_builtin (b := .append) (xs := #[.tmp 24, .tmp 26]) rfl ?_); at_builtin; refine Kd.R_append (Kd.int .i64) (w0 := w) w.heap.size rfl (.tmp 24) (.tmp 26) 39 3 (.int .i64 0) 8 rfl Try.underlying39 info3 rfl (by decide) (by omega) u5 x5_1 x6_1 [.int .i64 x6_1] (fun _ => True) (fun _ => False) rfl rfl ?aP (fun _ hk => hk.elim) ?aF ?aO ?aB ?aS ?aL ?_; (case aP => exact rfl); (case aB => exact (by repeat (first | (with_reducible first | exact HB.out | apply below_alloc | apply pw_below_drewN | apply below_drew1 | refine below_set ?_ GE335.out) | exact HB.out))); (case aF => exact (fun _ _ => trivial)); (case aO => exact (by (with_reducible repeat (first | apply Kd.R_alloc | apply Kd.R_drewN | apply Kd.R_drew)); exact HO_5.out)); (case aS => exact (below_size (by repeat (first | (with_reducible first | exact HB.out | apply below_alloc | apply pw_below_drewN | apply below_drew1 | refine below_set ?_ GE335.out) | exact HB.out)))); (case aL => have := LMc9.out; omega); intro v339 w11 ho hb hg hat; rw [← Ny338.out] at ho; have n0_ := Aside0.mk (blk_grown (g := gb335) (o := .cells #[.slice A0_0 l0_0.length c0_0, .slice (some ad336) l0_1.length c0_1, .int .i64 a0_2] 25 (0, 0)) (by (with_reducible repeat (first | refine blk_drewN ?_ _ | refine blk_drew ?_ | refine blk_alloc ?_ _)); exact BK335.out) hg (Kd.R_ne HO_5.out BK335.out (by decide))); have n1_ := Aside0.mk (hb); have n2_ := Aside0.mk (ho); clear BK335; clear HB; clear HO_5; have BK335 := n0_; have HB := n1_; have HO340 := n2_; clear n0_ n1_ n2_; clear ho hb hg hat)); try go_wp2_with (first | ((with_reducible refine gate_builtin (b := .append) (xs := #[.tmp 24, .tmp 26]) rfl ?_); at_builtin; refine Kd.R_append (Kd.int .i64) (w0 := w) w.heap.size rfl (.tmp 24) (.tmp 26) 39 3 (.int .i64 0) 8 rfl Try.underlying39 info3 rfl (by decide) (by omega) u5 x5_1 x6_1 [.int .i64 x6_1] (fun _ => True) (fun _ => False) rfl rfl ?aP (fun _ hk => hk.elim) ?aF ?aO ?aB ?aS ?aL ?_; (case aP => exact rfl); (case aB => exact (by repeat (first | (with_reducible first | exact HB.out | apply below_alloc | apply pw_below_drewN | apply below_drew1 | refine below_set ?_ GE335.out) | exact HB.out))); (case aF => exact (fun _ _ => trivial)); (case aO => exact (by (with_reducible repeat (first | apply Kd.R_alloc | apply Kd.R_drewN | apply Kd.R_drew)); exact HO_5.out)); (case aS => exact (below_size (by repeat (first | (with_reducible first | exact HB.out | apply below_alloc | apply pw_below_drewN | apply below_drew1 | refine below_set ?_ GE335.out) | exact HB.out)))); (case aL => have := LMc9.out; omega); intro v339 w11 ho hb hg hat; rw [← Ny338.out] at ho; have n0_ := Aside0.mk (blk_grown (g := gb335) (o := .cells #[.slice A0_0 l0_0.length c0_0, .slice (some ad336) l0_1.length c0_1, .int .i64 a0_2] 25 (0, 0)) (by (with_reducible repeat (first | refine blk_drewN ?_ _ | refine blk_drew ?_ | refine blk_alloc ?_ _)); exact BK335.out) hg (Kd.R_ne HO_5.out BK335.out (by decide))); have n1_ := Aside0.mk (hb); have n2_ := Aside0.mk (ho); clear BK335; clear HB; clear HO_5; have BK335 := n0_; have HB := n1_; have HO340 := n2_; clear n0_ n1_ n2_; clear ho hb hg hat)))
                go_roundg k1
                case measure => have := HK1.out; omega
                case rel => exact ⟨(y338), (wrap64 (x6_1 + 1)), (by first | rfl | (simp; done) | (simp [*]; done)), H', ⟨by have := HK1.out; omega⟩, ⟨by (with_reducible repeat (first | apply Kd.R_alloc | apply Kd.R_drewN | apply Kd.R_drew)); exact HO340.out⟩, ⟨by (with_reducible repeat (first | refine blk_drewN ?_ _ | refine blk_drew ?_ | refine blk_alloc ?_ _)); exact BK335.out⟩, ⟨by repeat (first | (with_reducible first | exact HB.out | apply below_alloc | apply pw_below_drewN | apply below_drew1 | refine below_set ?_ GE335.out) | exact HB.out)⟩⟩
              · rw [if_neg c9] at H
                exact absurd H (by simp)
          · rw [if_neg c6] at H
            exact absurd H (by simp)
        · rw [if_neg c5] at H
          exact absurd H (by simp)
      · rw [if_neg c4] at H
        have c4b0 : decide (x6_1 < (l1.length : Int)) = false := decide_eq_false c4
        clear c4
        obtain rfl := Option.some.inj H
        go_wp2
        repeat (go_quiet (fail); try go_wp2)
        go_ret
        exact ⟨_, by first | rfl | (simp [errW_none, errW_some] <;> rfl) | (simp [*, errW_none, errW_some] <;> rfl), by (with_reducible repeat (first | apply Kd.R_alloc | apply Kd.R_drewN | apply Kd.R_drew)); exact HO_5.out, by repeat (first | (with_reducible first | exact HB.out | apply below_alloc | apply pw_below_drewN | apply below_drew1 | refine below_set ?_ GE335.out) | exact HB.out)⟩
end Go.Proofs.Ytnbbbeghgomnoaa.X
namespace Go.Proofs.Ytnbbbeghgomnoaa.X
open Go.RowKit Go.Proofs.YtnbbbeghgomnoaaW.PrintWords Go.Proofs.YtnbbbeghgomnoaaW.PrintLast Go.Proofs.YtnbbbeghgomnoaaW.PrintMore
theorem Evt.all {α β : Type} {g : α → Nat → Option β} {r : α → β} : ∀ (l : List α), (∀ x ∈ l, Evt (g x) (r x)) → ∃ K, ∀ k, K ≤ k → ∀ x ∈ l, g x k = some (r x)
  | [], _ => ⟨0, fun _ _ _ h => by cases h⟩
  | a :: l, h => by
    obtain ⟨K, hK⟩ := h a (List.mem_cons_self ..)
    obtain ⟨L, hL⟩ := Evt.all l fun x hx => h x (List.mem_cons_of_mem _ hx)
    refine ⟨K + L, fun k hk x hx => ?_⟩
    rcases List.mem_cons.1 hx with rfl | hx
    · exact hK k (by omega)
    · exact hL k (by omega) x hx
theorem RAstray_ev {l0 : List S85} {l1 : List S71} (wg : Int) (h1 : l1.length ≤ 30) (x : List Int) (hx : x.length = l1.length) : Evt (fun k => posserref03_Astray.f k l0 l1 wg x) (sel (off (l1.map cvP) (pad x)) (l1.map cvP).length) := by
  rw [List.length_map]
  have main : ∀ (d i : Nat), i + d = l1.length → Evt (fun k => posserref03_Astray.l0 k x (sel (off (l1.map cvP) (pad x)) i) (i : Int) l0 l1 wg) (sel (off (l1.map cvP) (pad x)) l1.length) := by
    intro d
    induction d with
    | zero =>
      intro i hi
      obtain rfl : i = l1.length := by omega
      refine Evt.succ (Evt.const _) (fun k => ?_)
      simp only [posserref03_Astray.l0]
      rw [if_neg (by omega)]
    | succ d ih =>
      intro i hi
      have hlt : i < l1.length := by omega
      have hoff : off (l1.map cvP) (pad x) i = !decide ((l1.getD i z71).f1 = x.getD i 0) := by
        unfold off
        rw [cvP_getD]; rfl
      have hn := ih (i + 1) (by omega)
      by_cases he : (l1.getD i z71).f1 = x.getD i 0
      · rw [sel_no _ _ (by rw [hoff, decide_eq_true he]; rfl)] at hn
        refine Evt.succ hn (fun k => ?_)
        simp only [posserref03_Astray.l0]
        rw [if_pos (by omega), if_pos (by omega), if_pos (by omega), rd_nat, rd_T71_nat, if_pos he, wrap_succ i _ hlt (by omega)]
      · rw [sel_yes _ _ (by rw [hoff, decide_eq_false he]; rfl)] at hn
        refine Evt.succ hn (fun k => ?_)
        simp only [posserref03_Astray.l0]
        have := sel_le (off (l1.map cvP) (pad x)) i
        rw [if_pos (by omega), if_pos (by omega), if_pos (by omega), rd_nat, rd_T71_nat, if_neg he, if_pos (by omega), wrap_succ i _ hlt (by omega)]
  exact main l1.length 0 (by omega)
end Go.Proofs.Ytnbbbeghgomnoaa.X
namespace Go.Proofs.Ytnbbbeghgomnoaa.X
open Go.RowKit Go.Proofs.YtnbbbeghgomnoaaW.PrintWords Go.Proofs.YtnbbbeghgomnoaaW.PrintLast Go.Proofs.YtnbbbeghgomnoaaW.PrintMore
abbrev RL (w : World) (b : Nat) (v : Value) (xs : List (List Int)) : Prop := Kd.R (Kd.slice 3 (Kd.int .i64)) 39 w b (fun _ => True) v xs
section
variable {A0 : Option Addr} {c0 : Nat} {l0 : List S109} {A1 : Option Addr} {c1 : Nat} {l1 : List S110} {w : World}
theorem tab_c {A0 : Option Addr} {c0 : Nat} {l0 : List S85} {A1 : Option Addr} {c1 : Nat} {l1 : List S71} (wg : Int) {w : World} (ht : RTab A0 c0 l0 A1 c1 l1 w) {L0 : List S109} {L1 : List S110} (h0 : l0.map cvW = L0) (h1 : l1.map cvP = L1) :
    Calls Try.prog 23 #[.agg #[.slice A0 l0.length c0, .slice A1 l1.length c1, .int .i64 wg]] w fun e w' => ∃ B0 d0 B1 d1, e = .returned (.agg #[.slice B0 L0.length d0, .slice B1 L1.length d1, .int .i64 wg]) ∧ Tab B0 d0 L0 B1 d1 L1 w' ∧ Below w.heap.size w w' := by
  subst h0 h1
  refine (Table_calls wg ht).mono ?_
  rintro e w' ⟨B0, d0, B1, d1, rfl, h, _, _, hb⟩
  exact ⟨B0, d0, B1, d1, by simp only [List.length_map], h, hb⟩
theorem whose_c (wg : Int) (ht : Tab A0 c0 l0 A1 c1 l1 w) (he : askE l0 l1 wg = 0) {ws : List (List Int)} (hs : whoseL l0.length l1.length (truthsL l0 l1 wg) = ws) :
    Calls Try.prog 22 #[.agg #[.slice A0 l0.length c0, .slice A1 l1.length c1, .int .i64 wg]] w fun e w' => ∃ v, e = .returned (.tuple #[v, .int .i64 0]) ∧ RL w' w.heap.size v ws ∧ Below w.heap.size w w' := by
  subst hs
  exact Whose_ok wg ht he
theorem whose_n (wg : Int) (ht : Tab A0 c0 l0 A1 c1 l1 w) (he : askE l0 l1 wg = 11) :
    Calls Try.prog 22 #[.agg #[.slice A0 l0.length c0, .slice A1 l1.length c1, .int .i64 wg]] w fun e w' => e = .returned (.tuple #[.slice none 0 0, .int .i64 11]) ∧ Below w.heap.size w w' := by
  have h := Whose_e wg ht (by omega)
  rwa [he] at h
theorem ast_c (wg : Int) (ht : Tab A0 c0 l0 A1 c1 l1 w) (he : askE l0 l1 wg = 0) {lo hi : Int} (hs : boundsL (fun x => lostN l1 (pad x)) (truthsL l0 l1 wg) = (lo, hi)) :
    Calls Try.prog 37 #[.agg #[.slice A0 l0.length c0, .slice A1 l1.length c1, .int .i64 wg]] w fun e w' => e = .returned (.tuple #[.agg #[.int .i64 lo, .int .i64 hi], .int .i64 0]) ∧ Below w.heap.size w w' := by
  have h := Astray_ok wg ht he
  rwa [hs] at h
theorem ast_n (wg : Int) (ht : Tab A0 c0 l0 A1 c1 l1 w) (he : askE l0 l1 wg = 11) :
    Calls Try.prog 37 #[.agg #[.slice A0 l0.length c0, .slice A1 l1.length c1, .int .i64 wg]] w fun e w' => e = .returned (.tuple #[.agg #[.int .i64 0, .int .i64 0], .int .i64 11]) ∧ Below w.heap.size w w' := by
  have h := Astray_e wg ht (by omega)
  rwa [he] at h
end
end Go.Proofs.Ytnbbbeghgomnoaa.X
namespace Go.Proofs.Ytnbbbeghgomnoaa.X
open Go.RowKit Go.Proofs.YtnbbbeghgomnoaaW.PrintWords Go.Proofs.YtnbbbeghgomnoaaW.PrintLast Go.Proofs.YtnbbbeghgomnoaaW.PrintMore
def metN (ts : List (List Int)) (p m : Nat) : Nat := (ts.take m).foldl (fun a x => a ||| 2 ^ (pad x p).toNat) 0
theorem or_small2 : ∀ j, j < 5 → ∀ x, x < 32 → Go.bits .or .i64 ((x : Nat) : Int) (wrap64 (2 ^ j)) = ((x ||| 2 ^ j : Nat) : Int) := by decide +kernel
def lowN (L1 : List S110) (ts : List (List Int)) (lo : Int) (m : Nat) : Bool := (ts.take m).any fun x => lostN L1 (pad x) == lo
theorem take_succ_getD (ts : List (List Int)) (m : Nat) (h : m < ts.length) : ts.take (m + 1) = ts.take m ++ [ts.getD m []] := by
  rw [List.take_succ_eq_append_getElem h, List.getD_eq_getElem?_getD, List.getElem?_eq_getElem h]; rfl
theorem metN_succ (ts : List (List Int)) (p m : Nat) (h : m < ts.length) : metN ts p (m + 1) = metN ts p m ||| 2 ^ (pad (ts.getD m []) p).toNat := by
  unfold metN
  rw [take_succ_getD ts m h, List.foldl_append]; rfl
theorem lowN_succ (L1 : List S110) (ts : List (List Int)) (lo : Int) (m : Nat) (h : m < ts.length) : lowN L1 ts lo (m + 1) = (lowN L1 ts lo m || (lostN L1 (pad (ts.getD m [])) == lo)) := by
  unfold lowN
  rw [take_succ_getD ts m h, List.any_append]
  simp
theorem metN_lt {ts : List (List Int)} {p : Nat} (h : ∀ x ∈ ts, 0 ≤ pad x p ∧ pad x p < 5) : ∀ m, m ≤ ts.length → metN ts p m < 32 := by
  intro m
  induction m with
  | zero => intro _; simp [metN]
  | succ m ih =>
    intro hm
    rw [metN_succ ts p m hm]
    have h1 := h (ts.getD m []) (getD_mem ts m [] hm)
    refine Nat.or_lt_two_pow (n := 5) (ih (by omega)) ?_
    exact Nat.pow_lt_pow_right (by omega) (by omega)
set_option maxHeartbeats 4000000 in
set_option maxRecDepth 100000 in
theorem Ends_no (k : Nat) {A0 : Option Addr} {c0 : Nat} {l0 : List S85} {A1 : Option Addr} {c1 : Nat} {l1 : List S71} (wg : Int) (a1 : Int) {w : World} (r0 : Kd.C k85 w A0 l0.length l0) (g0 : l0.length ≤ c0) (r1 : Kd.C k71 w A1 l1.length l1) (g1 : l1.length ≤ c1) (hrd : posserlaw03_ready.f k l0 l1 wg = some false) :
    Calls Try.prog 8 #[.agg #[.slice A0 l0.length c0, .slice A1 l1.length c1, .int .i64 wg], .int .u8 a1] w fun e w' => e = .returned (.bool true) ∧ Below w.heap.size w w' := by
  have hu25 := Try.underlying25
  have hu35 := Try.underlying35
  have hu55 := Try.underlying55
  have HR0 := Aside0.mk r0
  have HC0 := Aside0.mk g0
  have HR1 := Aside0.mk r1
  have HC1 := Aside0.mk g1
  clear r0 g0 r1 g1
  have HRD := Aside0.mk hrd
  clear hrd
  have HB := Aside0.mk (Below.refl w.heap.size w)
  go_enter Try.func8, Try.ntmps8
  go_wp2_with (first | ((with_reducible refine gate_dst (N := 2) rfl ?_); refine box_event ?hg (N := 2) ?hd (cs := #[.slice A0 l0.length c0, .slice A1 l1.length c1, .int .i64 wg]) (t := 25) ?hr ?_; (case hd => rfl); (case hg => rfl); (case hr => first | (go_simp; done) | (go_simp; rfl)); intro g2 hg W_ hbox hb; have GEg2 := Aside0.mk (by rw [hg]; exact HB.out.size : w.heap.size ≤ g2); (try clear hcg2_0 hcg2_1 hcg2_2); (try replace HB := Aside0.mk (below_step HB.out hb)); (try replace HT := Aside0.mk (HT.out.below hb)); (try replace BKg2 := Aside0.mk (blk_below BKg2.out hb)); (try replace BKg8 := Aside0.mk (blk_below BKg8.out hb)); (try replace HW := Aside0.mk (Kd.R_below HW.out hb)); (try replace HL := Aside0.mk (Kd.R_below HL.out hb)); have BKg2 := Aside0.mk hbox; clear hb hbox hg; (try have hcg2_0 : W_.cell? ⟨g2, 0, none⟩ = some (.slice A0 l0.length c0) := (blk_cell BKg2.out 0).trans rfl); (try have hcg2_1 : W_.cell? ⟨g2, 1, none⟩ = some (.slice A1 l1.length c1) := (blk_cell BKg2.out 1).trans rfl); (try have hcg2_2 : W_.cell? ⟨g2, 2, none⟩ = some (.int .i64 wg) := (blk_cell BKg2.out 2).trans rfl)) | (go_at_call 47; go_must (refine (posserlaw03_ready.calls k A0 c0 l0 A1 c1 l1 wg false _ (Kd.C_below HR0.out HB.out) HC0.out (Kd.C_below HR1.out HB.out) HC1.out HRD.out).mono ?_; rintro e W_ ⟨rfl, hb⟩; (try clear hcg2_0 hcg2_1 hcg2_2); (try replace HB := Aside0.mk (below_step HB.out hb)); (try replace HT := Aside0.mk (HT.out.below hb)); (try replace BKg2 := Aside0.mk (blk_below BKg2.out hb)); (try replace BKg8 := Aside0.mk (blk_below BKg8.out hb)); (try replace HW := Aside0.mk (Kd.R_below HW.out hb)); (try replace HL := Aside0.mk (Kd.R_below HL.out hb)); skip; clear hb; (try have hcg2_0 : W_.cell? ⟨g2, 0, none⟩ = some (.slice A0 l0.length c0) := (blk_cell BKg2.out 0).trans rfl); (try have hcg2_1 : W_.cell? ⟨g2, 1, none⟩ = some (.slice A1 l1.length c1) := (blk_cell BKg2.out 1).trans rfl); (try have hcg2_2 : W_.cell? ⟨g2, 2, none⟩ = some (.int .i64 wg) := (blk_cell BKg2.out 2).trans rfl))) | (go_at_call 21; go_must (refine (awake_calls _).mono ?_; rintro e W_ ⟨rfl, hb⟩; (try clear hcg2_0 hcg2_1 hcg2_2); (try replace HB := Aside0.mk (below_step HB.out hb)); (try replace HT := Aside0.mk (HT.out.below hb)); (try replace BKg2 := Aside0.mk (blk_below BKg2.out hb)); (try replace BKg8 := Aside0.mk (blk_below BKg8.out hb)); (try replace HW := Aside0.mk (Kd.R_below HW.out hb)); (try replace HL := Aside0.mk (Kd.R_below HL.out hb)); skip; clear hb; (try have hcg2_0 : W_.cell? ⟨g2, 0, none⟩ = some (.slice A0 l0.length c0) := (blk_cell BKg2.out 0).trans rfl); (try have hcg2_1 : W_.cell? ⟨g2, 1, none⟩ = some (.slice A1 l1.length c1) := (blk_cell BKg2.out 1).trans rfl); (try have hcg2_2 : W_.cell? ⟨g2, 2, none⟩ = some (.int .i64 wg) := (blk_cell BKg2.out 2).trans rfl))))
  go_ret
  exact ⟨rfl, HB.out⟩
set_option maxHeartbeats 4000000 in
set_option maxRecDepth 100000 in
theorem Ends_nil (k : Nat) {A0 : Option Addr} {c0 : Nat} {l0 : List S85} {A1 : Option Addr} {c1 : Nat} {l1 : List S71} (wg : Int) (a1 : Int) {w : World} (r0 : Kd.C k85 w A0 l0.length l0) (g0 : l0.length ≤ c0) (r1 : Kd.C k71 w A1 l1.length l1) (g1 : l1.length ≤ c1) (hrd : posserlaw03_ready.f k l0 l1 wg = some true) (hn : l1.length = 0) :
    Calls Try.prog 8 #[.agg #[.slice A0 l0.length c0, .slice A1 l1.length c1, .int .i64 wg], .int .u8 a1] w fun e w' => e = .returned (.bool true) ∧ Below w.heap.size w w' := by
  have hu25 := Try.underlying25
  have hu35 := Try.underlying35
  have hu55 := Try.underlying55
  have HR0 := Aside0.mk r0
  have HC0 := Aside0.mk g0
  have HR1 := Aside0.mk r1
  have HC1 := Aside0.mk g1
  clear r0 g0 r1 g1
  have HRD := Aside0.mk hrd
  clear hrd
  have hn0 : ((l1.length : Int) == 0) = true := by rw [hn]; rfl
  clear hn
  have HB := Aside0.mk (Below.refl w.heap.size w)
  go_enter Try.func8, Try.ntmps8
  go_wp2_with (first | ((with_reducible refine gate_dst (N := 2) rfl ?_); refine box_event ?hg (N := 2) ?hd (cs := #[.slice A0 l0.length c0, .slice A1 l1.length c1, .int .i64 wg]) (t := 25) ?hr ?_; (case hd => rfl); (case hg => rfl); (case hr => first | (go_simp; done) | (go_simp; rfl)); intro g2 hg W_ hbox hb; have GEg2 := Aside0.mk (by rw [hg]; exact HB.out.size : w.heap.size ≤ g2); (try clear hcg2_0 hcg2_1 hcg2_2); (try replace HB := Aside0.mk (below_step HB.out hb)); (try replace HT := Aside0.mk (HT.out.below hb)); (try replace BKg2 := Aside0.mk (blk_below BKg2.out hb)); (try replace BKg8 := Aside0.mk (blk_below BKg8.out hb)); (try replace HW := Aside0.mk (Kd.R_below HW.out hb)); (try replace HL := Aside0.mk (Kd.R_below HL.out hb)); have BKg2 := Aside0.mk hbox; clear hb hbox hg; (try have hcg2_0 : W_.cell? ⟨g2, 0, none⟩ = some (.slice A0 l0.length c0) := (blk_cell BKg2.out 0).trans rfl); (try have hcg2_1 : W_.cell? ⟨g2, 1, none⟩ = some (.slice A1 l1.length c1) := (blk_cell BKg2.out 1).trans rfl); (try have hcg2_2 : W_.cell? ⟨g2, 2, none⟩ = some (.int .i64 wg) := (blk_cell BKg2.out 2).trans rfl)) | (go_at_call 47; go_must (refine (posserlaw03_ready.calls k A0 c0 l0 A1 c1 l1 wg true _ (Kd.C_below HR0.out HB.out) HC0.out (Kd.C_below HR1.out HB.out) HC1.out HRD.out).mono ?_; rintro e W_ ⟨rfl, hb⟩; (try clear hcg2_0 hcg2_1 hcg2_2); (try replace HB := Aside0.mk (below_step HB.out hb)); (try replace HT := Aside0.mk (HT.out.below hb)); (try replace BKg2 := Aside0.mk (blk_below BKg2.out hb)); (try replace BKg8 := Aside0.mk (blk_below BKg8.out hb)); (try replace HW := Aside0.mk (Kd.R_below HW.out hb)); (try replace HL := Aside0.mk (Kd.R_below HL.out hb)); skip; clear hb; (try have hcg2_0 : W_.cell? ⟨g2, 0, none⟩ = some (.slice A0 l0.length c0) := (blk_cell BKg2.out 0).trans rfl); (try have hcg2_1 : W_.cell? ⟨g2, 1, none⟩ = some (.slice A1 l1.length c1) := (blk_cell BKg2.out 1).trans rfl); (try have hcg2_2 : W_.cell? ⟨g2, 2, none⟩ = some (.int .i64 wg) := (blk_cell BKg2.out 2).trans rfl))) | (go_at_call 21; go_must (refine (awake_calls _).mono ?_; rintro e W_ ⟨rfl, hb⟩; (try clear hcg2_0 hcg2_1 hcg2_2); (try replace HB := Aside0.mk (below_step HB.out hb)); (try replace HT := Aside0.mk (HT.out.below hb)); (try replace BKg2 := Aside0.mk (blk_below BKg2.out hb)); (try replace BKg8 := Aside0.mk (blk_below BKg8.out hb)); (try replace HW := Aside0.mk (Kd.R_below HW.out hb)); (try replace HL := Aside0.mk (Kd.R_below HL.out hb)); skip; clear hb; (try have hcg2_0 : W_.cell? ⟨g2, 0, none⟩ = some (.slice A0 l0.length c0) := (blk_cell BKg2.out 0).trans rfl); (try have hcg2_1 : W_.cell? ⟨g2, 1, none⟩ = some (.slice A1 l1.length c1) := (blk_cell BKg2.out 1).trans rfl); (try have hcg2_2 : W_.cell? ⟨g2, 2, none⟩ = some (.int .i64 wg) := (blk_cell BKg2.out 2).trans rfl))))
  go_ret
  exact ⟨rfl, HB.out⟩
set_option maxHeartbeats 4000000 in
set_option maxRecDepth 100000 in
theorem Ends_err (k : Nat) {A0 : Option Addr} {c0 : Nat} {l0 : List S85} {A1 : Option Addr} {c1 : Nat} {l1 : List S71} (wg : Int) (a1 : Int) {w : World} (r0 : Kd.C k85 w A0 l0.length l0) (g0 : l0.length ≤ c0) (r1 : Kd.C k71 w A1 l1.length l1) (g1 : l1.length ≤ c1) (ht : Thn l0 l1) {L0 : List S109} {L1 : List S110} (h0 : l0.map cvW = L0) (h1 : l1.map cvP = L1) (hrd : posserlaw03_ready.f k l0 l1 wg = some true) (hn : l1.length ≠ 0) (he : askE L0 L1 wg = 11) (hsu : posserlaw03_sure.f k l0 l1 wg = some ([], 11)) :
    Calls Try.prog 8 #[.agg #[.slice A0 l0.length c0, .slice A1 l1.length c1, .int .i64 wg], .int .u8 a1] w fun e w' => e = .returned (.bool true) ∧ Below w.heap.size w w' := by
  have hu25 := Try.underlying25
  have hu35 := Try.underlying35
  have hu55 := Try.underlying55
  have HR0 := Aside0.mk r0
  have HC0 := Aside0.mk g0
  have HR1 := Aside0.mk r1
  have HC1 := Aside0.mk g1
  clear r0 g0 r1 g1
  have HRT := Aside0.mk (show RTab A0 c0 l0 A1 c1 l1 w from ⟨HR0.out, HC0.out, HR1.out, HC1.out, ht.n0, ht.n1, ht.ms⟩)
  clear ht
  have hn0 : ((l1.length : Int) == 0) = false := by simpa using hn
  have hn1 : ¬ ((l1.length : Int) = 0) := by omega
  clear hn
  have HL0 := Aside0.mk h0
  have HL1 := Aside0.mk h1
  have HRD := Aside0.mk hrd
  have HE := Aside0.mk he
  have HSU := Aside0.mk hsu
  clear h0 h1 hrd he hsu
  have HB := Aside0.mk (Below.refl w.heap.size w)
  go_enter Try.func8, Try.ntmps8
  go_wp2_with (first | ((with_reducible refine gate_dst (N := 2) rfl ?_); refine box_event ?hg (N := 2) ?hd (cs := #[.slice A0 l0.length c0, .slice A1 l1.length c1, .int .i64 wg]) (t := 25) ?hr ?_; (case hd => rfl); (case hg => rfl); (case hr => first | (go_simp; done) | (go_simp; rfl)); intro g2 hg W_ hbox hb; have GEg2 := Aside0.mk (by rw [hg]; exact HB.out.size : w.heap.size ≤ g2); (try clear hcg2_0 hcg2_1 hcg2_2); (try replace HB := Aside0.mk (below_step HB.out hb)); (try replace HT := Aside0.mk (HT.out.below hb)); (try replace BKg2 := Aside0.mk (blk_below BKg2.out hb)); (try replace BKg8 := Aside0.mk (blk_below BKg8.out hb)); (try replace HW := Aside0.mk (Kd.R_below HW.out hb)); (try replace HL := Aside0.mk (Kd.R_below HL.out hb)); have BKg2 := Aside0.mk hbox; clear hb hbox hg; (try have hcg2_0 : W_.cell? ⟨g2, 0, none⟩ = some (.slice A0 l0.length c0) := (blk_cell BKg2.out 0).trans rfl); (try have hcg2_1 : W_.cell? ⟨g2, 1, none⟩ = some (.slice A1 l1.length c1) := (blk_cell BKg2.out 1).trans rfl); (try have hcg2_2 : W_.cell? ⟨g2, 2, none⟩ = some (.int .i64 wg) := (blk_cell BKg2.out 2).trans rfl)) | ((with_reducible refine gate_dst (N := 8) rfl ?_); refine box_event ?hg (N := 8) ?hd (cs := #[.int .i64 0, .int .i64 0]) (t := 55) ?hr ?_; (case hd => rfl); (case hg => rfl); (case hr => first | (go_simp; done) | (go_simp; rfl)); intro g8 hg W_ hbox hb; have NE := Aside0.mk (show g2 < g8 from by rw [hg]; exact blk_lt BKg2.out); have GEg8 := Aside0.mk (by rw [hg]; exact HB.out.size : w.heap.size ≤ g8); (try clear hcg2_0 hcg2_1 hcg2_2); (try clear hcg8_0 hcg8_1); (try replace HB := Aside0.mk (below_step HB.out hb)); (try replace HT := Aside0.mk (HT.out.below hb)); (try replace BKg2 := Aside0.mk (blk_below BKg2.out hb)); (try replace BKg8 := Aside0.mk (blk_below BKg8.out hb)); (try replace HW := Aside0.mk (Kd.R_below HW.out hb)); (try replace HL := Aside0.mk (Kd.R_below HL.out hb)); have BKg8 := Aside0.mk hbox; clear hb hbox hg; (try have hcg2_0 : W_.cell? ⟨g2, 0, none⟩ = some (.slice A0 l0.length c0) := (blk_cell BKg2.out 0).trans rfl); (try have hcg2_1 : W_.cell? ⟨g2, 1, none⟩ = some (.slice A1 l1.length c1) := (blk_cell BKg2.out 1).trans rfl); (try have hcg2_2 : W_.cell? ⟨g2, 2, none⟩ = some (.int .i64 wg) := (blk_cell BKg2.out 2).trans rfl); (try have hcg8_0 : W_.cell? ⟨g8, 0, none⟩ = some (.int .i64 0) := (blk_cell BKg8.out 0).trans rfl); (try have hcg8_1 : W_.cell? ⟨g8, 1, none⟩ = some (.int .i64 0) := (blk_cell BKg8.out 1).trans rfl)) | ((with_reducible refine gate_store (t := 55) (p := 8) rfl ?_); go_must (refine wpList_store_row rfl 55 _ _ rfl g8 #[.int .i64 0, .int .i64 0] rfl rfl 55 (#[.int .i64 0, .int .i64 0]) BKg8.out rfl rfl (by simp [Value.oneCell']) ?_; (try clear hcg2_0 hcg2_1 hcg2_2); (try clear hcg8_0 hcg8_1); have h0_ := Aside0.mk (below_setRow HB.out GEg8.out (#[.int .i64 0, .int .i64 0])); have h1_ := Aside0.mk (setRow_heap W_ g8 _ (#[.int .i64 0, .int .i64 0]) _ _ BKg8.out); have h2_ := Aside0.mk ((setRow_other W_ g8 g2 (#[.int .i64 0, .int .i64 0]) (by have := NE.out; omega)).trans BKg2.out); clear HB BKg8 BKg2; have HB := h0_; have BKg8 := h1_; have BKg2 := h2_; clear h0_ h1_ h2_; generalize W_.setRow g8 (#[.int .i64 0, .int .i64 0]) = W_ at *; (try have hcg2_0 : W_.cell? ⟨g2, 0, none⟩ = some (.slice A0 l0.length c0) := (blk_cell BKg2.out 0).trans rfl); (try have hcg2_1 : W_.cell? ⟨g2, 1, none⟩ = some (.slice A1 l1.length c1) := (blk_cell BKg2.out 1).trans rfl); (try have hcg2_2 : W_.cell? ⟨g2, 2, none⟩ = some (.int .i64 wg) := (blk_cell BKg2.out 2).trans rfl); (try have hcg8_0 : W_.cell? ⟨g8, 0, none⟩ = some (.int .i64 0) := (blk_cell BKg8.out 0).trans rfl); (try have hcg8_1 : W_.cell? ⟨g8, 1, none⟩ = some (.int .i64 0) := (blk_cell BKg8.out 1).trans rfl))) | (go_at_call 47; go_must (refine (posserlaw03_ready.calls k A0 c0 l0 A1 c1 l1 wg true _ (Kd.C_below HR0.out HB.out) HC0.out (Kd.C_below HR1.out HB.out) HC1.out HRD.out).mono ?_; rintro e W_ ⟨rfl, hb⟩; (try clear hcg2_0 hcg2_1 hcg2_2); (try clear hcg8_0 hcg8_1); (try replace HB := Aside0.mk (below_step HB.out hb)); (try replace HT := Aside0.mk (HT.out.below hb)); (try replace BKg2 := Aside0.mk (blk_below BKg2.out hb)); (try replace BKg8 := Aside0.mk (blk_below BKg8.out hb)); (try replace HW := Aside0.mk (Kd.R_below HW.out hb)); (try replace HL := Aside0.mk (Kd.R_below HL.out hb)); skip; clear hb; (try have hcg2_0 : W_.cell? ⟨g2, 0, none⟩ = some (.slice A0 l0.length c0) := (blk_cell BKg2.out 0).trans rfl); (try have hcg2_1 : W_.cell? ⟨g2, 1, none⟩ = some (.slice A1 l1.length c1) := (blk_cell BKg2.out 1).trans rfl); (try have hcg2_2 : W_.cell? ⟨g2, 2, none⟩ = some (.int .i64 wg) := (blk_cell BKg2.out 2).trans rfl); (try have hcg8_0 : W_.cell? ⟨g8, 0, none⟩ = some (.int .i64 0) := (blk_cell BKg8.out 0).trans rfl); (try have hcg8_1 : W_.cell? ⟨g8, 1, none⟩ = some (.int .i64 0) := (blk_cell BKg8.out 1).trans rfl))) | (go_at_call 23; go_must (refine (tab_c _ (HRT.out.below HB.out) HL0.out HL1.out).mono ?_; rintro e W_ ⟨B0, d0, B1, d1, rfl, ht, hb⟩; (try clear hcg2_0 hcg2_1 hcg2_2); (try clear hcg8_0 hcg8_1); (try replace HB := Aside0.mk (below_step HB.out hb)); (try replace HT := Aside0.mk (HT.out.below hb)); (try replace BKg2 := Aside0.mk (blk_below BKg2.out hb)); (try replace BKg8 := Aside0.mk (blk_below BKg8.out hb)); (try replace HW := Aside0.mk (Kd.R_below HW.out hb)); (try replace HL := Aside0.mk (Kd.R_below HL.out hb)); (try clear HT); have HT := Aside0.mk ht; clear ht; clear hb; (try have hcg2_0 : W_.cell? ⟨g2, 0, none⟩ = some (.slice A0 l0.length c0) := (blk_cell BKg2.out 0).trans rfl); (try have hcg2_1 : W_.cell? ⟨g2, 1, none⟩ = some (.slice A1 l1.length c1) := (blk_cell BKg2.out 1).trans rfl); (try have hcg2_2 : W_.cell? ⟨g2, 2, none⟩ = some (.int .i64 wg) := (blk_cell BKg2.out 2).trans rfl); (try have hcg8_0 : W_.cell? ⟨g8, 0, none⟩ = some (.int .i64 0) := (blk_cell BKg8.out 0).trans rfl); (try have hcg8_1 : W_.cell? ⟨g8, 1, none⟩ = some (.int .i64 0) := (blk_cell BKg8.out 1).trans rfl))) | (go_at_call 24; go_must (refine (posserlaw03_sure.calls k A0 c0 l0 A1 c1 l1 wg [] 11 _ (HRT.out.below HB.out).r0 HC0.out (HRT.out.below HB.out).r1 HC1.out HSU.out).mono ?_; rintro e W_ ⟨v_, rfl, ho, hb⟩; (try clear hcg2_0 hcg2_1 hcg2_2); (try clear hcg8_0 hcg8_1); (try replace HB := Aside0.mk (below_step HB.out hb)); (try replace HT := Aside0.mk (HT.out.below hb)); (try replace BKg2 := Aside0.mk (blk_below BKg2.out hb)); (try replace BKg8 := Aside0.mk (blk_below BKg8.out hb)); (try replace HW := Aside0.mk (Kd.R_below HW.out hb)); (try replace HL := Aside0.mk (Kd.R_below HL.out hb)); have HL := Aside0.mk (Kd.S_R ho); obtain ⟨AHL, cHL, eHL⟩ := Kd.R_slice HL.out; subst eHL; clear ho; clear hb; (try have hcg2_0 : W_.cell? ⟨g2, 0, none⟩ = some (.slice A0 l0.length c0) := (blk_cell BKg2.out 0).trans rfl); (try have hcg2_1 : W_.cell? ⟨g2, 1, none⟩ = some (.slice A1 l1.length c1) := (blk_cell BKg2.out 1).trans rfl); (try have hcg2_2 : W_.cell? ⟨g2, 2, none⟩ = some (.int .i64 wg) := (blk_cell BKg2.out 2).trans rfl); (try have hcg8_0 : W_.cell? ⟨g8, 0, none⟩ = some (.int .i64 0) := (blk_cell BKg8.out 0).trans rfl); (try have hcg8_1 : W_.cell? ⟨g8, 1, none⟩ = some (.int .i64 0) := (blk_cell BKg8.out 1).trans rfl))) | (go_at_call 37; go_must (refine (ast_n _ HT.out HE.out).mono ?_; rintro e W_ ⟨rfl, hb⟩; (try clear hcg2_0 hcg2_1 hcg2_2); (try clear hcg8_0 hcg8_1); (try replace HB := Aside0.mk (below_step HB.out hb)); (try replace HT := Aside0.mk (HT.out.below hb)); (try replace BKg2 := Aside0.mk (blk_below BKg2.out hb)); (try replace BKg8 := Aside0.mk (blk_below BKg8.out hb)); (try replace HW := Aside0.mk (Kd.R_below HW.out hb)); (try replace HL := Aside0.mk (Kd.R_below HL.out hb)); skip; clear hb; (try have hcg2_0 : W_.cell? ⟨g2, 0, none⟩ = some (.slice A0 l0.length c0) := (blk_cell BKg2.out 0).trans rfl); (try have hcg2_1 : W_.cell? ⟨g2, 1, none⟩ = some (.slice A1 l1.length c1) := (blk_cell BKg2.out 1).trans rfl); (try have hcg2_2 : W_.cell? ⟨g2, 2, none⟩ = some (.int .i64 wg) := (blk_cell BKg2.out 2).trans rfl); (try have hcg8_0 : W_.cell? ⟨g8, 0, none⟩ = some (.int .i64 0) := (blk_cell BKg8.out 0).trans rfl); (try have hcg8_1 : W_.cell? ⟨g8, 1, none⟩ = some (.int .i64 0) := (blk_cell BKg8.out 1).trans rfl))) | (go_at_call 22; go_must (refine (whose_n _ HT.out HE.out).mono ?_; rintro e W_ ⟨rfl, hb⟩; (try clear hcg2_0 hcg2_1 hcg2_2); (try clear hcg8_0 hcg8_1); (try replace HB := Aside0.mk (below_step HB.out hb)); (try replace HT := Aside0.mk (HT.out.below hb)); (try replace BKg2 := Aside0.mk (blk_below BKg2.out hb)); (try replace BKg8 := Aside0.mk (blk_below BKg8.out hb)); (try replace HW := Aside0.mk (Kd.R_below HW.out hb)); (try replace HL := Aside0.mk (Kd.R_below HL.out hb)); skip; clear hb; (try have hcg2_0 : W_.cell? ⟨g2, 0, none⟩ = some (.slice A0 l0.length c0) := (blk_cell BKg2.out 0).trans rfl); (try have hcg2_1 : W_.cell? ⟨g2, 1, none⟩ = some (.slice A1 l1.length c1) := (blk_cell BKg2.out 1).trans rfl); (try have hcg2_2 : W_.cell? ⟨g2, 2, none⟩ = some (.int .i64 wg) := (blk_cell BKg2.out 2).trans rfl); (try have hcg8_0 : W_.cell? ⟨g8, 0, none⟩ = some (.int .i64 0) := (blk_cell BKg8.out 0).trans rfl); (try have hcg8_1 : W_.cell? ⟨g8, 1, none⟩ = some (.int .i64 0) := (blk_cell BKg8.out 1).trans rfl))) | (go_at_call 21; go_must (refine (awake_calls _).mono ?_; rintro e W_ ⟨rfl, hb⟩; (try clear hcg2_0 hcg2_1 hcg2_2); (try clear hcg8_0 hcg8_1); (try replace HB := Aside0.mk (below_step HB.out hb)); (try replace HT := Aside0.mk (HT.out.below hb)); (try replace BKg2 := Aside0.mk (blk_below BKg2.out hb)); (try replace BKg8 := Aside0.mk (blk_below BKg8.out hb)); (try replace HW := Aside0.mk (Kd.R_below HW.out hb)); (try replace HL := Aside0.mk (Kd.R_below HL.out hb)); skip; clear hb; (try have hcg2_0 : W_.cell? ⟨g2, 0, none⟩ = some (.slice A0 l0.length c0) := (blk_cell BKg2.out 0).trans rfl); (try have hcg2_1 : W_.cell? ⟨g2, 1, none⟩ = some (.slice A1 l1.length c1) := (blk_cell BKg2.out 1).trans rfl); (try have hcg2_2 : W_.cell? ⟨g2, 2, none⟩ = some (.int .i64 wg) := (blk_cell BKg2.out 2).trans rfl); (try have hcg8_0 : W_.cell? ⟨g8, 0, none⟩ = some (.int .i64 0) := (blk_cell BKg8.out 0).trans rfl); (try have hcg8_1 : W_.cell? ⟨g8, 1, none⟩ = some (.int .i64 0) := (blk_cell BKg8.out 1).trans rfl))))
  go_ret
  exact ⟨rfl, HB.out⟩
set_option maxHeartbeats 4000000 in
set_option maxRecDepth 100000 in
theorem Ends_ok (k : Nat) {A0 : Option Addr} {c0 : Nat} {l0 : List S85} {A1 : Option Addr} {c1 : Nat} {l1 : List S71} (wg : Int) (a1 : Int) {w : World} (r0 : Kd.C k85 w A0 l0.length l0) (g0 : l0.length ≤ c0) (r1 : Kd.C k71 w A1 l1.length l1) (g1 : l1.length ≤ c1) (ht : Thn l0 l1) {L0 : List S109} {L1 : List S110} (h0 : l0.map cvW = L0) (h1 : l1.map cvP = L1) (hrd : posserlaw03_ready.f k l0 l1 wg = some true) (hn : l1.length ≠ 0) (he : askE L0 L1 wg = 0) {ts ws : List (List Int)} {lo hi : Int} {p : Nat} {b : List Int} (hsu : posserlaw03_sure.f k l0 l1 wg = some (ts, 0)) (hw : whoseL L0.length L1.length (truthsL L0 L1 wg) = ws) (hd : boundsL (fun x => lostN L1 (pad x)) (truthsL L0 L1 wg) = (lo, hi)) (lw : ws.length = l1.length) (hp : Int.tmod (wrap64 a1) (l1.length : Int) = (p : Int)) (hpl : p < l1.length) (htl : ts.length ≤ 100000) (hel : ∀ x ∈ ts, x.length = l1.length) (hast : ∀ x ∈ ts, posserref03_Astray.f k l0 l1 wg x = some (sel (off L1 (pad x)) L1.length)) (hown : ∀ x ∈ ts, 0 ≤ pad x p ∧ pad x p < 5) (hlow : lowN L1 ts lo ts.length = true) (hhigh : lowN L1 ts hi ts.length = true) (hbt : posserref03_Bits.f k ((metN ts p ts.length : Nat) : Int) = some b) (hin : posserlaw03_ints.f k b (ws.getD p []) = some true) :
    Calls Try.prog 8 #[.agg #[.slice A0 l0.length c0, .slice A1 l1.length c1, .int .i64 wg], .int .u8 a1] w fun e w' => e = .returned (.bool true) ∧ Below w.heap.size w w' := by
  have hu25 := Try.underlying25
  have hu35 := Try.underlying35
  have hu55 := Try.underlying55
  have HR0 := Aside0.mk r0
  have HC0 := Aside0.mk g0
  have HR1 := Aside0.mk r1
  have HC1 := Aside0.mk g1
  clear r0 g0 r1 g1
  have HRT := Aside0.mk (show RTab A0 c0 l0 A1 c1 l1 w from ⟨HR0.out, HC0.out, HR1.out, HC1.out, ht.n0, ht.n1, ht.ms⟩)
  clear ht
  have hn0 : ((l1.length : Int) == 0) = false := by simpa using hn
  have hn1 : ¬ ((l1.length : Int) = 0) := by omega
  clear hn
  have HL0 := Aside0.mk h0
  have HL1 := Aside0.mk h1
  have HRD := Aside0.mk hrd
  have HE := Aside0.mk he
  have HSW := Aside0.mk hw
  have HSD := Aside0.mk hd
  have HSU := Aside0.mk hsu
  have HPN := Aside0.mk hp
  have HPL := Aside0.mk hpl
  have HTL := Aside0.mk htl
  have HEL := Aside0.mk hel
  have HAS := Aside0.mk hast
  have HOW := Aside0.mk hown
  have HLOW := Aside0.mk hlow
  have HHIGH := Aside0.mk hhigh
  have HBT := Aside0.mk hbt
  have HIN := Aside0.mk hin
  clear h0 h1 hrd he hw hd hsu hp hpl htl hel hast hown hlow hhigh hbt hin
  have hlw : ((ws.length : Int) != (l1.length : Int)) = false := by rw [lw]; simp
  have HLW := Aside0.mk lw
  clear lw
  have HB := Aside0.mk (Below.refl w.heap.size w)
  go_enter Try.func8, Try.ntmps8
  go_wp2_with (first | ((with_reducible refine gate_dst (N := 2) rfl ?_); refine box_event ?hg (N := 2) ?hd (cs := #[.slice A0 l0.length c0, .slice A1 l1.length c1, .int .i64 wg]) (t := 25) ?hr ?_; (case hd => rfl); (case hg => rfl); (case hr => first | (go_simp; done) | (go_simp; rfl)); intro g2 hg W_ hbox hb; have GEg2 := Aside0.mk (by rw [hg]; exact HB.out.size : w.heap.size ≤ g2); (try clear hcg2_0 hcg2_1 hcg2_2); (try replace HB := Aside0.mk (below_step HB.out hb)); (try replace HT := Aside0.mk (HT.out.below hb)); (try replace BKg2 := Aside0.mk (blk_below BKg2.out hb)); (try replace BKg8 := Aside0.mk (blk_below BKg8.out hb)); (try replace HW := Aside0.mk (Kd.R_below HW.out hb)); (try replace HL := Aside0.mk (Kd.R_below HL.out hb)); have BKg2 := Aside0.mk hbox; clear hb hbox hg; (try have hcg2_0 : W_.cell? ⟨g2, 0, none⟩ = some (.slice A0 l0.length c0) := (blk_cell BKg2.out 0).trans rfl); (try have hcg2_1 : W_.cell? ⟨g2, 1, none⟩ = some (.slice A1 l1.length c1) := (blk_cell BKg2.out 1).trans rfl); (try have hcg2_2 : W_.cell? ⟨g2, 2, none⟩ = some (.int .i64 wg) := (blk_cell BKg2.out 2).trans rfl)) | ((with_reducible refine gate_dst (N := 8) rfl ?_); refine box_event ?hg (N := 8) ?hd (cs := #[.int .i64 0, .int .i64 0]) (t := 55) ?hr ?_; (case hd => rfl); (case hg => rfl); (case hr => first | (go_simp; done) | (go_simp; rfl)); intro g8 hg W_ hbox hb; have NE := Aside0.mk (show g2 < g8 from by rw [hg]; exact blk_lt BKg2.out); have GEg8 := Aside0.mk (by rw [hg]; exact HB.out.size : w.heap.size ≤ g8); (try clear hcg2_0 hcg2_1 hcg2_2); (try clear hcg8_0 hcg8_1); (try replace HB := Aside0.mk (below_step HB.out hb)); (try replace HT := Aside0.mk (HT.out.below hb)); (try replace BKg2 := Aside0.mk (blk_below BKg2.out hb)); (try replace BKg8 := Aside0.mk (blk_below BKg8.out hb)); (try replace HW := Aside0.mk (Kd.R_below HW.out hb)); (try replace HL := Aside0.mk (Kd.R_below HL.out hb)); have BKg8 := Aside0.mk hbox; clear hb hbox hg; (try have hcg2_0 : W_.cell? ⟨g2, 0, none⟩ = some (.slice A0 l0.length c0) := (blk_cell BKg2.out 0).trans rfl); (try have hcg2_1 : W_.cell? ⟨g2, 1, none⟩ = some (.slice A1 l1.length c1) := (blk_cell BKg2.out 1).trans rfl); (try have hcg2_2 : W_.cell? ⟨g2, 2, none⟩ = some (.int .i64 wg) := (blk_cell BKg2.out 2).trans rfl); (try have hcg8_0 : W_.cell? ⟨g8, 0, none⟩ = some (.int .i64 0) := (blk_cell BKg8.out 0).trans rfl); (try have hcg8_1 : W_.cell? ⟨g8, 1, none⟩ = some (.int .i64 0) := (blk_cell BKg8.out 1).trans rfl)) | ((with_reducible refine gate_store (t := 55) (p := 8) rfl ?_); go_must (refine wpList_store_row rfl 55 _ _ rfl g8 #[.int .i64 lo, .int .i64 hi] rfl rfl 55 (#[.int .i64 0, .int .i64 0]) BKg8.out rfl rfl (by simp [Value.oneCell']) ?_; (try clear hcg2_0 hcg2_1 hcg2_2); (try clear hcg8_0 hcg8_1); have h0_ := Aside0.mk (below_setRow HB.out GEg8.out (#[.int .i64 lo, .int .i64 hi])); have h1_ := Aside0.mk (setRow_heap W_ g8 _ (#[.int .i64 lo, .int .i64 hi]) _ _ BKg8.out); have h2_ := Aside0.mk ((setRow_other W_ g8 g2 (#[.int .i64 lo, .int .i64 hi]) (by have := NE.out; omega)).trans BKg2.out); have h3_ := Aside0.mk (row_setRow HW.out BKg8.out e39_55 (#[.int .i64 lo, .int .i64 hi])); clear HB BKg8 BKg2 HW; have HB := h0_; have BKg8 := h1_; have BKg2 := h2_; have HW := h3_; clear h0_ h1_ h2_ h3_; generalize W_.setRow g8 (#[.int .i64 lo, .int .i64 hi]) = W_ at *; (try have hcg2_0 : W_.cell? ⟨g2, 0, none⟩ = some (.slice A0 l0.length c0) := (blk_cell BKg2.out 0).trans rfl); (try have hcg2_1 : W_.cell? ⟨g2, 1, none⟩ = some (.slice A1 l1.length c1) := (blk_cell BKg2.out 1).trans rfl); (try have hcg2_2 : W_.cell? ⟨g2, 2, none⟩ = some (.int .i64 wg) := (blk_cell BKg2.out 2).trans rfl); (try have hcg8_0 : W_.cell? ⟨g8, 0, none⟩ = some (.int .i64 lo) := (blk_cell BKg8.out 0).trans rfl); (try have hcg8_1 : W_.cell? ⟨g8, 1, none⟩ = some (.int .i64 hi) := (blk_cell BKg8.out 1).trans rfl))) | (go_at_call 47; go_must (refine (posserlaw03_ready.calls k A0 c0 l0 A1 c1 l1 wg true _ (Kd.C_below HR0.out HB.out) HC0.out (Kd.C_below HR1.out HB.out) HC1.out HRD.out).mono ?_; rintro e W_ ⟨rfl, hb⟩; (try clear hcg2_0 hcg2_1 hcg2_2); (try clear hcg8_0 hcg8_1); (try replace HB := Aside0.mk (below_step HB.out hb)); (try replace HT := Aside0.mk (HT.out.below hb)); (try replace BKg2 := Aside0.mk (blk_below BKg2.out hb)); (try replace BKg8 := Aside0.mk (blk_below BKg8.out hb)); (try replace HW := Aside0.mk (Kd.R_below HW.out hb)); (try replace HL := Aside0.mk (Kd.R_below HL.out hb)); skip; clear hb; (try have hcg2_0 : W_.cell? ⟨g2, 0, none⟩ = some (.slice A0 l0.length c0) := (blk_cell BKg2.out 0).trans rfl); (try have hcg2_1 : W_.cell? ⟨g2, 1, none⟩ = some (.slice A1 l1.length c1) := (blk_cell BKg2.out 1).trans rfl); (try have hcg2_2 : W_.cell? ⟨g2, 2, none⟩ = some (.int .i64 wg) := (blk_cell BKg2.out 2).trans rfl); (try have hcg8_0 : W_.cell? ⟨g8, 0, none⟩ = some (.int .i64 lo) := (blk_cell BKg8.out 0).trans rfl); (try have hcg8_1 : W_.cell? ⟨g8, 1, none⟩ = some (.int .i64 hi) := (blk_cell BKg8.out 1).trans rfl))) | (go_at_call 23; go_must (refine (tab_c _ (HRT.out.below HB.out) HL0.out HL1.out).mono ?_; rintro e W_ ⟨B0, d0, B1, d1, rfl, ht, hb⟩; (try clear hcg2_0 hcg2_1 hcg2_2); (try clear hcg8_0 hcg8_1); (try replace HB := Aside0.mk (below_step HB.out hb)); (try replace HT := Aside0.mk (HT.out.below hb)); (try replace BKg2 := Aside0.mk (blk_below BKg2.out hb)); (try replace BKg8 := Aside0.mk (blk_below BKg8.out hb)); (try replace HW := Aside0.mk (Kd.R_below HW.out hb)); (try replace HL := Aside0.mk (Kd.R_below HL.out hb)); (try clear HT); have HT := Aside0.mk ht; clear ht; clear hb; (try have hcg2_0 : W_.cell? ⟨g2, 0, none⟩ = some (.slice A0 l0.length c0) := (blk_cell BKg2.out 0).trans rfl); (try have hcg2_1 : W_.cell? ⟨g2, 1, none⟩ = some (.slice A1 l1.length c1) := (blk_cell BKg2.out 1).trans rfl); (try have hcg2_2 : W_.cell? ⟨g2, 2, none⟩ = some (.int .i64 wg) := (blk_cell BKg2.out 2).trans rfl); (try have hcg8_0 : W_.cell? ⟨g8, 0, none⟩ = some (.int .i64 lo) := (blk_cell BKg8.out 0).trans rfl); (try have hcg8_1 : W_.cell? ⟨g8, 1, none⟩ = some (.int .i64 hi) := (blk_cell BKg8.out 1).trans rfl))) | (go_at_call 24; go_must (refine (posserlaw03_sure.calls k A0 c0 l0 A1 c1 l1 wg ts 0 _ (HRT.out.below HB.out).r0 HC0.out (HRT.out.below HB.out).r1 HC1.out HSU.out).mono ?_; rintro e W_ ⟨v_, rfl, ho, hb⟩; (try clear hcg2_0 hcg2_1 hcg2_2); (try clear hcg8_0 hcg8_1); (try replace HB := Aside0.mk (below_step HB.out hb)); (try replace HT := Aside0.mk (HT.out.below hb)); (try replace BKg2 := Aside0.mk (blk_below BKg2.out hb)); (try replace BKg8 := Aside0.mk (blk_below BKg8.out hb)); (try replace HW := Aside0.mk (Kd.R_below HW.out hb)); (try replace HL := Aside0.mk (Kd.R_below HL.out hb)); have HL := Aside0.mk (Kd.S_R ho); obtain ⟨AHL, cHL, eHL⟩ := Kd.R_slice HL.out; subst eHL; clear ho; clear hb; (try have hcg2_0 : W_.cell? ⟨g2, 0, none⟩ = some (.slice A0 l0.length c0) := (blk_cell BKg2.out 0).trans rfl); (try have hcg2_1 : W_.cell? ⟨g2, 1, none⟩ = some (.slice A1 l1.length c1) := (blk_cell BKg2.out 1).trans rfl); (try have hcg2_2 : W_.cell? ⟨g2, 2, none⟩ = some (.int .i64 wg) := (blk_cell BKg2.out 2).trans rfl); (try have hcg8_0 : W_.cell? ⟨g8, 0, none⟩ = some (.int .i64 lo) := (blk_cell BKg8.out 0).trans rfl); (try have hcg8_1 : W_.cell? ⟨g8, 1, none⟩ = some (.int .i64 hi) := (blk_cell BKg8.out 1).trans rfl))) | (go_at_call 37; go_must (refine (ast_c _ HT.out HE.out HSD.out).mono ?_; rintro e W_ ⟨rfl, hb⟩; (try clear hcg2_0 hcg2_1 hcg2_2); (try clear hcg8_0 hcg8_1); (try replace HB := Aside0.mk (below_step HB.out hb)); (try replace HT := Aside0.mk (HT.out.below hb)); (try replace BKg2 := Aside0.mk (blk_below BKg2.out hb)); (try replace BKg8 := Aside0.mk (blk_below BKg8.out hb)); (try replace HW := Aside0.mk (Kd.R_below HW.out hb)); (try replace HL := Aside0.mk (Kd.R_below HL.out hb)); skip; clear hb; (try have hcg2_0 : W_.cell? ⟨g2, 0, none⟩ = some (.slice A0 l0.length c0) := (blk_cell BKg2.out 0).trans rfl); (try have hcg2_1 : W_.cell? ⟨g2, 1, none⟩ = some (.slice A1 l1.length c1) := (blk_cell BKg2.out 1).trans rfl); (try have hcg2_2 : W_.cell? ⟨g2, 2, none⟩ = some (.int .i64 wg) := (blk_cell BKg2.out 2).trans rfl); (try have hcg8_0 : W_.cell? ⟨g8, 0, none⟩ = some (.int .i64 lo) := (blk_cell BKg8.out 0).trans rfl); (try have hcg8_1 : W_.cell? ⟨g8, 1, none⟩ = some (.int .i64 hi) := (blk_cell BKg8.out 1).trans rfl))) | (go_at_call 22; go_must (refine (whose_c _ HT.out HE.out HSW.out).mono ?_; rintro e W_ ⟨v_, rfl, ho, hb⟩; (try clear hcg2_0 hcg2_1 hcg2_2); (try clear hcg8_0 hcg8_1); (try replace HB := Aside0.mk (below_step HB.out hb)); (try replace HT := Aside0.mk (HT.out.below hb)); (try replace BKg2 := Aside0.mk (blk_below BKg2.out hb)); (try replace BKg8 := Aside0.mk (blk_below BKg8.out hb)); (try replace HW := Aside0.mk (Kd.R_below HW.out hb)); (try replace HL := Aside0.mk (Kd.R_below HL.out hb)); have HW := Aside0.mk ho; obtain ⟨AHW, cHW, eHW⟩ := Kd.R_slice HW.out; subst eHW; clear ho; clear hb; (try have hcg2_0 : W_.cell? ⟨g2, 0, none⟩ = some (.slice A0 l0.length c0) := (blk_cell BKg2.out 0).trans rfl); (try have hcg2_1 : W_.cell? ⟨g2, 1, none⟩ = some (.slice A1 l1.length c1) := (blk_cell BKg2.out 1).trans rfl); (try have hcg2_2 : W_.cell? ⟨g2, 2, none⟩ = some (.int .i64 wg) := (blk_cell BKg2.out 2).trans rfl); (try have hcg8_0 : W_.cell? ⟨g8, 0, none⟩ = some (.int .i64 lo) := (blk_cell BKg8.out 0).trans rfl); (try have hcg8_1 : W_.cell? ⟨g8, 1, none⟩ = some (.int .i64 hi) := (blk_cell BKg8.out 1).trans rfl))))
  obtain ⟨W1, hW1⟩ : ∃ W1 : World, W1 = W_ := ⟨_, rfl⟩
  subst hW1
  (try clear hcg2_0 hcg2_1 hcg2_2); (try clear hcg8_0 hcg8_1)
  rw [HPN.out]
  go_loopg [12, 13, 14, 15] ts.length (fun kq v12 v13 v14 v15 w' => ∃ m : Nat, v12 = .int .i64 ((metN ts p m : Nat) : Int) ∧ v13 = .bool (lowN L1 ts lo m) ∧ v14 = .bool (lowN L1 ts hi m) ∧ v15 = .int .i64 (m : Int) ∧ Aside0 (m + kq = ts.length) ∧ Aside0 (Below W1.heap.size W1 w'))
  case atStart => exact ⟨0, rfl, rfl, rfl, rfl, ⟨Nat.zero_add _⟩, ⟨Below.refl _ _⟩⟩
  case round =>
    obtain ⟨m, rfl, rfl, rfl, rfl, HM, HB1⟩ := hrel
    by_cases hlt : m < ts.length
    · cases gk with
      | zero => have := HM.out; omega
      | succ k1 =>
      have hwm := wrap_succ m _ hlt (by have := HTL.out; omega)
      have hmem := getD_mem ts m [] hlt
      obtain ⟨adl, Ax, cx, el, hcl0, LX, CX⟩ := at_LL (Kd.C_below (Kd.R_reads' HL.out).2.2 HB1.out) m (by omega)
      subst el
      have HMS := Aside0.mk (metN_succ ts p m hlt)
      have HLS := Aside0.mk (lowN_succ L1 ts lo m hlt)
      have HHS := Aside0.mk (lowN_succ L1 ts hi m hlt)
      have hml := metN_lt HOW.out m (by omega)
      obtain ⟨x, hx⟩ : ∃ x, ts.getD m [] = x := ⟨_, rfl⟩
      rw [hx] at hmem hcl0 LX CX HMS HLS HHS
      have HLX := Aside0.mk LX
      have CX := Aside0.mk CX
      have LX := HLX
      clear HLX
      have HAX := Aside0.mk (HAS.out x hmem)
      have hxl := HEL.out x hmem
      have hpl := HPL.out
      have hpx := HOW.out x hmem
      obtain ⟨adx, ex, hcx0⟩ := Kd.at_int CX.out (p : Int) (by omega) (by omega)
      subst ex
      rw [rd_nat, Int.toNat_natCast] at hcx0
      have hpx2 : x.getD p 0 = pad x p := rfl
      obtain ⟨j, hj⟩ : ∃ j : Nat, pad x p = (j : Int) := ⟨(pad x p).toNat, by omega⟩
      rw [hpx2, hj] at hcx0
      rw [hj, Int.toNat_natCast] at HMS
      have hj5 : j < 5 := by omega
      have HOR := Aside0.mk (or_small2 j hj5 _ hml)
      have hjs : (0 : Int) ≤ IntKind.u64.wrap ((j : Nat) : Int) := by rw [u64_small j (by omega)]; omega
      have hjd : decide ((0 : Int) ≤ IntKind.u64.wrap ((j : Nat) : Int)) = true := decide_eq_true hjs
      have hpd : (p : Int) < x.length := by omega
      have HPX := Aside0.mk hpd
      clear hx hmem hpx hpx2 hj hxl hml
      generalize metN ts p m = mt at *
      generalize lowN L1 ts lo m = bl at *
      generalize lowN L1 ts hi m = bh at *
      have hcg2_0 : wr.cell? ⟨g2, 0, none⟩ = some (.slice A0 l0.length c0) := (blk_cell (blk_below BKg2.out HB1.out) 0).trans rfl
      have hcg2_1 : wr.cell? ⟨g2, 1, none⟩ = some (.slice A1 l1.length c1) := (blk_cell (blk_below BKg2.out HB1.out) 1).trans rfl
      have hcg2_2 : wr.cell? ⟨g2, 2, none⟩ = some (.int .i64 wg) := (blk_cell (blk_below BKg2.out HB1.out) 2).trans rfl
      have hcg8_0 : wr.cell? ⟨g8, 0, none⟩ = some (.int .i64 lo) := (blk_cell (blk_below BKg8.out HB1.out) 0).trans rfl
      have hcg8_1 : wr.cell? ⟨g8, 1, none⟩ = some (.int .i64 hi) := (blk_cell (blk_below BKg8.out HB1.out) 1).trans rfl
      go_wp2
      refine start_ (n := 8) (S := fun w' => w'.cell? ⟨g2, 0, none⟩ = some (.slice A0 l0.length c0) ∧ w'.cell? ⟨g2, 1, none⟩ = some (.slice A1 l1.length c1) ∧ w'.cell? ⟨g2, 2, none⟩ = some (.int .i64 wg) ∧ w'.cell? ⟨g8, 0, none⟩ = some (.int .i64 lo) ∧ w'.cell? ⟨g8, 1, none⟩ = some (.int .i64 hi) ∧ w'.cell? (adl.add m) = some (.slice (some adx) x.length cx) ∧ w'.cell? (adx.add p) = some (.int .i64 (j : Int))) (ds := []) #[false, false, false, false, false, false, false, false] (by kernel_rfl) rfl rfl ⟨hcg2_0, hcg2_1, hcg2_2, hcg8_0, hcg8_1, hcl0, hcx0⟩ (fun hHeld => ?_)
      have hb := below_drew1 (Below.refl wr.heap.size wr)
      have n0_ := Aside0.mk (below_step HB1.out hb)
      have n1_ := Aside0.mk (Kd.C_below CX.out hb)
      clear HB1
      clear CX
      have HB1 := n0_
      have CX := n1_
      clear n0_ n1_
      replace hcg2_0 := (hb.cell (World.block_lt_of_cell? _ _ hcg2_0)).trans hcg2_0
      replace hcg2_1 := (hb.cell (World.block_lt_of_cell? _ _ hcg2_1)).trans hcg2_1
      replace hcg2_2 := (hb.cell (World.block_lt_of_cell? _ _ hcg2_2)).trans hcg2_2
      replace hcg8_0 := (hb.cell (World.block_lt_of_cell? _ _ hcg8_0)).trans hcg8_0
      replace hcg8_1 := (hb.cell (World.block_lt_of_cell? _ _ hcg8_1)).trans hcg8_1
      replace hcl0 := (hb.cell (World.block_lt_of_cell? _ _ hcl0)).trans hcl0
      replace hcx0 := (hb.cell (World.block_lt_of_cell? _ _ hcx0)).trans hcx0
      generalize wr.drew = W7 at *
      clear hb
      refine pure_ (i := 1) (N := some 84) (v := ?_) (a' := ?_) #[false, true, false, false, false, false, false, false] rfl rfl (by kernel_rfl) (fun _ _ _ h => h) (Or.inl ⟨by rfl, ?_⟩) ?_ ?_
      rotate_left
      · intro w'
        go_simp
        with_reducible rfl
      rotate_left
      · simp only [Act.put, List.setIfInBounds_toArray, List.set_cons_zero, List.set_cons_succ, i64_w, i32_w]
        rfl
      refine pure_ (i := 2) (N := some 85) (v := ?_) (a' := ?_) #[false, true, true, false, false, false, false, false] rfl rfl (by kernel_rfl) (fun _ _ _ h => h) (Or.inl ⟨by rfl, ?_⟩) ?_ ?_
      rotate_left
      · intro w'
        go_simp
        with_reducible rfl
      rotate_left
      · simp only [Act.put, List.setIfInBounds_toArray, List.set_cons_zero, List.set_cons_succ, i64_w, i32_w]
        rfl
      refine pure_ (i := 3) (N := some 86) (v := ?_) (a' := ?_) #[false, true, true, true, false, false, false, false] rfl rfl (by kernel_rfl) (fun _ _ _ h => h) (Or.inl ⟨by rfl, ?_⟩) ?_ ?_
      rotate_left
      · intro w'
        go_simp
        with_reducible rfl
      rotate_left
      · simp only [Act.put, List.setIfInBounds_toArray, List.set_cons_zero, List.set_cons_succ, i64_w, i32_w]
        rfl
      refine take_ (i := 0) (N := some 83) (v := ?_) (a' := ?_) #[true, true, true, true, false, false, false, false] rfl rfl (by kernel_rfl) (fun _ _ _ h => h) (Or.inl ⟨by rfl, ?_⟩) hHeld ?_ ?_
      rotate_left
      · rintro w' ⟨s0, s1, s2, s3, s4, s5, s6⟩
        go_simp
        with_reducible rfl
      rotate_left
      · simp only [Act.put, List.setIfInBounds_toArray, List.set_cons_zero, List.set_cons_succ, i64_w, i32_w]
        rfl
      refine take_ (i := 4) (N := some 87) (v := ?_) (a' := ?_) #[true, true, true, true, true, false, false, false] rfl rfl (by kernel_rfl) (fun _ _ _ h => h) (Or.inl ⟨by rfl, ?_⟩) hHeld ?_ ?_
      rotate_left
      · rintro w' ⟨s0, s1, s2, s3, s4, s5, s6⟩
        go_simp
        with_reducible rfl
      rotate_left
      · simp only [Act.put, List.setIfInBounds_toArray, List.set_cons_zero, List.set_cons_succ, i64_w, i32_w]
        rfl
      refine one_ (i := 5) (N := some 88) #[true, true, true, true, true, true, false, false] rfl rfl (by kernel_rfl) (by decide) (fun K hK => ?_)
      refine goes_ Try.func43 (by kernel_rfl) rfl #[.agg #[.slice A0 l0.length c0, .slice A1 l1.length c1, .int .i64 wg], .slice (some adx) x.length cx] (by rfl) rfl rfl (by simp only [List.map_toArray, List.map_cons, List.map_nil]; rfl) ?_
      with_reducible refine (posserref03_Astray.calls k A0 c0 l0 A1 c1 l1 wg (some adx) cx x _ _ (HRT.out.below (below_step HB.out HB1.out)).r0 HC0.out (HRT.out.below (below_step HB.out HB1.out)).r1 HC1.out CX.out LX.out HAX.out).mono ?_
      rintro e W8 ⟨v_, rfl, ho, hb⟩
      refine ⟨_, rfl, ?_⟩
      replace hcg2_0 := (hb.cell (World.block_lt_of_cell? _ _ hcg2_0)).trans hcg2_0
      replace hcg2_1 := (hb.cell (World.block_lt_of_cell? _ _ hcg2_1)).trans hcg2_1
      replace hcg2_2 := (hb.cell (World.block_lt_of_cell? _ _ hcg2_2)).trans hcg2_2
      replace hcg8_0 := (hb.cell (World.block_lt_of_cell? _ _ hcg8_0)).trans hcg8_0
      replace hcg8_1 := (hb.cell (World.block_lt_of_cell? _ _ hcg8_1)).trans hcg8_1
      replace hcl0 := (hb.cell (World.block_lt_of_cell? _ _ hcl0)).trans hcl0
      replace hcx0 := (hb.cell (World.block_lt_of_cell? _ _ hcx0)).trans hcx0
      have n0_ := Aside0.mk (below_step HB1.out hb)
      have n1_ := Aside0.mk (Kd.C_below CX.out hb)
      clear HB1
      clear CX
      have HB1 := n0_
      have CX := n1_
      clear n0_ n1_
      obtain ⟨A9, c9, e9⟩ := Kd.R_slice ho
      subst e9
      clear ho
      clear hb
      refine hK.out _ _ ⟨hcg2_0, hcg2_1, hcg2_2, hcg8_0, hcg8_1, hcl0, hcx0⟩ (fun hHeld => ?_)
      clear hK K
      refine norm_ (a' := ?_) ?_ ?_
      rotate_left
      · show Act.put _ (some 88) _ = _
        simp only [Act.put, List.setIfInBounds_toArray, List.set_cons_zero, List.set_cons_succ, i64_w, i32_w]
        rfl
      refine pure_ (i := 6) (N := some 89) (v := ?_) (a' := ?_) #[true, true, true, true, true, true, true, false] rfl rfl (by kernel_rfl) (fun _ _ _ h => h) (Or.inl ⟨by rfl, ?_⟩) ?_ ?_
      rotate_left
      · intro w'
        go_simp
        with_reducible rfl
      rotate_left
      · simp only [Act.put, List.setIfInBounds_toArray, List.set_cons_zero, List.set_cons_succ, i64_w, i32_w]
        rfl
      refine pure_ (i := 7) (N := some 16) (v := ?_) (a' := ?_) #[true, true, true, true, true, true, true, true] rfl rfl (by kernel_rfl) (fun _ _ _ h => h) (Or.inl ⟨by rfl, ?_⟩) ?_ ?_
      rotate_left
      · intro w'
        go_simp
        with_reducible rfl
      rotate_left
      · simp only [Act.put, List.setIfInBounds_toArray, List.set_cons_zero, List.set_cons_succ, i64_w, i32_w]
        rfl
      refine done_ (by kernel_rfl) ?_
      go_wp2
      have HLN := Aside0.mk (show lostN L1 (pad x) = ((sel (off L1 (pad x)) L1.length).length : Int) from rfl)
      generalize ((sel (off L1 (pad x)) L1.length).length : Int) = n at *
      rw [HLN.out] at HLS HHS
      cases bl <;> cases bh
      · skip
        refine start_ (n := 16) (S := fun w' => w'.cell? ⟨g8, 0, none⟩ = some (.int .i64 lo) ∧ w'.cell? ⟨g8, 1, none⟩ = some (.int .i64 hi) ∧ w'.cell? (adl.add m) = some (.slice (some adx) x.length cx) ∧ w'.cell? (adx.add p) = some (.int .i64 (j : Int))) (ds := []) #[false, false, false, false, false, false, false, false, false, false, false, false, false, false, false, false] (by kernel_rfl) rfl rfl ⟨hcg8_0, hcg8_1, hcl0, hcx0⟩ (fun hHeld => ?_)
        have hb := below_drew1 (Below.refl W8.heap.size W8)
        have n0_ := Aside0.mk (below_step HB1.out hb)
        have n1_ := Aside0.mk (Kd.C_below CX.out hb)
        clear HB1
        clear CX
        have HB1 := n0_
        have CX := n1_
        clear n0_ n1_
        replace hcg8_0 := (hb.cell (World.block_lt_of_cell? _ _ hcg8_0)).trans hcg8_0
        replace hcg8_1 := (hb.cell (World.block_lt_of_cell? _ _ hcg8_1)).trans hcg8_1
        replace hcl0 := (hb.cell (World.block_lt_of_cell? _ _ hcl0)).trans hcl0
        replace hcx0 := (hb.cell (World.block_lt_of_cell? _ _ hcx0)).trans hcx0
        generalize W8.drew = W9 at *
        clear hb
        refine pure_ (i := 0) (N := some 90) (v := ?_) (a' := ?_) #[true, false, false, false, false, false, false, false, false, false, false, false, false, false, false, false] rfl rfl (by kernel_rfl) (fun _ _ _ h => h) (Or.inl ⟨by rfl, ?_⟩) ?_ ?_
        rotate_left
        · intro w'
          go_simp
          with_reducible rfl
        rotate_left
        · simp only [Act.put, List.setIfInBounds_toArray, List.set_cons_zero, List.set_cons_succ, i64_w, i32_w]
          rfl
        refine pure_ (i := 1) (N := some 91) (v := ?_) (a' := ?_) #[true, true, false, false, false, false, false, false, false, false, false, false, false, false, false, false] rfl rfl (by kernel_rfl) (fun _ _ _ h => h) (Or.inl ⟨by rfl, ?_⟩) ?_ ?_
        rotate_left
        · intro w'
          go_simp
          with_reducible rfl
        rotate_left
        · simp only [Act.put, List.setIfInBounds_toArray, List.set_cons_zero, List.set_cons_succ, i64_w, i32_w]
          rfl
        refine pure_ (i := 2) (N := some 92) (v := ?_) (a' := ?_) #[true, true, true, false, false, false, false, false, false, false, false, false, false, false, false, false] rfl rfl (by kernel_rfl) (fun _ _ _ h => h) (Or.inl ⟨by rfl, ?_⟩) ?_ ?_
        rotate_left
        · intro w'
          go_simp
          with_reducible rfl
        rotate_left
        · simp only [Act.put, List.setIfInBounds_toArray, List.set_cons_zero, List.set_cons_succ, i64_w, i32_w]
          rfl
        refine pure_ (i := 3) (N := some 93) (v := ?_) (a' := ?_) #[true, true, true, true, false, false, false, false, false, false, false, false, false, false, false, false] rfl rfl (by kernel_rfl) (fun _ _ _ h => h) (Or.inl ⟨by rfl, ?_⟩) ?_ ?_
        rotate_left
        · intro w'
          go_simp
          with_reducible rfl
        rotate_left
        · simp only [Act.put, List.setIfInBounds_toArray, List.set_cons_zero, List.set_cons_succ, i64_w, i32_w]
          rfl
        refine pure_ (i := 7) (N := some 97) (v := ?_) (a' := ?_) #[true, true, true, true, false, false, false, true, false, false, false, false, false, false, false, false] rfl rfl (by kernel_rfl) (fun _ _ _ h => h) (Or.inl ⟨by rfl, ?_⟩) ?_ ?_
        rotate_left
        · intro w'
          go_simp
          with_reducible rfl
        rotate_left
        · simp only [Act.put, List.setIfInBounds_toArray, List.set_cons_zero, List.set_cons_succ, i64_w, i32_w]
          rfl
        refine pure_ (i := 8) (N := some 98) (v := ?_) (a' := ?_) #[true, true, true, true, false, false, false, true, true, false, false, false, false, false, false, false] rfl rfl (by kernel_rfl) (fun _ _ _ h => h) (Or.inl ⟨by rfl, ?_⟩) ?_ ?_
        rotate_left
        · intro w'
          go_simp
          with_reducible rfl
        rotate_left
        · simp only [Act.put, List.setIfInBounds_toArray, List.set_cons_zero, List.set_cons_succ, i64_w, i32_w]
          rfl
        refine pure_ (i := 9) (N := some 99) (v := ?_) (a' := ?_) #[true, true, true, true, false, false, false, true, true, true, false, false, false, false, false, false] rfl rfl (by kernel_rfl) (fun _ _ _ h => h) (Or.inl ⟨by rfl, ?_⟩) ?_ ?_
        rotate_left
        · intro w'
          go_simp
          with_reducible rfl
        rotate_left
        · simp only [Act.put, List.setIfInBounds_toArray, List.set_cons_zero, List.set_cons_succ, i64_w, i32_w]
          rfl
        refine pure_ (i := 10) (N := some 100) (v := ?_) (a' := ?_) #[true, true, true, true, false, false, false, true, true, true, true, false, false, false, false, false] rfl rfl (by kernel_rfl) (fun _ _ _ h => h) (Or.inl ⟨by rfl, ?_⟩) ?_ ?_
        rotate_left
        · intro w'
          go_simp
          with_reducible rfl
        rotate_left
        · simp only [Act.put, List.setIfInBounds_toArray, List.set_cons_zero, List.set_cons_succ, i64_w, i32_w]
          rfl
        refine take_ (i := 4) (N := some 94) (v := ?_) (a' := ?_) #[true, true, true, true, true, false, false, true, true, true, true, false, false, false, false, false] rfl rfl (by kernel_rfl) (fun _ _ _ h => h) (Or.inl ⟨by rfl, ?_⟩) hHeld ?_ ?_
        rotate_left
        · rintro w' ⟨s0, s1, s2, s3⟩
          go_simp
          with_reducible rfl
        rotate_left
        · simp only [Act.put, List.setIfInBounds_toArray, List.set_cons_zero, List.set_cons_succ, i64_w, i32_w]
          rfl
        refine pure_ (i := 5) (N := some 95) (v := ?_) (a' := ?_) #[true, true, true, true, true, true, false, true, true, true, true, false, false, false, false, false] rfl rfl (by kernel_rfl) (fun _ _ _ h => h) (Or.inl ⟨by rfl, ?_⟩) ?_ ?_
        rotate_left
        · intro w'
          go_simp
          with_reducible rfl
        rotate_left
        · simp only [Act.put, List.setIfInBounds_toArray, List.set_cons_zero, List.set_cons_succ, i64_w, i32_w]
          rfl
        refine pure_ (i := 6) (N := some 96) (v := ?_) (a' := ?_) #[true, true, true, true, true, true, true, true, true, true, true, false, false, false, false, false] rfl rfl (by kernel_rfl) (fun _ _ _ h => h) (Or.inl ⟨by rfl, ?_⟩) ?_ ?_
        rotate_left
        · intro w'
          go_simp
          with_reducible rfl
        rotate_left
        · simp only [Act.put, List.setIfInBounds_toArray, List.set_cons_zero, List.set_cons_succ, i64_w, i32_w]
          rfl
        refine pure_ (i := 14) (N := some 13) (v := ?_) (a' := ?_) #[true, true, true, true, true, true, true, true, true, true, true, false, false, false, true, false] rfl rfl (by kernel_rfl) (fun _ _ _ h => h) (Or.inl ⟨by rfl, ?_⟩) ?_ ?_
        rotate_left
        · intro w'
          go_simp
          with_reducible rfl
        rotate_left
        · simp only [Act.put, List.setIfInBounds_toArray, List.set_cons_zero, List.set_cons_succ, i64_w, i32_w]
          rfl
        refine take_ (i := 11) (N := some 101) (v := ?_) (a' := ?_) #[true, true, true, true, true, true, true, true, true, true, true, true, false, false, true, false] rfl rfl (by kernel_rfl) (fun _ _ _ h => h) (Or.inl ⟨by rfl, ?_⟩) hHeld ?_ ?_
        rotate_left
        · rintro w' ⟨s0, s1, s2, s3⟩
          go_simp
          with_reducible rfl
        rotate_left
        · simp only [Act.put, List.setIfInBounds_toArray, List.set_cons_zero, List.set_cons_succ, i64_w, i32_w]
          rfl
        refine pure_ (i := 12) (N := some 102) (v := ?_) (a' := ?_) #[true, true, true, true, true, true, true, true, true, true, true, true, true, false, true, false] rfl rfl (by kernel_rfl) (fun _ _ _ h => h) (Or.inl ⟨by rfl, ?_⟩) ?_ ?_
        rotate_left
        · intro w'
          go_simp
          with_reducible rfl
        rotate_left
        · simp only [Act.put, List.setIfInBounds_toArray, List.set_cons_zero, List.set_cons_succ, i64_w, i32_w]
          rfl
        refine pure_ (i := 13) (N := some 103) (v := ?_) (a' := ?_) #[true, true, true, true, true, true, true, true, true, true, true, true, true, true, true, false] rfl rfl (by kernel_rfl) (fun _ _ _ h => h) (Or.inl ⟨by rfl, ?_⟩) ?_ ?_
        rotate_left
        · intro w'
          go_simp
          with_reducible rfl
        rotate_left
        · simp only [Act.put, List.setIfInBounds_toArray, List.set_cons_zero, List.set_cons_succ, i64_w, i32_w]
          rfl
        refine pure_ (i := 15) (N := some 14) (v := ?_) (a' := ?_) #[true, true, true, true, true, true, true, true, true, true, true, true, true, true, true, true] rfl rfl (by kernel_rfl) (fun _ _ _ h => h) (Or.inl ⟨by rfl, ?_⟩) ?_ ?_
        rotate_left
        · intro w'
          go_simp
          with_reducible rfl
        rotate_left
        · simp only [Act.put, List.setIfInBounds_toArray, List.set_cons_zero, List.set_cons_succ, i64_w, i32_w]
          rfl
        refine done_ (by kernel_rfl) ?_
        go_wp2
        go_roundg k1
        case measure => omega
        case rel => exact ⟨m + 1, by rw [HOR.out, HMS.out], by rw [HLS.out]; rw [Bool.false_or], by rw [HHS.out]; rw [Bool.false_or], by go_num, ⟨by have := HM.out; omega⟩, HB1⟩
      · skip
        refine start_ (n := 16) (S := fun w' => w'.cell? ⟨g8, 0, none⟩ = some (.int .i64 lo) ∧ w'.cell? ⟨g8, 1, none⟩ = some (.int .i64 hi) ∧ w'.cell? (adl.add m) = some (.slice (some adx) x.length cx) ∧ w'.cell? (adx.add p) = some (.int .i64 (j : Int))) (ds := []) #[false, false, false, false, false, false, false, false, false, false, false, false, false, false, false, false] (by kernel_rfl) rfl rfl ⟨hcg8_0, hcg8_1, hcl0, hcx0⟩ (fun hHeld => ?_)
        have hb := below_drew1 (Below.refl W8.heap.size W8)
        have n0_ := Aside0.mk (below_step HB1.out hb)
        have n1_ := Aside0.mk (Kd.C_below CX.out hb)
        clear HB1
        clear CX
        have HB1 := n0_
        have CX := n1_
        clear n0_ n1_
        replace hcg8_0 := (hb.cell (World.block_lt_of_cell? _ _ hcg8_0)).trans hcg8_0
        replace hcg8_1 := (hb.cell (World.block_lt_of_cell? _ _ hcg8_1)).trans hcg8_1
        replace hcl0 := (hb.cell (World.block_lt_of_cell? _ _ hcl0)).trans hcl0
        replace hcx0 := (hb.cell (World.block_lt_of_cell? _ _ hcx0)).trans hcx0
        generalize W8.drew = W9 at *
        clear hb
        refine pure_ (i := 0) (N := some 90) (v := ?_) (a' := ?_) #[true, false, false, false, false, false, false, false, false, false, false, false, false, false, false, false] rfl rfl (by kernel_rfl) (fun _ _ _ h => h) (Or.inl ⟨by rfl, ?_⟩) ?_ ?_
        rotate_left
        · intro w'
          go_simp
          with_reducible rfl
        rotate_left
        · simp only [Act.put, List.setIfInBounds_toArray, List.set_cons_zero, List.set_cons_succ, i64_w, i32_w]
          rfl
        refine pure_ (i := 1) (N := some 91) (v := ?_) (a' := ?_) #[true, true, false, false, false, false, false, false, false, false, false, false, false, false, false, false] rfl rfl (by kernel_rfl) (fun _ _ _ h => h) (Or.inl ⟨by rfl, ?_⟩) ?_ ?_
        rotate_left
        · intro w'
          go_simp
          with_reducible rfl
        rotate_left
        · simp only [Act.put, List.setIfInBounds_toArray, List.set_cons_zero, List.set_cons_succ, i64_w, i32_w]
          rfl
        refine pure_ (i := 2) (N := some 92) (v := ?_) (a' := ?_) #[true, true, true, false, false, false, false, false, false, false, false, false, false, false, false, false] rfl rfl (by kernel_rfl) (fun _ _ _ h => h) (Or.inl ⟨by rfl, ?_⟩) ?_ ?_
        rotate_left
        · intro w'
          go_simp
          with_reducible rfl
        rotate_left
        · simp only [Act.put, List.setIfInBounds_toArray, List.set_cons_zero, List.set_cons_succ, i64_w, i32_w]
          rfl
        refine pure_ (i := 3) (N := some 93) (v := ?_) (a' := ?_) #[true, true, true, true, false, false, false, false, false, false, false, false, false, false, false, false] rfl rfl (by kernel_rfl) (fun _ _ _ h => h) (Or.inl ⟨by rfl, ?_⟩) ?_ ?_
        rotate_left
        · intro w'
          go_simp
          with_reducible rfl
        rotate_left
        · simp only [Act.put, List.setIfInBounds_toArray, List.set_cons_zero, List.set_cons_succ, i64_w, i32_w]
          rfl
        refine pure_ (i := 7) (N := some 97) (v := ?_) (a' := ?_) #[true, true, true, true, false, false, false, true, false, false, false, false, false, false, false, false] rfl rfl (by kernel_rfl) (fun _ _ _ h => h) (Or.inl ⟨by rfl, ?_⟩) ?_ ?_
        rotate_left
        · intro w'
          go_simp
          with_reducible rfl
        rotate_left
        · simp only [Act.put, List.setIfInBounds_toArray, List.set_cons_zero, List.set_cons_succ, i64_w, i32_w]
          rfl
        refine pure_ (i := 8) (N := some 98) (v := ?_) (a' := ?_) #[true, true, true, true, false, false, false, true, true, false, false, false, false, false, false, false] rfl rfl (by kernel_rfl) (fun _ _ _ h => h) (Or.inl ⟨by rfl, ?_⟩) ?_ ?_
        rotate_left
        · intro w'
          go_simp
          with_reducible rfl
        rotate_left
        · simp only [Act.put, List.setIfInBounds_toArray, List.set_cons_zero, List.set_cons_succ, i64_w, i32_w]
          rfl
        refine pure_ (i := 9) (N := some 99) (v := undef) (a' := ?_) #[true, true, true, true, false, false, false, true, true, true, false, false, false, false, false, false] rfl rfl (by kernel_rfl) (fun _ _ _ h => h) (Or.inr ⟨by rfl, rfl⟩) ?_ ?_
        rotate_left
        · simp only [Act.put, List.setIfInBounds_toArray, List.set_cons_zero, List.set_cons_succ, i64_w, i32_w]
          rfl
        refine pure_ (i := 10) (N := some 100) (v := undef) (a' := ?_) #[true, true, true, true, false, false, false, true, true, true, true, false, false, false, false, false] rfl rfl (by kernel_rfl) (fun _ _ _ h => h) (Or.inr ⟨by rfl, rfl⟩) ?_ ?_
        rotate_left
        · simp only [Act.put, List.setIfInBounds_toArray, List.set_cons_zero, List.set_cons_succ, i64_w, i32_w]
          rfl
        refine pure_ (i := 11) (N := some 101) (v := undef) (a' := ?_) #[true, true, true, true, false, false, false, true, true, true, true, true, false, false, false, false] rfl rfl (by kernel_rfl) (fun _ _ _ h => h) (Or.inr ⟨by rfl, rfl⟩) ?_ ?_
        rotate_left
        · simp only [Act.put, List.setIfInBounds_toArray, List.set_cons_zero, List.set_cons_succ, i64_w, i32_w]
          rfl
        refine pure_ (i := 12) (N := some 102) (v := undef) (a' := ?_) #[true, true, true, true, false, false, false, true, true, true, true, true, true, false, false, false] rfl rfl (by kernel_rfl) (fun _ _ _ h => h) (Or.inr ⟨by rfl, rfl⟩) ?_ ?_
        rotate_left
        · simp only [Act.put, List.setIfInBounds_toArray, List.set_cons_zero, List.set_cons_succ, i64_w, i32_w]
          rfl
        refine pure_ (i := 13) (N := some 103) (v := ?_) (a' := ?_) #[true, true, true, true, false, false, false, true, true, true, true, true, true, true, false, false] rfl rfl (by kernel_rfl) (fun _ _ _ h => h) (Or.inl ⟨by rfl, ?_⟩) ?_ ?_
        rotate_left
        · intro w'
          go_simp
          with_reducible rfl
        rotate_left
        · simp only [Act.put, List.setIfInBounds_toArray, List.set_cons_zero, List.set_cons_succ, i64_w, i32_w]
          rfl
        refine take_ (i := 4) (N := some 94) (v := ?_) (a' := ?_) #[true, true, true, true, true, false, false, true, true, true, true, true, true, true, false, false] rfl rfl (by kernel_rfl) (fun _ _ _ h => h) (Or.inl ⟨by rfl, ?_⟩) hHeld ?_ ?_
        rotate_left
        · rintro w' ⟨s0, s1, s2, s3⟩
          go_simp
          with_reducible rfl
        rotate_left
        · simp only [Act.put, List.setIfInBounds_toArray, List.set_cons_zero, List.set_cons_succ, i64_w, i32_w]
          rfl
        refine pure_ (i := 5) (N := some 95) (v := ?_) (a' := ?_) #[true, true, true, true, true, true, false, true, true, true, true, true, true, true, false, false] rfl rfl (by kernel_rfl) (fun _ _ _ h => h) (Or.inl ⟨by rfl, ?_⟩) ?_ ?_
        rotate_left
        · intro w'
          go_simp
          with_reducible rfl
        rotate_left
        · simp only [Act.put, List.setIfInBounds_toArray, List.set_cons_zero, List.set_cons_succ, i64_w, i32_w]
          rfl
        refine pure_ (i := 6) (N := some 96) (v := ?_) (a' := ?_) #[true, true, true, true, true, true, true, true, true, true, true, true, true, true, false, false] rfl rfl (by kernel_rfl) (fun _ _ _ h => h) (Or.inl ⟨by rfl, ?_⟩) ?_ ?_
        rotate_left
        · intro w'
          go_simp
          with_reducible rfl
        rotate_left
        · simp only [Act.put, List.setIfInBounds_toArray, List.set_cons_zero, List.set_cons_succ, i64_w, i32_w]
          rfl
        refine pure_ (i := 14) (N := some 13) (v := ?_) (a' := ?_) #[true, true, true, true, true, true, true, true, true, true, true, true, true, true, true, false] rfl rfl (by kernel_rfl) (fun _ _ _ h => h) (Or.inl ⟨by rfl, ?_⟩) ?_ ?_
        rotate_left
        · intro w'
          go_simp
          with_reducible rfl
        rotate_left
        · simp only [Act.put, List.setIfInBounds_toArray, List.set_cons_zero, List.set_cons_succ, i64_w, i32_w]
          rfl
        refine pure_ (i := 15) (N := some 14) (v := ?_) (a' := ?_) #[true, true, true, true, true, true, true, true, true, true, true, true, true, true, true, true] rfl rfl (by kernel_rfl) (fun _ _ _ h => h) (Or.inl ⟨by rfl, ?_⟩) ?_ ?_
        rotate_left
        · intro w'
          go_simp
          with_reducible rfl
        rotate_left
        · simp only [Act.put, List.setIfInBounds_toArray, List.set_cons_zero, List.set_cons_succ, i64_w, i32_w]
          rfl
        refine done_ (by kernel_rfl) ?_
        go_wp2
        go_roundg k1
        case measure => omega
        case rel => exact ⟨m + 1, by rw [HOR.out, HMS.out], by rw [HLS.out]; rw [Bool.false_or], by rw [HHS.out]; rfl, by go_num, ⟨by have := HM.out; omega⟩, HB1⟩
      · skip
        refine start_ (n := 16) (S := fun w' => w'.cell? ⟨g8, 0, none⟩ = some (.int .i64 lo) ∧ w'.cell? ⟨g8, 1, none⟩ = some (.int .i64 hi) ∧ w'.cell? (adl.add m) = some (.slice (some adx) x.length cx) ∧ w'.cell? (adx.add p) = some (.int .i64 (j : Int))) (ds := []) #[false, false, false, false, false, false, false, false, false, false, false, false, false, false, false, false] (by kernel_rfl) rfl rfl ⟨hcg8_0, hcg8_1, hcl0, hcx0⟩ (fun hHeld => ?_)
        have hb := below_drew1 (Below.refl W8.heap.size W8)
        have n0_ := Aside0.mk (below_step HB1.out hb)
        have n1_ := Aside0.mk (Kd.C_below CX.out hb)
        clear HB1
        clear CX
        have HB1 := n0_
        have CX := n1_
        clear n0_ n1_
        replace hcg8_0 := (hb.cell (World.block_lt_of_cell? _ _ hcg8_0)).trans hcg8_0
        replace hcg8_1 := (hb.cell (World.block_lt_of_cell? _ _ hcg8_1)).trans hcg8_1
        replace hcl0 := (hb.cell (World.block_lt_of_cell? _ _ hcl0)).trans hcl0
        replace hcx0 := (hb.cell (World.block_lt_of_cell? _ _ hcx0)).trans hcx0
        generalize W8.drew = W9 at *
        clear hb
        refine pure_ (i := 0) (N := some 90) (v := ?_) (a' := ?_) #[true, false, false, false, false, false, false, false, false, false, false, false, false, false, false, false] rfl rfl (by kernel_rfl) (fun _ _ _ h => h) (Or.inl ⟨by rfl, ?_⟩) ?_ ?_
        rotate_left
        · intro w'
          go_simp
          with_reducible rfl
        rotate_left
        · simp only [Act.put, List.setIfInBounds_toArray, List.set_cons_zero, List.set_cons_succ, i64_w, i32_w]
          rfl
        refine pure_ (i := 1) (N := some 91) (v := ?_) (a' := ?_) #[true, true, false, false, false, false, false, false, false, false, false, false, false, false, false, false] rfl rfl (by kernel_rfl) (fun _ _ _ h => h) (Or.inl ⟨by rfl, ?_⟩) ?_ ?_
        rotate_left
        · intro w'
          go_simp
          with_reducible rfl
        rotate_left
        · simp only [Act.put, List.setIfInBounds_toArray, List.set_cons_zero, List.set_cons_succ, i64_w, i32_w]
          rfl
        refine pure_ (i := 2) (N := some 92) (v := undef) (a' := ?_) #[true, true, true, false, false, false, false, false, false, false, false, false, false, false, false, false] rfl rfl (by kernel_rfl) (fun _ _ _ h => h) (Or.inr ⟨by rfl, rfl⟩) ?_ ?_
        rotate_left
        · simp only [Act.put, List.setIfInBounds_toArray, List.set_cons_zero, List.set_cons_succ, i64_w, i32_w]
          rfl
        refine pure_ (i := 3) (N := some 93) (v := undef) (a' := ?_) #[true, true, true, true, false, false, false, false, false, false, false, false, false, false, false, false] rfl rfl (by kernel_rfl) (fun _ _ _ h => h) (Or.inr ⟨by rfl, rfl⟩) ?_ ?_
        rotate_left
        · simp only [Act.put, List.setIfInBounds_toArray, List.set_cons_zero, List.set_cons_succ, i64_w, i32_w]
          rfl
        refine pure_ (i := 4) (N := some 94) (v := undef) (a' := ?_) #[true, true, true, true, true, false, false, false, false, false, false, false, false, false, false, false] rfl rfl (by kernel_rfl) (fun _ _ _ h => h) (Or.inr ⟨by rfl, rfl⟩) ?_ ?_
        rotate_left
        · simp only [Act.put, List.setIfInBounds_toArray, List.set_cons_zero, List.set_cons_succ, i64_w, i32_w]
          rfl
        refine pure_ (i := 5) (N := some 95) (v := undef) (a' := ?_) #[true, true, true, true, true, true, false, false, false, false, false, false, false, false, false, false] rfl rfl (by kernel_rfl) (fun _ _ _ h => h) (Or.inr ⟨by rfl, rfl⟩) ?_ ?_
        rotate_left
        · simp only [Act.put, List.setIfInBounds_toArray, List.set_cons_zero, List.set_cons_succ, i64_w, i32_w]
          rfl
        refine pure_ (i := 6) (N := some 96) (v := ?_) (a' := ?_) #[true, true, true, true, true, true, true, false, false, false, false, false, false, false, false, false] rfl rfl (by kernel_rfl) (fun _ _ _ h => h) (Or.inl ⟨by rfl, ?_⟩) ?_ ?_
        rotate_left
        · intro w'
          go_simp
          with_reducible rfl
        rotate_left
        · simp only [Act.put, List.setIfInBounds_toArray, List.set_cons_zero, List.set_cons_succ, i64_w, i32_w]
          rfl
        refine pure_ (i := 7) (N := some 97) (v := ?_) (a' := ?_) #[true, true, true, true, true, true, true, true, false, false, false, false, false, false, false, false] rfl rfl (by kernel_rfl) (fun _ _ _ h => h) (Or.inl ⟨by rfl, ?_⟩) ?_ ?_
        rotate_left
        · intro w'
          go_simp
          with_reducible rfl
        rotate_left
        · simp only [Act.put, List.setIfInBounds_toArray, List.set_cons_zero, List.set_cons_succ, i64_w, i32_w]
          rfl
        refine pure_ (i := 8) (N := some 98) (v := ?_) (a' := ?_) #[true, true, true, true, true, true, true, true, true, false, false, false, false, false, false, false] rfl rfl (by kernel_rfl) (fun _ _ _ h => h) (Or.inl ⟨by rfl, ?_⟩) ?_ ?_
        rotate_left
        · intro w'
          go_simp
          with_reducible rfl
        rotate_left
        · simp only [Act.put, List.setIfInBounds_toArray, List.set_cons_zero, List.set_cons_succ, i64_w, i32_w]
          rfl
        refine pure_ (i := 9) (N := some 99) (v := ?_) (a' := ?_) #[true, true, true, true, true, true, true, true, true, true, false, false, false, false, false, false] rfl rfl (by kernel_rfl) (fun _ _ _ h => h) (Or.inl ⟨by rfl, ?_⟩) ?_ ?_
        rotate_left
        · intro w'
          go_simp
          with_reducible rfl
        rotate_left
        · simp only [Act.put, List.setIfInBounds_toArray, List.set_cons_zero, List.set_cons_succ, i64_w, i32_w]
          rfl
        refine pure_ (i := 10) (N := some 100) (v := ?_) (a' := ?_) #[true, true, true, true, true, true, true, true, true, true, true, false, false, false, false, false] rfl rfl (by kernel_rfl) (fun _ _ _ h => h) (Or.inl ⟨by rfl, ?_⟩) ?_ ?_
        rotate_left
        · intro w'
          go_simp
          with_reducible rfl
        rotate_left
        · simp only [Act.put, List.setIfInBounds_toArray, List.set_cons_zero, List.set_cons_succ, i64_w, i32_w]
          rfl
        refine pure_ (i := 14) (N := some 13) (v := ?_) (a' := ?_) #[true, true, true, true, true, true, true, true, true, true, true, false, false, false, true, false] rfl rfl (by kernel_rfl) (fun _ _ _ h => h) (Or.inl ⟨by rfl, ?_⟩) ?_ ?_
        rotate_left
        · intro w'
          go_simp
          with_reducible rfl
        rotate_left
        · simp only [Act.put, List.setIfInBounds_toArray, List.set_cons_zero, List.set_cons_succ, i64_w, i32_w]
          rfl
        refine take_ (i := 11) (N := some 101) (v := ?_) (a' := ?_) #[true, true, true, true, true, true, true, true, true, true, true, true, false, false, true, false] rfl rfl (by kernel_rfl) (fun _ _ _ h => h) (Or.inl ⟨by rfl, ?_⟩) hHeld ?_ ?_
        rotate_left
        · rintro w' ⟨s0, s1, s2, s3⟩
          go_simp
          with_reducible rfl
        rotate_left
        · simp only [Act.put, List.setIfInBounds_toArray, List.set_cons_zero, List.set_cons_succ, i64_w, i32_w]
          rfl
        refine pure_ (i := 12) (N := some 102) (v := ?_) (a' := ?_) #[true, true, true, true, true, true, true, true, true, true, true, true, true, false, true, false] rfl rfl (by kernel_rfl) (fun _ _ _ h => h) (Or.inl ⟨by rfl, ?_⟩) ?_ ?_
        rotate_left
        · intro w'
          go_simp
          with_reducible rfl
        rotate_left
        · simp only [Act.put, List.setIfInBounds_toArray, List.set_cons_zero, List.set_cons_succ, i64_w, i32_w]
          rfl
        refine pure_ (i := 13) (N := some 103) (v := ?_) (a' := ?_) #[true, true, true, true, true, true, true, true, true, true, true, true, true, true, true, false] rfl rfl (by kernel_rfl) (fun _ _ _ h => h) (Or.inl ⟨by rfl, ?_⟩) ?_ ?_
        rotate_left
        · intro w'
          go_simp
          with_reducible rfl
        rotate_left
        · simp only [Act.put, List.setIfInBounds_toArray, List.set_cons_zero, List.set_cons_succ, i64_w, i32_w]
          rfl
        refine pure_ (i := 15) (N := some 14) (v := ?_) (a' := ?_) #[true, true, true, true, true, true, true, true, true, true, true, true, true, true, true, true] rfl rfl (by kernel_rfl) (fun _ _ _ h => h) (Or.inl ⟨by rfl, ?_⟩) ?_ ?_
        rotate_left
        · intro w'
          go_simp
          with_reducible rfl
        rotate_left
        · simp only [Act.put, List.setIfInBounds_toArray, List.set_cons_zero, List.set_cons_succ, i64_w, i32_w]
          rfl
        refine done_ (by kernel_rfl) ?_
        go_wp2
        go_roundg k1
        case measure => omega
        case rel => exact ⟨m + 1, by rw [HOR.out, HMS.out], by rw [HLS.out]; rfl, by rw [HHS.out]; rw [Bool.false_or], by go_num, ⟨by have := HM.out; omega⟩, HB1⟩
      · skip
        refine start_ (n := 16) (S := fun w' => w'.cell? ⟨g8, 0, none⟩ = some (.int .i64 lo) ∧ w'.cell? ⟨g8, 1, none⟩ = some (.int .i64 hi) ∧ w'.cell? (adl.add m) = some (.slice (some adx) x.length cx) ∧ w'.cell? (adx.add p) = some (.int .i64 (j : Int))) (ds := []) #[false, false, false, false, false, false, false, false, false, false, false, false, false, false, false, false] (by kernel_rfl) rfl rfl ⟨hcg8_0, hcg8_1, hcl0, hcx0⟩ (fun hHeld => ?_)
        have hb := below_drew1 (Below.refl W8.heap.size W8)
        have n0_ := Aside0.mk (below_step HB1.out hb)
        have n1_ := Aside0.mk (Kd.C_below CX.out hb)
        clear HB1
        clear CX
        have HB1 := n0_
        have CX := n1_
        clear n0_ n1_
        replace hcg8_0 := (hb.cell (World.block_lt_of_cell? _ _ hcg8_0)).trans hcg8_0
        replace hcg8_1 := (hb.cell (World.block_lt_of_cell? _ _ hcg8_1)).trans hcg8_1
        replace hcl0 := (hb.cell (World.block_lt_of_cell? _ _ hcl0)).trans hcl0
        replace hcx0 := (hb.cell (World.block_lt_of_cell? _ _ hcx0)).trans hcx0
        generalize W8.drew = W9 at *
        clear hb
        refine pure_ (i := 0) (N := some 90) (v := ?_) (a' := ?_) #[true, false, false, false, false, false, false, false, false, false, false, false, false, false, false, false] rfl rfl (by kernel_rfl) (fun _ _ _ h => h) (Or.inl ⟨by rfl, ?_⟩) ?_ ?_
        rotate_left
        · intro w'
          go_simp
          with_reducible rfl
        rotate_left
        · simp only [Act.put, List.setIfInBounds_toArray, List.set_cons_zero, List.set_cons_succ, i64_w, i32_w]
          rfl
        refine pure_ (i := 1) (N := some 91) (v := ?_) (a' := ?_) #[true, true, false, false, false, false, false, false, false, false, false, false, false, false, false, false] rfl rfl (by kernel_rfl) (fun _ _ _ h => h) (Or.inl ⟨by rfl, ?_⟩) ?_ ?_
        rotate_left
        · intro w'
          go_simp
          with_reducible rfl
        rotate_left
        · simp only [Act.put, List.setIfInBounds_toArray, List.set_cons_zero, List.set_cons_succ, i64_w, i32_w]
          rfl
        refine pure_ (i := 2) (N := some 92) (v := undef) (a' := ?_) #[true, true, true, false, false, false, false, false, false, false, false, false, false, false, false, false] rfl rfl (by kernel_rfl) (fun _ _ _ h => h) (Or.inr ⟨by rfl, rfl⟩) ?_ ?_
        rotate_left
        · simp only [Act.put, List.setIfInBounds_toArray, List.set_cons_zero, List.set_cons_succ, i64_w, i32_w]
          rfl
        refine pure_ (i := 3) (N := some 93) (v := undef) (a' := ?_) #[true, true, true, true, false, false, false, false, false, false, false, false, false, false, false, false] rfl rfl (by kernel_rfl) (fun _ _ _ h => h) (Or.inr ⟨by rfl, rfl⟩) ?_ ?_
        rotate_left
        · simp only [Act.put, List.setIfInBounds_toArray, List.set_cons_zero, List.set_cons_succ, i64_w, i32_w]
          rfl
        refine pure_ (i := 4) (N := some 94) (v := undef) (a' := ?_) #[true, true, true, true, true, false, false, false, false, false, false, false, false, false, false, false] rfl rfl (by kernel_rfl) (fun _ _ _ h => h) (Or.inr ⟨by rfl, rfl⟩) ?_ ?_
        rotate_left
        · simp only [Act.put, List.setIfInBounds_toArray, List.set_cons_zero, List.set_cons_succ, i64_w, i32_w]
          rfl
        refine pure_ (i := 5) (N := some 95) (v := undef) (a' := ?_) #[true, true, true, true, true, true, false, false, false, false, false, false, false, false, false, false] rfl rfl (by kernel_rfl) (fun _ _ _ h => h) (Or.inr ⟨by rfl, rfl⟩) ?_ ?_
        rotate_left
        · simp only [Act.put, List.setIfInBounds_toArray, List.set_cons_zero, List.set_cons_succ, i64_w, i32_w]
          rfl
        refine pure_ (i := 6) (N := some 96) (v := ?_) (a' := ?_) #[true, true, true, true, true, true, true, false, false, false, false, false, false, false, false, false] rfl rfl (by kernel_rfl) (fun _ _ _ h => h) (Or.inl ⟨by rfl, ?_⟩) ?_ ?_
        rotate_left
        · intro w'
          go_simp
          with_reducible rfl
        rotate_left
        · simp only [Act.put, List.setIfInBounds_toArray, List.set_cons_zero, List.set_cons_succ, i64_w, i32_w]
          rfl
        refine pure_ (i := 7) (N := some 97) (v := ?_) (a' := ?_) #[true, true, true, true, true, true, true, true, false, false, false, false, false, false, false, false] rfl rfl (by kernel_rfl) (fun _ _ _ h => h) (Or.inl ⟨by rfl, ?_⟩) ?_ ?_
        rotate_left
        · intro w'
          go_simp
          with_reducible rfl
        rotate_left
        · simp only [Act.put, List.setIfInBounds_toArray, List.set_cons_zero, List.set_cons_succ, i64_w, i32_w]
          rfl
        refine pure_ (i := 8) (N := some 98) (v := ?_) (a' := ?_) #[true, true, true, true, true, true, true, true, true, false, false, false, false, false, false, false] rfl rfl (by kernel_rfl) (fun _ _ _ h => h) (Or.inl ⟨by rfl, ?_⟩) ?_ ?_
        rotate_left
        · intro w'
          go_simp
          with_reducible rfl
        rotate_left
        · simp only [Act.put, List.setIfInBounds_toArray, List.set_cons_zero, List.set_cons_succ, i64_w, i32_w]
          rfl
        refine pure_ (i := 9) (N := some 99) (v := undef) (a' := ?_) #[true, true, true, true, true, true, true, true, true, true, false, false, false, false, false, false] rfl rfl (by kernel_rfl) (fun _ _ _ h => h) (Or.inr ⟨by rfl, rfl⟩) ?_ ?_
        rotate_left
        · simp only [Act.put, List.setIfInBounds_toArray, List.set_cons_zero, List.set_cons_succ, i64_w, i32_w]
          rfl
        refine pure_ (i := 10) (N := some 100) (v := undef) (a' := ?_) #[true, true, true, true, true, true, true, true, true, true, true, false, false, false, false, false] rfl rfl (by kernel_rfl) (fun _ _ _ h => h) (Or.inr ⟨by rfl, rfl⟩) ?_ ?_
        rotate_left
        · simp only [Act.put, List.setIfInBounds_toArray, List.set_cons_zero, List.set_cons_succ, i64_w, i32_w]
          rfl
        refine pure_ (i := 11) (N := some 101) (v := undef) (a' := ?_) #[true, true, true, true, true, true, true, true, true, true, true, true, false, false, false, false] rfl rfl (by kernel_rfl) (fun _ _ _ h => h) (Or.inr ⟨by rfl, rfl⟩) ?_ ?_
        rotate_left
        · simp only [Act.put, List.setIfInBounds_toArray, List.set_cons_zero, List.set_cons_succ, i64_w, i32_w]
          rfl
        refine pure_ (i := 12) (N := some 102) (v := undef) (a' := ?_) #[true, true, true, true, true, true, true, true, true, true, true, true, true, false, false, false] rfl rfl (by kernel_rfl) (fun _ _ _ h => h) (Or.inr ⟨by rfl, rfl⟩) ?_ ?_
        rotate_left
        · simp only [Act.put, List.setIfInBounds_toArray, List.set_cons_zero, List.set_cons_succ, i64_w, i32_w]
          rfl
        refine pure_ (i := 13) (N := some 103) (v := ?_) (a' := ?_) #[true, true, true, true, true, true, true, true, true, true, true, true, true, true, false, false] rfl rfl (by kernel_rfl) (fun _ _ _ h => h) (Or.inl ⟨by rfl, ?_⟩) ?_ ?_
        rotate_left
        · intro w'
          go_simp
          with_reducible rfl
        rotate_left
        · simp only [Act.put, List.setIfInBounds_toArray, List.set_cons_zero, List.set_cons_succ, i64_w, i32_w]
          rfl
        refine pure_ (i := 14) (N := some 13) (v := ?_) (a' := ?_) #[true, true, true, true, true, true, true, true, true, true, true, true, true, true, true, false] rfl rfl (by kernel_rfl) (fun _ _ _ h => h) (Or.inl ⟨by rfl, ?_⟩) ?_ ?_
        rotate_left
        · intro w'
          go_simp
          with_reducible rfl
        rotate_left
        · simp only [Act.put, List.setIfInBounds_toArray, List.set_cons_zero, List.set_cons_succ, i64_w, i32_w]
          rfl
        refine pure_ (i := 15) (N := some 14) (v := ?_) (a' := ?_) #[true, true, true, true, true, true, true, true, true, true, true, true, true, true, true, true] rfl rfl (by kernel_rfl) (fun _ _ _ h => h) (Or.inl ⟨by rfl, ?_⟩) ?_ ?_
        rotate_left
        · intro w'
          go_simp
          with_reducible rfl
        rotate_left
        · simp only [Act.put, List.setIfInBounds_toArray, List.set_cons_zero, List.set_cons_succ, i64_w, i32_w]
          rfl
        refine done_ (by kernel_rfl) ?_
        go_wp2
        go_roundg k1
        case measure => omega
        case rel => exact ⟨m + 1, by rw [HOR.out, HMS.out], by rw [HLS.out]; rfl, by rw [HHS.out]; rfl, by go_num, ⟨by have := HM.out; omega⟩, HB1⟩
    · obtain rfl : m = ts.length := by have := HM.out; omega
      rw [HLOW.out, HHIGH.out]
      have hpl := HPL.out
      obtain ⟨adw, Aw, cw, ew, hcw0, LW, CW⟩ := at_LL (Kd.C_below (Kd.R_reads' HW.out).2.2 HB1.out) p (by have := HLW.out; omega)
      subst ew
      have CW := Aside0.mk CW
      have LW1 := Aside0.mk LW
      have LW := LW1
      clear LW1
      have hpw : (p : Int) < ws.length := by have := HLW.out; omega
      go_wp2
      refine start_ (n := 17) (S := fun w' => w'.cell? (adw.add p) = some (.slice Aw (ws.getD p []).length cw)) (ds := []) #[false, false, false, false, false, false, false, false, false, false, false, false, false, false, false, false, false] (by kernel_rfl) rfl rfl (hcw0) (fun hHeld => ?_)
      have hb := below_drew1 (Below.refl wr.heap.size wr)
      have n0_ := Aside0.mk (below_step HB1.out hb)
      have n1_ := Aside0.mk (Kd.C_below CW.out hb)
      clear HB1
      clear CW
      have HB1 := n0_
      have CW := n1_
      clear n0_ n1_
      replace hcw0 := (hb.cell (World.block_lt_of_cell? _ _ hcw0)).trans hcw0
      generalize wr.drew = W7 at *
      clear hb
      refine pure_ (i := 0) (N := some 115) (v := ?_) (a' := ?_) #[true, false, false, false, false, false, false, false, false, false, false, false, false, false, false, false, false] rfl rfl (by kernel_rfl) (fun _ _ _ h => h) (Or.inl ⟨by rfl, ?_⟩) ?_ ?_
      rotate_left
      · intro w'
        go_simp
        with_reducible rfl
      rotate_left
      · simp only [Act.put, List.setIfInBounds_toArray, List.set_cons_zero, List.set_cons_succ, i64_w, i32_w]
        rfl
      refine pure_ (i := 1) (N := some 116) (v := ?_) (a' := ?_) #[true, true, false, false, false, false, false, false, false, false, false, false, false, false, false, false, false] rfl rfl (by kernel_rfl) (fun _ _ _ h => h) (Or.inl ⟨by rfl, ?_⟩) ?_ ?_
      rotate_left
      · intro w'
        go_simp
        with_reducible rfl
      rotate_left
      · simp only [Act.put, List.setIfInBounds_toArray, List.set_cons_zero, List.set_cons_succ, i64_w, i32_w]
        rfl
      refine pure_ (i := 2) (N := some 117) (v := ?_) (a' := ?_) #[true, true, true, false, false, false, false, false, false, false, false, false, false, false, false, false, false] rfl rfl (by kernel_rfl) (fun _ _ _ h => h) (Or.inl ⟨by rfl, ?_⟩) ?_ ?_
      rotate_left
      · intro w'
        go_simp
        with_reducible rfl
      rotate_left
      · simp only [Act.put, List.setIfInBounds_toArray, List.set_cons_zero, List.set_cons_succ, i64_w, i32_w]
        rfl
      refine pure_ (i := 3) (N := some 118) (v := ?_) (a' := ?_) #[true, true, true, true, false, false, false, false, false, false, false, false, false, false, false, false, false] rfl rfl (by kernel_rfl) (fun _ _ _ h => h) (Or.inl ⟨by rfl, ?_⟩) ?_ ?_
      rotate_left
      · intro w'
        go_simp
        with_reducible rfl
      rotate_left
      · simp only [Act.put, List.setIfInBounds_toArray, List.set_cons_zero, List.set_cons_succ, i64_w, i32_w]
        rfl
      refine pure_ (i := 4) (N := some 119) (v := ?_) (a' := ?_) #[true, true, true, true, true, false, false, false, false, false, false, false, false, false, false, false, false] rfl rfl (by kernel_rfl) (fun _ _ _ h => h) (Or.inl ⟨by rfl, ?_⟩) ?_ ?_
      rotate_left
      · intro w'
        go_simp
        with_reducible rfl
      rotate_left
      · simp only [Act.put, List.setIfInBounds_toArray, List.set_cons_zero, List.set_cons_succ, i64_w, i32_w]
        rfl
      refine pure_ (i := 5) (N := some 120) (v := ?_) (a' := ?_) #[true, true, true, true, true, true, false, false, false, false, false, false, false, false, false, false, false] rfl rfl (by kernel_rfl) (fun _ _ _ h => h) (Or.inl ⟨by rfl, ?_⟩) ?_ ?_
      rotate_left
      · intro w'
        go_simp
        with_reducible rfl
      rotate_left
      · simp only [Act.put, List.setIfInBounds_toArray, List.set_cons_zero, List.set_cons_succ, i64_w, i32_w]
        rfl
      refine pure_ (i := 7) (N := some 122) (v := ?_) (a' := ?_) #[true, true, true, true, true, true, false, true, false, false, false, false, false, false, false, false, false] rfl rfl (by kernel_rfl) (fun _ _ _ h => h) (Or.inl ⟨by rfl, ?_⟩) ?_ ?_
      rotate_left
      · intro w'
        go_simp
        with_reducible rfl
      rotate_left
      · simp only [Act.put, List.setIfInBounds_toArray, List.set_cons_zero, List.set_cons_succ, i64_w, i32_w]
        rfl
      refine pure_ (i := 8) (N := some 123) (v := ?_) (a' := ?_) #[true, true, true, true, true, true, false, true, true, false, false, false, false, false, false, false, false] rfl rfl (by kernel_rfl) (fun _ _ _ h => h) (Or.inl ⟨by rfl, ?_⟩) ?_ ?_
      rotate_left
      · intro w'
        go_simp
        with_reducible rfl
      rotate_left
      · simp only [Act.put, List.setIfInBounds_toArray, List.set_cons_zero, List.set_cons_succ, i64_w, i32_w]
        rfl
      refine pure_ (i := 9) (N := some 124) (v := ?_) (a' := ?_) #[true, true, true, true, true, true, false, true, true, true, false, false, false, false, false, false, false] rfl rfl (by kernel_rfl) (fun _ _ _ h => h) (Or.inl ⟨by rfl, ?_⟩) ?_ ?_
      rotate_left
      · intro w'
        go_simp
        with_reducible rfl
      rotate_left
      · simp only [Act.put, List.setIfInBounds_toArray, List.set_cons_zero, List.set_cons_succ, i64_w, i32_w]
        rfl
      refine take_ (i := 10) (N := some 125) (v := ?_) (a' := ?_) #[true, true, true, true, true, true, false, true, true, true, true, false, false, false, false, false, false] rfl rfl (by kernel_rfl) (fun _ _ _ h => h) (Or.inl ⟨by rfl, ?_⟩) hHeld ?_ ?_
      rotate_left
      · intro w' s0
        go_simp
        with_reducible rfl
      rotate_left
      · simp only [Act.put, List.setIfInBounds_toArray, List.set_cons_zero, List.set_cons_succ, i64_w, i32_w]
        rfl
      refine one_ (i := 6) (N := some 121) #[true, true, true, true, true, true, true, true, true, true, true, false, false, false, false, false, false] rfl rfl (by kernel_rfl) (by decide) (fun K hK => ?_)
      refine goes_ Try.func48 (by kernel_rfl) rfl #[.int .i64 ((metN ts p ts.length : Nat) : Int)] (by rfl) rfl rfl (by simp only [List.map_toArray, List.map_cons, List.map_nil]; rfl) ?_
      with_reducible refine (posserref03_Bits.calls k _ b _ HBT.out).mono ?_
      rintro e W8 ⟨v_, rfl, ho, hb⟩
      refine ⟨_, rfl, ?_⟩
      replace hcw0 := (hb.cell (World.block_lt_of_cell? _ _ hcw0)).trans hcw0
      have n0_ := Aside0.mk (below_step HB1.out hb)
      have n1_ := Aside0.mk (Kd.C_below CW.out hb)
      clear HB1
      clear CW
      have HB1 := n0_
      have CW := n1_
      clear n0_ n1_
      have HBI := Aside0.mk ho
      obtain ⟨A9, c9, e9⟩ := Kd.R_slice HBI.out
      subst e9
      clear ho
      clear hb
      refine hK.out _ _ (hcw0) (fun hHeld => ?_)
      clear hK K
      refine norm_ (a' := ?_) ?_ ?_
      rotate_left
      · show Act.put _ (some 121) _ = _
        simp only [Act.put, List.setIfInBounds_toArray, List.set_cons_zero, List.set_cons_succ, i64_w, i32_w]
        rfl
      refine one_ (i := 11) (N := some 126) #[true, true, true, true, true, true, true, true, true, true, true, true, false, false, false, false, false] rfl rfl (by kernel_rfl) (by decide) (fun K hK => ?_)
      refine goes_ Try.func25 (by kernel_rfl) rfl #[.slice A9 b.length c9, .slice Aw (ws.getD p []).length cw] (by rfl) rfl rfl (by simp only [List.map_toArray, List.map_cons, List.map_nil]; rfl) ?_
      with_reducible refine (posserlaw03_ints.calls k A9 c9 b Aw cw (ws.getD p []) true _ (Kd.R_reads' HBI.out).2.2 (Kd.R_reads' HBI.out).2.1 CW.out LW.out HIN.out).mono ?_
      rintro e Wx ⟨rfl, ⟨nd, rfl⟩⟩
      have hb := pw_below_drewN (Below.refl W8.heap.size W8) nd
      replace hcw0 := (hb.cell (World.block_lt_of_cell? _ _ hcw0)).trans hcw0
      have n0_ := Aside0.mk (below_step HB1.out hb)
      have n1_ := Aside0.mk (Kd.C_below CW.out hb)
      clear HB1
      clear CW
      have HB1 := n0_
      have CW := n1_
      clear n0_ n1_
      clear hb HBI
      generalize W8.drewN nd = W9 at *
      refine ⟨_, rfl, ?_⟩
      refine hK.out _ _ (hcw0) (fun hHeld => ?_)
      clear hK K
      refine norm_ (a' := ?_) ?_ ?_
      rotate_left
      · show Act.put _ (some 126) _ = _
        simp only [Act.put, List.setIfInBounds_toArray, List.set_cons_zero, List.set_cons_succ, i64_w, i32_w]
        rfl
      refine pure_ (i := 12) (N := some 127) (v := ?_) (a' := ?_) #[true, true, true, true, true, true, true, true, true, true, true, true, true, false, false, false, false] rfl rfl (by kernel_rfl) (fun _ _ _ h => h) (Or.inl ⟨by rfl, ?_⟩) ?_ ?_
      rotate_left
      · intro w'
        go_simp
        with_reducible rfl
      rotate_left
      · simp only [Act.put, List.setIfInBounds_toArray, List.set_cons_zero, List.set_cons_succ, i64_w, i32_w]
        rfl
      refine pure_ (i := 13) (N := some 128) (v := ?_) (a' := ?_) #[true, true, true, true, true, true, true, true, true, true, true, true, true, true, false, false, false] rfl rfl (by kernel_rfl) (fun _ _ _ h => h) (Or.inl ⟨by rfl, ?_⟩) ?_ ?_
      rotate_left
      · intro w'
        go_simp
        with_reducible rfl
      rotate_left
      · simp only [Act.put, List.setIfInBounds_toArray, List.set_cons_zero, List.set_cons_succ, i64_w, i32_w]
        rfl
      refine one_ (i := 14) (N := some 129) #[true, true, true, true, true, true, true, true, true, true, true, true, true, true, true, false, false] rfl rfl (by kernel_rfl) (by decide) (fun K hK => ?_)
      refine goes_ Try.func21 (by kernel_rfl) rfl #[] (by rfl) rfl rfl (by simp only [List.map_toArray, List.map_nil]) ?_
      with_reducible refine (awake_calls _).mono ?_
      rintro e W10 ⟨rfl, hb⟩
      refine ⟨_, rfl, ?_⟩
      replace hcw0 := (hb.cell (World.block_lt_of_cell? _ _ hcw0)).trans hcw0
      have n0_ := Aside0.mk (below_step HB1.out hb)
      have n1_ := Aside0.mk (Kd.C_below CW.out hb)
      clear HB1
      clear CW
      have HB1 := n0_
      have CW := n1_
      clear n0_ n1_
      clear hb
      refine hK.out _ _ (hcw0) (fun hHeld => ?_)
      clear hK K
      refine norm_ (a' := ?_) ?_ ?_
      rotate_left
      · show Act.put _ (some 129) _ = _
        simp only [Act.put, List.setIfInBounds_toArray, List.set_cons_zero, List.set_cons_succ, i64_w, i32_w]
        rfl
      refine pure_ (i := 15) (N := some 130) (v := ?_) (a' := ?_) #[true, true, true, true, true, true, true, true, true, true, true, true, true, true, true, true, false] rfl rfl (by kernel_rfl) (fun _ _ _ h => h) (Or.inl ⟨by rfl, ?_⟩) ?_ ?_
      rotate_left
      · intro w'
        go_simp
        with_reducible rfl
      rotate_left
      · simp only [Act.put, List.setIfInBounds_toArray, List.set_cons_zero, List.set_cons_succ, i64_w, i32_w]
        rfl
      refine pure_ (i := 16) (N := some 4) (v := ?_) (a' := ?_) #[true, true, true, true, true, true, true, true, true, true, true, true, true, true, true, true, true] rfl rfl (by kernel_rfl) (fun _ _ _ h => h) (Or.inl ⟨by rfl, ?_⟩) ?_ ?_
      rotate_left
      · intro w'
        go_simp
        with_reducible rfl
      rotate_left
      · simp only [Act.put, List.setIfInBounds_toArray, List.set_cons_zero, List.set_cons_succ, i64_w, i32_w]
        rfl
      refine done_ (by kernel_rfl) ?_
      go_wp2
      go_ret
      exact ⟨rfl, below_step HB.out HB1.out⟩
end Go.Proofs.Ytnbbbeghgomnoaa.X
namespace Go.Proofs.Ytnbbbeghgomnoaa.X
open Go.RowKit Go.Proofs.YtnbbbeghgomnoaaW.PrintWords Go.Proofs.YtnbbbeghgomnoaaW.PrintLast Go.Proofs.YtnbbbeghgomnoaaW.PrintMore
theorem metN_bit {ts : List (List Int)} {p : Nat} (h : ∀ x ∈ ts, 0 ≤ pad x p ∧ pad x p < 5) (j : Nat) : ∀ m, m ≤ ts.length → (metN ts p m).testBit j = (ts.take m).any (fun x => pad x p == (j : Int)) := by
  intro m
  induction m with
  | zero => intro _; simp [metN]
  | succ m ih =>
    intro hm
    have h1 := h (ts.getD m []) (getD_mem ts m [] hm)
    rw [metN_succ ts p m hm, take_succ_getD ts m hm, List.any_append, Nat.testBit_or, ih (by omega), Nat.testBit_two_pow]
    congr 1
    simp only [List.any_cons, List.any_nil, Bool.or_false]
    rw [Bool.eq_iff_iff, decide_eq_true_eq, beq_iff_eq]
    omega
theorem BundleEnds_walk (A0 : Option Addr) (c0 : Nat) (l0 : List S85) (A1 : Option Addr) (c1 : Nat) (l1 : List S71) (wg a1 : Int) (W : World) (C0 : Kd.C k85 W A0 l0.length l0) (g0 : l0.length ≤ c0) (C1 : Kd.C k71 W A1 l1.length l1) (g1 : l1.length ≤ c1) (w1 : (Lit.int .u8 a1).wf = true) :
    Calls Try.prog 8 #[.agg #[.slice A0 l0.length c0, .slice A1 l1.length c1, .int .i64 wg], .int .u8 a1] W fun e w' => e = .returned (.bool true) ∧ Below W.heap.size W w' := by
  obtain ⟨b0, b1⟩ := u8_rng w1
  rcases rdy_cases l0 l1 wg with ⟨K, hK⟩ | ⟨hv, hc, K, hK⟩
  · exact Ends_no K wg a1 C0 g0 C1 g1 (hK K (Nat.le_refl _))
  · by_cases hn : l1.length = 0
    · exact Ends_nil K wg a1 C0 g0 C1 g1 (hK K (Nat.le_refl _)) hn
    · obtain ⟨L, hL⟩ := sure_ev wg hv.thn
      rcases ask_cases hc with ⟨he, _⟩ | ⟨he, hts⟩
      · have hs := hL (K + L) (by omega)
        dsimp only at hs
        rw [if_neg (by omega), he] at hs
        exact Ends_err (K + L) wg a1 C0 g0 C1 g1 hv.thn rfl rfl (hK (K + L) (by omega)) hn he hs
      · have hel : ∀ x ∈ truthsL (l0.map cvW) (l1.map cvP) wg, x.length = l1.length := fun x hx => by
          rw [((allL_mem _ _ x).1 (truths_mem hx)).1, List.length_map]
        have hpl : a1.toNat % l1.length < l1.length := Nat.mod_lt _ (by omega)
        obtain ⟨p, hp⟩ : ∃ p, a1.toNat % l1.length = p := ⟨_, rfl⟩
        rw [hp] at hpl
        have hpl' : p < (l1.map cvP).length := by rw [List.length_map]; exact hpl
        have hn0 := hv.n0
        have hown : ∀ x ∈ truthsL (l0.map cvW) (l1.map cvP) wg, 0 ≤ pad x p ∧ pad x p < (l0.map cvW).length := fun x hx => truths_own hx p hpl'
        have hown5 : ∀ x ∈ truthsL (l0.map cvW) (l1.map cvP) wg, 0 ≤ pad x p ∧ pad x p < 5 := fun x hx => by
          have := hown x hx
          rw [List.length_map] at this
          omega
        have hlen : (truthsL (l0.map cvW) (l1.map cvP) wg).length ≤ 2000 := Nat.le_trans (List.length_filter_le _ _) hv.mny
        obtain ⟨M, hM⟩ := Evt.all (truthsL (l0.map cvW) (l1.map cvP) wg) fun x hx => RAstray_ev (l0 := l0) (l1 := l1) wg hv.thn.n1 x (hel x hx)
        have hsp := boundsL_spec (fun x => lostN (l1.map cvP) (pad x)) hts
        obtain ⟨ts, hts2⟩ : ∃ ts, truthsL (l0.map cvW) (l1.map cvP) wg = ts := ⟨_, rfl⟩
        obtain ⟨⟨lo, hi⟩, hbd⟩ : ∃ r, boundsL (fun x => lostN (l1.map cvP) (pad x)) ts = r := ⟨_, rfl⟩
        have hml := metN_lt (ts := ts) (p := p) (by rw [← hts2]; exact hown5) ts.length (Nat.le_refl _)
        obtain ⟨N, hN⟩ := Bits_ev (metN ts p ts.length) (by omega)
        obtain ⟨J, hJ⟩ := ints_ev (sel (fun j => (metN ts p ts.length).testBit j) 6) ((whoseL (l0.map cvW).length (l1.map cvP).length ts).getD p []) (Nat.le_trans (sel_le _ _) (by omega))
        have heq : sel (fun j => (metN ts p ts.length).testBit j) 6 = (whoseL (l0.map cvW).length (l1.map cvP).length ts).getD p [] := by
          rw [whoseL_get _ _ _ _ hpl']
          rw [← hts2]
          refine sel_cut (fun j _ => ?_) (fun j hj => ?_) (by rw [List.length_map]; omega)
          · rw [metN_bit hown5 j _ (Nat.le_refl _), List.take_length, whoP_any _ _ _ _ hpl']
          · rw [metN_bit hown5 j _ (Nat.le_refl _), List.take_length]
            cases hq : (truthsL (l0.map cvW) (l1.map cvP) wg).any (fun x => pad x p == (j : Int)) with
            | false => rfl
            | true =>
              rw [List.any_eq_true] at hq
              obtain ⟨x, hx, hxe⟩ := hq
              have h1 := hown x hx
              have h2 := eq_of_beq hxe
              omega
        rw [heq] at hJ
        obtain ⟨k, hk⟩ : ∃ k, k = K + L + M + N + J := ⟨_, rfl⟩
        have e1 := hK k (by omega)
        have e2 := hL k (by omega)
        have e3 := hM k (by omega)
        have e4 := hN k (by omega)
        have e5 := hJ k (by omega)
        dsimp only at e2 e3 e4 e5
        rw [if_pos he, hts2] at e2
        rw [hts2] at e3 hel hown5 hlen hsp
        rw [heq] at e4
        refine Ends_ok k wg a1 C0 g0 C1 g1 hv.thn rfl rfl e1 hn he (ts := ts) (ws := whoseL (l0.map cvW).length (l1.map cvP).length ts) (lo := lo) (hi := hi) (p := p) (b := (whoseL (l0.map cvW).length (l1.map cvP).length ts).getD p []) e2 (by rw [hts2]) (by rw [hts2, hbd]) (by rw [whoseL_len, List.length_map]) ?_ hpl (by omega) hel e3 hown5 ?_ ?_ e4 (by rw [e5]; simp)
        · rw [tmod_nat a1 _ b0 (by omega) (by omega), Int.toNat_natCast, hp]
        · obtain ⟨x, hx, h⟩ := hsp.2.1
          unfold lowN
          rw [List.take_length, List.any_eq_true]
          exact ⟨x, hx, beq_iff_eq.2 (h.trans (by rw [hbd]))⟩
        · obtain ⟨x, hx, h⟩ := hsp.2.2
          unfold lowN
          rw [List.take_length, List.any_eq_true]
          exact ⟨x, hx, beq_iff_eq.2 (h.trans (by rw [hbd]))⟩
end Go.Proofs.Ytnbbbeghgomnoaa.X
namespace Go.Proofs.Ytnbbbeghgomnoaa.bundleEnds
open Go.ChangeShapes Go.WideShapes Go.ChangeAt Go.RowKit
open Go.ChangeMaps (open_string shut_string)
open Go.Proofs.Ytnbbbeghgomnoaa.X
theorem own : ownKnob Try.prog.godebug = none := by kernel_rfl
theorem laidOut : laidOutB Try.prog = true := by kernel_rfl
set_option maxRecDepth 100000 in
theorem lifted (os : Os) (started : os.Started) (H : Type) (enc : TypeId × Value → H) :
    ReturnsInHanded {} Try.checked os 8 .any (Rows.bundleEndsSpec.pre6 enc Try.prog Try.f8 Rows.bundleEndsRow.domain false) (Rows.bundleEndsSpec.post enc Try.prog Try.f8 false true false false) := by
  refine returnsInHanded_of_change_sized (C := Try.checked) own started (by kernel_rfl) Try.func8
    (ChangeSpec.witness6 (enc := enc) (C := Try.checked) false ⟨#[], #[.agg #[.slice none 0 0, .slice none 0 0, .int .i64 0], .int .u8 0], []⟩ 8 (by kernel_rfl) (by kernel_rfl) (by kernel_rfl) (by kernel_rfl)) ?_
  intro W base args ds gs before hval0 hW hcnd hsz0 _
  have hsz : (DataW.weightsEach Try.prog (Try.f8.params.toList ++ Rows.bundleEndsSpec.plain.varTypes Try.prog) (ds ++ gs)).all (· ≤ reachBytes) = true := hsz0
  have hval : ∀ (j : Nat) t v, Try.f8.params[j]? = some t → args[j]? = some v → Value.okWide Try.prog W .any base t v := hval0
  have hW' := hW
  obtain ⟨p, q, hA0, hV, rfl, hfz, hnd⟩ := hW
  have hA : DataW.TrodAll enc Try.prog W 0 (fun _ => true) true Try.f8.params.toList args.toList ds p := hA0
  rw [Try.params8] at hA hval hsz
  obtain ⟨v0, vs0, d0, ds0, p0, q0, hargs, rfl, rfl, h0, r0⟩ := trodAll_cons hA
  obtain ⟨v1, vs1, d1, ds1, p1, q1, rfl, rfl, rfl, h1, r1⟩ := trodAll_cons r0
  obtain ⟨rfl, rfl, rfl⟩ := trodAll_nil r1
  obtain rfl : args = #[v0, v1] := by cases args; simp_all
  obtain ⟨rfl, rfl⟩ := trodVars_none hV
  have k0 := h0
  have lt0 : ∀ x ∈ p0, x.block < W.heap.size := by obtain ⟨m, hm⟩ := k0; exact DataW.trod_lt m _ _ _ hm
  obtain ⟨A0, c0, l0, A1, c1, l1, wg, rfl, C0, g0, C1, g1⟩ := open_table (hval 0 25 v0 rfl rfl) h0
  obtain ⟨a1, rfl, rfl, rfl, w1⟩ := open_int Try.underlying5 (hval 1 5 v1 rfl rfl) h1
  clear hA0 hval0 hsz0 hsz
  refine (BundleEnds_walk A0 c0 l0 A1 c1 l1 wg a1 W C0 g0 C1 g1 w1).mono fun e W' ⟨he, bel⟩ => ?_
  subst he
  exact ⟨_, rfl, _, _, _, [], _, [], hW', trodAll_mk1 (shut_bool Try.underlying4 _), (trodAll_cons_mk (Below.trod laidOut (by kernel_rfl) (of_decide_eq_true (by kernel_rfl)) k0 bel lt0) (trodAll_cons_mk (shut_int Try.underlying5 w1) trodAll_mk0)), rfl, bel.frame _, fun h => by cases h⟩
theorem over : Rows.bundleEndsRow.holds Try.pinned (OpenSpec.ofChange Rows.bundleEndsSpec) :=
  OpenClaim.holds_of_wide 8 Try.f8 rfl rfl rfl rfl rfl rfl rfl ⟨rfl, rfl, rfl, rfl, rfl⟩ rfl rfl rfl rfl rfl (by kernel_rfl) Try.func8 (by kernel_rfl)
    (of_decide_eq_true (by kernel_rfl)) (by unfold Func.isWrapper; first | (rw [if_pos (by decide +kernel)]; kernel_rfl) | (rw [if_neg (by decide +kernel)]; exact ⟨rfl, rfl⟩))
    (fun os started H enc _ => lifted os started H enc)
theorem proved : Rows.BundleEndsSaid := over
end Go.Proofs.Ytnbbbeghgomnoaa.bundleEnds
namespace Go.Proofs.Ytnbbbeghgomnoaa
theorem bundleEnds_holds : Rows.BundleEndsSaid := bundleEnds.proved
#print axioms bundleEnds_holds
end Go.Proofs.Ytnbbbeghgomnoaa
