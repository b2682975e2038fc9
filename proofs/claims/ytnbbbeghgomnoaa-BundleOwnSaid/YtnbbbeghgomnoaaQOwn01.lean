/-
  For every table that the statement lets in: if in some truth no piece is astray, no woman misses something always; a woman misses something always if one of her pieces surely is hers and lies in another bundle.
-/
import Derived.Test.YtnbbbeghgomnoaaQBase05
import Derived.Deep.DeepMust
import Derived.Test.YtnbbbeghgomnoaaRows
import Derived.WalkKit
import Derived.ProofKit
import Derived.OpenShut
import Derived.ShutString
import Derived.ChangeOld
import Derived.Below
import Derived.SizedLaws
set_option linter.unusedVariables false
set_option linter.unusedSimpArgs false
namespace Go.Proofs.Ytnbbbeghgomnoaa.X
open Go.RowKit Go.Proofs.YtnbbbeghgomnoaaW.PrintWords Go.Proofs.YtnbbbeghgomnoaaW.PrintLast Go.Proofs.YtnbbbeghgomnoaaW.PrintMore
theorem mn_le (a b : Int) : mn a b ≤ a ∧ mn a b ≤ b ∧ (mn a b = a ∨ mn a b = b) := by
 unfold mn
 split
 ·exact ⟨by omega, by omega, .inr rfl⟩
 ·exact ⟨by omega, by omega, .inl rfl⟩
theorem mx_ge (a b : Int) : a ≤ mx a b ∧ b ≤ mx a b ∧ (mx a b = a ∨ mx a b = b) := by
 unfold mx
 split
 ·exact ⟨by omega, by omega, .inr rfl⟩
 ·exact ⟨by omega, by omega, .inl rfl⟩
theorem bounds_fold {α : Type} (g : α → Int) : ∀ (ts : List α) (a b : Int), (ts.foldl (fun r x => (mn r.1 (g x), mx r.2 (g x))) (a, b)).1 ≤ a ∧ (∀ x ∈ ts, (ts.foldl (fun r x => (mn r.1 (g x), mx r.2 (g x))) (a, b)).1 ≤ g x) ∧
  ((ts.foldl (fun r x => (mn r.1 (g x), mx r.2 (g x))) (a, b)).1 = a ∨ ∃ x ∈ ts, g x = (ts.foldl (fun r x => (mn r.1 (g x), mx r.2 (g x))) (a, b)).1) ∧
  b ≤ (ts.foldl (fun r x => (mn r.1 (g x), mx r.2 (g x))) (a, b)).2 ∧ (∀ x ∈ ts, g x ≤ (ts.foldl (fun r x => (mn r.1 (g x), mx r.2 (g x))) (a, b)).2) ∧
  ((ts.foldl (fun r x => (mn r.1 (g x), mx r.2 (g x))) (a, b)).2 = b ∨ ∃ x ∈ ts, g x = (ts.foldl (fun r x => (mn r.1 (g x), mx r.2 (g x))) (a, b)).2) := by
 intro ts
 induction ts with
 | nil => intro a b; exact ⟨Int.le_refl _, fun _ h => by simp at h, .inl rfl, Int.le_refl _, fun _ h => by simp at h, .inl rfl⟩
 | cons y r ih =>
  intro a b
  rw [List.foldl_cons]
  obtain ⟨h1, h2, h3, h4, h5, h6⟩ := ih (mn a (g y)) (mx b (g y))
  obtain ⟨m1, m2, m3⟩ := mn_le a (g y)
  obtain ⟨n1, n2, n3⟩ := mx_ge b (g y)
  refine ⟨Int.le_trans h1 m1, fun x hx => ?_, ?_, Int.le_trans n1 h4, fun x hx => ?_, ?_⟩
  ·rcases List.mem_cons.1 hx with rfl | hx
   ·exact Int.le_trans h1 m2
   ·exact h2 x hx
  ·rcases h3 with h3 | ⟨x, hx, h3⟩
   ·rcases m3 with m3 | m3
    ·exact .inl (h3.trans m3)
    ·exact .inr ⟨y, List.mem_cons_self, (h3.trans m3).symm⟩
   ·exact .inr ⟨x, List.mem_cons_of_mem _ hx, h3⟩
  ·rcases List.mem_cons.1 hx with rfl | hx
   ·exact Int.le_trans n2 h4
   ·exact h5 x hx
  ·rcases h6 with h6 | ⟨x, hx, h6⟩
   ·rcases n3 with n3 | n3
    ·exact .inl (h6.trans n3)
    ·exact .inr ⟨y, List.mem_cons_self, (h6.trans n3).symm⟩
   ·exact .inr ⟨x, List.mem_cons_of_mem _ hx, h6⟩
theorem boundsL_spec (g : List Int → Int) {ts : List (List Int)} (h : ts ≠ []) : (∀ x ∈ ts, (boundsL g ts).1 ≤ g x ∧ g x ≤ (boundsL g ts).2) ∧ (∃ x ∈ ts, g x = (boundsL g ts).1) ∧ (∃ x ∈ ts, g x = (boundsL g ts).2) := by
 obtain ⟨y, r, rfl⟩ : ∃ y r, ts = y :: r := List.exists_cons_of_ne_nil h
 obtain ⟨h1, h2, h3, h4, h5, h6⟩ := bounds_fold g (y :: r) (g y) (g y)
 refine ⟨fun x hx => ⟨h2 x hx, h5 x hx⟩, ?_, ?_⟩
 ·rcases h3 with h3 | h3
  ·exact ⟨y, List.mem_cons_self, h3.symm⟩
  ·exact h3
 ·rcases h6 with h6 | h6
  ·exact ⟨y, List.mem_cons_self, h6.symm⟩
  ·exact h6
def missB (l1 : List S110) (x : List Int) (w : Int) : Bool := decide (0 < missN l1 (pad x) w)
theorem missN_nonneg (l1 : List S110) (o : Nat → Int) (w : Int) : 0 ≤ missN l1 o w := by unfold missN; omega
theorem missB_any (l1 : List S110) (x : List Int) (w : Int) : missB l1 x w = (List.range l1.length).any (fun i => off l1 (pad x) i && (pad x i == w)) := by
 unfold missB missN
 rw [Bool.eq_iff_iff, decide_eq_true_eq, List.any_eq_true]
 constructor
 ·intro h
  have h2 : 0 < ((sel (off l1 (pad x)) l1.length).filter fun i => pad x i.toNat == w).length := by omega
  obtain ⟨y, hy⟩ := List.exists_mem_of_length_pos h2
  rw [List.mem_filter] at hy
  obtain ⟨k, hk1, hk2, rfl⟩ := (sel_mem _ _ _).1 hy.1
  refine ⟨k, List.mem_range.2 hk1, ?_⟩
  rw [Int.toNat_natCast] at hy
  rw [hk2, hy.2]; rfl
 ·rintro ⟨k, hk, h⟩
  rw [Bool.and_eq_true] at h
  have : 0 < ((sel (off l1 (pad x)) l1.length).filter fun i => pad x i.toNat == w).length := by
   refine List.length_pos_of_mem (a := (k : Int)) (List.mem_filter.2 ⟨(sel_mem _ _ _).2 ⟨k, List.mem_range.1 hk, h.1, rfl⟩, ?_⟩)
   rw [Int.toNat_natCast]; exact h.2
  omega
def verdR (l1 : List S110) (ts : List (List Int)) (w : Int) : Int := if (ts.filter fun x => missB l1 x w).length = ts.length then 1 else if (ts.filter fun x => missB l1 x w).length = 0 then 2 else 3
theorem filter_all {α : Type} (p : α → Bool) (l : List α) : (l.filter p).length = l.length ↔ ∀ x ∈ l, p x = true := by
 induction l with
 | nil => simp
 | cons a r ih =>
  have h := List.length_filter_le p r
  by_cases hp : p a = true
  ·rw [List.filter_cons_of_pos hp, List.length_cons, List.length_cons]
   constructor
   ·intro e x hx
    rcases List.mem_cons.1 hx with rfl | hx
    ·exact hp
    ·exact ih.1 (by omega) x hx
   ·intro e
    have := ih.2 (fun x hx => e x (List.mem_cons_of_mem _ hx))
    omega
  ·rw [List.filter_cons_of_neg hp, List.length_cons]
   constructor
   ·intro e; omega
   ·intro e; exact absurd (e a List.mem_cons_self) hp
theorem filter_none {α : Type} (p : α → Bool) (l : List α) : (l.filter p).length = 0 ↔ ∀ x ∈ l, p x = false := by
 rw [List.length_eq_zero_iff, List.filter_eq_nil_iff]
 constructor
 ·intro h x hx; exact Bool.eq_false_iff.2 (h x hx)
 ·intro h x hx; rw [h x hx]; decide
theorem verd_eq (l1 : List S110) {ts : List (List Int)} (h : ts ≠ []) (w : Int) : verdL (boundsL (fun x => missN l1 (pad x) w) ts) = verdR l1 ts w := by
 obtain ⟨k1, ⟨x, hx, k2⟩, ⟨y, hy, k3⟩⟩ := boundsL_spec (fun x => missN l1 (pad x) w) h
 unfold verdL verdR
 have hall : (0 < (boundsL (fun x => missN l1 (pad x) w) ts).1) ↔ (ts.filter fun x => missB l1 x w).length = ts.length := by
  rw [filter_all]
  constructor
  ·intro e z hz
   have := (k1 z hz).1
   unfold missB
   exact decide_eq_true (by omega)
  ·intro e
   have h2 := of_decide_eq_true (e x hx)
   rw [← k2]; exact h2
 have hnone : ((boundsL (fun x => missN l1 (pad x) w) ts).2 = 0) ↔ (ts.filter fun x => missB l1 x w).length = 0 := by
  rw [filter_none]
  constructor
  ·intro e z hz
   have := (k1 z hz).2
   unfold missB
   exact decide_eq_false (by omega)
  ·intro e
   have h2 := of_decide_eq_false (e y hy)
   have h3 := missN_nonneg l1 (pad y) w
   omega
 by_cases e1 : 0 < (boundsL (fun x => missN l1 (pad x) w) ts).1
 ·rw [if_pos e1, if_pos (hall.1 e1)]
 ·rw [if_neg e1, if_neg (fun e => e1 (hall.2 e))]
  by_cases e2 : (boundsL (fun x => missN l1 (pad x) w) ts).2 = 0
  ·rw [if_pos e2, if_pos (hnone.1 e2)]
  ·rw [if_neg e2, if_neg (fun e => e2 (hnone.2 e))]
end Go.Proofs.Ytnbbbeghgomnoaa.X
namespace Go.Proofs.Ytnbbbeghgomnoaa.X
open Go.RowKit Go.Proofs.YtnbbbeghgomnoaaW.PrintWords Go.Proofs.YtnbbbeghgomnoaaW.PrintLast Go.Proofs.YtnbbbeghgomnoaaW.PrintMore
theorem whoP_any (n1 : Nat) (ts : List (List Int)) (i w : Nat) (hi : i < n1) : whoP n1 ts i w = ts.any (fun x => pad x i == (w : Int)) := by
  unfold whoP manyS
  rw [if_pos ⟨by omega, by omega⟩, Int.toNat_natCast, Bool.eq_iff_iff, decide_eq_true_eq, List.any_eq_true]
  constructor
  · intro h
    obtain ⟨x, hx⟩ := List.exists_mem_of_length_pos (by omega : 0 < (ts.filter fun xs => pad xs i == (w : Int)).length)
    rw [List.mem_filter] at hx
    exact ⟨x, hx.1, hx.2⟩
  · rintro ⟨x, h1, h2⟩
    have := List.length_pos_of_mem (List.mem_filter.2 ⟨h1, h2⟩ : x ∈ ts.filter fun xs => pad xs i == (w : Int))
    omega
theorem whoseL_len (n0 n1 : Nat) (ts : List (List Int)) : (whoseL n0 n1 ts).length = n1 := by simp [whoseL]
theorem whoseL_get (n0 n1 : Nat) (ts : List (List Int)) (i : Nat) (hi : i < n1) : (whoseL n0 n1 ts).getD i [] = sel (whoP n1 ts i) n0 := by
  unfold whoseL
  rw [List.getD_eq_getElem?_getD, List.getElem?_map, List.getElem?_range hi]; rfl
theorem whose_mem {n0 n1 : Nat} {ts : List (List Int)} {i : Nat} (hi : i < n1) (hts : ∀ x ∈ ts, 0 ≤ pad x i ∧ pad x i < n0) (v : Int) : v ∈ (whoseL n0 n1 ts).getD i [] ↔ ∃ x ∈ ts, pad x i = v := by
  rw [whoseL_get _ _ _ _ hi, sel_mem]
  constructor
  · rintro ⟨k, hk, hp, rfl⟩
    rw [whoP_any _ _ _ _ hi, List.any_eq_true] at hp
    obtain ⟨x, hx, he⟩ := hp
    exact ⟨x, hx, eq_of_beq he⟩
  · rintro ⟨x, hx, rfl⟩
    obtain ⟨h0, h1⟩ := hts x hx
    refine ⟨(pad x i).toNat, by omega, ?_, by omega⟩
    rw [whoP_any _ _ _ _ hi, List.any_eq_true]
    exact ⟨x, hx, beq_iff_eq.2 (by omega)⟩
theorem truths_own {l0 : List S109} {l1 : List S110} {wg : Int} {x : List Int} (h : x ∈ truthsL l0 l1 wg) (i : Nat) (hi : i < l1.length) : 0 ≤ pad x i ∧ pad x i < l0.length := allL_owners l0 l1 x (truths_mem h) i hi
theorem missL_get (l1 : List S110) (ts : List (List Int)) (n i : Nat) (hi : i < n) : rd (missL l1 ts n) (i : Int) = verdL (boundsL (fun x => missN l1 (pad x) (i : Int)) ts) := by
  rw [rd_nat]
  unfold missL
  rw [List.getD_eq_getElem?_getD, List.getElem?_map, List.getElem?_range hi]; rfl
theorem verd_one {l1 : List S110} {ts : List (List Int)} (h : ts ≠ []) (w : Int) : verdL (boundsL (fun x => missN l1 (pad x) w) ts) = 1 ↔ ∀ x ∈ ts, missB l1 x w = true := by
  rw [verd_eq l1 h]
  unfold verdR
  by_cases h1 : (ts.filter fun x => missB l1 x w).length = ts.length
  · rw [if_pos h1]
    exact ⟨fun _ => (filter_all _ _).1 h1, fun _ => rfl⟩
  · rw [if_neg h1]
    constructor
    · intro h2
      split at h2 <;> omega
    · intro h2
      exact absurd ((filter_all _ _).2 h2) h1
theorem missB_iff {l1 : List S110} {x : List Int} {w : Int} : missB l1 x w = true ↔ ∃ i, i < l1.length ∧ (l1.getD i z110).f1 ≠ pad x i ∧ pad x i = w := by
  rw [missB_any, List.any_eq_true]
  constructor
  · rintro ⟨i, hi, h⟩
    rw [Bool.and_eq_true] at h
    refine ⟨i, List.mem_range.1 hi, ?_, eq_of_beq h.2⟩
    have := h.1
    unfold off at this
    simpa using this
  · rintro ⟨i, hi, h1, h2⟩
    refine ⟨i, List.mem_range.2 hi, ?_⟩
    rw [Bool.and_eq_true]
    exact ⟨by unfold off; simpa using h1, beq_iff_eq.2 h2⟩
theorem lost_zero {l1 : List S110} {x : List Int} (h : lostN l1 (pad x) = 0) (i : Nat) (hi : i < l1.length) : (l1.getD i z110).f1 = pad x i := by
  unfold lostN at h
  have h2 : sel (off l1 (pad x)) l1.length = [] := List.length_eq_zero_iff.1 (by omega)
  by_cases hc : (l1.getD i z110).f1 = pad x i
  · exact hc
  · have h3 : ((i : Nat) : Int) ∈ sel (off l1 (pad x)) l1.length := (sel_mem _ _ _).2 ⟨i, hi, by unfold off; simpa using hc, rfl⟩
    rw [h2] at h3
    cases h3
end Go.Proofs.Ytnbbbeghgomnoaa.X
namespace Go.Proofs.Ytnbbbeghgomnoaa.X
open Go.RowKit Go.Proofs.YtnbbbeghgomnoaaW.PrintWords Go.Proofs.YtnbbbeghgomnoaaW.PrintLast Go.Proofs.YtnbbbeghgomnoaaW.PrintMore
attribute [local go_sem] max2_int min2_int max_two min_two max_three min_three max_four min_four
set_option linter.unusedVariables false
set_option linter.unusedSimpArgs false
def posserlaw03_ready.f (k : Nat) (l0_0 : List (S85)) (l0_1 : List (S71)) (a0_2 : Int) : Option (Bool) := (posserlaw03_Thin.f k l0_0 l0_1 a0_2).bind fun t444 => (if t444 = true then ((posserref03_Fault.f k l0_0 l0_1 a0_2).bind fun t445 => (some (t445 == 0))) else (some false))
set_option maxHeartbeats 8000000 in
set_option maxRecDepth 100000 in
theorem posserlaw03_ready.calls (k : Nat) (A0_0 : Option Addr) (c0_0 : Nat) (l0_0 : List (S85)) (A0_1 : Option Addr) (c0_1 : Nat) (l0_1 : List (S71)) (a0_2 : Int) (r : Bool) (w : World) (hr0_0 : Kd.C k85 w A0_0 l0_0.length l0_0) (hc0_0 : l0_0.length ≤ c0_0) (hr0_1 : Kd.C k71 w A0_1 l0_1.length l0_1) (hc0_1 : l0_1.length ≤ c0_1) (h : posserlaw03_ready.f k l0_0 l0_1 a0_2 = some r) :
  Calls Try.prog 47 #[.agg #[.slice A0_0 l0_0.length c0_0, .slice A0_1 l0_1.length c0_1, .int .i64 a0_2]] w fun e w' => e = .returned (.bool r) ∧ Below w.heap.size w w' := by
 have hu25 := Try.underlying25
 have HR0_0 := Aside0.mk hr0_0
 have HC0_0 := Aside0.mk hc0_0
 clear hr0_0 hc0_0
 have HR0_1 := Aside0.mk hr0_1
 have HC0_1 := Aside0.mk hc0_1
 clear hr0_1 hc0_1
 have HB := Aside0.mk (Below.refl w.heap.size w)
 have H : ((posserlaw03_Thin.f k l0_0 l0_1 a0_2).bind fun t444 => (if t444 = true then ((posserref03_Fault.f k l0_0 l0_1 a0_2).bind fun t445 => (some (t445 == 0))) else (some false))) = some r := h
 clear h
 replace H := Option.bind_eq_some_iff.mp H
 obtain ⟨t444, A20, H⟩ := H
 replace H : (if t444 = true then ((posserref03_Fault.f k l0_0 l0_1 a0_2).bind fun t445 => (some (t445 == 0))) else (some false)) = some r := H
 have A2 := Aside0.mk A20
 clear A20
 by_cases c3 : t444 = true
 ·subst c3
  have H1 : ((posserref03_Fault.f k l0_0 l0_1 a0_2).bind fun t445 => (some (t445 == 0))) = some r := by rw [if_pos rfl] at H; exact H
  clear H
  have H := H1
  clear H1
  replace H := Option.bind_eq_some_iff.mp H
  obtain ⟨t445, A40, H⟩ := H
  replace H : (some (t445 == 0)) = some r := H
  have A4 := Aside0.mk A40
  clear A40
  obtain rfl := Option.some.inj H
  go_enter Try.func47, Try.ntmps47
  go_wp2_with (first | ((with_reducible refine gate_dst (N := 1) rfl ?_); refine sbox (N := 1) #[.slice A0_0 l0_0.length c0_0, .slice A0_1 l0_1.length c0_1, .int .i64 a0_2] 25 ?_; intro gb443 hg w5 hbox hb; have BK443 := Aside0.mk (hbox); have GW443 := Aside0.mk (sge hg HB : w.heap.size ≤ gb443); have GE443 := Aside0.mk (sge hg HB : w.heap.size ≤ gb443); replace HB := Aside0.mk (sbs HB hb); clear hb hbox hg; have hcz6_0 := sc 0 BK443; have hcz6_1 := sc 1 BK443; have hcz6_2 := sc 2 BK443; have hfz6_0 := blk_frozen BK443.out 0; have hfz6_1 := blk_frozen BK443.out 1; have hfz6_2 := blk_frozen BK443.out 2) | ((with_reducible refine gate_callee (f := 20) rfl ?_); refine goesL_ (some 4) rfl rfl Try.func20 (by kernel_rfl) rfl #[.agg #[.slice A0_0 l0_0.length c0_0, .slice A0_1 l0_1.length c0_1, .int .i64 a0_2]] rfl (by (try simp only [List.map_toArray, List.map_cons, List.map_nil]); first | done | rfl | (simp only [List.length_drop, List.length_take]; rfl)) ?_; (with_reducible refine (posserlaw03_Thin.calls k _ _ l0_0 _ _ l0_1 a0_2 true _ ?side1 ?side2 ?side3 ?side4 A2.out).mono ?_); (case side1 => exact sCb HR0_0 HB); (case side2 => exact HC0_0.out); (case side3 => exact sCb HR0_1 HB); (case side4 => exact HC0_1.out); rintro e w7 ⟨rfl, hb⟩; refine ⟨_, rfl, ?_⟩; replace BK443 := Aside0.mk (sbb BK443 hb); replace HB := Aside0.mk (sbs1 HB GE443 hb); (try clear hb); (try clear hb2); (try clear hk); (try clear hi); have hcz8_0 := sc 0 BK443; have hcz8_1 := sc 1 BK443; have hcz8_2 := sc 2 BK443; have hfz8_0 := blk_frozen BK443.out 0; have hfz8_1 := blk_frozen BK443.out 1; have hfz8_2 := blk_frozen BK443.out 2) | (go_at_call 75; (with_reducible refine (posserref03_Fault.calls k _ _ l0_0 _ _ l0_1 a0_2 t445 _ ?side1 ?side2 ?side3 ?side4 A4.out).mono ?_); (case side1 => exact sCb HR0_0 HB); (case side2 => exact HC0_0.out); (case side3 => exact sCb HR0_1 HB); (case side4 => exact HC0_1.out); rintro e w9 ⟨rfl, hb⟩; replace BK443 := Aside0.mk (sbb BK443 hb); replace HB := Aside0.mk (sbs1 HB GE443 hb); (try clear hb); (try clear hb2); (try clear hk); (try clear hi)))
  go_ret
  exact ⟨by first | rfl | (simp [errW_none, errW_some] <;> rfl) | (simp [*, errW_none, errW_some] <;> rfl), (sbe1 HB GE443)⟩
 ·replace c3 := Bool.eq_false_iff.mpr c3
  subst c3
  have H1 : (some false) = some r := by rw [if_neg (show ¬ (false = true) by decide)] at H; exact H
  clear H
  have H := H1
  clear H1
  obtain rfl := Option.some.inj H
  go_enter Try.func47, Try.ntmps47
  go_wp2_with (first | ((with_reducible refine gate_dst (N := 1) rfl ?_); refine sbox (N := 1) #[.slice A0_0 l0_0.length c0_0, .slice A0_1 l0_1.length c0_1, .int .i64 a0_2] 25 ?_; intro gb443 hg w10 hbox hb; have BK443 := Aside0.mk (hbox); have GW443 := Aside0.mk (sge hg HB : w.heap.size ≤ gb443); have GE443 := Aside0.mk (sge hg HB : w.heap.size ≤ gb443); replace HB := Aside0.mk (sbs HB hb); clear hb hbox hg; have hcz11_0 := sc 0 BK443; have hcz11_1 := sc 1 BK443; have hcz11_2 := sc 2 BK443; have hfz11_0 := blk_frozen BK443.out 0; have hfz11_1 := blk_frozen BK443.out 1; have hfz11_2 := blk_frozen BK443.out 2) | ((with_reducible refine gate_callee (f := 20) rfl ?_); refine goesL_ (some 4) rfl rfl Try.func20 (by kernel_rfl) rfl #[.agg #[.slice A0_0 l0_0.length c0_0, .slice A0_1 l0_1.length c0_1, .int .i64 a0_2]] rfl (by (try simp only [List.map_toArray, List.map_cons, List.map_nil]); first | done | rfl | (simp only [List.length_drop, List.length_take]; rfl)) ?_; (with_reducible refine (posserlaw03_Thin.calls k _ _ l0_0 _ _ l0_1 a0_2 false _ ?side1 ?side2 ?side3 ?side4 A2.out).mono ?_); (case side1 => exact sCb HR0_0 HB); (case side2 => exact HC0_0.out); (case side3 => exact sCb HR0_1 HB); (case side4 => exact HC0_1.out); rintro e w12 ⟨rfl, hb⟩; refine ⟨_, rfl, ?_⟩; replace BK443 := Aside0.mk (sbb BK443 hb); replace HB := Aside0.mk (sbs1 HB GE443 hb); (try clear hb); (try clear hb2); (try clear hk); (try clear hi)))
  go_ret
  exact ⟨by first | rfl | (simp [errW_none, errW_some] <;> rfl) | (simp [*, errW_none, errW_some] <;> rfl), (sbe1 HB GE443)⟩
end Go.Proofs.Ytnbbbeghgomnoaa.X
namespace Go.Proofs.Ytnbbbeghgomnoaa.X
open Go.RowKit Go.Proofs.YtnbbbeghgomnoaaW.PrintWords Go.Proofs.YtnbbbeghgomnoaaW.PrintLast Go.Proofs.YtnbbbeghgomnoaaW.PrintMore
theorem rdy_ev (l0 : List S85) (l1 : List S71) (wg : Int) : Evt (fun k => posserlaw03_ready.f k l0 l1 wg) (thinR l0 l1 && decide (checkT (l0.map cvW) (l1.map cvP) wg = 0)) := by
  obtain ⟨K, hK⟩ := Thin_ev l0 l1 wg
  cases hth : thinR l0 l1 with
  | false =>
    refine ⟨K, fun k hk => ?_⟩
    have g1 := hK k hk
    dsimp only at g1 ⊢
    unfold posserlaw03_ready.f
    rw [g1, hth]; rfl
  | true =>
    obtain ⟨L, hL⟩ := Fault_ev wg (thinR_iff.1 hth)
    refine ⟨K + L, fun k hk => ?_⟩
    have g1 := hK k (by omega)
    have g2 := hL k (by omega)
    dsimp only at g1 g2 ⊢
    unfold posserlaw03_ready.f
    rw [g1, hth]
    simp only [Option.bind_some, if_true]
    rw [g2]
    simp only [Option.bind_some]
    exact congrArg some (by rw [Bool.true_and, Bool.eq_iff_iff, beq_iff_eq, decide_eq_true_eq])
theorem rdy_cases (l0 : List S85) (l1 : List S71) (wg : Int) : (∃ K, ∀ k, K ≤ k → posserlaw03_ready.f k l0 l1 wg = some false) ∨ (VR l0 l1 wg ∧ checkT (l0.map cvW) (l1.map cvP) wg = 0 ∧ ∃ K, ∀ k, K ≤ k → posserlaw03_ready.f k l0 l1 wg = some true) := by
  have h := rdy_ev l0 l1 wg
  by_cases h1 : thinR l0 l1 = true
  · by_cases h2 : checkT (l0.map cvW) (l1.map cvP) wg = 0
    · rw [h1, decide_eq_true h2] at h
      exact .inr ⟨VR.of (thinR_iff.1 h1) h2, h2, h⟩
    · rw [h1, decide_eq_false h2] at h
      exact .inl h
  · rw [Bool.eq_false_iff.2 h1] at h
    exact .inl h
theorem ask_cases {l0 : List S109} {l1 : List S110} {wg : Int} (hc : checkT l0 l1 wg = 0) : (askE l0 l1 wg = 11 ∧ truthsL l0 l1 wg = []) ∨ (askE l0 l1 wg = 0 ∧ truthsL l0 l1 wg ≠ []) := by
  unfold askE
  rw [if_neg (fun h => h hc)]
  by_cases h : truthsL l0 l1 wg = []
  · rw [if_pos h]; exact .inl ⟨rfl, h⟩
  · rw [if_neg h]; exact .inr ⟨rfl, h⟩
end Go.Proofs.Ytnbbbeghgomnoaa.X
namespace Go.Proofs.Ytnbbbeghgomnoaa.X
open Go.RowKit Go.Proofs.YtnbbbeghgomnoaaW.PrintWords Go.Proofs.YtnbbbeghgomnoaaW.PrintLast Go.Proofs.YtnbbbeghgomnoaaW.PrintMore
abbrev RI (w : World) (b : Nat) (v : Value) (xs : List Int) : Prop := Kd.R (Kd.int .i64) 3 w b (fun _ => True) v xs
abbrev RL (w : World) (b : Nat) (v : Value) (xs : List (List Int)) : Prop := Kd.R (Kd.slice 3 (Kd.int .i64)) 39 w b (fun _ => True) v xs
section
variable {A0 : Option Addr} {c0 : Nat} {l0 : List S109} {A1 : Option Addr} {c1 : Nat} {l1 : List S110} {w : World}
theorem tab_c {A0 : Option Addr} {c0 : Nat} {l0 : List S85} {A1 : Option Addr} {c1 : Nat} {l1 : List S71} (wg : Int) {w : World} (ht : RTab A0 c0 l0 A1 c1 l1 w) {L0 : List S109} {L1 : List S110} (h0 : l0.map cvW = L0) (h1 : l1.map cvP = L1) :
    Calls Try.prog 23 #[.agg #[.slice A0 l0.length c0, .slice A1 l1.length c1, .int .i64 wg]] w fun e w' => ∃ B0 d0 B1 d1, e = .returned (.agg #[.slice B0 L0.length d0, .slice B1 L1.length d1, .int .i64 wg]) ∧ Tab B0 d0 L0 B1 d1 L1 w' ∧ Below w.heap.size w w' := by
  subst h0 h1
  refine (Table_calls wg ht).mono ?_
  rintro e w' ⟨B0, d0, B1, d1, rfl, h, _, _, hb⟩
  exact ⟨B0, d0, B1, d1, by simp only [List.length_map], h, hb⟩
theorem whose_c (wg : Int) (ht : Tab A0 c0 l0 A1 c1 l1 w) (he : askE l0 l1 wg = 0) {ws : List (List Int)} (hs : whoseL l0.length l1.length (truthsL l0 l1 wg) = ws) :
    Calls Try.prog 22 #[.agg #[.slice A0 l0.length c0, .slice A1 l1.length c1, .int .i64 wg]] w fun e w' => ∃ v, e = .returned (.tuple #[v, .int .i64 0]) ∧ RL w' w.heap.size v ws ∧ Below w.heap.size w w' := by
  subst hs
  exact Whose_ok wg ht he
theorem whose_n (wg : Int) (ht : Tab A0 c0 l0 A1 c1 l1 w) (he : askE l0 l1 wg = 11) :
    Calls Try.prog 22 #[.agg #[.slice A0 l0.length c0, .slice A1 l1.length c1, .int .i64 wg]] w fun e w' => e = .returned (.tuple #[.slice none 0 0, .int .i64 11]) ∧ Below w.heap.size w w' := by
  have h := Whose_e wg ht (by omega)
  rwa [he] at h
theorem miss_c (wg : Int) (ht : Tab A0 c0 l0 A1 c1 l1 w) (he : askE l0 l1 wg = 0) {vs : List Int} (hs : missL l1 (truthsL l0 l1 wg) l0.length = vs) :
    Calls Try.prog 27 #[.agg #[.slice A0 l0.length c0, .slice A1 l1.length c1, .int .i64 wg]] w fun e w' => ∃ v, e = .returned (.tuple #[v, .int .i64 0]) ∧ RI w' w.heap.size v vs ∧ Below w.heap.size w w' := by
  subst hs
  exact Misses_ok wg ht he
theorem miss_n (wg : Int) (ht : Tab A0 c0 l0 A1 c1 l1 w) (he : askE l0 l1 wg = 11) :
    Calls Try.prog 27 #[.agg #[.slice A0 l0.length c0, .slice A1 l1.length c1, .int .i64 wg]] w fun e w' => e = .returned (.tuple #[.slice none 0 0, .int .i64 11]) ∧ Below w.heap.size w w' := by
  have h := Misses_e wg ht (by omega)
  rwa [he] at h
theorem ast_c (wg : Int) (ht : Tab A0 c0 l0 A1 c1 l1 w) (he : askE l0 l1 wg = 0) {lo hi : Int} (hs : boundsL (fun x => lostN l1 (pad x)) (truthsL l0 l1 wg) = (lo, hi)) :
    Calls Try.prog 37 #[.agg #[.slice A0 l0.length c0, .slice A1 l1.length c1, .int .i64 wg]] w fun e w' => e = .returned (.tuple #[.agg #[.int .i64 lo, .int .i64 hi], .int .i64 0]) ∧ Below w.heap.size w w' := by
  have h := Astray_ok wg ht he
  rwa [hs] at h
theorem ast_n (wg : Int) (ht : Tab A0 c0 l0 A1 c1 l1 w) (he : askE l0 l1 wg = 11) :
    Calls Try.prog 37 #[.agg #[.slice A0 l0.length c0, .slice A1 l1.length c1, .int .i64 wg]] w fun e w' => e = .returned (.tuple #[.agg #[.int .i64 0, .int .i64 0], .int .i64 11]) ∧ Below w.heap.size w w' := by
  have h := Astray_e wg ht (by omega)
  rwa [he] at h
end
end Go.Proofs.Ytnbbbeghgomnoaa.X
namespace Go.Proofs.Ytnbbbeghgomnoaa.X
open Go.RowKit Go.Proofs.YtnbbbeghgomnoaaW.PrintWords Go.Proofs.YtnbbbeghgomnoaaW.PrintLast Go.Proofs.YtnbbbeghgomnoaaW.PrintMore
set_option maxHeartbeats 4000000 in
set_option maxRecDepth 100000 in
theorem Own_no (k : Nat) {A0 : Option Addr} {c0 : Nat} {l0 : List S85} {A1 : Option Addr} {c1 : Nat} {l1 : List S71} (wg : Int) {w : World} (r0 : Kd.C k85 w A0 l0.length l0) (g0 : l0.length ≤ c0) (r1 : Kd.C k71 w A1 l1.length l1) (g1 : l1.length ≤ c1) (hrd : posserlaw03_ready.f k l0 l1 wg = some false) :
    Calls Try.prog 10 #[.agg #[.slice A0 l0.length c0, .slice A1 l1.length c1, .int .i64 wg]] w fun e w' => e = .returned (.bool true) ∧ Below w.heap.size w w' := by
  have hu25 := Try.underlying25
  have hu35 := Try.underlying35
  have hu55 := Try.underlying55
  have HR0 := Aside0.mk r0
  have HC0 := Aside0.mk g0
  have HR1 := Aside0.mk r1
  have HC1 := Aside0.mk g1
  clear r0 g0 r1 g1
  have HRD := Aside0.mk hrd
  clear hrd
  have HB := Aside0.mk (Below.refl w.heap.size w)
  go_enter Try.func10, Try.ntmps10
  go_wp2_with (first | ((with_reducible refine gate_dst (N := 1) rfl ?_); refine box_event ?hg (N := 1) ?hd (cs := #[.slice A0 l0.length c0, .slice A1 l1.length c1, .int .i64 wg]) (t := 25) ?hr ?_; (case hd => rfl); (case hg => rfl); (case hr => first | (go_simp; done) | (go_simp; rfl)); intro g1 hg W_ hbox hb; have GEg1 := Aside0.mk (by rw [hg]; exact HB.out.size : w.heap.size ≤ g1); (try clear hcg1_0 hcg1_1 hcg1_2); (try replace HB := Aside0.mk (below_step HB.out hb)); (try replace HT := Aside0.mk (HT.out.below hb)); (try replace BKg1 := Aside0.mk (blk_below BKg1.out hb)); (try replace BKg5 := Aside0.mk (blk_below BKg5.out hb)); (try replace HV := Aside0.mk (Kd.R_below HV.out hb)); (try replace HW := Aside0.mk (Kd.R_below HW.out hb)); have BKg1 := Aside0.mk hbox; clear hb hbox hg; (try have hcg1_0 : W_.cell? ⟨g1, 0, none⟩ = some (.slice A0 l0.length c0) := (blk_cell BKg1.out 0).trans rfl); (try have hcg1_1 : W_.cell? ⟨g1, 1, none⟩ = some (.slice A1 l1.length c1) := (blk_cell BKg1.out 1).trans rfl); (try have hcg1_2 : W_.cell? ⟨g1, 2, none⟩ = some (.int .i64 wg) := (blk_cell BKg1.out 2).trans rfl)) | (go_at_call 47; go_must (refine (posserlaw03_ready.calls k A0 c0 l0 A1 c1 l1 wg false _ (Kd.C_below HR0.out HB.out) HC0.out (Kd.C_below HR1.out HB.out) HC1.out HRD.out).mono ?_; rintro e W_ ⟨rfl, hb⟩; (try clear hcg1_0 hcg1_1 hcg1_2); (try replace HB := Aside0.mk (below_step HB.out hb)); (try replace HT := Aside0.mk (HT.out.below hb)); (try replace BKg1 := Aside0.mk (blk_below BKg1.out hb)); (try replace BKg5 := Aside0.mk (blk_below BKg5.out hb)); (try replace HV := Aside0.mk (Kd.R_below HV.out hb)); (try replace HW := Aside0.mk (Kd.R_below HW.out hb)); skip; clear hb; (try have hcg1_0 : W_.cell? ⟨g1, 0, none⟩ = some (.slice A0 l0.length c0) := (blk_cell BKg1.out 0).trans rfl); (try have hcg1_1 : W_.cell? ⟨g1, 1, none⟩ = some (.slice A1 l1.length c1) := (blk_cell BKg1.out 1).trans rfl); (try have hcg1_2 : W_.cell? ⟨g1, 2, none⟩ = some (.int .i64 wg) := (blk_cell BKg1.out 2).trans rfl))) | (go_at_call 21; go_must (refine (awake_calls _).mono ?_; rintro e W_ ⟨rfl, hb⟩; (try clear hcg1_0 hcg1_1 hcg1_2); (try replace HB := Aside0.mk (below_step HB.out hb)); (try replace HT := Aside0.mk (HT.out.below hb)); (try replace BKg1 := Aside0.mk (blk_below BKg1.out hb)); (try replace BKg5 := Aside0.mk (blk_below BKg5.out hb)); (try replace HV := Aside0.mk (Kd.R_below HV.out hb)); (try replace HW := Aside0.mk (Kd.R_below HW.out hb)); skip; clear hb; (try have hcg1_0 : W_.cell? ⟨g1, 0, none⟩ = some (.slice A0 l0.length c0) := (blk_cell BKg1.out 0).trans rfl); (try have hcg1_1 : W_.cell? ⟨g1, 1, none⟩ = some (.slice A1 l1.length c1) := (blk_cell BKg1.out 1).trans rfl); (try have hcg1_2 : W_.cell? ⟨g1, 2, none⟩ = some (.int .i64 wg) := (blk_cell BKg1.out 2).trans rfl))))
  go_ret
  exact ⟨rfl, HB.out⟩
set_option maxHeartbeats 4000000 in
set_option maxRecDepth 100000 in
theorem Own_err (k : Nat) {A0 : Option Addr} {c0 : Nat} {l0 : List S85} {A1 : Option Addr} {c1 : Nat} {l1 : List S71} (wg : Int) {w : World} (r0 : Kd.C k85 w A0 l0.length l0) (g0 : l0.length ≤ c0) (r1 : Kd.C k71 w A1 l1.length l1) (g1 : l1.length ≤ c1) (ht : Thn l0 l1) {L0 : List S109} {L1 : List S110} (h0 : l0.map cvW = L0) (h1 : l1.map cvP = L1) (hrd : posserlaw03_ready.f k l0 l1 wg = some true) (he : askE L0 L1 wg = 11) :
    Calls Try.prog 10 #[.agg #[.slice A0 l0.length c0, .slice A1 l1.length c1, .int .i64 wg]] w fun e w' => e = .returned (.bool true) ∧ Below w.heap.size w w' := by
  have hu25 := Try.underlying25
  have hu35 := Try.underlying35
  have hu55 := Try.underlying55
  have HR0 := Aside0.mk r0
  have HC0 := Aside0.mk g0
  have HR1 := Aside0.mk r1
  have HC1 := Aside0.mk g1
  clear r0 g0 r1 g1
  have HRT := Aside0.mk (show RTab A0 c0 l0 A1 c1 l1 w from ⟨HR0.out, HC0.out, HR1.out, HC1.out, ht.n0, ht.n1, ht.ms⟩)
  clear ht
  have HL0 := Aside0.mk h0
  have HL1 := Aside0.mk h1
  have HRD := Aside0.mk hrd
  have HE := Aside0.mk he
  clear h0 h1 hrd he
  have HB := Aside0.mk (Below.refl w.heap.size w)
  go_enter Try.func10, Try.ntmps10
  go_wp2_with (first | ((with_reducible refine gate_dst (N := 1) rfl ?_); refine box_event ?hg (N := 1) ?hd (cs := #[.slice A0 l0.length c0, .slice A1 l1.length c1, .int .i64 wg]) (t := 25) ?hr ?_; (case hd => rfl); (case hg => rfl); (case hr => first | (go_simp; done) | (go_simp; rfl)); intro g1 hg W_ hbox hb; have GEg1 := Aside0.mk (by rw [hg]; exact HB.out.size : w.heap.size ≤ g1); (try clear hcg1_0 hcg1_1 hcg1_2); (try replace HB := Aside0.mk (below_step HB.out hb)); (try replace HT := Aside0.mk (HT.out.below hb)); (try replace BKg1 := Aside0.mk (blk_below BKg1.out hb)); (try replace BKg5 := Aside0.mk (blk_below BKg5.out hb)); (try replace HV := Aside0.mk (Kd.R_below HV.out hb)); (try replace HW := Aside0.mk (Kd.R_below HW.out hb)); have BKg1 := Aside0.mk hbox; clear hb hbox hg; (try have hcg1_0 : W_.cell? ⟨g1, 0, none⟩ = some (.slice A0 l0.length c0) := (blk_cell BKg1.out 0).trans rfl); (try have hcg1_1 : W_.cell? ⟨g1, 1, none⟩ = some (.slice A1 l1.length c1) := (blk_cell BKg1.out 1).trans rfl); (try have hcg1_2 : W_.cell? ⟨g1, 2, none⟩ = some (.int .i64 wg) := (blk_cell BKg1.out 2).trans rfl)) | ((with_reducible refine gate_dst (N := 5) rfl ?_); refine box_event ?hg (N := 5) ?hd (cs := #[.int .i64 0, .int .i64 0]) (t := 55) ?hr ?_; (case hd => rfl); (case hg => rfl); (case hr => first | (go_simp; done) | (go_simp; rfl)); intro g5 hg W_ hbox hb; have NE := Aside0.mk (show g1 < g5 from by rw [hg]; exact blk_lt BKg1.out); have GEg5 := Aside0.mk (by rw [hg]; exact HB.out.size : w.heap.size ≤ g5); (try clear hcg1_0 hcg1_1 hcg1_2); (try clear hcg5_0 hcg5_1); (try replace HB := Aside0.mk (below_step HB.out hb)); (try replace HT := Aside0.mk (HT.out.below hb)); (try replace BKg1 := Aside0.mk (blk_below BKg1.out hb)); (try replace BKg5 := Aside0.mk (blk_below BKg5.out hb)); (try replace HV := Aside0.mk (Kd.R_below HV.out hb)); (try replace HW := Aside0.mk (Kd.R_below HW.out hb)); have BKg5 := Aside0.mk hbox; clear hb hbox hg; (try have hcg1_0 : W_.cell? ⟨g1, 0, none⟩ = some (.slice A0 l0.length c0) := (blk_cell BKg1.out 0).trans rfl); (try have hcg1_1 : W_.cell? ⟨g1, 1, none⟩ = some (.slice A1 l1.length c1) := (blk_cell BKg1.out 1).trans rfl); (try have hcg1_2 : W_.cell? ⟨g1, 2, none⟩ = some (.int .i64 wg) := (blk_cell BKg1.out 2).trans rfl); (try have hcg5_0 : W_.cell? ⟨g5, 0, none⟩ = some (.int .i64 0) := (blk_cell BKg5.out 0).trans rfl); (try have hcg5_1 : W_.cell? ⟨g5, 1, none⟩ = some (.int .i64 0) := (blk_cell BKg5.out 1).trans rfl)) | ((with_reducible refine gate_store (t := 55) (p := 5) rfl ?_); go_must (refine wpList_store_row rfl 55 _ _ rfl g5 #[.int .i64 0, .int .i64 0] rfl rfl 55 (#[.int .i64 0, .int .i64 0]) BKg5.out rfl rfl (by simp [Value.oneCell']) ?_; (try clear hcg1_0 hcg1_1 hcg1_2); (try clear hcg5_0 hcg5_1); have h0_ := Aside0.mk (below_setRow HB.out GEg5.out (#[.int .i64 0, .int .i64 0])); have h1_ := Aside0.mk (setRow_heap W_ g5 _ (#[.int .i64 0, .int .i64 0]) _ _ BKg5.out); have h2_ := Aside0.mk ((setRow_other W_ g5 g1 (#[.int .i64 0, .int .i64 0]) (by have := NE.out; omega)).trans BKg1.out); clear HB BKg5 BKg1; have HB := h0_; have BKg5 := h1_; have BKg1 := h2_; clear h0_ h1_ h2_; generalize W_.setRow g5 (#[.int .i64 0, .int .i64 0]) = W_ at *; (try have hcg1_0 : W_.cell? ⟨g1, 0, none⟩ = some (.slice A0 l0.length c0) := (blk_cell BKg1.out 0).trans rfl); (try have hcg1_1 : W_.cell? ⟨g1, 1, none⟩ = some (.slice A1 l1.length c1) := (blk_cell BKg1.out 1).trans rfl); (try have hcg1_2 : W_.cell? ⟨g1, 2, none⟩ = some (.int .i64 wg) := (blk_cell BKg1.out 2).trans rfl); (try have hcg5_0 : W_.cell? ⟨g5, 0, none⟩ = some (.int .i64 0) := (blk_cell BKg5.out 0).trans rfl); (try have hcg5_1 : W_.cell? ⟨g5, 1, none⟩ = some (.int .i64 0) := (blk_cell BKg5.out 1).trans rfl))) | (go_at_call 47; go_must (refine (posserlaw03_ready.calls k A0 c0 l0 A1 c1 l1 wg true _ (Kd.C_below HR0.out HB.out) HC0.out (Kd.C_below HR1.out HB.out) HC1.out HRD.out).mono ?_; rintro e W_ ⟨rfl, hb⟩; (try clear hcg1_0 hcg1_1 hcg1_2); (try clear hcg5_0 hcg5_1); (try replace HB := Aside0.mk (below_step HB.out hb)); (try replace HT := Aside0.mk (HT.out.below hb)); (try replace BKg1 := Aside0.mk (blk_below BKg1.out hb)); (try replace BKg5 := Aside0.mk (blk_below BKg5.out hb)); (try replace HV := Aside0.mk (Kd.R_below HV.out hb)); (try replace HW := Aside0.mk (Kd.R_below HW.out hb)); skip; clear hb; (try have hcg1_0 : W_.cell? ⟨g1, 0, none⟩ = some (.slice A0 l0.length c0) := (blk_cell BKg1.out 0).trans rfl); (try have hcg1_1 : W_.cell? ⟨g1, 1, none⟩ = some (.slice A1 l1.length c1) := (blk_cell BKg1.out 1).trans rfl); (try have hcg1_2 : W_.cell? ⟨g1, 2, none⟩ = some (.int .i64 wg) := (blk_cell BKg1.out 2).trans rfl); (try have hcg5_0 : W_.cell? ⟨g5, 0, none⟩ = some (.int .i64 0) := (blk_cell BKg5.out 0).trans rfl); (try have hcg5_1 : W_.cell? ⟨g5, 1, none⟩ = some (.int .i64 0) := (blk_cell BKg5.out 1).trans rfl))) | (go_at_call 23; go_must (refine (tab_c _ (HRT.out.below HB.out) HL0.out HL1.out).mono ?_; rintro e W_ ⟨B0, d0, B1, d1, rfl, ht, hb⟩; (try clear hcg1_0 hcg1_1 hcg1_2); (try clear hcg5_0 hcg5_1); (try replace HB := Aside0.mk (below_step HB.out hb)); (try replace HT := Aside0.mk (HT.out.below hb)); (try replace BKg1 := Aside0.mk (blk_below BKg1.out hb)); (try replace BKg5 := Aside0.mk (blk_below BKg5.out hb)); (try replace HV := Aside0.mk (Kd.R_below HV.out hb)); (try replace HW := Aside0.mk (Kd.R_below HW.out hb)); (try clear HT); have HT := Aside0.mk ht; clear ht; clear hb; (try have hcg1_0 : W_.cell? ⟨g1, 0, none⟩ = some (.slice A0 l0.length c0) := (blk_cell BKg1.out 0).trans rfl); (try have hcg1_1 : W_.cell? ⟨g1, 1, none⟩ = some (.slice A1 l1.length c1) := (blk_cell BKg1.out 1).trans rfl); (try have hcg1_2 : W_.cell? ⟨g1, 2, none⟩ = some (.int .i64 wg) := (blk_cell BKg1.out 2).trans rfl); (try have hcg5_0 : W_.cell? ⟨g5, 0, none⟩ = some (.int .i64 0) := (blk_cell BKg5.out 0).trans rfl); (try have hcg5_1 : W_.cell? ⟨g5, 1, none⟩ = some (.int .i64 0) := (blk_cell BKg5.out 1).trans rfl))) | (go_at_call 27; go_must (refine (miss_n _ HT.out HE.out).mono ?_; rintro e W_ ⟨rfl, hb⟩; (try clear hcg1_0 hcg1_1 hcg1_2); (try clear hcg5_0 hcg5_1); (try replace HB := Aside0.mk (below_step HB.out hb)); (try replace HT := Aside0.mk (HT.out.below hb)); (try replace BKg1 := Aside0.mk (blk_below BKg1.out hb)); (try replace BKg5 := Aside0.mk (blk_below BKg5.out hb)); (try replace HV := Aside0.mk (Kd.R_below HV.out hb)); (try replace HW := Aside0.mk (Kd.R_below HW.out hb)); skip; clear hb; (try have hcg1_0 : W_.cell? ⟨g1, 0, none⟩ = some (.slice A0 l0.length c0) := (blk_cell BKg1.out 0).trans rfl); (try have hcg1_1 : W_.cell? ⟨g1, 1, none⟩ = some (.slice A1 l1.length c1) := (blk_cell BKg1.out 1).trans rfl); (try have hcg1_2 : W_.cell? ⟨g1, 2, none⟩ = some (.int .i64 wg) := (blk_cell BKg1.out 2).trans rfl); (try have hcg5_0 : W_.cell? ⟨g5, 0, none⟩ = some (.int .i64 0) := (blk_cell BKg5.out 0).trans rfl); (try have hcg5_1 : W_.cell? ⟨g5, 1, none⟩ = some (.int .i64 0) := (blk_cell BKg5.out 1).trans rfl))) | (go_at_call 37; go_must (refine (ast_n _ HT.out HE.out).mono ?_; rintro e W_ ⟨rfl, hb⟩; (try clear hcg1_0 hcg1_1 hcg1_2); (try clear hcg5_0 hcg5_1); (try replace HB := Aside0.mk (below_step HB.out hb)); (try replace HT := Aside0.mk (HT.out.below hb)); (try replace BKg1 := Aside0.mk (blk_below BKg1.out hb)); (try replace BKg5 := Aside0.mk (blk_below BKg5.out hb)); (try replace HV := Aside0.mk (Kd.R_below HV.out hb)); (try replace HW := Aside0.mk (Kd.R_below HW.out hb)); skip; clear hb; (try have hcg1_0 : W_.cell? ⟨g1, 0, none⟩ = some (.slice A0 l0.length c0) := (blk_cell BKg1.out 0).trans rfl); (try have hcg1_1 : W_.cell? ⟨g1, 1, none⟩ = some (.slice A1 l1.length c1) := (blk_cell BKg1.out 1).trans rfl); (try have hcg1_2 : W_.cell? ⟨g1, 2, none⟩ = some (.int .i64 wg) := (blk_cell BKg1.out 2).trans rfl); (try have hcg5_0 : W_.cell? ⟨g5, 0, none⟩ = some (.int .i64 0) := (blk_cell BKg5.out 0).trans rfl); (try have hcg5_1 : W_.cell? ⟨g5, 1, none⟩ = some (.int .i64 0) := (blk_cell BKg5.out 1).trans rfl))) | (go_at_call 22; go_must (refine (whose_n _ HT.out HE.out).mono ?_; rintro e W_ ⟨rfl, hb⟩; (try clear hcg1_0 hcg1_1 hcg1_2); (try clear hcg5_0 hcg5_1); (try replace HB := Aside0.mk (below_step HB.out hb)); (try replace HT := Aside0.mk (HT.out.below hb)); (try replace BKg1 := Aside0.mk (blk_below BKg1.out hb)); (try replace BKg5 := Aside0.mk (blk_below BKg5.out hb)); (try replace HV := Aside0.mk (Kd.R_below HV.out hb)); (try replace HW := Aside0.mk (Kd.R_below HW.out hb)); skip; clear hb; (try have hcg1_0 : W_.cell? ⟨g1, 0, none⟩ = some (.slice A0 l0.length c0) := (blk_cell BKg1.out 0).trans rfl); (try have hcg1_1 : W_.cell? ⟨g1, 1, none⟩ = some (.slice A1 l1.length c1) := (blk_cell BKg1.out 1).trans rfl); (try have hcg1_2 : W_.cell? ⟨g1, 2, none⟩ = some (.int .i64 wg) := (blk_cell BKg1.out 2).trans rfl); (try have hcg5_0 : W_.cell? ⟨g5, 0, none⟩ = some (.int .i64 0) := (blk_cell BKg5.out 0).trans rfl); (try have hcg5_1 : W_.cell? ⟨g5, 1, none⟩ = some (.int .i64 0) := (blk_cell BKg5.out 1).trans rfl))) | (go_at_call 21; go_must (refine (awake_calls _).mono ?_; rintro e W_ ⟨rfl, hb⟩; (try clear hcg1_0 hcg1_1 hcg1_2); (try clear hcg5_0 hcg5_1); (try replace HB := Aside0.mk (below_step HB.out hb)); (try replace HT := Aside0.mk (HT.out.below hb)); (try replace BKg1 := Aside0.mk (blk_below BKg1.out hb)); (try replace BKg5 := Aside0.mk (blk_below BKg5.out hb)); (try replace HV := Aside0.mk (Kd.R_below HV.out hb)); (try replace HW := Aside0.mk (Kd.R_below HW.out hb)); skip; clear hb; (try have hcg1_0 : W_.cell? ⟨g1, 0, none⟩ = some (.slice A0 l0.length c0) := (blk_cell BKg1.out 0).trans rfl); (try have hcg1_1 : W_.cell? ⟨g1, 1, none⟩ = some (.slice A1 l1.length c1) := (blk_cell BKg1.out 1).trans rfl); (try have hcg1_2 : W_.cell? ⟨g1, 2, none⟩ = some (.int .i64 wg) := (blk_cell BKg1.out 2).trans rfl); (try have hcg5_0 : W_.cell? ⟨g5, 0, none⟩ = some (.int .i64 0) := (blk_cell BKg5.out 0).trans rfl); (try have hcg5_1 : W_.cell? ⟨g5, 1, none⟩ = some (.int .i64 0) := (blk_cell BKg5.out 1).trans rfl))))
  go_ret
  exact ⟨rfl, HB.out⟩
set_option maxHeartbeats 4000000 in
set_option maxRecDepth 100000 in
theorem Own_ok (k : Nat) {A0 : Option Addr} {c0 : Nat} {l0 : List S85} {A1 : Option Addr} {c1 : Nat} {l1 : List S71} (wg : Int) {w : World} (r0 : Kd.C k85 w A0 l0.length l0) (g0 : l0.length ≤ c0) (r1 : Kd.C k71 w A1 l1.length l1) (g1 : l1.length ≤ c1) (ht : Thn l0 l1) {L0 : List S109} {L1 : List S110} (h0 : l0.map cvW = L0) (h1 : l1.map cvP = L1) (hrd : posserlaw03_ready.f k l0 l1 wg = some true) (he : askE L0 L1 wg = 0) {vs : List Int} {ws : List (List Int)} {lo hi : Int} (hv : missL L1 (truthsL L0 L1 wg) L0.length = vs) (hw : whoseL L0.length L1.length (truthsL L0 L1 wg) = ws) (hd : boundsL (fun x => lostN L1 (pad x)) (truthsL L0 L1 wg) = (lo, hi)) (lv : vs.length = l0.length) (lw : ws.length = l1.length) (p1 : ∀ i : Nat, i < vs.length → lo = 0 → rd vs (i : Int) ≠ 1) (p2 : ∀ i : Nat, i < ws.length → ∀ x, ws.getD i [] = [x] → x ≠ (l1.getD i z71).f1 → 0 ≤ x ∧ x < vs.length ∧ rd vs x = 1) :
    Calls Try.prog 10 #[.agg #[.slice A0 l0.length c0, .slice A1 l1.length c1, .int .i64 wg]] w fun e w' => e = .returned (.bool true) ∧ Below w.heap.size w w' := by
  have hu25 := Try.underlying25
  have hu35 := Try.underlying35
  have hu55 := Try.underlying55
  have HR0 := Aside0.mk r0
  have HC0 := Aside0.mk g0
  have HR1 := Aside0.mk r1
  have HC1 := Aside0.mk g1
  clear r0 g0 r1 g1
  have HRT := Aside0.mk (show RTab A0 c0 l0 A1 c1 l1 w from ⟨HR0.out, HC0.out, HR1.out, HC1.out, ht.n0, ht.n1, ht.ms⟩)
  clear ht
  have HL0 := Aside0.mk h0
  have HL1 := Aside0.mk h1
  have HRD := Aside0.mk hrd
  have HE := Aside0.mk he
  have HSV := Aside0.mk hv
  have HSW := Aside0.mk hw
  have HSD := Aside0.mk hd
  have HP1 := Aside0.mk p1
  have HP2 := Aside0.mk p2
  clear h0 h1 hrd he hv hw hd p1 p2
  have hlv : ((vs.length : Int) != (l0.length : Int)) = false := by rw [lv]; simp
  have hlw : ((ws.length : Int) != (l1.length : Int)) = false := by rw [lw]; simp
  have HLW := Aside0.mk lw
  have HLV := Aside0.mk lv
  clear lv lw
  have HB := Aside0.mk (Below.refl w.heap.size w)
  go_enter Try.func10, Try.ntmps10
  go_wp2_with (first | ((with_reducible refine gate_dst (N := 1) rfl ?_); refine box_event ?hg (N := 1) ?hd (cs := #[.slice A0 l0.length c0, .slice A1 l1.length c1, .int .i64 wg]) (t := 25) ?hr ?_; (case hd => rfl); (case hg => rfl); (case hr => first | (go_simp; done) | (go_simp; rfl)); intro g1 hg W_ hbox hb; have GEg1 := Aside0.mk (by rw [hg]; exact HB.out.size : w.heap.size ≤ g1); (try clear hcg1_0 hcg1_1 hcg1_2); (try replace HB := Aside0.mk (below_step HB.out hb)); (try replace HT := Aside0.mk (HT.out.below hb)); (try replace BKg1 := Aside0.mk (blk_below BKg1.out hb)); (try replace BKg5 := Aside0.mk (blk_below BKg5.out hb)); (try replace HV := Aside0.mk (Kd.R_below HV.out hb)); (try replace HW := Aside0.mk (Kd.R_below HW.out hb)); have BKg1 := Aside0.mk hbox; clear hb hbox hg; (try have hcg1_0 : W_.cell? ⟨g1, 0, none⟩ = some (.slice A0 l0.length c0) := (blk_cell BKg1.out 0).trans rfl); (try have hcg1_1 : W_.cell? ⟨g1, 1, none⟩ = some (.slice A1 l1.length c1) := (blk_cell BKg1.out 1).trans rfl); (try have hcg1_2 : W_.cell? ⟨g1, 2, none⟩ = some (.int .i64 wg) := (blk_cell BKg1.out 2).trans rfl)) | ((with_reducible refine gate_dst (N := 5) rfl ?_); refine box_event ?hg (N := 5) ?hd (cs := #[.int .i64 0, .int .i64 0]) (t := 55) ?hr ?_; (case hd => rfl); (case hg => rfl); (case hr => first | (go_simp; done) | (go_simp; rfl)); intro g5 hg W_ hbox hb; have NE := Aside0.mk (show g1 < g5 from by rw [hg]; exact blk_lt BKg1.out); have GEg5 := Aside0.mk (by rw [hg]; exact HB.out.size : w.heap.size ≤ g5); (try clear hcg1_0 hcg1_1 hcg1_2); (try clear hcg5_0 hcg5_1); (try replace HB := Aside0.mk (below_step HB.out hb)); (try replace HT := Aside0.mk (HT.out.below hb)); (try replace BKg1 := Aside0.mk (blk_below BKg1.out hb)); (try replace BKg5 := Aside0.mk (blk_below BKg5.out hb)); (try replace HV := Aside0.mk (Kd.R_below HV.out hb)); (try replace HW := Aside0.mk (Kd.R_below HW.out hb)); have BKg5 := Aside0.mk hbox; clear hb hbox hg; (try have hcg1_0 : W_.cell? ⟨g1, 0, none⟩ = some (.slice A0 l0.length c0) := (blk_cell BKg1.out 0).trans rfl); (try have hcg1_1 : W_.cell? ⟨g1, 1, none⟩ = some (.slice A1 l1.length c1) := (blk_cell BKg1.out 1).trans rfl); (try have hcg1_2 : W_.cell? ⟨g1, 2, none⟩ = some (.int .i64 wg) := (blk_cell BKg1.out 2).trans rfl); (try have hcg5_0 : W_.cell? ⟨g5, 0, none⟩ = some (.int .i64 0) := (blk_cell BKg5.out 0).trans rfl); (try have hcg5_1 : W_.cell? ⟨g5, 1, none⟩ = some (.int .i64 0) := (blk_cell BKg5.out 1).trans rfl)) | ((with_reducible refine gate_store (t := 55) (p := 5) rfl ?_); go_must (refine wpList_store_row rfl 55 _ _ rfl g5 #[.int .i64 lo, .int .i64 hi] rfl rfl 55 (#[.int .i64 0, .int .i64 0]) BKg5.out rfl rfl (by simp [Value.oneCell']) ?_; (try clear hcg1_0 hcg1_1 hcg1_2); (try clear hcg5_0 hcg5_1); have h0_ := Aside0.mk (below_setRow HB.out GEg5.out (#[.int .i64 lo, .int .i64 hi])); have h1_ := Aside0.mk (setRow_heap W_ g5 _ (#[.int .i64 lo, .int .i64 hi]) _ _ BKg5.out); have h2_ := Aside0.mk ((setRow_other W_ g5 g1 (#[.int .i64 lo, .int .i64 hi]) (by have := NE.out; omega)).trans BKg1.out); have h3_ := Aside0.mk (row_setRow HV.out BKg5.out e3_55 (#[.int .i64 lo, .int .i64 hi])); clear HB BKg5 BKg1 HV; have HB := h0_; have BKg5 := h1_; have BKg1 := h2_; have HV := h3_; clear h0_ h1_ h2_ h3_; generalize W_.setRow g5 (#[.int .i64 lo, .int .i64 hi]) = W_ at *; (try have hcg1_0 : W_.cell? ⟨g1, 0, none⟩ = some (.slice A0 l0.length c0) := (blk_cell BKg1.out 0).trans rfl); (try have hcg1_1 : W_.cell? ⟨g1, 1, none⟩ = some (.slice A1 l1.length c1) := (blk_cell BKg1.out 1).trans rfl); (try have hcg1_2 : W_.cell? ⟨g1, 2, none⟩ = some (.int .i64 wg) := (blk_cell BKg1.out 2).trans rfl); (try have hcg5_0 : W_.cell? ⟨g5, 0, none⟩ = some (.int .i64 lo) := (blk_cell BKg5.out 0).trans rfl); (try have hcg5_1 : W_.cell? ⟨g5, 1, none⟩ = some (.int .i64 hi) := (blk_cell BKg5.out 1).trans rfl))) | (go_at_call 47; go_must (refine (posserlaw03_ready.calls k A0 c0 l0 A1 c1 l1 wg true _ (Kd.C_below HR0.out HB.out) HC0.out (Kd.C_below HR1.out HB.out) HC1.out HRD.out).mono ?_; rintro e W_ ⟨rfl, hb⟩; (try clear hcg1_0 hcg1_1 hcg1_2); (try clear hcg5_0 hcg5_1); (try replace HB := Aside0.mk (below_step HB.out hb)); (try replace HT := Aside0.mk (HT.out.below hb)); (try replace BKg1 := Aside0.mk (blk_below BKg1.out hb)); (try replace BKg5 := Aside0.mk (blk_below BKg5.out hb)); (try replace HV := Aside0.mk (Kd.R_below HV.out hb)); (try replace HW := Aside0.mk (Kd.R_below HW.out hb)); skip; clear hb; (try have hcg1_0 : W_.cell? ⟨g1, 0, none⟩ = some (.slice A0 l0.length c0) := (blk_cell BKg1.out 0).trans rfl); (try have hcg1_1 : W_.cell? ⟨g1, 1, none⟩ = some (.slice A1 l1.length c1) := (blk_cell BKg1.out 1).trans rfl); (try have hcg1_2 : W_.cell? ⟨g1, 2, none⟩ = some (.int .i64 wg) := (blk_cell BKg1.out 2).trans rfl); (try have hcg5_0 : W_.cell? ⟨g5, 0, none⟩ = some (.int .i64 lo) := (blk_cell BKg5.out 0).trans rfl); (try have hcg5_1 : W_.cell? ⟨g5, 1, none⟩ = some (.int .i64 hi) := (blk_cell BKg5.out 1).trans rfl))) | (go_at_call 23; go_must (refine (tab_c _ (HRT.out.below HB.out) HL0.out HL1.out).mono ?_; rintro e W_ ⟨B0, d0, B1, d1, rfl, ht, hb⟩; (try clear hcg1_0 hcg1_1 hcg1_2); (try clear hcg5_0 hcg5_1); (try replace HB := Aside0.mk (below_step HB.out hb)); (try replace HT := Aside0.mk (HT.out.below hb)); (try replace BKg1 := Aside0.mk (blk_below BKg1.out hb)); (try replace BKg5 := Aside0.mk (blk_below BKg5.out hb)); (try replace HV := Aside0.mk (Kd.R_below HV.out hb)); (try replace HW := Aside0.mk (Kd.R_below HW.out hb)); (try clear HT); have HT := Aside0.mk ht; clear ht; clear hb; (try have hcg1_0 : W_.cell? ⟨g1, 0, none⟩ = some (.slice A0 l0.length c0) := (blk_cell BKg1.out 0).trans rfl); (try have hcg1_1 : W_.cell? ⟨g1, 1, none⟩ = some (.slice A1 l1.length c1) := (blk_cell BKg1.out 1).trans rfl); (try have hcg1_2 : W_.cell? ⟨g1, 2, none⟩ = some (.int .i64 wg) := (blk_cell BKg1.out 2).trans rfl); (try have hcg5_0 : W_.cell? ⟨g5, 0, none⟩ = some (.int .i64 lo) := (blk_cell BKg5.out 0).trans rfl); (try have hcg5_1 : W_.cell? ⟨g5, 1, none⟩ = some (.int .i64 hi) := (blk_cell BKg5.out 1).trans rfl))) | (go_at_call 27; go_must (refine (miss_c _ HT.out HE.out HSV.out).mono ?_; rintro e W_ ⟨v_, rfl, ho, hb⟩; (try clear hcg1_0 hcg1_1 hcg1_2); (try clear hcg5_0 hcg5_1); (try replace HB := Aside0.mk (below_step HB.out hb)); (try replace HT := Aside0.mk (HT.out.below hb)); (try replace BKg1 := Aside0.mk (blk_below BKg1.out hb)); (try replace BKg5 := Aside0.mk (blk_below BKg5.out hb)); (try replace HV := Aside0.mk (Kd.R_below HV.out hb)); (try replace HW := Aside0.mk (Kd.R_below HW.out hb)); have HV := Aside0.mk ho; obtain ⟨AHV, cHV, eHV⟩ := Kd.R_slice HV.out; subst eHV; clear ho; clear hb; (try have hcg1_0 : W_.cell? ⟨g1, 0, none⟩ = some (.slice A0 l0.length c0) := (blk_cell BKg1.out 0).trans rfl); (try have hcg1_1 : W_.cell? ⟨g1, 1, none⟩ = some (.slice A1 l1.length c1) := (blk_cell BKg1.out 1).trans rfl); (try have hcg1_2 : W_.cell? ⟨g1, 2, none⟩ = some (.int .i64 wg) := (blk_cell BKg1.out 2).trans rfl); (try have hcg5_0 : W_.cell? ⟨g5, 0, none⟩ = some (.int .i64 lo) := (blk_cell BKg5.out 0).trans rfl); (try have hcg5_1 : W_.cell? ⟨g5, 1, none⟩ = some (.int .i64 hi) := (blk_cell BKg5.out 1).trans rfl))) | (go_at_call 37; go_must (refine (ast_c _ HT.out HE.out HSD.out).mono ?_; rintro e W_ ⟨rfl, hb⟩; (try clear hcg1_0 hcg1_1 hcg1_2); (try clear hcg5_0 hcg5_1); (try replace HB := Aside0.mk (below_step HB.out hb)); (try replace HT := Aside0.mk (HT.out.below hb)); (try replace BKg1 := Aside0.mk (blk_below BKg1.out hb)); (try replace BKg5 := Aside0.mk (blk_below BKg5.out hb)); (try replace HV := Aside0.mk (Kd.R_below HV.out hb)); (try replace HW := Aside0.mk (Kd.R_below HW.out hb)); skip; clear hb; (try have hcg1_0 : W_.cell? ⟨g1, 0, none⟩ = some (.slice A0 l0.length c0) := (blk_cell BKg1.out 0).trans rfl); (try have hcg1_1 : W_.cell? ⟨g1, 1, none⟩ = some (.slice A1 l1.length c1) := (blk_cell BKg1.out 1).trans rfl); (try have hcg1_2 : W_.cell? ⟨g1, 2, none⟩ = some (.int .i64 wg) := (blk_cell BKg1.out 2).trans rfl); (try have hcg5_0 : W_.cell? ⟨g5, 0, none⟩ = some (.int .i64 lo) := (blk_cell BKg5.out 0).trans rfl); (try have hcg5_1 : W_.cell? ⟨g5, 1, none⟩ = some (.int .i64 hi) := (blk_cell BKg5.out 1).trans rfl))) | (go_at_call 22; go_must (refine (whose_c _ HT.out HE.out HSW.out).mono ?_; rintro e W_ ⟨v_, rfl, ho, hb⟩; (try clear hcg1_0 hcg1_1 hcg1_2); (try clear hcg5_0 hcg5_1); (try replace HB := Aside0.mk (below_step HB.out hb)); (try replace HT := Aside0.mk (HT.out.below hb)); (try replace BKg1 := Aside0.mk (blk_below BKg1.out hb)); (try replace BKg5 := Aside0.mk (blk_below BKg5.out hb)); (try replace HV := Aside0.mk (Kd.R_below HV.out hb)); (try replace HW := Aside0.mk (Kd.R_below HW.out hb)); have HW := Aside0.mk ho; obtain ⟨AHW, cHW, eHW⟩ := Kd.R_slice HW.out; subst eHW; clear ho; clear hb; (try have hcg1_0 : W_.cell? ⟨g1, 0, none⟩ = some (.slice A0 l0.length c0) := (blk_cell BKg1.out 0).trans rfl); (try have hcg1_1 : W_.cell? ⟨g1, 1, none⟩ = some (.slice A1 l1.length c1) := (blk_cell BKg1.out 1).trans rfl); (try have hcg1_2 : W_.cell? ⟨g1, 2, none⟩ = some (.int .i64 wg) := (blk_cell BKg1.out 2).trans rfl); (try have hcg5_0 : W_.cell? ⟨g5, 0, none⟩ = some (.int .i64 lo) := (blk_cell BKg5.out 0).trans rfl); (try have hcg5_1 : W_.cell? ⟨g5, 1, none⟩ = some (.int .i64 hi) := (blk_cell BKg5.out 1).trans rfl))) | (go_at_call 21; go_must (refine (awake_calls _).mono ?_; rintro e W_ ⟨rfl, hb⟩; (try clear hcg1_0 hcg1_1 hcg1_2); (try clear hcg5_0 hcg5_1); (try replace HB := Aside0.mk (below_step HB.out hb)); (try replace HT := Aside0.mk (HT.out.below hb)); (try replace BKg1 := Aside0.mk (blk_below BKg1.out hb)); (try replace BKg5 := Aside0.mk (blk_below BKg5.out hb)); (try replace HV := Aside0.mk (Kd.R_below HV.out hb)); (try replace HW := Aside0.mk (Kd.R_below HW.out hb)); skip; clear hb; (try have hcg1_0 : W_.cell? ⟨g1, 0, none⟩ = some (.slice A0 l0.length c0) := (blk_cell BKg1.out 0).trans rfl); (try have hcg1_1 : W_.cell? ⟨g1, 1, none⟩ = some (.slice A1 l1.length c1) := (blk_cell BKg1.out 1).trans rfl); (try have hcg1_2 : W_.cell? ⟨g1, 2, none⟩ = some (.int .i64 wg) := (blk_cell BKg1.out 2).trans rfl); (try have hcg5_0 : W_.cell? ⟨g5, 0, none⟩ = some (.int .i64 lo) := (blk_cell BKg5.out 0).trans rfl); (try have hcg5_1 : W_.cell? ⟨g5, 1, none⟩ = some (.int .i64 hi) := (blk_cell BKg5.out 1).trans rfl))))
  obtain ⟨W1, hW1⟩ : ∃ W1 : World, W1 = W_ := ⟨_, rfl⟩
  subst hW1
  go_loopg [9] vs.length (fun kq v9 w' => ∃ m : Nat, v9 = .int .i64 (m : Int) ∧ Aside0 (m + kq = vs.length) ∧ Aside0 (Below W1.heap.size W1 w'))
  case atStart => exact ⟨0, rfl, ⟨Nat.zero_add _⟩, ⟨Below.refl _ _⟩⟩
  case round =>
    obtain ⟨m, rfl, HM, HB1⟩ := hrel
    (try clear hcg1_0 hcg1_1 hcg1_2); (try clear hcg5_0 hcg5_1)
    by_cases hlt : m < vs.length
    · cases gk with
      | zero => have := HM.out; omega
      | succ k1 =>
      obtain ⟨ad0, e0, hcx0⟩ := Kd.at_int (Kd.C_below (Kd.R_reads' HV.out).2.2 HB1.out) (m : Int) (by omega) (by omega)
      cases e0
      simp only [Int.toNat_natCast] at hcx0
      have hwm := wrap_succ m _ hlt (by have := HLV.out; have := HRT.out.n0; omega)
      have hc5 : wr.cell? ⟨g5, 0, none⟩ = some (.int .i64 lo) := (blk_cell (blk_below BKg5.out HB1.out) 0).trans rfl
      by_cases h0 : lo = 0
      · have h0d : (lo == 0) = true := by simpa using h0
        have h1 := HP1.out m hlt h0
        have h1d : (rd vs (m : Int) == 1) = false := by simpa using h1
        clear h0 h1
        go_wp2
        go_roundg k1
        case measure => omega
        case rel => exact ⟨m + 1, by go_num, ⟨by have := HM.out; omega⟩, HB1⟩
      · have h0d : (lo == 0) = false := by simpa using h0
        clear h0
        go_wp2
        go_roundg k1
        case measure => omega
        case rel => exact ⟨m + 1, by go_num, ⟨by have := HM.out; omega⟩, HB1⟩
    · go_wp2
      clear HM hlt
      have HB9 := HB1
      clear HB1
      go_loopg [10] ws.length (fun kq v10 w' => ∃ m : Nat, v10 = .int .i64 (m : Int) ∧ Aside0 (m + kq = ws.length) ∧ Aside0 (Below W1.heap.size W1 w'))
      case atStart => exact ⟨0, rfl, ⟨Nat.zero_add _⟩, HB9⟩
      case round =>
        obtain ⟨m, rfl, HM, HB1⟩ := hrel
        by_cases hlt : m < ws.length
        · cases gk with
          | zero => have := HM.out; omega
          | succ k1 =>
          obtain ⟨adw, Aw, cw, ew, hcw0, lw1, gw1⟩ := at_LL (Kd.C_below (Kd.R_reads' HW.out).2.2 HB1.out) m (by omega)
          subst ew
          have hwm := wrap_succ m _ hlt (by have := HLW.out; have := HRT.out.n1; omega)
          have HP2 := Aside0.mk (HP2.out m hlt)
          obtain ⟨x, hx⟩ : ∃ x, ws.getD m [] = x := ⟨_, rfl⟩
          rw [hx] at hcw0 lw1 gw1 HP2
          clear hx
          by_cases h1 : (x.length : Int) = 1
          · have h1d : ((x.length : Int) == 1) = true := by simpa using h1
            obtain ⟨y, rfl⟩ : ∃ y, x = [y] := by
              match x, h1 with
              | [y], _ => exact ⟨y, rfl⟩
              | [], h => simp at h
              | _ :: _ :: _, h => simp at h; omega
            obtain ⟨adx, ex, hcx0⟩ := Kd.at_int gw1 0 (by omega) (by simp)
            subst ex
            have hcx0 : wr.cell? adx = some (.int .i64 y) := by
              have h := hcx0
              rw [show adx.add (0 : Int).toNat = adx from by simp [Addr.add]] at h
              exact h
            have HP2 := HP2.out y rfl
            have hl1m : m < l1.length := by have := HLW.out; omega
            obtain ⟨adp, A6, c6, e1, hp0, hcp1, hl6, hi6⟩ := at_T71 (Kd.C_below HR1.out (below_step HB.out HB1.out)) (m : Int) (by omega) (by omega)
            cases e1
            have hcg1_1 : wr.cell? ⟨g1, 1, none⟩ = some (.slice (some adp) l1.length c1) := (blk_cell (blk_below BKg1.out HB1.out) 1).trans rfl
            rw [rd_T71_nat] at hcp1
            simp only [Int.toNat_natCast] at hcp1
            clear hp0 hl6 hi6 lw1 gw1
            generalize l1.getD m z71 = p at hcp1 HP2
            by_cases h2 : y = p.f1
            · have h2d : (y != p.f1) = false := by simpa using h2
              clear HP2 h2 h1
              go_wp2
              refine start_ (n := 46) (S := fun w' => w'.cell? (adw.add m) = some (.slice (some adx) [y].length cw) ∧ w'.cell? adx = some (.int .i64 y) ∧ w'.cell? ⟨g1, 1, none⟩ = some (.slice (some adp) l1.length c1) ∧ w'.cell? ⟨(adp.add (m * 2)).block, (adp.add (m * 2)).off + 1, none⟩ = some (.int .i64 p.f1)) (ds := []) #[false, false, false, false, false, false, false, false, false, false, false, false, false, false, false, false, false, false, false, false, false, false, false, false, false, false, false, false, false, false, false, false, false, false, false, false, false, false, false, false, false, false, false, false, false, false] (by kernel_rfl) rfl rfl ⟨hcw0, hcx0, hcg1_1, hcp1⟩ (fun hHeld => ?_)
              have hb := below_drew1 (Below.refl wr.heap.size wr)
              have n0_ := Aside0.mk (below_step HB1.out hb)
              clear HB1
              have HB1 := n0_
              clear n0_
              replace hcw0 := (hb.cell (World.block_lt_of_cell? _ _ hcw0)).trans hcw0
              replace hcx0 := (hb.cell (World.block_lt_of_cell? _ _ hcx0)).trans hcx0
              replace hcg1_1 := (hb.cell (World.block_lt_of_cell? _ _ hcg1_1)).trans hcg1_1
              replace hcp1 := (hb.cell (World.block_lt_of_cell? _ _ hcp1)).trans hcp1
              generalize wr.drew = W7 at *
              clear hb
              refine pure_ (i := 0) (N := some 94) (v := ?_) (a' := ?_) #[true, false, false, false, false, false, false, false, false, false, false, false, false, false, false, false, false, false, false, false, false, false, false, false, false, false, false, false, false, false, false, false, false, false, false, false, false, false, false, false, false, false, false, false, false, false] rfl rfl (by kernel_rfl) (fun _ _ _ h => h) (Or.inl ⟨by rfl, ?_⟩) ?_ ?_
              rotate_left
              · intro w'
                go_simp
                with_reducible rfl
              rotate_left
              · simp only [Act.put, List.setIfInBounds_toArray, List.set_cons_zero, List.set_cons_succ, i64_w, i32_w]
                rfl
              refine pure_ (i := 1) (N := some 95) (v := ?_) (a' := ?_) #[true, true, false, false, false, false, false, false, false, false, false, false, false, false, false, false, false, false, false, false, false, false, false, false, false, false, false, false, false, false, false, false, false, false, false, false, false, false, false, false, false, false, false, false, false, false] rfl rfl (by kernel_rfl) (fun _ _ _ h => h) (Or.inl ⟨by rfl, ?_⟩) ?_ ?_
              rotate_left
              · intro w'
                go_simp
                with_reducible rfl
              rotate_left
              · simp only [Act.put, List.setIfInBounds_toArray, List.set_cons_zero, List.set_cons_succ, i64_w, i32_w]
                rfl
              refine pure_ (i := 2) (N := some 96) (v := ?_) (a' := ?_) #[true, true, true, false, false, false, false, false, false, false, false, false, false, false, false, false, false, false, false, false, false, false, false, false, false, false, false, false, false, false, false, false, false, false, false, false, false, false, false, false, false, false, false, false, false, false] rfl rfl (by kernel_rfl) (fun _ _ _ h => h) (Or.inl ⟨by rfl, ?_⟩) ?_ ?_
              rotate_left
              · intro w'
                go_simp
                with_reducible rfl
              rotate_left
              · simp only [Act.put, List.setIfInBounds_toArray, List.set_cons_zero, List.set_cons_succ, i64_w, i32_w]
                rfl
              refine take_ (i := 3) (N := some 97) (v := ?_) (a' := ?_) #[true, true, true, true, false, false, false, false, false, false, false, false, false, false, false, false, false, false, false, false, false, false, false, false, false, false, false, false, false, false, false, false, false, false, false, false, false, false, false, false, false, false, false, false, false, false] rfl rfl (by kernel_rfl) (fun _ _ _ h => h) (Or.inl ⟨by rfl, ?_⟩) hHeld ?_ ?_
              rotate_left
              · rintro w' ⟨s0, s1, s2, s3⟩
                go_simp
                with_reducible rfl
              rotate_left
              · simp only [Act.put, List.setIfInBounds_toArray, List.set_cons_zero, List.set_cons_succ, i64_w, i32_w]
                rfl
              refine pure_ (i := 4) (N := some 98) (v := ?_) (a' := ?_) #[true, true, true, true, true, false, false, false, false, false, false, false, false, false, false, false, false, false, false, false, false, false, false, false, false, false, false, false, false, false, false, false, false, false, false, false, false, false, false, false, false, false, false, false, false, false] rfl rfl (by kernel_rfl) (fun _ _ _ h => h) (Or.inl ⟨by rfl, ?_⟩) ?_ ?_
              rotate_left
              · intro w'
                go_simp
                with_reducible rfl
              rotate_left
              · simp only [Act.put, List.setIfInBounds_toArray, List.set_cons_zero, List.set_cons_succ, i64_w, i32_w]
                rfl
              refine pure_ (i := 5) (N := some 99) (v := ?_) (a' := ?_) #[true, true, true, true, true, true, false, false, false, false, false, false, false, false, false, false, false, false, false, false, false, false, false, false, false, false, false, false, false, false, false, false, false, false, false, false, false, false, false, false, false, false, false, false, false, false] rfl rfl (by kernel_rfl) (fun _ _ _ h => h) (Or.inl ⟨by rfl, ?_⟩) ?_ ?_
              rotate_left
              · intro w'
                go_simp
                with_reducible rfl
              rotate_left
              · simp only [Act.put, List.setIfInBounds_toArray, List.set_cons_zero, List.set_cons_succ, i64_w, i32_w]
                rfl
              refine pure_ (i := 6) (N := some 100) (v := ?_) (a' := ?_) #[true, true, true, true, true, true, true, false, false, false, false, false, false, false, false, false, false, false, false, false, false, false, false, false, false, false, false, false, false, false, false, false, false, false, false, false, false, false, false, false, false, false, false, false, false, false] rfl rfl (by kernel_rfl) (fun _ _ _ h => h) (Or.inl ⟨by rfl, ?_⟩) ?_ ?_
              rotate_left
              · intro w'
                go_simp
                with_reducible rfl
              rotate_left
              · simp only [Act.put, List.setIfInBounds_toArray, List.set_cons_zero, List.set_cons_succ, i64_w, i32_w]
                rfl
              refine pure_ (i := 7) (N := some 101) (v := ?_) (a' := ?_) #[true, true, true, true, true, true, true, true, false, false, false, false, false, false, false, false, false, false, false, false, false, false, false, false, false, false, false, false, false, false, false, false, false, false, false, false, false, false, false, false, false, false, false, false, false, false] rfl rfl (by kernel_rfl) (fun _ _ _ h => h) (Or.inl ⟨by rfl, ?_⟩) ?_ ?_
              rotate_left
              · intro w'
                go_simp
                with_reducible rfl
              rotate_left
              · simp only [Act.put, List.setIfInBounds_toArray, List.set_cons_zero, List.set_cons_succ, i64_w, i32_w]
                rfl
              refine pure_ (i := 8) (N := some 102) (v := ?_) (a' := ?_) #[true, true, true, true, true, true, true, true, true, false, false, false, false, false, false, false, false, false, false, false, false, false, false, false, false, false, false, false, false, false, false, false, false, false, false, false, false, false, false, false, false, false, false, false, false, false] rfl rfl (by kernel_rfl) (fun _ _ _ h => h) (Or.inl ⟨by rfl, ?_⟩) ?_ ?_
              rotate_left
              · intro w'
                go_simp
                with_reducible rfl
              rotate_left
              · simp only [Act.put, List.setIfInBounds_toArray, List.set_cons_zero, List.set_cons_succ, i64_w, i32_w]
                rfl
              refine pure_ (i := 9) (N := some 103) (v := ?_) (a' := ?_) #[true, true, true, true, true, true, true, true, true, true, false, false, false, false, false, false, false, false, false, false, false, false, false, false, false, false, false, false, false, false, false, false, false, false, false, false, false, false, false, false, false, false, false, false, false, false] rfl rfl (by kernel_rfl) (fun _ _ _ h => h) (Or.inl ⟨by rfl, ?_⟩) ?_ ?_
              rotate_left
              · intro w'
                go_simp
                with_reducible rfl
              rotate_left
              · simp only [Act.put, List.setIfInBounds_toArray, List.set_cons_zero, List.set_cons_succ, i64_w, i32_w]
                rfl
              refine pure_ (i := 13) (N := some 107) (v := ?_) (a' := ?_) #[true, true, true, true, true, true, true, true, true, true, false, false, false, true, false, false, false, false, false, false, false, false, false, false, false, false, false, false, false, false, false, false, false, false, false, false, false, false, false, false, false, false, false, false, false, false] rfl rfl (by kernel_rfl) (fun _ _ _ h => h) (Or.inl ⟨by rfl, ?_⟩) ?_ ?_
              rotate_left
              · intro w'
                go_simp
                with_reducible rfl
              rotate_left
              · simp only [Act.put, List.setIfInBounds_toArray, List.set_cons_zero, List.set_cons_succ, i64_w, i32_w]
                rfl
              refine pure_ (i := 15) (N := some 109) (v := ?_) (a' := ?_) #[true, true, true, true, true, true, true, true, true, true, false, false, false, true, false, true, false, false, false, false, false, false, false, false, false, false, false, false, false, false, false, false, false, false, false, false, false, false, false, false, false, false, false, false, false, false] rfl rfl (by kernel_rfl) (fun _ _ _ h => h) (Or.inl ⟨by rfl, ?_⟩) ?_ ?_
              rotate_left
              · intro w'
                go_simp
                with_reducible rfl
              rotate_left
              · simp only [Act.put, List.setIfInBounds_toArray, List.set_cons_zero, List.set_cons_succ, i64_w, i32_w]
                rfl
              refine take_ (i := 10) (N := some 104) (v := ?_) (a' := ?_) #[true, true, true, true, true, true, true, true, true, true, true, false, false, true, false, true, false, false, false, false, false, false, false, false, false, false, false, false, false, false, false, false, false, false, false, false, false, false, false, false, false, false, false, false, false, false] rfl rfl (by kernel_rfl) (fun _ _ _ h => h) (Or.inl ⟨by rfl, ?_⟩) hHeld ?_ ?_
              rotate_left
              · rintro w' ⟨s0, s1, s2, s3⟩
                go_simp
                with_reducible rfl
              rotate_left
              · simp only [Act.put, List.setIfInBounds_toArray, List.set_cons_zero, List.set_cons_succ, i64_w, i32_w]
                rfl
              refine pure_ (i := 11) (N := some 105) (v := ?_) (a' := ?_) #[true, true, true, true, true, true, true, true, true, true, true, true, false, true, false, true, false, false, false, false, false, false, false, false, false, false, false, false, false, false, false, false, false, false, false, false, false, false, false, false, false, false, false, false, false, false] rfl rfl (by kernel_rfl) (fun _ _ _ h => h) (Or.inl ⟨by rfl, ?_⟩) ?_ ?_
              rotate_left
              · intro w'
                go_simp
                with_reducible rfl
              rotate_left
              · simp only [Act.put, List.setIfInBounds_toArray, List.set_cons_zero, List.set_cons_succ, i64_w, i32_w]
                rfl
              refine take_ (i := 12) (N := some 106) (v := ?_) (a' := ?_) #[true, true, true, true, true, true, true, true, true, true, true, true, true, true, false, true, false, false, false, false, false, false, false, false, false, false, false, false, false, false, false, false, false, false, false, false, false, false, false, false, false, false, false, false, false, false] rfl rfl (by kernel_rfl) (fun _ _ _ h => h) (Or.inl ⟨by rfl, ?_⟩) hHeld ?_ ?_
              rotate_left
              · rintro w' ⟨s0, s1, s2, s3⟩
                go_simp
                with_reducible rfl
              rotate_left
              · simp only [Act.put, List.setIfInBounds_toArray, List.set_cons_zero, List.set_cons_succ, i64_w, i32_w]
                rfl
              refine take_ (i := 14) (N := some 108) (v := ?_) (a' := ?_) #[true, true, true, true, true, true, true, true, true, true, true, true, true, true, true, true, false, false, false, false, false, false, false, false, false, false, false, false, false, false, false, false, false, false, false, false, false, false, false, false, false, false, false, false, false, false] rfl rfl (by kernel_rfl) (fun _ _ _ h => h) (Or.inl ⟨by rfl, ?_⟩) hHeld ?_ ?_
              rotate_left
              · rintro w' ⟨s0, s1, s2, s3⟩
                go_simp
                with_reducible rfl
              rotate_left
              · simp only [Act.put, List.setIfInBounds_toArray, List.set_cons_zero, List.set_cons_succ, i64_w, i32_w]
                rfl
              refine pure_ (i := 16) (N := some 110) (v := ?_) (a' := ?_) #[true, true, true, true, true, true, true, true, true, true, true, true, true, true, true, true, true, false, false, false, false, false, false, false, false, false, false, false, false, false, false, false, false, false, false, false, false, false, false, false, false, false, false, false, false, false] rfl rfl (by kernel_rfl) (fun _ _ _ h => h) (Or.inl ⟨by rfl, ?_⟩) ?_ ?_
              rotate_left
              · intro w'
                go_simp
                with_reducible rfl
              rotate_left
              · simp only [Act.put, List.setIfInBounds_toArray, List.set_cons_zero, List.set_cons_succ, i64_w, i32_w]
                rfl
              refine pure_ (i := 17) (N := some 111) (v := ?_) (a' := ?_) #[true, true, true, true, true, true, true, true, true, true, true, true, true, true, true, true, true, true, false, false, false, false, false, false, false, false, false, false, false, false, false, false, false, false, false, false, false, false, false, false, false, false, false, false, false, false] rfl rfl (by kernel_rfl) (fun _ _ _ h => h) (Or.inl ⟨by rfl, ?_⟩) ?_ ?_
              rotate_left
              · intro w'
                go_simp
                with_reducible rfl
              rotate_left
              · simp only [Act.put, List.setIfInBounds_toArray, List.set_cons_zero, List.set_cons_succ, i64_w, i32_w]
                rfl
              refine take_ (i := 18) (N := some 112) (v := ?_) (a' := ?_) #[true, true, true, true, true, true, true, true, true, true, true, true, true, true, true, true, true, true, true, false, false, false, false, false, false, false, false, false, false, false, false, false, false, false, false, false, false, false, false, false, false, false, false, false, false, false] rfl rfl (by kernel_rfl) (fun _ _ _ h => h) (Or.inl ⟨by rfl, ?_⟩) hHeld ?_ ?_
              rotate_left
              · rintro w' ⟨s0, s1, s2, s3⟩
                go_simp
                with_reducible rfl
              rotate_left
              · simp only [Act.put, List.setIfInBounds_toArray, List.set_cons_zero, List.set_cons_succ, i64_w, i32_w]
                rfl
              refine pure_ (i := 19) (N := some 113) (v := ?_) (a' := ?_) #[true, true, true, true, true, true, true, true, true, true, true, true, true, true, true, true, true, true, true, true, false, false, false, false, false, false, false, false, false, false, false, false, false, false, false, false, false, false, false, false, false, false, false, false, false, false] rfl rfl (by kernel_rfl) (fun _ _ _ h => h) (Or.inl ⟨by rfl, ?_⟩) ?_ ?_
              rotate_left
              · intro w'
                go_simp
                with_reducible rfl
              rotate_left
              · simp only [Act.put, List.setIfInBounds_toArray, List.set_cons_zero, List.set_cons_succ, i64_w, i32_w]
                rfl
              refine pure_ (i := 20) (N := some 114) (v := ?_) (a' := ?_) #[true, true, true, true, true, true, true, true, true, true, true, true, true, true, true, true, true, true, true, true, true, false, false, false, false, false, false, false, false, false, false, false, false, false, false, false, false, false, false, false, false, false, false, false, false, false] rfl rfl (by kernel_rfl) (fun _ _ _ h => h) (Or.inl ⟨by rfl, ?_⟩) ?_ ?_
              rotate_left
              · intro w'
                go_simp
                with_reducible rfl
              rotate_left
              · simp only [Act.put, List.setIfInBounds_toArray, List.set_cons_zero, List.set_cons_succ, i64_w, i32_w]
                rfl
              refine pure_ (i := 21) (N := some 115) (v := ?_) (a' := ?_) #[true, true, true, true, true, true, true, true, true, true, true, true, true, true, true, true, true, true, true, true, true, true, false, false, false, false, false, false, false, false, false, false, false, false, false, false, false, false, false, false, false, false, false, false, false, false] rfl rfl (by kernel_rfl) (fun _ _ _ h => h) (Or.inl ⟨by rfl, ?_⟩) ?_ ?_
              rotate_left
              · intro w'
                go_simp
                with_reducible rfl
              rotate_left
              · simp only [Act.put, List.setIfInBounds_toArray, List.set_cons_zero, List.set_cons_succ, i64_w, i32_w]
                rfl
              refine pure_ (i := 22) (N := some 116) (v := undef) (a' := ?_) #[true, true, true, true, true, true, true, true, true, true, true, true, true, true, true, true, true, true, true, true, true, true, true, false, false, false, false, false, false, false, false, false, false, false, false, false, false, false, false, false, false, false, false, false, false, false] rfl rfl (by kernel_rfl) (fun _ _ _ h => h) (Or.inr ⟨by rfl, rfl⟩) ?_ ?_
              rotate_left
              · simp only [Act.put, List.setIfInBounds_toArray, List.set_cons_zero, List.set_cons_succ, i64_w, i32_w]
                rfl
              refine pure_ (i := 23) (N := some 117) (v := undef) (a' := ?_) #[true, true, true, true, true, true, true, true, true, true, true, true, true, true, true, true, true, true, true, true, true, true, true, true, false, false, false, false, false, false, false, false, false, false, false, false, false, false, false, false, false, false, false, false, false, false] rfl rfl (by kernel_rfl) (fun _ _ _ h => h) (Or.inr ⟨by rfl, rfl⟩) ?_ ?_
              rotate_left
              · simp only [Act.put, List.setIfInBounds_toArray, List.set_cons_zero, List.set_cons_succ, i64_w, i32_w]
                rfl
              refine pure_ (i := 24) (N := some 118) (v := undef) (a' := ?_) #[true, true, true, true, true, true, true, true, true, true, true, true, true, true, true, true, true, true, true, true, true, true, true, true, true, false, false, false, false, false, false, false, false, false, false, false, false, false, false, false, false, false, false, false, false, false] rfl rfl (by kernel_rfl) (fun _ _ _ h => h) (Or.inr ⟨by rfl, rfl⟩) ?_ ?_
              rotate_left
              · simp only [Act.put, List.setIfInBounds_toArray, List.set_cons_zero, List.set_cons_succ, i64_w, i32_w]
                rfl
              refine pure_ (i := 25) (N := some 119) (v := undef) (a' := ?_) #[true, true, true, true, true, true, true, true, true, true, true, true, true, true, true, true, true, true, true, true, true, true, true, true, true, true, false, false, false, false, false, false, false, false, false, false, false, false, false, false, false, false, false, false, false, false] rfl rfl (by kernel_rfl) (fun _ _ _ h => h) (Or.inr ⟨by rfl, rfl⟩) ?_ ?_
              rotate_left
              · simp only [Act.put, List.setIfInBounds_toArray, List.set_cons_zero, List.set_cons_succ, i64_w, i32_w]
                rfl
              refine pure_ (i := 26) (N := some 120) (v := undef) (a' := ?_) #[true, true, true, true, true, true, true, true, true, true, true, true, true, true, true, true, true, true, true, true, true, true, true, true, true, true, true, false, false, false, false, false, false, false, false, false, false, false, false, false, false, false, false, false, false, false] rfl rfl (by kernel_rfl) (fun _ _ _ h => h) (Or.inr ⟨by rfl, rfl⟩) ?_ ?_
              rotate_left
              · simp only [Act.put, List.setIfInBounds_toArray, List.set_cons_zero, List.set_cons_succ, i64_w, i32_w]
                rfl
              refine pure_ (i := 27) (N := some 121) (v := undef) (a' := ?_) #[true, true, true, true, true, true, true, true, true, true, true, true, true, true, true, true, true, true, true, true, true, true, true, true, true, true, true, true, false, false, false, false, false, false, false, false, false, false, false, false, false, false, false, false, false, false] rfl rfl (by kernel_rfl) (fun _ _ _ h => h) (Or.inr ⟨by rfl, rfl⟩) ?_ ?_
              rotate_left
              · simp only [Act.put, List.setIfInBounds_toArray, List.set_cons_zero, List.set_cons_succ, i64_w, i32_w]
                rfl
              refine pure_ (i := 28) (N := some 122) (v := undef) (a' := ?_) #[true, true, true, true, true, true, true, true, true, true, true, true, true, true, true, true, true, true, true, true, true, true, true, true, true, true, true, true, true, false, false, false, false, false, false, false, false, false, false, false, false, false, false, false, false, false] rfl rfl (by kernel_rfl) (fun _ _ _ h => h) (Or.inr ⟨by rfl, rfl⟩) ?_ ?_
              rotate_left
              · simp only [Act.put, List.setIfInBounds_toArray, List.set_cons_zero, List.set_cons_succ, i64_w, i32_w]
                rfl
              refine pure_ (i := 29) (N := some 123) (v := undef) (a' := ?_) #[true, true, true, true, true, true, true, true, true, true, true, true, true, true, true, true, true, true, true, true, true, true, true, true, true, true, true, true, true, true, false, false, false, false, false, false, false, false, false, false, false, false, false, false, false, false] rfl rfl (by kernel_rfl) (fun _ _ _ h => h) (Or.inr ⟨by rfl, rfl⟩) ?_ ?_
              rotate_left
              · simp only [Act.put, List.setIfInBounds_toArray, List.set_cons_zero, List.set_cons_succ, i64_w, i32_w]
                rfl
              refine pure_ (i := 30) (N := some 124) (v := undef) (a' := ?_) #[true, true, true, true, true, true, true, true, true, true, true, true, true, true, true, true, true, true, true, true, true, true, true, true, true, true, true, true, true, true, true, false, false, false, false, false, false, false, false, false, false, false, false, false, false, false] rfl rfl (by kernel_rfl) (fun _ _ _ h => h) (Or.inr ⟨by rfl, rfl⟩) ?_ ?_
              rotate_left
              · simp only [Act.put, List.setIfInBounds_toArray, List.set_cons_zero, List.set_cons_succ, i64_w, i32_w]
                rfl
              refine pure_ (i := 31) (N := some 125) (v := undef) (a' := ?_) #[true, true, true, true, true, true, true, true, true, true, true, true, true, true, true, true, true, true, true, true, true, true, true, true, true, true, true, true, true, true, true, true, false, false, false, false, false, false, false, false, false, false, false, false, false, false] rfl rfl (by kernel_rfl) (fun _ _ _ h => h) (Or.inr ⟨by rfl, rfl⟩) ?_ ?_
              rotate_left
              · simp only [Act.put, List.setIfInBounds_toArray, List.set_cons_zero, List.set_cons_succ, i64_w, i32_w]
                rfl
              refine pure_ (i := 32) (N := some 126) (v := undef) (a' := ?_) #[true, true, true, true, true, true, true, true, true, true, true, true, true, true, true, true, true, true, true, true, true, true, true, true, true, true, true, true, true, true, true, true, true, false, false, false, false, false, false, false, false, false, false, false, false, false] rfl rfl (by kernel_rfl) (fun _ _ _ h => h) (Or.inr ⟨by rfl, rfl⟩) ?_ ?_
              rotate_left
              · simp only [Act.put, List.setIfInBounds_toArray, List.set_cons_zero, List.set_cons_succ, i64_w, i32_w]
                rfl
              refine pure_ (i := 33) (N := some 127) (v := undef) (a' := ?_) #[true, true, true, true, true, true, true, true, true, true, true, true, true, true, true, true, true, true, true, true, true, true, true, true, true, true, true, true, true, true, true, true, true, true, false, false, false, false, false, false, false, false, false, false, false, false] rfl rfl (by kernel_rfl) (fun _ _ _ h => h) (Or.inr ⟨by rfl, rfl⟩) ?_ ?_
              rotate_left
              · simp only [Act.put, List.setIfInBounds_toArray, List.set_cons_zero, List.set_cons_succ, i64_w, i32_w]
                rfl
              refine pure_ (i := 34) (N := some 128) (v := undef) (a' := ?_) #[true, true, true, true, true, true, true, true, true, true, true, true, true, true, true, true, true, true, true, true, true, true, true, true, true, true, true, true, true, true, true, true, true, true, true, false, false, false, false, false, false, false, false, false, false, false] rfl rfl (by kernel_rfl) (fun _ _ _ h => h) (Or.inr ⟨by rfl, rfl⟩) ?_ ?_
              rotate_left
              · simp only [Act.put, List.setIfInBounds_toArray, List.set_cons_zero, List.set_cons_succ, i64_w, i32_w]
                rfl
              refine pure_ (i := 35) (N := some 129) (v := undef) (a' := ?_) #[true, true, true, true, true, true, true, true, true, true, true, true, true, true, true, true, true, true, true, true, true, true, true, true, true, true, true, true, true, true, true, true, true, true, true, true, false, false, false, false, false, false, false, false, false, false] rfl rfl (by kernel_rfl) (fun _ _ _ h => h) (Or.inr ⟨by rfl, rfl⟩) ?_ ?_
              rotate_left
              · simp only [Act.put, List.setIfInBounds_toArray, List.set_cons_zero, List.set_cons_succ, i64_w, i32_w]
                rfl
              refine pure_ (i := 36) (N := some 130) (v := undef) (a' := ?_) #[true, true, true, true, true, true, true, true, true, true, true, true, true, true, true, true, true, true, true, true, true, true, true, true, true, true, true, true, true, true, true, true, true, true, true, true, true, false, false, false, false, false, false, false, false, false] rfl rfl (by kernel_rfl) (fun _ _ _ h => h) (Or.inr ⟨by rfl, rfl⟩) ?_ ?_
              rotate_left
              · simp only [Act.put, List.setIfInBounds_toArray, List.set_cons_zero, List.set_cons_succ, i64_w, i32_w]
                rfl
              refine pure_ (i := 37) (N := some 131) (v := undef) (a' := ?_) #[true, true, true, true, true, true, true, true, true, true, true, true, true, true, true, true, true, true, true, true, true, true, true, true, true, true, true, true, true, true, true, true, true, true, true, true, true, true, false, false, false, false, false, false, false, false] rfl rfl (by kernel_rfl) (fun _ _ _ h => h) (Or.inr ⟨by rfl, rfl⟩) ?_ ?_
              rotate_left
              · simp only [Act.put, List.setIfInBounds_toArray, List.set_cons_zero, List.set_cons_succ, i64_w, i32_w]
                rfl
              refine pure_ (i := 38) (N := some 132) (v := undef) (a' := ?_) #[true, true, true, true, true, true, true, true, true, true, true, true, true, true, true, true, true, true, true, true, true, true, true, true, true, true, true, true, true, true, true, true, true, true, true, true, true, true, true, false, false, false, false, false, false, false] rfl rfl (by kernel_rfl) (fun _ _ _ h => h) (Or.inr ⟨by rfl, rfl⟩) ?_ ?_
              rotate_left
              · simp only [Act.put, List.setIfInBounds_toArray, List.set_cons_zero, List.set_cons_succ, i64_w, i32_w]
                rfl
              refine pure_ (i := 39) (N := some 133) (v := undef) (a' := ?_) #[true, true, true, true, true, true, true, true, true, true, true, true, true, true, true, true, true, true, true, true, true, true, true, true, true, true, true, true, true, true, true, true, true, true, true, true, true, true, true, true, false, false, false, false, false, false] rfl rfl (by kernel_rfl) (fun _ _ _ h => h) (Or.inr ⟨by rfl, rfl⟩) ?_ ?_
              rotate_left
              · simp only [Act.put, List.setIfInBounds_toArray, List.set_cons_zero, List.set_cons_succ, i64_w, i32_w]
                rfl
              refine pure_ (i := 40) (N := some 134) (v := undef) (a' := ?_) #[true, true, true, true, true, true, true, true, true, true, true, true, true, true, true, true, true, true, true, true, true, true, true, true, true, true, true, true, true, true, true, true, true, true, true, true, true, true, true, true, true, false, false, false, false, false] rfl rfl (by kernel_rfl) (fun _ _ _ h => h) (Or.inr ⟨by rfl, rfl⟩) ?_ ?_
              rotate_left
              · simp only [Act.put, List.setIfInBounds_toArray, List.set_cons_zero, List.set_cons_succ, i64_w, i32_w]
                rfl
              refine pure_ (i := 41) (N := some 135) (v := undef) (a' := ?_) #[true, true, true, true, true, true, true, true, true, true, true, true, true, true, true, true, true, true, true, true, true, true, true, true, true, true, true, true, true, true, true, true, true, true, true, true, true, true, true, true, true, true, false, false, false, false] rfl rfl (by kernel_rfl) (fun _ _ _ h => h) (Or.inr ⟨by rfl, rfl⟩) ?_ ?_
              rotate_left
              · simp only [Act.put, List.setIfInBounds_toArray, List.set_cons_zero, List.set_cons_succ, i64_w, i32_w]
                rfl
              refine pure_ (i := 42) (N := some 136) (v := undef) (a' := ?_) #[true, true, true, true, true, true, true, true, true, true, true, true, true, true, true, true, true, true, true, true, true, true, true, true, true, true, true, true, true, true, true, true, true, true, true, true, true, true, true, true, true, true, true, false, false, false] rfl rfl (by kernel_rfl) (fun _ _ _ h => h) (Or.inr ⟨by rfl, rfl⟩) ?_ ?_
              rotate_left
              · simp only [Act.put, List.setIfInBounds_toArray, List.set_cons_zero, List.set_cons_succ, i64_w, i32_w]
                rfl
              refine pure_ (i := 43) (N := some 137) (v := undef) (a' := ?_) #[true, true, true, true, true, true, true, true, true, true, true, true, true, true, true, true, true, true, true, true, true, true, true, true, true, true, true, true, true, true, true, true, true, true, true, true, true, true, true, true, true, true, true, true, false, false] rfl rfl (by kernel_rfl) (fun _ _ _ h => h) (Or.inr ⟨by rfl, rfl⟩) ?_ ?_
              rotate_left
              · simp only [Act.put, List.setIfInBounds_toArray, List.set_cons_zero, List.set_cons_succ, i64_w, i32_w]
                rfl
              refine pure_ (i := 44) (N := some 138) (v := undef) (a' := ?_) #[true, true, true, true, true, true, true, true, true, true, true, true, true, true, true, true, true, true, true, true, true, true, true, true, true, true, true, true, true, true, true, true, true, true, true, true, true, true, true, true, true, true, true, true, true, false] rfl rfl (by kernel_rfl) (fun _ _ _ h => h) (Or.inr ⟨by rfl, rfl⟩) ?_ ?_
              rotate_left
              · simp only [Act.put, List.setIfInBounds_toArray, List.set_cons_zero, List.set_cons_succ, i64_w, i32_w]
                rfl
              refine pure_ (i := 45) (N := some 139) (v := ?_) (a' := ?_) #[true, true, true, true, true, true, true, true, true, true, true, true, true, true, true, true, true, true, true, true, true, true, true, true, true, true, true, true, true, true, true, true, true, true, true, true, true, true, true, true, true, true, true, true, true, true] rfl rfl (by kernel_rfl) (fun _ _ _ h => h) (Or.inl ⟨by rfl, ?_⟩) ?_ ?_
              rotate_left
              · intro w'
                go_simp
                with_reducible rfl
              rotate_left
              · simp only [Act.put, List.setIfInBounds_toArray, List.set_cons_zero, List.set_cons_succ, i64_w, i32_w]
                rfl
              refine done_ (by kernel_rfl) ?_
              go_wp2
              go_roundg k1
              case measure => omega
              case rel => exact ⟨m + 1, by go_num, ⟨by have := HM.out; omega⟩, HB1⟩
            · have h2d : (y != p.f1) = true := by simpa using h2
              obtain ⟨q0, q1, q2⟩ := HP2 h2
              obtain ⟨adv, ev, hcv0⟩ := Kd.at_int (Kd.C_below (Kd.R_reads' HV.out).2.2 HB1.out) y q0 q1
              rw [q2] at hcv0
              subst ev
              have HIN := Aside0.mk (show posserref03_In.f y 0 (wrap64 ((vs.length : Int) - 1)) = some true from by
                have := HLV.out
                have := HRT.out.n0
                rw [In_f, wrap64_id _ (by omega) (by omega)]
                unfold okIn
                rw [decide_eq_true q0, decide_eq_true (by omega)]; rfl)
              clear HP2 h2 h1 q2
              go_wp2
              refine start_ (n := 46) (S := fun w' => w'.cell? (adw.add m) = some (.slice (some adx) [y].length cw) ∧ w'.cell? adx = some (.int .i64 y) ∧ w'.cell? ⟨g1, 1, none⟩ = some (.slice (some adp) l1.length c1) ∧ w'.cell? ⟨(adp.add (m * 2)).block, (adp.add (m * 2)).off + 1, none⟩ = some (.int .i64 p.f1) ∧ w'.cell? (adv.add y.toNat) = some (.int .i64 1)) (ds := []) #[false, false, false, false, false, false, false, false, false, false, false, false, false, false, false, false, false, false, false, false, false, false, false, false, false, false, false, false, false, false, false, false, false, false, false, false, false, false, false, false, false, false, false, false, false, false] (by kernel_rfl) rfl rfl ⟨hcw0, hcx0, hcg1_1, hcp1, hcv0⟩ (fun hHeld => ?_)
              have hb := below_drew1 (Below.refl wr.heap.size wr)
              have n0_ := Aside0.mk (below_step HB1.out hb)
              clear HB1
              have HB1 := n0_
              clear n0_
              replace hcw0 := (hb.cell (World.block_lt_of_cell? _ _ hcw0)).trans hcw0
              replace hcx0 := (hb.cell (World.block_lt_of_cell? _ _ hcx0)).trans hcx0
              replace hcg1_1 := (hb.cell (World.block_lt_of_cell? _ _ hcg1_1)).trans hcg1_1
              replace hcp1 := (hb.cell (World.block_lt_of_cell? _ _ hcp1)).trans hcp1
              replace hcv0 := (hb.cell (World.block_lt_of_cell? _ _ hcv0)).trans hcv0
              generalize wr.drew = W7 at *
              clear hb
              refine pure_ (i := 0) (N := some 94) (v := ?_) (a' := ?_) #[true, false, false, false, false, false, false, false, false, false, false, false, false, false, false, false, false, false, false, false, false, false, false, false, false, false, false, false, false, false, false, false, false, false, false, false, false, false, false, false, false, false, false, false, false, false] rfl rfl (by kernel_rfl) (fun _ _ _ h => h) (Or.inl ⟨by rfl, ?_⟩) ?_ ?_
              rotate_left
              · intro w'
                go_simp
                with_reducible rfl
              rotate_left
              · simp only [Act.put, List.setIfInBounds_toArray, List.set_cons_zero, List.set_cons_succ, i64_w, i32_w]
                rfl
              refine pure_ (i := 1) (N := some 95) (v := ?_) (a' := ?_) #[true, true, false, false, false, false, false, false, false, false, false, false, false, false, false, false, false, false, false, false, false, false, false, false, false, false, false, false, false, false, false, false, false, false, false, false, false, false, false, false, false, false, false, false, false, false] rfl rfl (by kernel_rfl) (fun _ _ _ h => h) (Or.inl ⟨by rfl, ?_⟩) ?_ ?_
              rotate_left
              · intro w'
                go_simp
                with_reducible rfl
              rotate_left
              · simp only [Act.put, List.setIfInBounds_toArray, List.set_cons_zero, List.set_cons_succ, i64_w, i32_w]
                rfl
              refine pure_ (i := 2) (N := some 96) (v := ?_) (a' := ?_) #[true, true, true, false, false, false, false, false, false, false, false, false, false, false, false, false, false, false, false, false, false, false, false, false, false, false, false, false, false, false, false, false, false, false, false, false, false, false, false, false, false, false, false, false, false, false] rfl rfl (by kernel_rfl) (fun _ _ _ h => h) (Or.inl ⟨by rfl, ?_⟩) ?_ ?_
              rotate_left
              · intro w'
                go_simp
                with_reducible rfl
              rotate_left
              · simp only [Act.put, List.setIfInBounds_toArray, List.set_cons_zero, List.set_cons_succ, i64_w, i32_w]
                rfl
              refine take_ (i := 3) (N := some 97) (v := ?_) (a' := ?_) #[true, true, true, true, false, false, false, false, false, false, false, false, false, false, false, false, false, false, false, false, false, false, false, false, false, false, false, false, false, false, false, false, false, false, false, false, false, false, false, false, false, false, false, false, false, false] rfl rfl (by kernel_rfl) (fun _ _ _ h => h) (Or.inl ⟨by rfl, ?_⟩) hHeld ?_ ?_
              rotate_left
              · rintro w' ⟨s0, s1, s2, s3, s4⟩
                go_simp
                with_reducible rfl
              rotate_left
              · simp only [Act.put, List.setIfInBounds_toArray, List.set_cons_zero, List.set_cons_succ, i64_w, i32_w]
                rfl
              refine pure_ (i := 4) (N := some 98) (v := ?_) (a' := ?_) #[true, true, true, true, true, false, false, false, false, false, false, false, false, false, false, false, false, false, false, false, false, false, false, false, false, false, false, false, false, false, false, false, false, false, false, false, false, false, false, false, false, false, false, false, false, false] rfl rfl (by kernel_rfl) (fun _ _ _ h => h) (Or.inl ⟨by rfl, ?_⟩) ?_ ?_
              rotate_left
              · intro w'
                go_simp
                with_reducible rfl
              rotate_left
              · simp only [Act.put, List.setIfInBounds_toArray, List.set_cons_zero, List.set_cons_succ, i64_w, i32_w]
                rfl
              refine pure_ (i := 5) (N := some 99) (v := ?_) (a' := ?_) #[true, true, true, true, true, true, false, false, false, false, false, false, false, false, false, false, false, false, false, false, false, false, false, false, false, false, false, false, false, false, false, false, false, false, false, false, false, false, false, false, false, false, false, false, false, false] rfl rfl (by kernel_rfl) (fun _ _ _ h => h) (Or.inl ⟨by rfl, ?_⟩) ?_ ?_
              rotate_left
              · intro w'
                go_simp
                with_reducible rfl
              rotate_left
              · simp only [Act.put, List.setIfInBounds_toArray, List.set_cons_zero, List.set_cons_succ, i64_w, i32_w]
                rfl
              refine pure_ (i := 6) (N := some 100) (v := ?_) (a' := ?_) #[true, true, true, true, true, true, true, false, false, false, false, false, false, false, false, false, false, false, false, false, false, false, false, false, false, false, false, false, false, false, false, false, false, false, false, false, false, false, false, false, false, false, false, false, false, false] rfl rfl (by kernel_rfl) (fun _ _ _ h => h) (Or.inl ⟨by rfl, ?_⟩) ?_ ?_
              rotate_left
              · intro w'
                go_simp
                with_reducible rfl
              rotate_left
              · simp only [Act.put, List.setIfInBounds_toArray, List.set_cons_zero, List.set_cons_succ, i64_w, i32_w]
                rfl
              refine pure_ (i := 7) (N := some 101) (v := ?_) (a' := ?_) #[true, true, true, true, true, true, true, true, false, false, false, false, false, false, false, false, false, false, false, false, false, false, false, false, false, false, false, false, false, false, false, false, false, false, false, false, false, false, false, false, false, false, false, false, false, false] rfl rfl (by kernel_rfl) (fun _ _ _ h => h) (Or.inl ⟨by rfl, ?_⟩) ?_ ?_
              rotate_left
              · intro w'
                go_simp
                with_reducible rfl
              rotate_left
              · simp only [Act.put, List.setIfInBounds_toArray, List.set_cons_zero, List.set_cons_succ, i64_w, i32_w]
                rfl
              refine pure_ (i := 8) (N := some 102) (v := ?_) (a' := ?_) #[true, true, true, true, true, true, true, true, true, false, false, false, false, false, false, false, false, false, false, false, false, false, false, false, false, false, false, false, false, false, false, false, false, false, false, false, false, false, false, false, false, false, false, false, false, false] rfl rfl (by kernel_rfl) (fun _ _ _ h => h) (Or.inl ⟨by rfl, ?_⟩) ?_ ?_
              rotate_left
              · intro w'
                go_simp
                with_reducible rfl
              rotate_left
              · simp only [Act.put, List.setIfInBounds_toArray, List.set_cons_zero, List.set_cons_succ, i64_w, i32_w]
                rfl
              refine pure_ (i := 9) (N := some 103) (v := ?_) (a' := ?_) #[true, true, true, true, true, true, true, true, true, true, false, false, false, false, false, false, false, false, false, false, false, false, false, false, false, false, false, false, false, false, false, false, false, false, false, false, false, false, false, false, false, false, false, false, false, false] rfl rfl (by kernel_rfl) (fun _ _ _ h => h) (Or.inl ⟨by rfl, ?_⟩) ?_ ?_
              rotate_left
              · intro w'
                go_simp
                with_reducible rfl
              rotate_left
              · simp only [Act.put, List.setIfInBounds_toArray, List.set_cons_zero, List.set_cons_succ, i64_w, i32_w]
                rfl
              refine pure_ (i := 13) (N := some 107) (v := ?_) (a' := ?_) #[true, true, true, true, true, true, true, true, true, true, false, false, false, true, false, false, false, false, false, false, false, false, false, false, false, false, false, false, false, false, false, false, false, false, false, false, false, false, false, false, false, false, false, false, false, false] rfl rfl (by kernel_rfl) (fun _ _ _ h => h) (Or.inl ⟨by rfl, ?_⟩) ?_ ?_
              rotate_left
              · intro w'
                go_simp
                with_reducible rfl
              rotate_left
              · simp only [Act.put, List.setIfInBounds_toArray, List.set_cons_zero, List.set_cons_succ, i64_w, i32_w]
                rfl
              refine pure_ (i := 15) (N := some 109) (v := ?_) (a' := ?_) #[true, true, true, true, true, true, true, true, true, true, false, false, false, true, false, true, false, false, false, false, false, false, false, false, false, false, false, false, false, false, false, false, false, false, false, false, false, false, false, false, false, false, false, false, false, false] rfl rfl (by kernel_rfl) (fun _ _ _ h => h) (Or.inl ⟨by rfl, ?_⟩) ?_ ?_
              rotate_left
              · intro w'
                go_simp
                with_reducible rfl
              rotate_left
              · simp only [Act.put, List.setIfInBounds_toArray, List.set_cons_zero, List.set_cons_succ, i64_w, i32_w]
                rfl
              refine take_ (i := 10) (N := some 104) (v := ?_) (a' := ?_) #[true, true, true, true, true, true, true, true, true, true, true, false, false, true, false, true, false, false, false, false, false, false, false, false, false, false, false, false, false, false, false, false, false, false, false, false, false, false, false, false, false, false, false, false, false, false] rfl rfl (by kernel_rfl) (fun _ _ _ h => h) (Or.inl ⟨by rfl, ?_⟩) hHeld ?_ ?_
              rotate_left
              · rintro w' ⟨s0, s1, s2, s3, s4⟩
                go_simp
                with_reducible rfl
              rotate_left
              · simp only [Act.put, List.setIfInBounds_toArray, List.set_cons_zero, List.set_cons_succ, i64_w, i32_w]
                rfl
              refine pure_ (i := 11) (N := some 105) (v := ?_) (a' := ?_) #[true, true, true, true, true, true, true, true, true, true, true, true, false, true, false, true, false, false, false, false, false, false, false, false, false, false, false, false, false, false, false, false, false, false, false, false, false, false, false, false, false, false, false, false, false, false] rfl rfl (by kernel_rfl) (fun _ _ _ h => h) (Or.inl ⟨by rfl, ?_⟩) ?_ ?_
              rotate_left
              · intro w'
                go_simp
                with_reducible rfl
              rotate_left
              · simp only [Act.put, List.setIfInBounds_toArray, List.set_cons_zero, List.set_cons_succ, i64_w, i32_w]
                rfl
              refine take_ (i := 12) (N := some 106) (v := ?_) (a' := ?_) #[true, true, true, true, true, true, true, true, true, true, true, true, true, true, false, true, false, false, false, false, false, false, false, false, false, false, false, false, false, false, false, false, false, false, false, false, false, false, false, false, false, false, false, false, false, false] rfl rfl (by kernel_rfl) (fun _ _ _ h => h) (Or.inl ⟨by rfl, ?_⟩) hHeld ?_ ?_
              rotate_left
              · rintro w' ⟨s0, s1, s2, s3, s4⟩
                go_simp
                with_reducible rfl
              rotate_left
              · simp only [Act.put, List.setIfInBounds_toArray, List.set_cons_zero, List.set_cons_succ, i64_w, i32_w]
                rfl
              refine take_ (i := 14) (N := some 108) (v := ?_) (a' := ?_) #[true, true, true, true, true, true, true, true, true, true, true, true, true, true, true, true, false, false, false, false, false, false, false, false, false, false, false, false, false, false, false, false, false, false, false, false, false, false, false, false, false, false, false, false, false, false] rfl rfl (by kernel_rfl) (fun _ _ _ h => h) (Or.inl ⟨by rfl, ?_⟩) hHeld ?_ ?_
              rotate_left
              · rintro w' ⟨s0, s1, s2, s3, s4⟩
                go_simp
                with_reducible rfl
              rotate_left
              · simp only [Act.put, List.setIfInBounds_toArray, List.set_cons_zero, List.set_cons_succ, i64_w, i32_w]
                rfl
              refine pure_ (i := 16) (N := some 110) (v := ?_) (a' := ?_) #[true, true, true, true, true, true, true, true, true, true, true, true, true, true, true, true, true, false, false, false, false, false, false, false, false, false, false, false, false, false, false, false, false, false, false, false, false, false, false, false, false, false, false, false, false, false] rfl rfl (by kernel_rfl) (fun _ _ _ h => h) (Or.inl ⟨by rfl, ?_⟩) ?_ ?_
              rotate_left
              · intro w'
                go_simp
                with_reducible rfl
              rotate_left
              · simp only [Act.put, List.setIfInBounds_toArray, List.set_cons_zero, List.set_cons_succ, i64_w, i32_w]
                rfl
              refine pure_ (i := 17) (N := some 111) (v := ?_) (a' := ?_) #[true, true, true, true, true, true, true, true, true, true, true, true, true, true, true, true, true, true, false, false, false, false, false, false, false, false, false, false, false, false, false, false, false, false, false, false, false, false, false, false, false, false, false, false, false, false] rfl rfl (by kernel_rfl) (fun _ _ _ h => h) (Or.inl ⟨by rfl, ?_⟩) ?_ ?_
              rotate_left
              · intro w'
                go_simp
                with_reducible rfl
              rotate_left
              · simp only [Act.put, List.setIfInBounds_toArray, List.set_cons_zero, List.set_cons_succ, i64_w, i32_w]
                rfl
              refine take_ (i := 18) (N := some 112) (v := ?_) (a' := ?_) #[true, true, true, true, true, true, true, true, true, true, true, true, true, true, true, true, true, true, true, false, false, false, false, false, false, false, false, false, false, false, false, false, false, false, false, false, false, false, false, false, false, false, false, false, false, false] rfl rfl (by kernel_rfl) (fun _ _ _ h => h) (Or.inl ⟨by rfl, ?_⟩) hHeld ?_ ?_
              rotate_left
              · rintro w' ⟨s0, s1, s2, s3, s4⟩
                go_simp
                with_reducible rfl
              rotate_left
              · simp only [Act.put, List.setIfInBounds_toArray, List.set_cons_zero, List.set_cons_succ, i64_w, i32_w]
                rfl
              refine pure_ (i := 19) (N := some 113) (v := ?_) (a' := ?_) #[true, true, true, true, true, true, true, true, true, true, true, true, true, true, true, true, true, true, true, true, false, false, false, false, false, false, false, false, false, false, false, false, false, false, false, false, false, false, false, false, false, false, false, false, false, false] rfl rfl (by kernel_rfl) (fun _ _ _ h => h) (Or.inl ⟨by rfl, ?_⟩) ?_ ?_
              rotate_left
              · intro w'
                go_simp
                with_reducible rfl
              rotate_left
              · simp only [Act.put, List.setIfInBounds_toArray, List.set_cons_zero, List.set_cons_succ, i64_w, i32_w]
                rfl
              refine pure_ (i := 20) (N := some 114) (v := ?_) (a' := ?_) #[true, true, true, true, true, true, true, true, true, true, true, true, true, true, true, true, true, true, true, true, true, false, false, false, false, false, false, false, false, false, false, false, false, false, false, false, false, false, false, false, false, false, false, false, false, false] rfl rfl (by kernel_rfl) (fun _ _ _ h => h) (Or.inl ⟨by rfl, ?_⟩) ?_ ?_
              rotate_left
              · intro w'
                go_simp
                with_reducible rfl
              rotate_left
              · simp only [Act.put, List.setIfInBounds_toArray, List.set_cons_zero, List.set_cons_succ, i64_w, i32_w]
                rfl
              refine pure_ (i := 21) (N := some 115) (v := ?_) (a' := ?_) #[true, true, true, true, true, true, true, true, true, true, true, true, true, true, true, true, true, true, true, true, true, true, false, false, false, false, false, false, false, false, false, false, false, false, false, false, false, false, false, false, false, false, false, false, false, false] rfl rfl (by kernel_rfl) (fun _ _ _ h => h) (Or.inl ⟨by rfl, ?_⟩) ?_ ?_
              rotate_left
              · intro w'
                go_simp
                with_reducible rfl
              rotate_left
              · simp only [Act.put, List.setIfInBounds_toArray, List.set_cons_zero, List.set_cons_succ, i64_w, i32_w]
                rfl
              refine pure_ (i := 22) (N := some 116) (v := ?_) (a' := ?_) #[true, true, true, true, true, true, true, true, true, true, true, true, true, true, true, true, true, true, true, true, true, true, true, false, false, false, false, false, false, false, false, false, false, false, false, false, false, false, false, false, false, false, false, false, false, false] rfl rfl (by kernel_rfl) (fun _ _ _ h => h) (Or.inl ⟨by rfl, ?_⟩) ?_ ?_
              rotate_left
              · intro w'
                go_simp
                with_reducible rfl
              rotate_left
              · simp only [Act.put, List.setIfInBounds_toArray, List.set_cons_zero, List.set_cons_succ, i64_w, i32_w]
                rfl
              refine pure_ (i := 23) (N := some 117) (v := ?_) (a' := ?_) #[true, true, true, true, true, true, true, true, true, true, true, true, true, true, true, true, true, true, true, true, true, true, true, true, false, false, false, false, false, false, false, false, false, false, false, false, false, false, false, false, false, false, false, false, false, false] rfl rfl (by kernel_rfl) (fun _ _ _ h => h) (Or.inl ⟨by rfl, ?_⟩) ?_ ?_
              rotate_left
              · intro w'
                go_simp
                with_reducible rfl
              rotate_left
              · simp only [Act.put, List.setIfInBounds_toArray, List.set_cons_zero, List.set_cons_succ, i64_w, i32_w]
                rfl
              refine pure_ (i := 24) (N := some 118) (v := ?_) (a' := ?_) #[true, true, true, true, true, true, true, true, true, true, true, true, true, true, true, true, true, true, true, true, true, true, true, true, true, false, false, false, false, false, false, false, false, false, false, false, false, false, false, false, false, false, false, false, false, false] rfl rfl (by kernel_rfl) (fun _ _ _ h => h) (Or.inl ⟨by rfl, ?_⟩) ?_ ?_
              rotate_left
              · intro w'
                go_simp
                with_reducible rfl
              rotate_left
              · simp only [Act.put, List.setIfInBounds_toArray, List.set_cons_zero, List.set_cons_succ, i64_w, i32_w]
                rfl
              refine pure_ (i := 28) (N := some 122) (v := ?_) (a' := ?_) #[true, true, true, true, true, true, true, true, true, true, true, true, true, true, true, true, true, true, true, true, true, true, true, true, true, false, false, false, true, false, false, false, false, false, false, false, false, false, false, false, false, false, false, false, false, false] rfl rfl (by kernel_rfl) (fun _ _ _ h => h) (Or.inl ⟨by rfl, ?_⟩) ?_ ?_
              rotate_left
              · intro w'
                go_simp
                with_reducible rfl
              rotate_left
              · simp only [Act.put, List.setIfInBounds_toArray, List.set_cons_zero, List.set_cons_succ, i64_w, i32_w]
                rfl
              refine pure_ (i := 29) (N := some 123) (v := ?_) (a' := ?_) #[true, true, true, true, true, true, true, true, true, true, true, true, true, true, true, true, true, true, true, true, true, true, true, true, true, false, false, false, true, true, false, false, false, false, false, false, false, false, false, false, false, false, false, false, false, false] rfl rfl (by kernel_rfl) (fun _ _ _ h => h) (Or.inl ⟨by rfl, ?_⟩) ?_ ?_
              rotate_left
              · intro w'
                go_simp
                with_reducible rfl
              rotate_left
              · simp only [Act.put, List.setIfInBounds_toArray, List.set_cons_zero, List.set_cons_succ, i64_w, i32_w]
                rfl
              refine pure_ (i := 30) (N := some 124) (v := ?_) (a' := ?_) #[true, true, true, true, true, true, true, true, true, true, true, true, true, true, true, true, true, true, true, true, true, true, true, true, true, false, false, false, true, true, true, false, false, false, false, false, false, false, false, false, false, false, false, false, false, false] rfl rfl (by kernel_rfl) (fun _ _ _ h => h) (Or.inl ⟨by rfl, ?_⟩) ?_ ?_
              rotate_left
              · intro w'
                go_simp
                with_reducible rfl
              rotate_left
              · simp only [Act.put, List.setIfInBounds_toArray, List.set_cons_zero, List.set_cons_succ, i64_w, i32_w]
                rfl
              refine take_ (i := 25) (N := some 119) (v := ?_) (a' := ?_) #[true, true, true, true, true, true, true, true, true, true, true, true, true, true, true, true, true, true, true, true, true, true, true, true, true, true, false, false, true, true, true, false, false, false, false, false, false, false, false, false, false, false, false, false, false, false] rfl rfl (by kernel_rfl) (fun _ _ _ h => h) (Or.inl ⟨by rfl, ?_⟩) hHeld ?_ ?_
              rotate_left
              · rintro w' ⟨s0, s1, s2, s3, s4⟩
                go_simp
                with_reducible rfl
              rotate_left
              · simp only [Act.put, List.setIfInBounds_toArray, List.set_cons_zero, List.set_cons_succ, i64_w, i32_w]
                rfl
              refine pure_ (i := 26) (N := some 120) (v := ?_) (a' := ?_) #[true, true, true, true, true, true, true, true, true, true, true, true, true, true, true, true, true, true, true, true, true, true, true, true, true, true, true, false, true, true, true, false, false, false, false, false, false, false, false, false, false, false, false, false, false, false] rfl rfl (by kernel_rfl) (fun _ _ _ h => h) (Or.inl ⟨by rfl, ?_⟩) ?_ ?_
              rotate_left
              · intro w'
                go_simp
                with_reducible rfl
              rotate_left
              · simp only [Act.put, List.setIfInBounds_toArray, List.set_cons_zero, List.set_cons_succ, i64_w, i32_w]
                rfl
              refine take_ (i := 27) (N := some 121) (v := ?_) (a' := ?_) #[true, true, true, true, true, true, true, true, true, true, true, true, true, true, true, true, true, true, true, true, true, true, true, true, true, true, true, true, true, true, true, false, false, false, false, false, false, false, false, false, false, false, false, false, false, false] rfl rfl (by kernel_rfl) (fun _ _ _ h => h) (Or.inl ⟨by rfl, ?_⟩) hHeld ?_ ?_
              rotate_left
              · rintro w' ⟨s0, s1, s2, s3, s4⟩
                go_simp
                with_reducible rfl
              rotate_left
              · simp only [Act.put, List.setIfInBounds_toArray, List.set_cons_zero, List.set_cons_succ, i64_w, i32_w]
                rfl
              refine one_ (i := 31) (N := some 125) #[true, true, true, true, true, true, true, true, true, true, true, true, true, true, true, true, true, true, true, true, true, true, true, true, true, true, true, true, true, true, true, true, false, false, false, false, false, false, false, false, false, false, false, false, false, false] rfl rfl (by kernel_rfl) (by decide) (fun K hK => ?_)
              refine goes_ Try.func49 (by kernel_rfl) rfl #[.int .i64 y, .int .i64 0, .int .i64 (wrap64 ((vs.length : Int) - 1))] (by rfl) rfl rfl (by simp only [List.map_toArray, List.map_cons, List.map_nil]; rfl) ?_
              with_reducible refine (posserref03_In.calls y 0 (wrap64 ((vs.length : Int) - 1)) true _ HIN.out).mono ?_
              rintro e W8 ⟨rfl, ⟨nd, rfl⟩⟩
              have hb := pw_below_drewN (Below.refl W7.heap.size W7) nd
              replace hcw0 := (hb.cell (World.block_lt_of_cell? _ _ hcw0)).trans hcw0
              replace hcx0 := (hb.cell (World.block_lt_of_cell? _ _ hcx0)).trans hcx0
              replace hcg1_1 := (hb.cell (World.block_lt_of_cell? _ _ hcg1_1)).trans hcg1_1
              replace hcp1 := (hb.cell (World.block_lt_of_cell? _ _ hcp1)).trans hcp1
              replace hcv0 := (hb.cell (World.block_lt_of_cell? _ _ hcv0)).trans hcv0
              have n0_ := Aside0.mk (below_step HB1.out hb)
              clear HB1
              have HB1 := n0_
              clear n0_
              clear hb
              generalize W7.drewN nd = W8 at *
              refine ⟨_, rfl, ?_⟩
              refine hK.out _ _ ⟨hcw0, hcx0, hcg1_1, hcp1, hcv0⟩ (fun hHeld => ?_)
              clear hK K
              refine norm_ (a' := ?_) ?_ ?_
              rotate_left
              · show Act.put _ (some 125) _ = _
                simp only [Act.put, List.setIfInBounds_toArray, List.set_cons_zero, List.set_cons_succ, i64_w, i32_w]
                rfl
              refine pure_ (i := 32) (N := some 126) (v := ?_) (a' := ?_) #[true, true, true, true, true, true, true, true, true, true, true, true, true, true, true, true, true, true, true, true, true, true, true, true, true, true, true, true, true, true, true, true, true, false, false, false, false, false, false, false, false, false, false, false, false, false] rfl rfl (by kernel_rfl) (fun _ _ _ h => h) (Or.inl ⟨by rfl, ?_⟩) ?_ ?_
              rotate_left
              · intro w'
                go_simp
                with_reducible rfl
              rotate_left
              · simp only [Act.put, List.setIfInBounds_toArray, List.set_cons_zero, List.set_cons_succ, i64_w, i32_w]
                rfl
              refine pure_ (i := 33) (N := some 127) (v := ?_) (a' := ?_) #[true, true, true, true, true, true, true, true, true, true, true, true, true, true, true, true, true, true, true, true, true, true, true, true, true, true, true, true, true, true, true, true, true, true, false, false, false, false, false, false, false, false, false, false, false, false] rfl rfl (by kernel_rfl) (fun _ _ _ h => h) (Or.inl ⟨by rfl, ?_⟩) ?_ ?_
              rotate_left
              · intro w'
                go_simp
                with_reducible rfl
              rotate_left
              · simp only [Act.put, List.setIfInBounds_toArray, List.set_cons_zero, List.set_cons_succ, i64_w, i32_w]
                rfl
              refine pure_ (i := 34) (N := some 128) (v := ?_) (a' := ?_) #[true, true, true, true, true, true, true, true, true, true, true, true, true, true, true, true, true, true, true, true, true, true, true, true, true, true, true, true, true, true, true, true, true, true, true, false, false, false, false, false, false, false, false, false, false, false] rfl rfl (by kernel_rfl) (fun _ _ _ h => h) (Or.inl ⟨by rfl, ?_⟩) ?_ ?_
              rotate_left
              · intro w'
                go_simp
                with_reducible rfl
              rotate_left
              · simp only [Act.put, List.setIfInBounds_toArray, List.set_cons_zero, List.set_cons_succ, i64_w, i32_w]
                rfl
              refine pure_ (i := 35) (N := some 129) (v := ?_) (a' := ?_) #[true, true, true, true, true, true, true, true, true, true, true, true, true, true, true, true, true, true, true, true, true, true, true, true, true, true, true, true, true, true, true, true, true, true, true, true, false, false, false, false, false, false, false, false, false, false] rfl rfl (by kernel_rfl) (fun _ _ _ h => h) (Or.inl ⟨by rfl, ?_⟩) ?_ ?_
              rotate_left
              · intro w'
                go_simp
                with_reducible rfl
              rotate_left
              · simp only [Act.put, List.setIfInBounds_toArray, List.set_cons_zero, List.set_cons_succ, i64_w, i32_w]
                rfl
              refine pure_ (i := 36) (N := some 130) (v := ?_) (a' := ?_) #[true, true, true, true, true, true, true, true, true, true, true, true, true, true, true, true, true, true, true, true, true, true, true, true, true, true, true, true, true, true, true, true, true, true, true, true, true, false, false, false, false, false, false, false, false, false] rfl rfl (by kernel_rfl) (fun _ _ _ h => h) (Or.inl ⟨by rfl, ?_⟩) ?_ ?_
              rotate_left
              · intro w'
                go_simp
                with_reducible rfl
              rotate_left
              · simp only [Act.put, List.setIfInBounds_toArray, List.set_cons_zero, List.set_cons_succ, i64_w, i32_w]
                rfl
              refine pure_ (i := 37) (N := some 131) (v := ?_) (a' := ?_) #[true, true, true, true, true, true, true, true, true, true, true, true, true, true, true, true, true, true, true, true, true, true, true, true, true, true, true, true, true, true, true, true, true, true, true, true, true, true, false, false, false, false, false, false, false, false] rfl rfl (by kernel_rfl) (fun _ _ _ h => h) (Or.inl ⟨by rfl, ?_⟩) ?_ ?_
              rotate_left
              · intro w'
                go_simp
                with_reducible rfl
              rotate_left
              · simp only [Act.put, List.setIfInBounds_toArray, List.set_cons_zero, List.set_cons_succ, i64_w, i32_w]
                rfl
              refine take_ (i := 38) (N := some 132) (v := ?_) (a' := ?_) #[true, true, true, true, true, true, true, true, true, true, true, true, true, true, true, true, true, true, true, true, true, true, true, true, true, true, true, true, true, true, true, true, true, true, true, true, true, true, true, false, false, false, false, false, false, false] rfl rfl (by kernel_rfl) (fun _ _ _ h => h) (Or.inl ⟨by rfl, ?_⟩) hHeld ?_ ?_
              rotate_left
              · rintro w' ⟨s0, s1, s2, s3, s4⟩
                go_simp
                with_reducible rfl
              rotate_left
              · simp only [Act.put, List.setIfInBounds_toArray, List.set_cons_zero, List.set_cons_succ, i64_w, i32_w]
                rfl
              refine pure_ (i := 39) (N := some 133) (v := ?_) (a' := ?_) #[true, true, true, true, true, true, true, true, true, true, true, true, true, true, true, true, true, true, true, true, true, true, true, true, true, true, true, true, true, true, true, true, true, true, true, true, true, true, true, true, false, false, false, false, false, false] rfl rfl (by kernel_rfl) (fun _ _ _ h => h) (Or.inl ⟨by rfl, ?_⟩) ?_ ?_
              rotate_left
              · intro w'
                go_simp
                with_reducible rfl
              rotate_left
              · simp only [Act.put, List.setIfInBounds_toArray, List.set_cons_zero, List.set_cons_succ, i64_w, i32_w]
                rfl
              refine take_ (i := 40) (N := some 134) (v := ?_) (a' := ?_) #[true, true, true, true, true, true, true, true, true, true, true, true, true, true, true, true, true, true, true, true, true, true, true, true, true, true, true, true, true, true, true, true, true, true, true, true, true, true, true, true, true, false, false, false, false, false] rfl rfl (by kernel_rfl) (fun _ _ _ h => h) (Or.inl ⟨by rfl, ?_⟩) hHeld ?_ ?_
              rotate_left
              · rintro w' ⟨s0, s1, s2, s3, s4⟩
                go_simp
                with_reducible rfl
              rotate_left
              · simp only [Act.put, List.setIfInBounds_toArray, List.set_cons_zero, List.set_cons_succ, i64_w, i32_w]
                rfl
              refine pure_ (i := 41) (N := some 135) (v := ?_) (a' := ?_) #[true, true, true, true, true, true, true, true, true, true, true, true, true, true, true, true, true, true, true, true, true, true, true, true, true, true, true, true, true, true, true, true, true, true, true, true, true, true, true, true, true, true, false, false, false, false] rfl rfl (by kernel_rfl) (fun _ _ _ h => h) (Or.inl ⟨by rfl, ?_⟩) ?_ ?_
              rotate_left
              · intro w'
                go_simp
                with_reducible rfl
              rotate_left
              · simp only [Act.put, List.setIfInBounds_toArray, List.set_cons_zero, List.set_cons_succ, i64_w, i32_w]
                rfl
              refine take_ (i := 42) (N := some 136) (v := ?_) (a' := ?_) #[true, true, true, true, true, true, true, true, true, true, true, true, true, true, true, true, true, true, true, true, true, true, true, true, true, true, true, true, true, true, true, true, true, true, true, true, true, true, true, true, true, true, true, false, false, false] rfl rfl (by kernel_rfl) (fun _ _ _ h => h) (Or.inl ⟨by rfl, ?_⟩) hHeld ?_ ?_
              rotate_left
              · rintro w' ⟨s0, s1, s2, s3, s4⟩
                go_simp
                with_reducible rfl
              rotate_left
              · simp only [Act.put, List.setIfInBounds_toArray, List.set_cons_zero, List.set_cons_succ, i64_w, i32_w]
                rfl
              refine pure_ (i := 43) (N := some 137) (v := ?_) (a' := ?_) #[true, true, true, true, true, true, true, true, true, true, true, true, true, true, true, true, true, true, true, true, true, true, true, true, true, true, true, true, true, true, true, true, true, true, true, true, true, true, true, true, true, true, true, true, false, false] rfl rfl (by kernel_rfl) (fun _ _ _ h => h) (Or.inl ⟨by rfl, ?_⟩) ?_ ?_
              rotate_left
              · intro w'
                go_simp
                with_reducible rfl
              rotate_left
              · simp only [Act.put, List.setIfInBounds_toArray, List.set_cons_zero, List.set_cons_succ, i64_w, i32_w]
                rfl
              refine pure_ (i := 44) (N := some 138) (v := ?_) (a' := ?_) #[true, true, true, true, true, true, true, true, true, true, true, true, true, true, true, true, true, true, true, true, true, true, true, true, true, true, true, true, true, true, true, true, true, true, true, true, true, true, true, true, true, true, true, true, true, false] rfl rfl (by kernel_rfl) (fun _ _ _ h => h) (Or.inl ⟨by rfl, ?_⟩) ?_ ?_
              rotate_left
              · intro w'
                go_simp
                with_reducible rfl
              rotate_left
              · simp only [Act.put, List.setIfInBounds_toArray, List.set_cons_zero, List.set_cons_succ, i64_w, i32_w]
                rfl
              refine pure_ (i := 45) (N := some 139) (v := ?_) (a' := ?_) #[true, true, true, true, true, true, true, true, true, true, true, true, true, true, true, true, true, true, true, true, true, true, true, true, true, true, true, true, true, true, true, true, true, true, true, true, true, true, true, true, true, true, true, true, true, true] rfl rfl (by kernel_rfl) (fun _ _ _ h => h) (Or.inl ⟨by rfl, ?_⟩) ?_ ?_
              rotate_left
              · intro w'
                go_simp
                with_reducible rfl
              rotate_left
              · simp only [Act.put, List.setIfInBounds_toArray, List.set_cons_zero, List.set_cons_succ, i64_w, i32_w]
                rfl
              refine done_ (by kernel_rfl) ?_
              go_wp2
              go_roundg k1
              case measure => omega
              case rel => exact ⟨m + 1, by go_num, ⟨by have := HM.out; omega⟩, HB1⟩
          · have h1d : ((x.length : Int) == 1) = false := by simpa using h1
            clear HP2 lw1 gw1 h1
            go_wp2
            refine start_ (n := 46) (S := fun w' => w'.cell? (adw.add m) = some (.slice Aw x.length cw)) (ds := []) #[false, false, false, false, false, false, false, false, false, false, false, false, false, false, false, false, false, false, false, false, false, false, false, false, false, false, false, false, false, false, false, false, false, false, false, false, false, false, false, false, false, false, false, false, false, false] (by kernel_rfl) rfl rfl (hcw0) (fun hHeld => ?_)
            have hb := below_drew1 (Below.refl wr.heap.size wr)
            have n0_ := Aside0.mk (below_step HB1.out hb)
            clear HB1
            have HB1 := n0_
            clear n0_
            replace hcw0 := (hb.cell (World.block_lt_of_cell? _ _ hcw0)).trans hcw0
            generalize wr.drew = W7 at *
            clear hb
            refine pure_ (i := 0) (N := some 94) (v := ?_) (a' := ?_) #[true, false, false, false, false, false, false, false, false, false, false, false, false, false, false, false, false, false, false, false, false, false, false, false, false, false, false, false, false, false, false, false, false, false, false, false, false, false, false, false, false, false, false, false, false, false] rfl rfl (by kernel_rfl) (fun _ _ _ h => h) (Or.inl ⟨by rfl, ?_⟩) ?_ ?_
            rotate_left
            · intro w'
              go_simp
              with_reducible rfl
            rotate_left
            · simp only [Act.put, List.setIfInBounds_toArray, List.set_cons_zero, List.set_cons_succ, i64_w, i32_w]
              rfl
            refine pure_ (i := 1) (N := some 95) (v := ?_) (a' := ?_) #[true, true, false, false, false, false, false, false, false, false, false, false, false, false, false, false, false, false, false, false, false, false, false, false, false, false, false, false, false, false, false, false, false, false, false, false, false, false, false, false, false, false, false, false, false, false] rfl rfl (by kernel_rfl) (fun _ _ _ h => h) (Or.inl ⟨by rfl, ?_⟩) ?_ ?_
            rotate_left
            · intro w'
              go_simp
              with_reducible rfl
            rotate_left
            · simp only [Act.put, List.setIfInBounds_toArray, List.set_cons_zero, List.set_cons_succ, i64_w, i32_w]
              rfl
            refine pure_ (i := 2) (N := some 96) (v := ?_) (a' := ?_) #[true, true, true, false, false, false, false, false, false, false, false, false, false, false, false, false, false, false, false, false, false, false, false, false, false, false, false, false, false, false, false, false, false, false, false, false, false, false, false, false, false, false, false, false, false, false] rfl rfl (by kernel_rfl) (fun _ _ _ h => h) (Or.inl ⟨by rfl, ?_⟩) ?_ ?_
            rotate_left
            · intro w'
              go_simp
              with_reducible rfl
            rotate_left
            · simp only [Act.put, List.setIfInBounds_toArray, List.set_cons_zero, List.set_cons_succ, i64_w, i32_w]
              rfl
            refine take_ (i := 3) (N := some 97) (v := ?_) (a' := ?_) #[true, true, true, true, false, false, false, false, false, false, false, false, false, false, false, false, false, false, false, false, false, false, false, false, false, false, false, false, false, false, false, false, false, false, false, false, false, false, false, false, false, false, false, false, false, false] rfl rfl (by kernel_rfl) (fun _ _ _ h => h) (Or.inl ⟨by rfl, ?_⟩) hHeld ?_ ?_
            rotate_left
            · intro w' s0
              go_simp
              with_reducible rfl
            rotate_left
            · simp only [Act.put, List.setIfInBounds_toArray, List.set_cons_zero, List.set_cons_succ, i64_w, i32_w]
              rfl
            refine pure_ (i := 4) (N := some 98) (v := ?_) (a' := ?_) #[true, true, true, true, true, false, false, false, false, false, false, false, false, false, false, false, false, false, false, false, false, false, false, false, false, false, false, false, false, false, false, false, false, false, false, false, false, false, false, false, false, false, false, false, false, false] rfl rfl (by kernel_rfl) (fun _ _ _ h => h) (Or.inl ⟨by rfl, ?_⟩) ?_ ?_
            rotate_left
            · intro w'
              go_simp
              with_reducible rfl
            rotate_left
            · simp only [Act.put, List.setIfInBounds_toArray, List.set_cons_zero, List.set_cons_succ, i64_w, i32_w]
              rfl
            refine pure_ (i := 5) (N := some 99) (v := ?_) (a' := ?_) #[true, true, true, true, true, true, false, false, false, false, false, false, false, false, false, false, false, false, false, false, false, false, false, false, false, false, false, false, false, false, false, false, false, false, false, false, false, false, false, false, false, false, false, false, false, false] rfl rfl (by kernel_rfl) (fun _ _ _ h => h) (Or.inl ⟨by rfl, ?_⟩) ?_ ?_
            rotate_left
            · intro w'
              go_simp
              with_reducible rfl
            rotate_left
            · simp only [Act.put, List.setIfInBounds_toArray, List.set_cons_zero, List.set_cons_succ, i64_w, i32_w]
              rfl
            refine pure_ (i := 6) (N := some 100) (v := ?_) (a' := ?_) #[true, true, true, true, true, true, true, false, false, false, false, false, false, false, false, false, false, false, false, false, false, false, false, false, false, false, false, false, false, false, false, false, false, false, false, false, false, false, false, false, false, false, false, false, false, false] rfl rfl (by kernel_rfl) (fun _ _ _ h => h) (Or.inl ⟨by rfl, ?_⟩) ?_ ?_
            rotate_left
            · intro w'
              go_simp
              with_reducible rfl
            rotate_left
            · simp only [Act.put, List.setIfInBounds_toArray, List.set_cons_zero, List.set_cons_succ, i64_w, i32_w]
              rfl
            refine pure_ (i := 7) (N := some 101) (v := undef) (a' := ?_) #[true, true, true, true, true, true, true, true, false, false, false, false, false, false, false, false, false, false, false, false, false, false, false, false, false, false, false, false, false, false, false, false, false, false, false, false, false, false, false, false, false, false, false, false, false, false] rfl rfl (by kernel_rfl) (fun _ _ _ h => h) (Or.inr ⟨by rfl, rfl⟩) ?_ ?_
            rotate_left
            · simp only [Act.put, List.setIfInBounds_toArray, List.set_cons_zero, List.set_cons_succ, i64_w, i32_w]
              rfl
            refine pure_ (i := 8) (N := some 102) (v := undef) (a' := ?_) #[true, true, true, true, true, true, true, true, true, false, false, false, false, false, false, false, false, false, false, false, false, false, false, false, false, false, false, false, false, false, false, false, false, false, false, false, false, false, false, false, false, false, false, false, false, false] rfl rfl (by kernel_rfl) (fun _ _ _ h => h) (Or.inr ⟨by rfl, rfl⟩) ?_ ?_
            rotate_left
            · simp only [Act.put, List.setIfInBounds_toArray, List.set_cons_zero, List.set_cons_succ, i64_w, i32_w]
              rfl
            refine pure_ (i := 9) (N := some 103) (v := undef) (a' := ?_) #[true, true, true, true, true, true, true, true, true, true, false, false, false, false, false, false, false, false, false, false, false, false, false, false, false, false, false, false, false, false, false, false, false, false, false, false, false, false, false, false, false, false, false, false, false, false] rfl rfl (by kernel_rfl) (fun _ _ _ h => h) (Or.inr ⟨by rfl, rfl⟩) ?_ ?_
            rotate_left
            · simp only [Act.put, List.setIfInBounds_toArray, List.set_cons_zero, List.set_cons_succ, i64_w, i32_w]
              rfl
            refine pure_ (i := 10) (N := some 104) (v := undef) (a' := ?_) #[true, true, true, true, true, true, true, true, true, true, true, false, false, false, false, false, false, false, false, false, false, false, false, false, false, false, false, false, false, false, false, false, false, false, false, false, false, false, false, false, false, false, false, false, false, false] rfl rfl (by kernel_rfl) (fun _ _ _ h => h) (Or.inr ⟨by rfl, rfl⟩) ?_ ?_
            rotate_left
            · simp only [Act.put, List.setIfInBounds_toArray, List.set_cons_zero, List.set_cons_succ, i64_w, i32_w]
              rfl
            refine pure_ (i := 11) (N := some 105) (v := undef) (a' := ?_) #[true, true, true, true, true, true, true, true, true, true, true, true, false, false, false, false, false, false, false, false, false, false, false, false, false, false, false, false, false, false, false, false, false, false, false, false, false, false, false, false, false, false, false, false, false, false] rfl rfl (by kernel_rfl) (fun _ _ _ h => h) (Or.inr ⟨by rfl, rfl⟩) ?_ ?_
            rotate_left
            · simp only [Act.put, List.setIfInBounds_toArray, List.set_cons_zero, List.set_cons_succ, i64_w, i32_w]
              rfl
            refine pure_ (i := 12) (N := some 106) (v := undef) (a' := ?_) #[true, true, true, true, true, true, true, true, true, true, true, true, true, false, false, false, false, false, false, false, false, false, false, false, false, false, false, false, false, false, false, false, false, false, false, false, false, false, false, false, false, false, false, false, false, false] rfl rfl (by kernel_rfl) (fun _ _ _ h => h) (Or.inr ⟨by rfl, rfl⟩) ?_ ?_
            rotate_left
            · simp only [Act.put, List.setIfInBounds_toArray, List.set_cons_zero, List.set_cons_succ, i64_w, i32_w]
              rfl
            refine pure_ (i := 13) (N := some 107) (v := undef) (a' := ?_) #[true, true, true, true, true, true, true, true, true, true, true, true, true, true, false, false, false, false, false, false, false, false, false, false, false, false, false, false, false, false, false, false, false, false, false, false, false, false, false, false, false, false, false, false, false, false] rfl rfl (by kernel_rfl) (fun _ _ _ h => h) (Or.inr ⟨by rfl, rfl⟩) ?_ ?_
            rotate_left
            · simp only [Act.put, List.setIfInBounds_toArray, List.set_cons_zero, List.set_cons_succ, i64_w, i32_w]
              rfl
            refine pure_ (i := 14) (N := some 108) (v := undef) (a' := ?_) #[true, true, true, true, true, true, true, true, true, true, true, true, true, true, true, false, false, false, false, false, false, false, false, false, false, false, false, false, false, false, false, false, false, false, false, false, false, false, false, false, false, false, false, false, false, false] rfl rfl (by kernel_rfl) (fun _ _ _ h => h) (Or.inr ⟨by rfl, rfl⟩) ?_ ?_
            rotate_left
            · simp only [Act.put, List.setIfInBounds_toArray, List.set_cons_zero, List.set_cons_succ, i64_w, i32_w]
              rfl
            refine pure_ (i := 15) (N := some 109) (v := undef) (a' := ?_) #[true, true, true, true, true, true, true, true, true, true, true, true, true, true, true, true, false, false, false, false, false, false, false, false, false, false, false, false, false, false, false, false, false, false, false, false, false, false, false, false, false, false, false, false, false, false] rfl rfl (by kernel_rfl) (fun _ _ _ h => h) (Or.inr ⟨by rfl, rfl⟩) ?_ ?_
            rotate_left
            · simp only [Act.put, List.setIfInBounds_toArray, List.set_cons_zero, List.set_cons_succ, i64_w, i32_w]
              rfl
            refine pure_ (i := 16) (N := some 110) (v := undef) (a' := ?_) #[true, true, true, true, true, true, true, true, true, true, true, true, true, true, true, true, true, false, false, false, false, false, false, false, false, false, false, false, false, false, false, false, false, false, false, false, false, false, false, false, false, false, false, false, false, false] rfl rfl (by kernel_rfl) (fun _ _ _ h => h) (Or.inr ⟨by rfl, rfl⟩) ?_ ?_
            rotate_left
            · simp only [Act.put, List.setIfInBounds_toArray, List.set_cons_zero, List.set_cons_succ, i64_w, i32_w]
              rfl
            refine pure_ (i := 17) (N := some 111) (v := undef) (a' := ?_) #[true, true, true, true, true, true, true, true, true, true, true, true, true, true, true, true, true, true, false, false, false, false, false, false, false, false, false, false, false, false, false, false, false, false, false, false, false, false, false, false, false, false, false, false, false, false] rfl rfl (by kernel_rfl) (fun _ _ _ h => h) (Or.inr ⟨by rfl, rfl⟩) ?_ ?_
            rotate_left
            · simp only [Act.put, List.setIfInBounds_toArray, List.set_cons_zero, List.set_cons_succ, i64_w, i32_w]
              rfl
            refine pure_ (i := 18) (N := some 112) (v := undef) (a' := ?_) #[true, true, true, true, true, true, true, true, true, true, true, true, true, true, true, true, true, true, true, false, false, false, false, false, false, false, false, false, false, false, false, false, false, false, false, false, false, false, false, false, false, false, false, false, false, false] rfl rfl (by kernel_rfl) (fun _ _ _ h => h) (Or.inr ⟨by rfl, rfl⟩) ?_ ?_
            rotate_left
            · simp only [Act.put, List.setIfInBounds_toArray, List.set_cons_zero, List.set_cons_succ, i64_w, i32_w]
              rfl
            refine pure_ (i := 19) (N := some 113) (v := undef) (a' := ?_) #[true, true, true, true, true, true, true, true, true, true, true, true, true, true, true, true, true, true, true, true, false, false, false, false, false, false, false, false, false, false, false, false, false, false, false, false, false, false, false, false, false, false, false, false, false, false] rfl rfl (by kernel_rfl) (fun _ _ _ h => h) (Or.inr ⟨by rfl, rfl⟩) ?_ ?_
            rotate_left
            · simp only [Act.put, List.setIfInBounds_toArray, List.set_cons_zero, List.set_cons_succ, i64_w, i32_w]
              rfl
            refine pure_ (i := 20) (N := some 114) (v := ?_) (a' := ?_) #[true, true, true, true, true, true, true, true, true, true, true, true, true, true, true, true, true, true, true, true, true, false, false, false, false, false, false, false, false, false, false, false, false, false, false, false, false, false, false, false, false, false, false, false, false, false] rfl rfl (by kernel_rfl) (fun _ _ _ h => h) (Or.inl ⟨by rfl, ?_⟩) ?_ ?_
            rotate_left
            · intro w'
              go_simp
              with_reducible rfl
            rotate_left
            · simp only [Act.put, List.setIfInBounds_toArray, List.set_cons_zero, List.set_cons_succ, i64_w, i32_w]
              rfl
            refine pure_ (i := 21) (N := some 115) (v := ?_) (a' := ?_) #[true, true, true, true, true, true, true, true, true, true, true, true, true, true, true, true, true, true, true, true, true, true, false, false, false, false, false, false, false, false, false, false, false, false, false, false, false, false, false, false, false, false, false, false, false, false] rfl rfl (by kernel_rfl) (fun _ _ _ h => h) (Or.inl ⟨by rfl, ?_⟩) ?_ ?_
            rotate_left
            · intro w'
              go_simp
              with_reducible rfl
            rotate_left
            · simp only [Act.put, List.setIfInBounds_toArray, List.set_cons_zero, List.set_cons_succ, i64_w, i32_w]
              rfl
            refine pure_ (i := 22) (N := some 116) (v := undef) (a' := ?_) #[true, true, true, true, true, true, true, true, true, true, true, true, true, true, true, true, true, true, true, true, true, true, true, false, false, false, false, false, false, false, false, false, false, false, false, false, false, false, false, false, false, false, false, false, false, false] rfl rfl (by kernel_rfl) (fun _ _ _ h => h) (Or.inr ⟨by rfl, rfl⟩) ?_ ?_
            rotate_left
            · simp only [Act.put, List.setIfInBounds_toArray, List.set_cons_zero, List.set_cons_succ, i64_w, i32_w]
              rfl
            refine pure_ (i := 23) (N := some 117) (v := undef) (a' := ?_) #[true, true, true, true, true, true, true, true, true, true, true, true, true, true, true, true, true, true, true, true, true, true, true, true, false, false, false, false, false, false, false, false, false, false, false, false, false, false, false, false, false, false, false, false, false, false] rfl rfl (by kernel_rfl) (fun _ _ _ h => h) (Or.inr ⟨by rfl, rfl⟩) ?_ ?_
            rotate_left
            · simp only [Act.put, List.setIfInBounds_toArray, List.set_cons_zero, List.set_cons_succ, i64_w, i32_w]
              rfl
            refine pure_ (i := 24) (N := some 118) (v := undef) (a' := ?_) #[true, true, true, true, true, true, true, true, true, true, true, true, true, true, true, true, true, true, true, true, true, true, true, true, true, false, false, false, false, false, false, false, false, false, false, false, false, false, false, false, false, false, false, false, false, false] rfl rfl (by kernel_rfl) (fun _ _ _ h => h) (Or.inr ⟨by rfl, rfl⟩) ?_ ?_
            rotate_left
            · simp only [Act.put, List.setIfInBounds_toArray, List.set_cons_zero, List.set_cons_succ, i64_w, i32_w]
              rfl
            refine pure_ (i := 25) (N := some 119) (v := undef) (a' := ?_) #[true, true, true, true, true, true, true, true, true, true, true, true, true, true, true, true, true, true, true, true, true, true, true, true, true, true, false, false, false, false, false, false, false, false, false, false, false, false, false, false, false, false, false, false, false, false] rfl rfl (by kernel_rfl) (fun _ _ _ h => h) (Or.inr ⟨by rfl, rfl⟩) ?_ ?_
            rotate_left
            · simp only [Act.put, List.setIfInBounds_toArray, List.set_cons_zero, List.set_cons_succ, i64_w, i32_w]
              rfl
            refine pure_ (i := 26) (N := some 120) (v := undef) (a' := ?_) #[true, true, true, true, true, true, true, true, true, true, true, true, true, true, true, true, true, true, true, true, true, true, true, true, true, true, true, false, false, false, false, false, false, false, false, false, false, false, false, false, false, false, false, false, false, false] rfl rfl (by kernel_rfl) (fun _ _ _ h => h) (Or.inr ⟨by rfl, rfl⟩) ?_ ?_
            rotate_left
            · simp only [Act.put, List.setIfInBounds_toArray, List.set_cons_zero, List.set_cons_succ, i64_w, i32_w]
              rfl
            refine pure_ (i := 27) (N := some 121) (v := undef) (a' := ?_) #[true, true, true, true, true, true, true, true, true, true, true, true, true, true, true, true, true, true, true, true, true, true, true, true, true, true, true, true, false, false, false, false, false, false, false, false, false, false, false, false, false, false, false, false, false, false] rfl rfl (by kernel_rfl) (fun _ _ _ h => h) (Or.inr ⟨by rfl, rfl⟩) ?_ ?_
            rotate_left
            · simp only [Act.put, List.setIfInBounds_toArray, List.set_cons_zero, List.set_cons_succ, i64_w, i32_w]
              rfl
            refine pure_ (i := 28) (N := some 122) (v := undef) (a' := ?_) #[true, true, true, true, true, true, true, true, true, true, true, true, true, true, true, true, true, true, true, true, true, true, true, true, true, true, true, true, true, false, false, false, false, false, false, false, false, false, false, false, false, false, false, false, false, false] rfl rfl (by kernel_rfl) (fun _ _ _ h => h) (Or.inr ⟨by rfl, rfl⟩) ?_ ?_
            rotate_left
            · simp only [Act.put, List.setIfInBounds_toArray, List.set_cons_zero, List.set_cons_succ, i64_w, i32_w]
              rfl
            refine pure_ (i := 29) (N := some 123) (v := undef) (a' := ?_) #[true, true, true, true, true, true, true, true, true, true, true, true, true, true, true, true, true, true, true, true, true, true, true, true, true, true, true, true, true, true, false, false, false, false, false, false, false, false, false, false, false, false, false, false, false, false] rfl rfl (by kernel_rfl) (fun _ _ _ h => h) (Or.inr ⟨by rfl, rfl⟩) ?_ ?_
            rotate_left
            · simp only [Act.put, List.setIfInBounds_toArray, List.set_cons_zero, List.set_cons_succ, i64_w, i32_w]
              rfl
            refine pure_ (i := 30) (N := some 124) (v := undef) (a' := ?_) #[true, true, true, true, true, true, true, true, true, true, true, true, true, true, true, true, true, true, true, true, true, true, true, true, true, true, true, true, true, true, true, false, false, false, false, false, false, false, false, false, false, false, false, false, false, false] rfl rfl (by kernel_rfl) (fun _ _ _ h => h) (Or.inr ⟨by rfl, rfl⟩) ?_ ?_
            rotate_left
            · simp only [Act.put, List.setIfInBounds_toArray, List.set_cons_zero, List.set_cons_succ, i64_w, i32_w]
              rfl
            refine pure_ (i := 31) (N := some 125) (v := undef) (a' := ?_) #[true, true, true, true, true, true, true, true, true, true, true, true, true, true, true, true, true, true, true, true, true, true, true, true, true, true, true, true, true, true, true, true, false, false, false, false, false, false, false, false, false, false, false, false, false, false] rfl rfl (by kernel_rfl) (fun _ _ _ h => h) (Or.inr ⟨by rfl, rfl⟩) ?_ ?_
            rotate_left
            · simp only [Act.put, List.setIfInBounds_toArray, List.set_cons_zero, List.set_cons_succ, i64_w, i32_w]
              rfl
            refine pure_ (i := 32) (N := some 126) (v := undef) (a' := ?_) #[true, true, true, true, true, true, true, true, true, true, true, true, true, true, true, true, true, true, true, true, true, true, true, true, true, true, true, true, true, true, true, true, true, false, false, false, false, false, false, false, false, false, false, false, false, false] rfl rfl (by kernel_rfl) (fun _ _ _ h => h) (Or.inr ⟨by rfl, rfl⟩) ?_ ?_
            rotate_left
            · simp only [Act.put, List.setIfInBounds_toArray, List.set_cons_zero, List.set_cons_succ, i64_w, i32_w]
              rfl
            refine pure_ (i := 33) (N := some 127) (v := undef) (a' := ?_) #[true, true, true, true, true, true, true, true, true, true, true, true, true, true, true, true, true, true, true, true, true, true, true, true, true, true, true, true, true, true, true, true, true, true, false, false, false, false, false, false, false, false, false, false, false, false] rfl rfl (by kernel_rfl) (fun _ _ _ h => h) (Or.inr ⟨by rfl, rfl⟩) ?_ ?_
            rotate_left
            · simp only [Act.put, List.setIfInBounds_toArray, List.set_cons_zero, List.set_cons_succ, i64_w, i32_w]
              rfl
            refine pure_ (i := 34) (N := some 128) (v := undef) (a' := ?_) #[true, true, true, true, true, true, true, true, true, true, true, true, true, true, true, true, true, true, true, true, true, true, true, true, true, true, true, true, true, true, true, true, true, true, true, false, false, false, false, false, false, false, false, false, false, false] rfl rfl (by kernel_rfl) (fun _ _ _ h => h) (Or.inr ⟨by rfl, rfl⟩) ?_ ?_
            rotate_left
            · simp only [Act.put, List.setIfInBounds_toArray, List.set_cons_zero, List.set_cons_succ, i64_w, i32_w]
              rfl
            refine pure_ (i := 35) (N := some 129) (v := undef) (a' := ?_) #[true, true, true, true, true, true, true, true, true, true, true, true, true, true, true, true, true, true, true, true, true, true, true, true, true, true, true, true, true, true, true, true, true, true, true, true, false, false, false, false, false, false, false, false, false, false] rfl rfl (by kernel_rfl) (fun _ _ _ h => h) (Or.inr ⟨by rfl, rfl⟩) ?_ ?_
            rotate_left
            · simp only [Act.put, List.setIfInBounds_toArray, List.set_cons_zero, List.set_cons_succ, i64_w, i32_w]
              rfl
            refine pure_ (i := 36) (N := some 130) (v := undef) (a' := ?_) #[true, true, true, true, true, true, true, true, true, true, true, true, true, true, true, true, true, true, true, true, true, true, true, true, true, true, true, true, true, true, true, true, true, true, true, true, true, false, false, false, false, false, false, false, false, false] rfl rfl (by kernel_rfl) (fun _ _ _ h => h) (Or.inr ⟨by rfl, rfl⟩) ?_ ?_
            rotate_left
            · simp only [Act.put, List.setIfInBounds_toArray, List.set_cons_zero, List.set_cons_succ, i64_w, i32_w]
              rfl
            refine pure_ (i := 37) (N := some 131) (v := undef) (a' := ?_) #[true, true, true, true, true, true, true, true, true, true, true, true, true, true, true, true, true, true, true, true, true, true, true, true, true, true, true, true, true, true, true, true, true, true, true, true, true, true, false, false, false, false, false, false, false, false] rfl rfl (by kernel_rfl) (fun _ _ _ h => h) (Or.inr ⟨by rfl, rfl⟩) ?_ ?_
            rotate_left
            · simp only [Act.put, List.setIfInBounds_toArray, List.set_cons_zero, List.set_cons_succ, i64_w, i32_w]
              rfl
            refine pure_ (i := 38) (N := some 132) (v := undef) (a' := ?_) #[true, true, true, true, true, true, true, true, true, true, true, true, true, true, true, true, true, true, true, true, true, true, true, true, true, true, true, true, true, true, true, true, true, true, true, true, true, true, true, false, false, false, false, false, false, false] rfl rfl (by kernel_rfl) (fun _ _ _ h => h) (Or.inr ⟨by rfl, rfl⟩) ?_ ?_
            rotate_left
            · simp only [Act.put, List.setIfInBounds_toArray, List.set_cons_zero, List.set_cons_succ, i64_w, i32_w]
              rfl
            refine pure_ (i := 39) (N := some 133) (v := undef) (a' := ?_) #[true, true, true, true, true, true, true, true, true, true, true, true, true, true, true, true, true, true, true, true, true, true, true, true, true, true, true, true, true, true, true, true, true, true, true, true, true, true, true, true, false, false, false, false, false, false] rfl rfl (by kernel_rfl) (fun _ _ _ h => h) (Or.inr ⟨by rfl, rfl⟩) ?_ ?_
            rotate_left
            · simp only [Act.put, List.setIfInBounds_toArray, List.set_cons_zero, List.set_cons_succ, i64_w, i32_w]
              rfl
            refine pure_ (i := 40) (N := some 134) (v := undef) (a' := ?_) #[true, true, true, true, true, true, true, true, true, true, true, true, true, true, true, true, true, true, true, true, true, true, true, true, true, true, true, true, true, true, true, true, true, true, true, true, true, true, true, true, true, false, false, false, false, false] rfl rfl (by kernel_rfl) (fun _ _ _ h => h) (Or.inr ⟨by rfl, rfl⟩) ?_ ?_
            rotate_left
            · simp only [Act.put, List.setIfInBounds_toArray, List.set_cons_zero, List.set_cons_succ, i64_w, i32_w]
              rfl
            refine pure_ (i := 41) (N := some 135) (v := undef) (a' := ?_) #[true, true, true, true, true, true, true, true, true, true, true, true, true, true, true, true, true, true, true, true, true, true, true, true, true, true, true, true, true, true, true, true, true, true, true, true, true, true, true, true, true, true, false, false, false, false] rfl rfl (by kernel_rfl) (fun _ _ _ h => h) (Or.inr ⟨by rfl, rfl⟩) ?_ ?_
            rotate_left
            · simp only [Act.put, List.setIfInBounds_toArray, List.set_cons_zero, List.set_cons_succ, i64_w, i32_w]
              rfl
            refine pure_ (i := 42) (N := some 136) (v := undef) (a' := ?_) #[true, true, true, true, true, true, true, true, true, true, true, true, true, true, true, true, true, true, true, true, true, true, true, true, true, true, true, true, true, true, true, true, true, true, true, true, true, true, true, true, true, true, true, false, false, false] rfl rfl (by kernel_rfl) (fun _ _ _ h => h) (Or.inr ⟨by rfl, rfl⟩) ?_ ?_
            rotate_left
            · simp only [Act.put, List.setIfInBounds_toArray, List.set_cons_zero, List.set_cons_succ, i64_w, i32_w]
              rfl
            refine pure_ (i := 43) (N := some 137) (v := undef) (a' := ?_) #[true, true, true, true, true, true, true, true, true, true, true, true, true, true, true, true, true, true, true, true, true, true, true, true, true, true, true, true, true, true, true, true, true, true, true, true, true, true, true, true, true, true, true, true, false, false] rfl rfl (by kernel_rfl) (fun _ _ _ h => h) (Or.inr ⟨by rfl, rfl⟩) ?_ ?_
            rotate_left
            · simp only [Act.put, List.setIfInBounds_toArray, List.set_cons_zero, List.set_cons_succ, i64_w, i32_w]
              rfl
            refine pure_ (i := 44) (N := some 138) (v := undef) (a' := ?_) #[true, true, true, true, true, true, true, true, true, true, true, true, true, true, true, true, true, true, true, true, true, true, true, true, true, true, true, true, true, true, true, true, true, true, true, true, true, true, true, true, true, true, true, true, true, false] rfl rfl (by kernel_rfl) (fun _ _ _ h => h) (Or.inr ⟨by rfl, rfl⟩) ?_ ?_
            rotate_left
            · simp only [Act.put, List.setIfInBounds_toArray, List.set_cons_zero, List.set_cons_succ, i64_w, i32_w]
              rfl
            refine pure_ (i := 45) (N := some 139) (v := ?_) (a' := ?_) #[true, true, true, true, true, true, true, true, true, true, true, true, true, true, true, true, true, true, true, true, true, true, true, true, true, true, true, true, true, true, true, true, true, true, true, true, true, true, true, true, true, true, true, true, true, true] rfl rfl (by kernel_rfl) (fun _ _ _ h => h) (Or.inl ⟨by rfl, ?_⟩) ?_ ?_
            rotate_left
            · intro w'
              go_simp
              with_reducible rfl
            rotate_left
            · simp only [Act.put, List.setIfInBounds_toArray, List.set_cons_zero, List.set_cons_succ, i64_w, i32_w]
              rfl
            refine done_ (by kernel_rfl) ?_
            go_wp2
            go_roundg k1
            case measure => omega
            case rel => exact ⟨m + 1, by go_num, ⟨by have := HM.out; omega⟩, HB1⟩
        · go_wp2_with (first | (go_at_call 21; go_must (have hb0 := Aside0.mk (below_step HB.out HB1.out); refine (awake_calls _).mono ?_; rintro e W_ ⟨rfl, hb⟩; replace HB := Aside0.mk (below_step hb0.out hb))))
          go_ret
          exact ⟨rfl, HB.out⟩
end Go.Proofs.Ytnbbbeghgomnoaa.X
namespace Go.Proofs.Ytnbbbeghgomnoaa.X
open Go.RowKit Go.Proofs.YtnbbbeghgomnoaaW.PrintWords Go.Proofs.YtnbbbeghgomnoaaW.PrintLast Go.Proofs.YtnbbbeghgomnoaaW.PrintMore
theorem BundleOwn_walk (A0 : Option Addr) (c0 : Nat) (l0 : List S85) (A1 : Option Addr) (c1 : Nat) (l1 : List S71) (wg : Int) (W : World) (C0 : Kd.C k85 W A0 l0.length l0) (g0 : l0.length ≤ c0) (C1 : Kd.C k71 W A1 l1.length l1) (g1 : l1.length ≤ c1) :
    Calls Try.prog 10 #[.agg #[.slice A0 l0.length c0, .slice A1 l1.length c1, .int .i64 wg]] W fun e w' => e = .returned (.bool true) ∧ Below W.heap.size W w' := by
  rcases rdy_cases l0 l1 wg with ⟨K, hK⟩ | ⟨hv, hc, K, hK⟩
  · exact Own_no K wg C0 g0 C1 g1 (hK K (Nat.le_refl _))
  · have hr := hK K (Nat.le_refl _)
    rcases ask_cases hc with ⟨he, _⟩ | ⟨he, hts⟩
    · exact Own_err K wg C0 g0 C1 g1 hv.thn rfl rfl hr he
    · refine Own_ok K wg C0 g0 C1 g1 hv.thn rfl rfl hr he rfl rfl rfl (by rw [missL_len, List.length_map]) (by rw [whoseL_len, List.length_map]) ?_ ?_
      · intro i hi hlo
        rw [missL_len] at hi
        rw [missL_get _ _ _ _ hi]
        intro h1
        obtain ⟨x, hx, e1⟩ := (boundsL_spec (fun x => lostN (l1.map cvP) (pad x)) hts).2.1
        have h2 := (verd_one hts _).1 h1 x hx
        obtain ⟨j, hj, h3, _⟩ := missB_iff.1 h2
        exact h3 (lost_zero (e1.trans hlo) j hj)
      · intro i hi x hx hne
        rw [whoseL_len, List.length_map] at hi
        have hi' : i < (l1.map cvP).length := by rw [List.length_map]; exact hi
        have hown : ∀ y ∈ truthsL (l0.map cvW) (l1.map cvP) wg, 0 ≤ pad y i ∧ pad y i < (l0.map cvW).length := fun y hy => truths_own hy i hi'
        have hall : ∀ y ∈ truthsL (l0.map cvW) (l1.map cvP) wg, pad y i = x := by
          intro y hy
          have := (whose_mem hi' hown (pad y i)).2 ⟨y, hy, rfl⟩
          rw [hx] at this
          exact List.mem_singleton.1 this
        obtain ⟨y0, hy0⟩ := List.exists_mem_of_ne_nil _ hts
        obtain ⟨b0, b1⟩ := hown y0 hy0
        rw [hall y0 hy0] at b0 b1
        refine ⟨b0, by rw [missL_len]; exact b1, ?_⟩
        obtain ⟨m, rfl⟩ : ∃ m : Nat, x = (m : Int) := ⟨x.toNat, by omega⟩
        rw [missL_get _ _ _ _ (by omega)]
        refine (verd_one hts _).2 fun y hy => missB_iff.2 ⟨i, hi', ?_, hall y hy⟩
        rw [hall y hy, cvP_getD]
        exact fun e => hne e.symm
end Go.Proofs.Ytnbbbeghgomnoaa.X
namespace Go.Proofs.Ytnbbbeghgomnoaa.bundleOwn
open Go.ChangeShapes Go.WideShapes Go.ChangeAt Go.RowKit
open Go.ChangeMaps (open_string shut_string)
open Go.Proofs.Ytnbbbeghgomnoaa.X
theorem own : ownKnob Try.prog.godebug = none := by kernel_rfl
theorem laidOut : laidOutB Try.prog = true := by kernel_rfl
set_option maxRecDepth 100000 in
theorem lifted (os : Os) (started : os.Started) (H : Type) (enc : TypeId × Value → H) :
    ReturnsInHanded {} Try.checked os 10 .any (Rows.bundleOwnSpec.pre6 enc Try.prog Try.f10 Rows.bundleOwnRow.domain false) (Rows.bundleOwnSpec.post enc Try.prog Try.f10 false true false false) := by
  refine returnsInHanded_of_change_sized (C := Try.checked) own started (by kernel_rfl) Try.func10
    (ChangeSpec.witness6 (enc := enc) (C := Try.checked) false ⟨#[], #[.agg #[.slice none 0 0, .slice none 0 0, .int .i64 0]], []⟩ 8 (by kernel_rfl) (by kernel_rfl) (by kernel_rfl) (by kernel_rfl)) ?_
  intro W base args ds gs before hval0 hW hcnd hsz0 _
  have hsz : (DataW.weightsEach Try.prog (Try.f10.params.toList ++ Rows.bundleOwnSpec.plain.varTypes Try.prog) (ds ++ gs)).all (· ≤ reachBytes) = true := hsz0
  have hval : ∀ (j : Nat) t v, Try.f10.params[j]? = some t → args[j]? = some v → Value.okWide Try.prog W .any base t v := hval0
  have hW' := hW
  obtain ⟨p, q, hA0, hV, rfl, hfz, hnd⟩ := hW
  have hA : DataW.TrodAll enc Try.prog W 0 (fun _ => true) true Try.f10.params.toList args.toList ds p := hA0
  rw [Try.params10] at hA hval hsz
  obtain ⟨v0, vs0, d0, ds0, p0, q0, hargs, rfl, rfl, h0, r0⟩ := trodAll_cons hA
  obtain ⟨rfl, rfl, rfl⟩ := trodAll_nil r0
  obtain rfl : args = #[v0] := by cases args; simp_all
  obtain ⟨rfl, rfl⟩ := trodVars_none hV
  have k0 := h0
  have lt0 : ∀ x ∈ p0, x.block < W.heap.size := by obtain ⟨m, hm⟩ := k0; exact DataW.trod_lt m _ _ _ hm
  obtain ⟨A0, c0, l0, A1, c1, l1, wg, rfl, C0, g0, C1, g1⟩ := open_table (hval 0 25 v0 rfl rfl) h0
  clear hA0 hval0 hsz0 hsz
  refine (BundleOwn_walk A0 c0 l0 A1 c1 l1 wg W C0 g0 C1 g1).mono fun e W' ⟨he, bel⟩ => ?_
  subst he
  exact ⟨_, rfl, _, _, _, [], _, [], hW', trodAll_mk1 (shut_bool Try.underlying4 _), (trodAll_cons_mk (Below.trod laidOut (by kernel_rfl) (of_decide_eq_true (by kernel_rfl)) k0 bel lt0) trodAll_mk0), rfl, bel.frame _, fun h => by cases h⟩
theorem over : Rows.bundleOwnRow.holds Try.pinned (OpenSpec.ofChange Rows.bundleOwnSpec) :=
  OpenClaim.holds_of_wide 10 Try.f10 rfl rfl rfl rfl rfl rfl rfl ⟨rfl, rfl, rfl, rfl, rfl⟩ rfl rfl rfl rfl rfl (by kernel_rfl) Try.func10 (by kernel_rfl)
    (of_decide_eq_true (by kernel_rfl)) (by unfold Func.isWrapper; first | (rw [if_pos (by decide +kernel)]; kernel_rfl) | (rw [if_neg (by decide +kernel)]; exact ⟨rfl, rfl⟩))
    (fun os started H enc _ => lifted os started H enc)
theorem proved : Rows.BundleOwnSaid := over
end Go.Proofs.Ytnbbbeghgomnoaa.bundleOwn
namespace Go.Proofs.Ytnbbbeghgomnoaa
theorem bundleOwn_holds : Rows.BundleOwnSaid := bundleOwn.proved
#print axioms bundleOwn_holds
end Go.Proofs.Ytnbbbeghgomnoaa
