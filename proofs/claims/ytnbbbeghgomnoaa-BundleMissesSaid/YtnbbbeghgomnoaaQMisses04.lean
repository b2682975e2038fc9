/-
  Words and walks that the proof of BundleMisses leans on, part 4 of 6.
-/
import Derived.Test.YtnbbbeghgomnoaaQMisses03
set_option linter.unusedVariables false
set_option linter.unusedSimpArgs false
namespace Go.Proofs.Ytnbbbeghgomnoaa.X
open Go.RowKit Go.Proofs.YtnbbbeghgomnoaaW.PrintWords Go.Proofs.YtnbbbeghgomnoaaW.PrintLast Go.Proofs.YtnbbbeghgomnoaaW.PrintMore
attribute [local go_sem] max2_int min2_int max_two min_two max_three min_three max_four min_four
set_option linter.unusedVariables false
set_option linter.unusedSimpArgs false
def bundle_Woman_valid.f (a0_0 : Int) (a0_1 : Int) (a0_2 : Int) : Option (Bool) := (bundle_mark.f a0_0).bind fun t1361 => (if t1361 = true then (if 0 ≤ a0_1 then (if a0_1 ≤ a0_2 then (some (decide (a0_2 ≤ 7))) else (some false)) else (some false)) else (some false))
set_option maxHeartbeats 8000000 in
set_option maxRecDepth 100000 in
theorem bundle_Woman_valid.calls (a0_0 : Int) (a0_1 : Int) (a0_2 : Int) (r : Bool) (w : World) (h : bundle_Woman_valid.f a0_0 a0_1 a0_2 = some r) :
  Calls Try.prog 90 #[.agg #[.int .i64 a0_0, .int .i64 a0_1, .int .i64 a0_2]] w fun e w' => e = .returned (.bool r) ∧ Below w.heap.size w w' := by
 have hu109 := Try.underlying109
 have HB := Aside0.mk (Below.refl w.heap.size w)
 have H : ((bundle_mark.f a0_0).bind fun t1361 => (if t1361 = true then (if 0 ≤ a0_1 then (if a0_1 ≤ a0_2 then (some (decide (a0_2 ≤ 7))) else (some false)) else (some false)) else (some false))) = some r := h
 clear h
 replace H := Option.bind_eq_some_iff.mp H
 obtain ⟨t1361, A20, H⟩ := H
 replace H : (if t1361 = true then (if 0 ≤ a0_1 then (if a0_1 ≤ a0_2 then (some (decide (a0_2 ≤ 7))) else (some false)) else (some false)) else (some false)) = some r := H
 have A2 := Aside0.mk A20
 clear A20
 by_cases c3 : t1361 = true
 ·subst c3
  have H1 : (if 0 ≤ a0_1 then (if a0_1 ≤ a0_2 then (some (decide (a0_2 ≤ 7))) else (some false)) else (some false)) = some r := by rw [if_pos rfl] at H; exact H
  clear H
  have H := H1
  clear H1
  by_cases c4 : 0 ≤ a0_1
  ·rw [if_pos c4] at H
   have c4b0 : decide (0 ≤ a0_1) = true := decide_eq_true c4
   clear c4
   by_cases c5 : a0_1 ≤ a0_2
   ·rw [if_pos c5] at H
    have c5b0 : decide (a0_1 ≤ a0_2) = true := decide_eq_true c5
    clear c5
    obtain rfl := Option.some.inj H
    go_enter Try.func90, Try.ntmps90
    go_wp2_with (first | ((with_reducible refine gate_dst (N := 1) rfl ?_); refine sbox (N := 1) #[.int .i64 a0_0, .int .i64 a0_1, .int .i64 a0_2] 109 ?_; intro gb1360 hg w6 hbox hb; have BK1360 := Aside0.mk (hbox); have GW1360 := Aside0.mk (sge hg HB : w.heap.size ≤ gb1360); have GE1360 := Aside0.mk (sge hg HB : w.heap.size ≤ gb1360); replace HB := Aside0.mk (sbs HB hb); clear hb hbox hg; have hcz7_0 := sc 0 BK1360; have hcz7_1 := sc 1 BK1360; have hcz7_2 := sc 2 BK1360; have hfz7_0 := blk_frozen BK1360.out 0; have hfz7_1 := blk_frozen BK1360.out 1; have hfz7_2 := blk_frozen BK1360.out 2) | ((with_reducible refine gate_callee (f := 102) rfl ?_); refine goesL_ (some 5) rfl rfl Try.func102 (by kernel_rfl) rfl #[.int .i64 a0_0] rfl (by (try simp only [List.map_toArray, List.map_cons, List.map_nil]); first | done | rfl | (simp only [List.length_drop, List.length_take]; rfl)) ?_; (with_reducible refine (bundle_mark.calls a0_0 true _ A2.out).mono ?_); rintro e w' ⟨rfl, ⟨nd, rfl⟩⟩; refine ⟨_, rfl, ?_⟩))
    go_ret
    exact ⟨by first | rfl | (simp [errW_none, errW_some] <;> rfl) | (simp [*, errW_none, errW_some] <;> rfl), (sbe1 HB GE1360)⟩
   ·rw [if_neg c5] at H
    have c5b0 : decide (a0_1 ≤ a0_2) = false := decide_eq_false c5
    clear c5
    obtain rfl := Option.some.inj H
    go_enter Try.func90, Try.ntmps90
    go_wp2_with (first | ((with_reducible refine gate_dst (N := 1) rfl ?_); refine sbox (N := 1) #[.int .i64 a0_0, .int .i64 a0_1, .int .i64 a0_2] 109 ?_; intro gb1360 hg w8 hbox hb; have BK1360 := Aside0.mk (hbox); have GW1360 := Aside0.mk (sge hg HB : w.heap.size ≤ gb1360); have GE1360 := Aside0.mk (sge hg HB : w.heap.size ≤ gb1360); replace HB := Aside0.mk (sbs HB hb); clear hb hbox hg; have hcz9_0 := sc 0 BK1360; have hcz9_1 := sc 1 BK1360; have hcz9_2 := sc 2 BK1360; have hfz9_0 := blk_frozen BK1360.out 0; have hfz9_1 := blk_frozen BK1360.out 1; have hfz9_2 := blk_frozen BK1360.out 2) | ((with_reducible refine gate_callee (f := 102) rfl ?_); refine goesL_ (some 5) rfl rfl Try.func102 (by kernel_rfl) rfl #[.int .i64 a0_0] rfl (by (try simp only [List.map_toArray, List.map_cons, List.map_nil]); first | done | rfl | (simp only [List.length_drop, List.length_take]; rfl)) ?_; (with_reducible refine (bundle_mark.calls a0_0 true _ A2.out).mono ?_); rintro e w' ⟨rfl, ⟨nd, rfl⟩⟩; refine ⟨_, rfl, ?_⟩))
    go_ret
    exact ⟨by first | rfl | (simp [errW_none, errW_some] <;> rfl) | (simp [*, errW_none, errW_some] <;> rfl), (sbe1 HB GE1360)⟩
  ·rw [if_neg c4] at H
   have c4b0 : decide (0 ≤ a0_1) = false := decide_eq_false c4
   clear c4
   obtain rfl := Option.some.inj H
   go_enter Try.func90, Try.ntmps90
   go_wp2_with (first | ((with_reducible refine gate_dst (N := 1) rfl ?_); refine sbox (N := 1) #[.int .i64 a0_0, .int .i64 a0_1, .int .i64 a0_2] 109 ?_; intro gb1360 hg w10 hbox hb; have BK1360 := Aside0.mk (hbox); have GW1360 := Aside0.mk (sge hg HB : w.heap.size ≤ gb1360); have GE1360 := Aside0.mk (sge hg HB : w.heap.size ≤ gb1360); replace HB := Aside0.mk (sbs HB hb); clear hb hbox hg; have hcz11_0 := sc 0 BK1360; have hcz11_1 := sc 1 BK1360; have hcz11_2 := sc 2 BK1360; have hfz11_0 := blk_frozen BK1360.out 0; have hfz11_1 := blk_frozen BK1360.out 1; have hfz11_2 := blk_frozen BK1360.out 2) | ((with_reducible refine gate_callee (f := 102) rfl ?_); refine goesL_ (some 5) rfl rfl Try.func102 (by kernel_rfl) rfl #[.int .i64 a0_0] rfl (by (try simp only [List.map_toArray, List.map_cons, List.map_nil]); first | done | rfl | (simp only [List.length_drop, List.length_take]; rfl)) ?_; (with_reducible refine (bundle_mark.calls a0_0 true _ A2.out).mono ?_); rintro e w' ⟨rfl, ⟨nd, rfl⟩⟩; refine ⟨_, rfl, ?_⟩))
   go_ret
   exact ⟨by first | rfl | (simp [errW_none, errW_some] <;> rfl) | (simp [*, errW_none, errW_some] <;> rfl), (sbe1 HB GE1360)⟩
 ·replace c3 := Bool.eq_false_iff.mpr c3
  subst c3
  have H1 : (some false) = some r := by rw [if_neg (show ¬ (false = true) by decide)] at H; exact H
  clear H
  have H := H1
  clear H1
  obtain rfl := Option.some.inj H
  go_enter Try.func90, Try.ntmps90
  go_wp2_with (first | ((with_reducible refine gate_dst (N := 1) rfl ?_); refine sbox (N := 1) #[.int .i64 a0_0, .int .i64 a0_1, .int .i64 a0_2] 109 ?_; intro gb1360 hg w12 hbox hb; have BK1360 := Aside0.mk (hbox); have GW1360 := Aside0.mk (sge hg HB : w.heap.size ≤ gb1360); have GE1360 := Aside0.mk (sge hg HB : w.heap.size ≤ gb1360); replace HB := Aside0.mk (sbs HB hb); clear hb hbox hg; have hcz13_0 := sc 0 BK1360; have hcz13_1 := sc 1 BK1360; have hcz13_2 := sc 2 BK1360; have hfz13_0 := blk_frozen BK1360.out 0; have hfz13_1 := blk_frozen BK1360.out 1; have hfz13_2 := blk_frozen BK1360.out 2) | ((with_reducible refine gate_callee (f := 102) rfl ?_); refine goesL_ (some 5) rfl rfl Try.func102 (by kernel_rfl) rfl #[.int .i64 a0_0] rfl (by (try simp only [List.map_toArray, List.map_cons, List.map_nil]); first | done | rfl | (simp only [List.length_drop, List.length_take]; rfl)) ?_; (with_reducible refine (bundle_mark.calls a0_0 false _ A2.out).mono ?_); rintro e w' ⟨rfl, ⟨nd, rfl⟩⟩; refine ⟨_, rfl, ?_⟩))
  go_ret
  exact ⟨by first | rfl | (simp [errW_none, errW_some] <;> rfl) | (simp [*, errW_none, errW_some] <;> rfl), (sbe1 HB GE1360)⟩
end Go.Proofs.Ytnbbbeghgomnoaa.X
namespace Go.Proofs.Ytnbbbeghgomnoaa.X
open Go.RowKit Go.Proofs.YtnbbbeghgomnoaaW.PrintWords Go.Proofs.YtnbbbeghgomnoaaW.PrintLast Go.Proofs.YtnbbbeghgomnoaaW.PrintMore
def okIn (n a b : Int) : Bool := decide (a ≤ n) && decide (n ≤ b)
theorem within_f (n a b : Int) : bundle_within.f n a b = some (okIn n a b) := by
 unfold bundle_within.f okIn
 by_cases h : a ≤ n <;> simp [h]
theorem mark_f (n : Int) : bundle_mark.f n = some (okIn n 0 9) := by
 unfold bundle_mark.f
 rw [within_f]; rfl
def okW (x : S109) : Bool := okIn x.f0 0 9 && decide (0 ≤ x.f1.f0) && decide (x.f1.f0 ≤ x.f1.f1) && decide (x.f1.f1 ≤ 7)
theorem valid_f (x : S109) : bundle_Woman_valid.f x.f0 x.f1.f0 x.f1.f1 = some (okW x) := by
 unfold bundle_Woman_valid.f okW
 rw [mark_f]
 simp only [Option.bind_some]
 cases okIn x.f0 0 9
 ·simp
 ·by_cases h1 : 0 ≤ x.f1.f0
  ·by_cases h2 : x.f1.f0 ≤ x.f1.f1 <;> simp [h1, h2]
  ·simp [h1]
def okM (ms : List Int) (j : Nat) : Bool := okIn (ms.getD j 0) 0 9 && (j == 0 || decide (ms.getD (j - 1) 0 < ms.getD j 0))
def okP (l0 : List S109) (z : S110) : Bool := (List.range z.f0.length).all (okM z.f0) && okIn z.f1 0 ((l0.length : Int) - 1) && decide (0 < (ofL l0 z.f0).length)
theorem all_range_succ (p : Nat → Bool) (m : Nat) : (List.range (m + 1)).all p = ((List.range m).all p && p m) := by
 rw [List.range_succ, List.all_append]; simp
theorem all_range_false (p : Nat → Bool) (m n : Nat) (h : m < n) (hp : p m = false) : (List.range n).all p = false :=
 List.all_eq_false.2 ⟨m, by simpa using h, by rw [hp]; decide⟩
theorem piece_ev (l0 : List S109) (l1 : List S110) (wg : Int) (z : S110) (hl : l0.length ≤ 30) (hm : z.f0.length ≤ 30) : Evt (fun k => bundle_Table_piece.f k l0 l1 wg z.f0 z.f1) (okP l0 z) := by
 have main : ∀ (d i : Nat), i + d = z.f0.length → (List.range i).all (okM z.f0) = true → Evt (fun k => bundle_Table_piece.l0 k z.f0 (z.f0.length : Int) (i : Int) l0 l1 wg z.f0 z.f1) (okP l0 z) := by
  intro d
  induction d with
  | zero =>
   intro i hi hok
   obtain rfl : i = z.f0.length := by omega
   have hw : wrap64 ((l0.length : Int) - 1) = (l0.length : Int) - 1 := wrap64_id _ (by omega) (by omega)
   obtain ⟨K, hK⟩ := of_ev l0 l1 wg z.f0 z.f1 hl hm
   refine ⟨K + 1, fun k hk => ?_⟩
   obtain ⟨k, rfl⟩ : ∃ m, k = m + 1 := ⟨k - 1, by omega⟩
   show bundle_Table_piece.l0 (k + 1) _ _ _ _ _ _ _ _ = _
   simp only [bundle_Table_piece.l0]
   rw [if_neg (by omega), hw, within_f]
   simp only [Option.bind_some]
   have h_ := hK k (by omega)
   dsimp only at h_
   rw [h_]
   unfold okP
   rw [hok]
   cases okIn z.f1 0 ((l0.length : Int) - 1)
   ·rfl
   ·simp
  | succ d ih =>
   intro i hi hok
   have hlt : i < z.f0.length := by omega
   have hokm : okM z.f0 i = (okIn (z.f0.getD i 0) 0 9 && (i == 0 || decide (z.f0.getD (i - 1) 0 < z.f0.getD i 0))) := rfl
   have hfalse : okM z.f0 i = false → okP l0 z = false := fun h => by
    unfold okP
    rw [all_range_false _ _ _ hlt h]; rfl
   have hw1 : wrap64 ((i : Int) + 1) = ((i + 1 : Nat) : Int) := by rw [wrap64_id _ (by omega) (by omega)]; rfl
   by_cases hmk : okIn (z.f0.getD i 0) 0 9 = true
   ·by_cases hi0 : i = 0
    ·have hokt : okM z.f0 i = true := by rw [hokm, hmk, hi0]; rfl
     obtain ⟨K, hK⟩ := ih (i + 1) (by omega) (by rw [all_range_succ, hok, hokt]; rfl)
     refine ⟨K + 1, fun k hk => ?_⟩
     obtain ⟨k, rfl⟩ : ∃ m, k = m + 1 := ⟨k - 1, by omega⟩
     show bundle_Table_piece.l0 (k + 1) _ _ _ _ _ _ _ _ = _
     simp only [bundle_Table_piece.l0]
     rw [if_pos (by omega), if_pos (by omega), if_pos (by omega), rd_nat, mark_f, hmk]
     simp only [Option.bind_some, if_true]
     rw [if_neg (by omega), hw1]
     exact hK k (by omega)
    ·have hw2 : wrap64 ((i : Int) - 1) = ((i - 1 : Nat) : Int) := by rw [wrap64_id _ (by omega) (by omega)]; omega
     by_cases hinc : z.f0.getD (i - 1) 0 < z.f0.getD i 0
     ·have hokt : okM z.f0 i = true := by rw [hokm, hmk, decide_eq_true hinc]; simp
      obtain ⟨K, hK⟩ := ih (i + 1) (by omega) (by rw [all_range_succ, hok, hokt]; rfl)
      refine ⟨K + 1, fun k hk => ?_⟩
      obtain ⟨k, rfl⟩ : ∃ m, k = m + 1 := ⟨k - 1, by omega⟩
      show bundle_Table_piece.l0 (k + 1) _ _ _ _ _ _ _ _ = _
      simp only [bundle_Table_piece.l0]
      rw [if_pos (by omega), if_pos (by omega), if_pos (by omega), rd_nat, mark_f, hmk]
      simp only [Option.bind_some, if_true]
      rw [if_pos (by omega), hw2, if_pos (by omega), if_pos (by omega), rd_nat, if_neg (by omega), hw1]
      exact hK k (by omega)
     ·have hokf : okM z.f0 i = false := by
       rw [hokm, hmk, decide_eq_false hinc]
       have : (i == 0) = false := by simpa using hi0
       rw [this]; rfl
      refine ⟨1, fun k hk => ?_⟩
      obtain ⟨k, rfl⟩ : ∃ m, k = m + 1 := ⟨k - 1, by omega⟩
      show bundle_Table_piece.l0 (k + 1) _ _ _ _ _ _ _ _ = _
      simp only [bundle_Table_piece.l0]
      rw [if_pos (by omega), if_pos (by omega), if_pos (by omega), rd_nat, mark_f, hmk]
      simp only [Option.bind_some, if_true]
      rw [if_pos (by omega), hw2, if_pos (by omega), if_pos (by omega), rd_nat, if_pos (by omega), hfalse hokf]
   ·have hmk' : okIn (z.f0.getD i 0) 0 9 = false := by simpa using hmk
    have hokf : okM z.f0 i = false := by rw [hokm, hmk']; rfl
    refine ⟨1, fun k hk => ?_⟩
    obtain ⟨k, rfl⟩ : ∃ m, k = m + 1 := ⟨k - 1, by omega⟩
    show bundle_Table_piece.l0 (k + 1) _ _ _ _ _ _ _ _ = _
    simp only [bundle_Table_piece.l0]
    rw [if_pos (by omega), if_pos (by omega), if_pos (by omega), rd_nat, mark_f, hmk']
    simp only [Option.bind_some]
    rw [if_neg (by decide), hfalse hokf]
 exact main z.f0.length 0 (by omega) rfl
def manyT (l0 : List S109) (l1 : List S110) : Int := l1.foldl (fun m p => mn (m * ((ofL l0 p.f0).length : Int)) 2001) 1
def checkT (l0 : List S109) (l1 : List S110) (wg : Int) : Int :=
 if 5 < l0.length ∨ 7 < l1.length then 3
 else if okIn wg 0 5 = false ∨ l0.all okW = false ∨ l1.all (okP l0) = false then 1
 else if 2000 < manyT l0 l1 then 3 else 0
end Go.Proofs.Ytnbbbeghgomnoaa.X
namespace Go.Proofs.Ytnbbbeghgomnoaa.X
open Go.RowKit Go.Proofs.YtnbbbeghgomnoaaW.PrintWords Go.Proofs.YtnbbbeghgomnoaaW.PrintLast Go.Proofs.YtnbbbeghgomnoaaW.PrintMore
theorem many_bound (l0 : List S109) (l : List S110) : 0 ≤ l.foldl (fun m p => mn (m * ((ofL l0 p.f0).length : Int)) 2001) 1 ∧ l.foldl (fun m p => mn (m * ((ofL l0 p.f0).length : Int)) 2001) 1 ≤ 2001 := by
 have main : ∀ (l : List S110) (x : Int), 0 ≤ x ∧ x ≤ 2001 → 0 ≤ l.foldl (fun m p => mn (m * ((ofL l0 p.f0).length : Int)) 2001) x ∧ l.foldl (fun m p => mn (m * ((ofL l0 p.f0).length : Int)) 2001) x ≤ 2001 := by
  intro l
  induction l with
  | nil => intro x h; exact h
  | cons p r ih =>
   intro x h
   refine ih (mn (x * ((ofL l0 p.f0).length : Int)) 2001) ?_
   have := Int.mul_nonneg h.1 (show (0 : Int) ≤ ((ofL l0 p.f0).length : Int) by omega)
   unfold mn
   split <;> omega
 exact main l 1 ⟨by omega, by omega⟩
theorem pieceC (A0 : Option Addr) (c0 : Nat) (l0 : List S109) (A1 : Option Addr) (c1 : Nat) (l1 : List S110) (wg : Int) (z : S110) (A6 : Option Addr) (c6 : Nat) (W : World)
  (hr0 : Kd.C k109 W A0 l0.length l0) (hc0 : l0.length ≤ c0) (hr1 : Kd.C k110 W A1 l1.length l1) (hc1 : l1.length ≤ c1) (hr6 : Kd.C (Kd.int .i64) W A6 z.f0.length z.f0) (hc6 : z.f0.length ≤ c6)
  (hn0 : l0.length ≤ 30) (hm : z.f0.length ≤ 30) :
  Calls Try.prog 87 #[.agg #[.slice A0 l0.length c0, .slice A1 l1.length c1, .int .i64 wg], .agg #[.slice A6 z.f0.length c6, .int .i64 z.f1]] W fun e W' => e = .returned (.bool (okP l0 z)) ∧ Below W.heap.size W W' := by
 obtain ⟨K, hK⟩ := piece_ev l0 l1 wg z hn0 hm
 exact bundle_Table_piece.calls K A0 c0 l0 A1 c1 l1 wg A6 c6 z.f0 z.f1 (okP l0 z) W hr0 hc0 hr1 hc1 hr6 hc6 (hK K (Nat.le_refl _))
set_option maxHeartbeats 4000000 in
set_option maxRecDepth 100000 in
theorem check_women (A0 : Option Addr) (c0 : Nat) (l0 : List S109) (A1 : Option Addr) (c1 : Nat) (l1 : List S110) (wg : Int) (w : World)
  (hr0 : Kd.C k109 w A0 l0.length l0) (hc0 : l0.length ≤ c0) (hr1 : Kd.C k110 w A1 l1.length l1) (hc1 : l1.length ≤ c1)
  (hn0 : l0.length ≤ 30) (hn1 : l1.length ≤ 30) (hms : ∀ p ∈ l1, p.f0.length ≤ 30) (h5 : 5 < l0.length) :
  Calls Try.prog 61 #[.agg #[.slice A0 l0.length c0, .slice A1 l1.length c1, .int .i64 wg]] w fun e w' => e = .returned (.int .i64 3) ∧ Below w.heap.size w w' := by
 have hu35 := Try.underlying35
 have hu110 := Try.underlying110
 have HR0 := Aside0.mk hr0
 have HC0 := Aside0.mk hc0
 have HR1 := Aside0.mk hr1
 have HC1 := Aside0.mk hc1
 have HMS := Aside0.mk hms
 clear hr0 hc0 hr1 hc1 hms
 have HB := Aside0.mk (Below.refl w.heap.size w)
 have hql01 : decide ((5 : Int) < (l0.length : Int)) = true := decide_eq_true (by omega)
 have hql02 : decide (5 < l0.length) = true := decide_eq_true (by omega)
 go_enter Try.func61, Try.ntmps61
 go_wp2_with (first | ((with_reducible refine gate_dst (N := 1) rfl ?_); refine sbox (N := 1) #[.slice A0 l0.length c0, .slice A1 l1.length c1, .int .i64 wg] 35 ?_; intro g1 hg W_ hbox hb; have GEg1 := Aside0.mk (by rw [hg]; exact HB.out.size : w.heap.size ≤ g1); replace HB := Aside0.mk (below_step HB.out hb); have BKg1 := Aside0.mk hbox; clear hb hbox hg; have hczg1_0 : W_.cell? ⟨g1, 0, none⟩ = some (.slice A0 l0.length c0) := (blk_cell BKg1.out 0).trans rfl; have hczg1_1 : W_.cell? ⟨g1, 1, none⟩ = some (.slice A1 l1.length c1) := (blk_cell BKg1.out 1).trans rfl; have hczg1_2 : W_.cell? ⟨g1, 2, none⟩ = some (.int .i64 wg) := (blk_cell BKg1.out 2).trans rfl))
 go_ret
 exact ⟨rfl, HB.out⟩
set_option maxHeartbeats 4000000 in
set_option maxRecDepth 100000 in
theorem check_pieces (A0 : Option Addr) (c0 : Nat) (l0 : List S109) (A1 : Option Addr) (c1 : Nat) (l1 : List S110) (wg : Int) (w : World)
  (hr0 : Kd.C k109 w A0 l0.length l0) (hc0 : l0.length ≤ c0) (hr1 : Kd.C k110 w A1 l1.length l1) (hc1 : l1.length ≤ c1)
  (hn0 : l0.length ≤ 30) (hn1 : l1.length ≤ 30) (hms : ∀ p ∈ l1, p.f0.length ≤ 30) (h5 : ¬ 5 < l0.length) (h7 : 7 < l1.length) :
  Calls Try.prog 61 #[.agg #[.slice A0 l0.length c0, .slice A1 l1.length c1, .int .i64 wg]] w fun e w' => e = .returned (.int .i64 3) ∧ Below w.heap.size w w' := by
 have hu35 := Try.underlying35
 have hu110 := Try.underlying110
 have HR0 := Aside0.mk hr0
 have HC0 := Aside0.mk hc0
 have HR1 := Aside0.mk hr1
 have HC1 := Aside0.mk hc1
 have HMS := Aside0.mk hms
 clear hr0 hc0 hr1 hc1 hms
 have HB := Aside0.mk (Below.refl w.heap.size w)
 have hql01 : decide ((5 : Int) < (l0.length : Int)) = false := decide_eq_false (by omega)
 have hql02 : decide (5 < l0.length) = false := decide_eq_false (by omega)
 have hql11 : decide ((7 : Int) < (l1.length : Int)) = true := decide_eq_true (by omega)
 have hql12 : decide (7 < l1.length) = true := decide_eq_true (by omega)
 go_enter Try.func61, Try.ntmps61
 go_wp2_with (first | ((with_reducible refine gate_dst (N := 1) rfl ?_); refine sbox (N := 1) #[.slice A0 l0.length c0, .slice A1 l1.length c1, .int .i64 wg] 35 ?_; intro g1 hg W_ hbox hb; have GEg1 := Aside0.mk (by rw [hg]; exact HB.out.size : w.heap.size ≤ g1); replace HB := Aside0.mk (below_step HB.out hb); have BKg1 := Aside0.mk hbox; clear hb hbox hg; have hczg1_0 : W_.cell? ⟨g1, 0, none⟩ = some (.slice A0 l0.length c0) := (blk_cell BKg1.out 0).trans rfl; have hczg1_1 : W_.cell? ⟨g1, 1, none⟩ = some (.slice A1 l1.length c1) := (blk_cell BKg1.out 1).trans rfl; have hczg1_2 : W_.cell? ⟨g1, 2, none⟩ = some (.int .i64 wg) := (blk_cell BKg1.out 2).trans rfl))
 go_ret
 exact ⟨rfl, HB.out⟩
set_option maxHeartbeats 4000000 in
set_option maxRecDepth 100000 in
theorem check_wrong (A0 : Option Addr) (c0 : Nat) (l0 : List S109) (A1 : Option Addr) (c1 : Nat) (l1 : List S110) (wg : Int) (w : World)
  (hr0 : Kd.C k109 w A0 l0.length l0) (hc0 : l0.length ≤ c0) (hr1 : Kd.C k110 w A1 l1.length l1) (hc1 : l1.length ≤ c1)
  (hn0 : l0.length ≤ 30) (hn1 : l1.length ≤ 30) (hms : ∀ p ∈ l1, p.f0.length ≤ 30) (h5 : ¬ 5 < l0.length) (h7 : ¬ 7 < l1.length) (hw : okIn wg 0 5 = false) :
  Calls Try.prog 61 #[.agg #[.slice A0 l0.length c0, .slice A1 l1.length c1, .int .i64 wg]] w fun e w' => e = .returned (.int .i64 1) ∧ Below w.heap.size w w' := by
 have hu35 := Try.underlying35
 have hu110 := Try.underlying110
 have HR0 := Aside0.mk hr0
 have HC0 := Aside0.mk hc0
 have HR1 := Aside0.mk hr1
 have HC1 := Aside0.mk hc1
 have HMS := Aside0.mk hms
 clear hr0 hc0 hr1 hc1 hms
 have HB := Aside0.mk (Below.refl w.heap.size w)
 have hql01 : decide ((5 : Int) < (l0.length : Int)) = false := decide_eq_false (by omega)
 have hql02 : decide (5 < l0.length) = false := decide_eq_false (by omega)
 have hql11 : decide ((7 : Int) < (l1.length : Int)) = false := decide_eq_false (by omega)
 have hql12 : decide (7 < l1.length) = false := decide_eq_false (by omega)
 have HW := Aside0.mk (within_f wg 0 5)
 rw [hw] at HW
 clear hw
 go_enter Try.func61, Try.ntmps61
 go_wp2_with (first | ((with_reducible refine gate_dst (N := 1) rfl ?_); refine sbox (N := 1) #[.slice A0 l0.length c0, .slice A1 l1.length c1, .int .i64 wg] 35 ?_; intro g1 hg W_ hbox hb; have GEg1 := Aside0.mk (by rw [hg]; exact HB.out.size : w.heap.size ≤ g1); replace HB := Aside0.mk (below_step HB.out hb); have BKg1 := Aside0.mk hbox; clear hb hbox hg; have hczg1_0 : W_.cell? ⟨g1, 0, none⟩ = some (.slice A0 l0.length c0) := (blk_cell BKg1.out 0).trans rfl; have hczg1_1 : W_.cell? ⟨g1, 1, none⟩ = some (.slice A1 l1.length c1) := (blk_cell BKg1.out 1).trans rfl; have hczg1_2 : W_.cell? ⟨g1, 2, none⟩ = some (.int .i64 wg) := (blk_cell BKg1.out 2).trans rfl) | (go_at_call 88; refine (bundle_within.calls wg 0 5 false _ HW.out).mono ?_; rintro e W3 ⟨rfl, ⟨nd, rfl⟩⟩; have n0_ := Aside0.mk (pw_below_drewN HB.out nd); have n1_ := Aside0.mk (blk_drewN BKg1.out nd); clear HB BKg1; have HB := n0_; have BKg1 := n1_; clear n0_ n1_; have hcy0 : (W_.drewN nd).cell? ⟨g1, 0, none⟩ = some (.slice A0 l0.length c0) := (blk_cell BKg1.out 0).trans rfl; have hcy1 : (W_.drewN nd).cell? ⟨g1, 1, none⟩ = some (.slice A1 l1.length c1) := (blk_cell BKg1.out 1).trans rfl; have hcy2 : (W_.drewN nd).cell? ⟨g1, 2, none⟩ = some (.int .i64 wg) := (blk_cell BKg1.out 2).trans rfl))
 go_ret
 exact ⟨rfl, HB.out⟩
set_option maxHeartbeats 4000000 in
set_option maxRecDepth 100000 in
theorem check_woman (A0 : Option Addr) (c0 : Nat) (l0 : List S109) (A1 : Option Addr) (c1 : Nat) (l1 : List S110) (wg : Int) (w : World)
  (hr0 : Kd.C k109 w A0 l0.length l0) (hc0 : l0.length ≤ c0) (hr1 : Kd.C k110 w A1 l1.length l1) (hc1 : l1.length ≤ c1)
  (hn0 : l0.length ≤ 30) (hn1 : l1.length ≤ 30) (hms : ∀ p ∈ l1, p.f0.length ≤ 30) (h5 : ¬ 5 < l0.length) (h7 : ¬ 7 < l1.length) (hw : okIn wg 0 5 = true) (ha : l0.all okW = false) :
  Calls Try.prog 61 #[.agg #[.slice A0 l0.length c0, .slice A1 l1.length c1, .int .i64 wg]] w fun e w' => e = .returned (.int .i64 1) ∧ Below w.heap.size w w' := by
 have hu35 := Try.underlying35
 have hu110 := Try.underlying110
 have HR0 := Aside0.mk hr0
 have HC0 := Aside0.mk hc0
 have HR1 := Aside0.mk hr1
 have HC1 := Aside0.mk hc1
 have HMS := Aside0.mk hms
 clear hr0 hc0 hr1 hc1 hms
 have HB := Aside0.mk (Below.refl w.heap.size w)
 have hql01 : decide ((5 : Int) < (l0.length : Int)) = false := decide_eq_false (by omega)
 have hql02 : decide (5 < l0.length) = false := decide_eq_false (by omega)
 have hql11 : decide ((7 : Int) < (l1.length : Int)) = false := decide_eq_false (by omega)
 have hql12 : decide (7 < l1.length) = false := decide_eq_false (by omega)
 have HW := Aside0.mk (within_f wg 0 5)
 rw [hw] at HW
 clear hw
 go_enter Try.func61, Try.ntmps61
 go_wp2_with (first | ((with_reducible refine gate_dst (N := 1) rfl ?_); refine sbox (N := 1) #[.slice A0 l0.length c0, .slice A1 l1.length c1, .int .i64 wg] 35 ?_; intro g1 hg W_ hbox hb; have GEg1 := Aside0.mk (by rw [hg]; exact HB.out.size : w.heap.size ≤ g1); replace HB := Aside0.mk (below_step HB.out hb); have BKg1 := Aside0.mk hbox; clear hb hbox hg; have hczg1_0 : W_.cell? ⟨g1, 0, none⟩ = some (.slice A0 l0.length c0) := (blk_cell BKg1.out 0).trans rfl; have hczg1_1 : W_.cell? ⟨g1, 1, none⟩ = some (.slice A1 l1.length c1) := (blk_cell BKg1.out 1).trans rfl; have hczg1_2 : W_.cell? ⟨g1, 2, none⟩ = some (.int .i64 wg) := (blk_cell BKg1.out 2).trans rfl) | (go_at_call 88; refine (bundle_within.calls wg 0 5 true _ HW.out).mono ?_; rintro e W3 ⟨rfl, ⟨nd, rfl⟩⟩; have n0_ := Aside0.mk (pw_below_drewN HB.out nd); have n1_ := Aside0.mk (blk_drewN BKg1.out nd); clear HB BKg1; have HB := n0_; have BKg1 := n1_; clear n0_ n1_; have hcy0 : (W_.drewN nd).cell? ⟨g1, 0, none⟩ = some (.slice A0 l0.length c0) := (blk_cell BKg1.out 0).trans rfl; have hcy1 : (W_.drewN nd).cell? ⟨g1, 1, none⟩ = some (.slice A1 l1.length c1) := (blk_cell BKg1.out 1).trans rfl; have hcy2 : (W_.drewN nd).cell? ⟨g1, 2, none⟩ = some (.int .i64 wg) := (blk_cell BKg1.out 2).trans rfl) | (go_at_call 89; refine (allWoman_calls A0 c0 l0 okW _ (Kd.C_below HR0.out HB.out) (by omega) (fun z _ W' _ => (bundle_Woman_valid.calls z.f0 z.f1.f0 z.f1.f1 (okW z) W' (valid_f z)).mono (fun e W'' h => h))).mono ?_; rintro e W4 ⟨rfl, hb⟩; replace BKg1 := Aside0.mk (blk_below BKg1.out hb); replace HB := Aside0.mk (below_step HB.out hb); have hcx0 : W4.cell? ⟨g1, 0, none⟩ = some (.slice A0 l0.length c0) := (blk_cell BKg1.out 0).trans rfl; have hcx1 : W4.cell? ⟨g1, 1, none⟩ = some (.slice A1 l1.length c1) := (blk_cell BKg1.out 1).trans rfl; have hcx2 : W4.cell? ⟨g1, 2, none⟩ = some (.int .i64 wg) := (blk_cell BKg1.out 2).trans rfl; clear hb))
 go_ret
 exact ⟨rfl, HB.out⟩
set_option maxHeartbeats 4000000 in
set_option maxRecDepth 100000 in
theorem check_piece (A0 : Option Addr) (c0 : Nat) (l0 : List S109) (A1 : Option Addr) (c1 : Nat) (l1 : List S110) (wg : Int) (w : World)
  (hr0 : Kd.C k109 w A0 l0.length l0) (hc0 : l0.length ≤ c0) (hr1 : Kd.C k110 w A1 l1.length l1) (hc1 : l1.length ≤ c1)
  (hn0 : l0.length ≤ 30) (hn1 : l1.length ≤ 30) (hms : ∀ p ∈ l1, p.f0.length ≤ 30) (h5 : ¬ 5 < l0.length) (h7 : ¬ 7 < l1.length) (hw : okIn wg 0 5 = true) (ha : l0.all okW = true) (hp : l1.all (okP l0) = false) :
  Calls Try.prog 61 #[.agg #[.slice A0 l0.length c0, .slice A1 l1.length c1, .int .i64 wg]] w fun e w' => e = .returned (.int .i64 1) ∧ Below w.heap.size w w' := by
 have hu35 := Try.underlying35
 have hu110 := Try.underlying110
 have HR0 := Aside0.mk hr0
 have HC0 := Aside0.mk hc0
 have HR1 := Aside0.mk hr1
 have HC1 := Aside0.mk hc1
 have HMS := Aside0.mk hms
 clear hr0 hc0 hr1 hc1 hms
 have HB := Aside0.mk (Below.refl w.heap.size w)
 have hql01 : decide ((5 : Int) < (l0.length : Int)) = false := decide_eq_false (by omega)
 have hql02 : decide (5 < l0.length) = false := decide_eq_false (by omega)
 have hql11 : decide ((7 : Int) < (l1.length : Int)) = false := decide_eq_false (by omega)
 have hql12 : decide (7 < l1.length) = false := decide_eq_false (by omega)
 have HW := Aside0.mk (within_f wg 0 5)
 rw [hw] at HW
 clear hw
 go_enter Try.func61, Try.ntmps61
 go_wp2_with (first | ((with_reducible refine gate_dst (N := 1) rfl ?_); refine sbox (N := 1) #[.slice A0 l0.length c0, .slice A1 l1.length c1, .int .i64 wg] 35 ?_; intro g1 hg W_ hbox hb; have GEg1 := Aside0.mk (by rw [hg]; exact HB.out.size : w.heap.size ≤ g1); replace HB := Aside0.mk (below_step HB.out hb); have BKg1 := Aside0.mk hbox; clear hb hbox hg; have hczg1_0 : W_.cell? ⟨g1, 0, none⟩ = some (.slice A0 l0.length c0) := (blk_cell BKg1.out 0).trans rfl; have hczg1_1 : W_.cell? ⟨g1, 1, none⟩ = some (.slice A1 l1.length c1) := (blk_cell BKg1.out 1).trans rfl; have hczg1_2 : W_.cell? ⟨g1, 2, none⟩ = some (.int .i64 wg) := (blk_cell BKg1.out 2).trans rfl) | (go_at_call 88; refine (bundle_within.calls wg 0 5 true _ HW.out).mono ?_; rintro e W3 ⟨rfl, ⟨nd, rfl⟩⟩; have n0_ := Aside0.mk (pw_below_drewN HB.out nd); have n1_ := Aside0.mk (blk_drewN BKg1.out nd); clear HB BKg1; have HB := n0_; have BKg1 := n1_; clear n0_ n1_; have hcy0 : (W_.drewN nd).cell? ⟨g1, 0, none⟩ = some (.slice A0 l0.length c0) := (blk_cell BKg1.out 0).trans rfl; have hcy1 : (W_.drewN nd).cell? ⟨g1, 1, none⟩ = some (.slice A1 l1.length c1) := (blk_cell BKg1.out 1).trans rfl; have hcy2 : (W_.drewN nd).cell? ⟨g1, 2, none⟩ = some (.int .i64 wg) := (blk_cell BKg1.out 2).trans rfl) | (go_at_call 89; refine (allWoman_calls A0 c0 l0 okW _ (Kd.C_below HR0.out HB.out) (by omega) (fun z _ W' _ => (bundle_Woman_valid.calls z.f0 z.f1.f0 z.f1.f1 (okW z) W' (valid_f z)).mono (fun e W'' h => h))).mono ?_; rintro e W4 ⟨rfl, hb⟩; replace BKg1 := Aside0.mk (blk_below BKg1.out hb); replace HB := Aside0.mk (below_step HB.out hb); have hcx0 : W4.cell? ⟨g1, 0, none⟩ = some (.slice A0 l0.length c0) := (blk_cell BKg1.out 0).trans rfl; have hcx1 : W4.cell? ⟨g1, 1, none⟩ = some (.slice A1 l1.length c1) := (blk_cell BKg1.out 1).trans rfl; have hcx2 : W4.cell? ⟨g1, 2, none⟩ = some (.int .i64 wg) := (blk_cell BKg1.out 2).trans rfl; clear hb) | (go_at_call 91; refine (allPiece_calls (.agg #[.slice A0 l0.length c0, .slice A1 l1.length c1, .int .i64 wg]) A1 c1 l1 (okP l0) _ (Kd.C_below HR1.out HB.out) (by omega) (fun z hz A6 c6 W' hb' h1 h2 => pieceC A0 c0 l0 A1 c1 l1 wg z A6 c6 W' (Kd.C_below HR0.out (below_step HB.out hb')) HC0.out (Kd.C_below HR1.out (below_step HB.out hb')) HC1.out h2 h1 hn0 (HMS.out z hz))).mono ?_; rintro e W5 ⟨rfl, hb⟩; replace BKg1 := Aside0.mk (blk_below BKg1.out hb); replace HB := Aside0.mk (below_step HB.out hb); have hcw0 : W5.cell? ⟨g1, 0, none⟩ = some (.slice A0 l0.length c0) := (blk_cell BKg1.out 0).trans rfl; have hcw1 : W5.cell? ⟨g1, 1, none⟩ = some (.slice A1 l1.length c1) := (blk_cell BKg1.out 1).trans rfl; have hcw2 : W5.cell? ⟨g1, 2, none⟩ = some (.int .i64 wg) := (blk_cell BKg1.out 2).trans rfl; clear hb))
 go_ret
 exact ⟨rfl, HB.out⟩
set_option maxHeartbeats 4000000 in
set_option maxRecDepth 100000 in
theorem check_many (A0 : Option Addr) (c0 : Nat) (l0 : List S109) (A1 : Option Addr) (c1 : Nat) (l1 : List S110) (wg : Int) (w : World)
  (hr0 : Kd.C k109 w A0 l0.length l0) (hc0 : l0.length ≤ c0) (hr1 : Kd.C k110 w A1 l1.length l1) (hc1 : l1.length ≤ c1)
  (hn0 : l0.length ≤ 30) (hn1 : l1.length ≤ 30) (hms : ∀ p ∈ l1, p.f0.length ≤ 30) (h5 : ¬ 5 < l0.length) (h7 : ¬ 7 < l1.length) (hw : okIn wg 0 5 = true) (ha : l0.all okW = true) (hp : l1.all (okP l0) = true) :
  Calls Try.prog 61 #[.agg #[.slice A0 l0.length c0, .slice A1 l1.length c1, .int .i64 wg]] w fun e w' => e = .returned (.int .i64 (if 2000 < manyT l0 l1 then 3 else 0)) ∧ Below w.heap.size w w' := by
 have hu35 := Try.underlying35
 have hu110 := Try.underlying110
 have HR0 := Aside0.mk hr0
 have HC0 := Aside0.mk hc0
 have HR1 := Aside0.mk hr1
 have HC1 := Aside0.mk hc1
 have HMS := Aside0.mk hms
 clear hr0 hc0 hr1 hc1 hms
 have HB := Aside0.mk (Below.refl w.heap.size w)
 have hql01 : decide ((5 : Int) < (l0.length : Int)) = false := decide_eq_false (by omega)
 have hql02 : decide (5 < l0.length) = false := decide_eq_false (by omega)
 have hql11 : decide ((7 : Int) < (l1.length : Int)) = false := decide_eq_false (by omega)
 have hql12 : decide (7 < l1.length) = false := decide_eq_false (by omega)
 have HW := Aside0.mk (within_f wg 0 5)
 rw [hw] at HW
 clear hw
 go_enter Try.func61, Try.ntmps61
 go_wp2_with (first | ((with_reducible refine gate_dst (N := 1) rfl ?_); refine sbox (N := 1) #[.slice A0 l0.length c0, .slice A1 l1.length c1, .int .i64 wg] 35 ?_; intro g1 hg W_ hbox hb; have GEg1 := Aside0.mk (by rw [hg]; exact HB.out.size : w.heap.size ≤ g1); replace HB := Aside0.mk (below_step HB.out hb); have BKg1 := Aside0.mk hbox; clear hb hbox hg; have hczg1_0 : W_.cell? ⟨g1, 0, none⟩ = some (.slice A0 l0.length c0) := (blk_cell BKg1.out 0).trans rfl; have hczg1_1 : W_.cell? ⟨g1, 1, none⟩ = some (.slice A1 l1.length c1) := (blk_cell BKg1.out 1).trans rfl; have hczg1_2 : W_.cell? ⟨g1, 2, none⟩ = some (.int .i64 wg) := (blk_cell BKg1.out 2).trans rfl) | (go_at_call 88; refine (bundle_within.calls wg 0 5 true _ HW.out).mono ?_; rintro e W3 ⟨rfl, ⟨nd, rfl⟩⟩; have n0_ := Aside0.mk (pw_below_drewN HB.out nd); have n1_ := Aside0.mk (blk_drewN BKg1.out nd); clear HB BKg1; have HB := n0_; have BKg1 := n1_; clear n0_ n1_; have hcy0 : (W_.drewN nd).cell? ⟨g1, 0, none⟩ = some (.slice A0 l0.length c0) := (blk_cell BKg1.out 0).trans rfl; have hcy1 : (W_.drewN nd).cell? ⟨g1, 1, none⟩ = some (.slice A1 l1.length c1) := (blk_cell BKg1.out 1).trans rfl; have hcy2 : (W_.drewN nd).cell? ⟨g1, 2, none⟩ = some (.int .i64 wg) := (blk_cell BKg1.out 2).trans rfl) | (go_at_call 89; refine (allWoman_calls A0 c0 l0 okW _ (Kd.C_below HR0.out HB.out) (by omega) (fun z _ W' _ => (bundle_Woman_valid.calls z.f0 z.f1.f0 z.f1.f1 (okW z) W' (valid_f z)).mono (fun e W'' h => h))).mono ?_; rintro e W4 ⟨rfl, hb⟩; replace BKg1 := Aside0.mk (blk_below BKg1.out hb); replace HB := Aside0.mk (below_step HB.out hb); have hcx0 : W4.cell? ⟨g1, 0, none⟩ = some (.slice A0 l0.length c0) := (blk_cell BKg1.out 0).trans rfl; have hcx1 : W4.cell? ⟨g1, 1, none⟩ = some (.slice A1 l1.length c1) := (blk_cell BKg1.out 1).trans rfl; have hcx2 : W4.cell? ⟨g1, 2, none⟩ = some (.int .i64 wg) := (blk_cell BKg1.out 2).trans rfl; clear hb) | (go_at_call 91; refine (allPiece_calls (.agg #[.slice A0 l0.length c0, .slice A1 l1.length c1, .int .i64 wg]) A1 c1 l1 (okP l0) _ (Kd.C_below HR1.out HB.out) (by omega) (fun z hz A6 c6 W' hb' h1 h2 => pieceC A0 c0 l0 A1 c1 l1 wg z A6 c6 W' (Kd.C_below HR0.out (below_step HB.out hb')) HC0.out (Kd.C_below HR1.out (below_step HB.out hb')) HC1.out h2 h1 hn0 (HMS.out z hz))).mono ?_; rintro e W5 ⟨rfl, hb⟩; replace BKg1 := Aside0.mk (blk_below BKg1.out hb); replace HB := Aside0.mk (below_step HB.out hb); have hcw0 : W5.cell? ⟨g1, 0, none⟩ = some (.slice A0 l0.length c0) := (blk_cell BKg1.out 0).trans rfl; have hcw1 : W5.cell? ⟨g1, 1, none⟩ = some (.slice A1 l1.length c1) := (blk_cell BKg1.out 1).trans rfl; have hcw2 : W5.cell? ⟨g1, 2, none⟩ = some (.int .i64 wg) := (blk_cell BKg1.out 2).trans rfl; clear hb))
 obtain ⟨W1, hW1⟩ : ∃ W1 : World, W1 = W5 := ⟨_, rfl⟩
 subst hW1
 go_loopg [4, 41] l1.length (fun kq v4 v41 w' => ∃ m : Nat, v41 = .int .i64 (m : Int) ∧ v4 = .int .i64 ((l1.take m).foldl (fun m p => mn (m * ((ofL l0 p.f0).length : Int)) 2001) 1) ∧ Aside0 (m + kq = l1.length) ∧ Aside0 (Below W1.heap.size W1 w'))
 case atStart => exact ⟨0, rfl, rfl, ⟨Nat.zero_add _⟩, ⟨Below.refl _ _⟩⟩
 case round =>
  obtain ⟨m, rfl, rfl, HM, HB1⟩ := hrel
  by_cases hlt : m < l1.length
  ·cases gk with
   | zero => have := HM.out; omega
   | succ k1 =>
   obtain ⟨ad1, A6, c6, e1, hx1_0, hx1_1, hl1, hi1⟩ := at_T110 (Kd.C_below HR1.out (below_step HB.out HB1.out)) (m : Int) (by omega) (by omega)
   cases e1
   have hrd : rd_T110 l1 (m : Int) = l1.getD m z110 := rfl
   rw [hrd] at hx1_0 hx1_1 hl1 hi1
   clear hrd
   have hz30 : (l1.getD m z110).f0.length ≤ 30 := by
    rw [List.getD_eq_getElem?_getD, List.getElem?_eq_getElem hlt]
    exact HMS.out _ (List.getElem_mem hlt)
   have hft : (l1.take (m + 1)).foldl (fun m p => mn (m * ((ofL l0 p.f0).length : Int)) 2001) 1 = mn ((l1.take m).foldl (fun m p => mn (m * ((ofL l0 p.f0).length : Int)) 2001) 1 * ((ofL l0 (l1.getD m z110).f0).length : Int)) 2001 := by
    rw [List.take_succ_eq_append_getElem hlt, List.foldl_append, List.getD_eq_getElem?_getD, List.getElem?_eq_getElem hlt]; rfl
   have hbd := many_bound l0 (l1.take m)
   generalize hz : l1.getD m z110 = z at hx1_0 hx1_1 hl1 hi1 hz30 hft
   generalize (l1.take m).foldl (fun m p => mn (m * ((ofL l0 p.f0).length : Int)) 2001) 1 = x at hft hbd ⊢
   simp only [Int.toNat_natCast] at hx1_0 hx1_1
   obtain ⟨kof, hkof⟩ := of_ev l0 l1 wg z.f0 z.f1 hn0 hz30
   have HKOF := Aside0.mk (hkof kof (Nat.le_refl _))
   have hol : (ofL l0 z.f0).length ≤ 30 := Nat.le_trans (sel_le _ _) hn0
   obtain ⟨nl, hnl⟩ : ∃ nl, (ofL l0 z.f0).length = nl := ⟨_, rfl⟩
   have HLN := Aside0.mk hnl
   rw [hnl] at hft hol
   have hmul0 : 0 ≤ x * (nl : Int) := Int.mul_nonneg hbd.1 (by omega)
   have hmul1 : x * (nl : Int) ≤ 2001 * 30 := Int.mul_le_mul hbd.2 (by omega) (by omega) (by omega)
   have hmul : wrap64 (x * (nl : Int)) = x * (nl : Int) := wrap64_id _ (by omega) (by omega)
   have HFT := Aside0.mk hft
   have HL1 := Aside0.mk hl1
   clear hz hkof hl1 hz30 hft hbd hnl hmul0 hmul1
   go_upto_region 10 with (first | ((with_reducible refine gate_dst (N := 6) rfl ?_); refine sbox (N := 6) #[.slice none 0 0, .int .i64 0] 110 ?_; intro g6 hg W_ hbox hb; have HBR := Aside0.mk hb; have HGR := Aside0.mk (by rw [hg]; exact Nat.le_refl _ : wr.heap.size ≤ g6); have GEg6 := Aside0.mk (by rw [hg]; exact HB1.out.size : W1.heap.size ≤ g6); replace HB1 := Aside0.mk (below_step HB1.out hb); have BKg6 := Aside0.mk hbox; clear hb hbox hg; have hcg6_0 : W_.cell? ⟨g6, 0, none⟩ = some (.slice none 0 0) := (blk_cell BKg6.out 0).trans rfl; have hcg6_1 : W_.cell? ⟨g6, 1, none⟩ = some (.int .i64 0) := (blk_cell BKg6.out 1).trans rfl; have hfg6_0 := blk_frozen BKg6.out 0; have hfg6_1 := blk_frozen BKg6.out 1))
   have BK6 := Aside0.mk (blk_put (blk_put BKg6.out 0 (.slice A6 z.f0.length c6) rfl) 1 (.int .i64 z.f1) rfl)
   have HB6 := Aside0.mk ((HB1.out.setCell (p := ⟨g6, 0, none⟩) GEg6.out (.slice A6 z.f0.length c6)).setCell (p := ⟨g6, 1, none⟩) GEg6.out (.int .i64 z.f1))
   clear HB1 BKg6 hcg6_0 hcg6_1 hfg6_0 hfg6_1
   have hwr : Below wr.heap.size wr ((W_.setCell ⟨g6, 0, none⟩ (.slice A6 z.f0.length c6)).setCell ⟨g6, 1, none⟩ (.int .i64 z.f1)) := by
    exact (HBR.out.setCell (p := ⟨g6, 0, none⟩) HGR.out _).setCell (p := ⟨g6, 1, none⟩) HGR.out _
   have HI1 := Aside0.mk (Kd.C_below hi1 hwr)
   clear hwr hi1
   generalize (W_.setCell ⟨g6, 0, none⟩ (.slice A6 z.f0.length c6)).setCell ⟨g6, 1, none⟩ (.int .i64 z.f1) = W2 at *
   have HB1 := HB6
   clear HB6
   have hx6 : W2.cell? ⟨g6, 0, none⟩ = some (.slice A6 z.f0.length c6) := (blk_cell BK6.out 0).trans rfl
   have hx7 : W2.cell? ⟨g6, 1, none⟩ = some (.int .i64 z.f1) := (blk_cell BK6.out 1).trans rfl
   have hg0 : W2.cell? ⟨g1, 0, none⟩ = some (.slice A0 l0.length c0) := (blk_cell (blk_below BKg1.out HB1.out) 0).trans rfl
   have hg1 : W2.cell? ⟨g1, 1, none⟩ = some (.slice (some ad1) l1.length c1) := (blk_cell (blk_below BKg1.out HB1.out) 1).trans rfl
   have hg2 : W2.cell? ⟨g1, 2, none⟩ = some (.int .i64 wg) := (blk_cell (blk_below BKg1.out HB1.out) 2).trans rfl
   go_wp2_with (first | (go_at_call 93; refine (bundle_Table_of.calls kof A0 c0 l0 _ c1 l1 wg A6 c6 z.f0 z.f1 (ofL l0 z.f0) _ (Kd.C_below HR0.out (below_step HB.out HB1.out)) HC0.out (Kd.C_below HR1.out (below_step HB.out HB1.out)) HC1.out HI1.out HL1.out HKOF.out).mono ?_; rintro e W3 ⟨v48, rfl, ho, hb⟩; have HB3 := Aside0.mk (below_step HB1.out hb); clear HB1; have HB1 := HB3; clear HB3; have HO48 := Aside0.mk ho; clear ho hb; obtain ⟨A48, c48, e48⟩ := Kd.R_slice HO48.out; rw [HLN.out] at e48; subst e48) | (go_at_call 92; go_must (refine (minimum_calls W3.heap.size 2 (x * (nl : Int)) 2001 _ ((blk_cell (heap_alloc_new W3 _) 0).trans rfl) ((blk_cell (heap_alloc_new W3 _) 1).trans rfl)).mono ?_; rintro e W4 ⟨rfl, rfl⟩)))
   go_roundg k1
   case measure => omega
   case rel => exact ⟨m + 1, by go_num, by rw [HFT.out], ⟨by have := HM.out; omega⟩, ⟨below_alloc HB1.out _⟩⟩
  ·obtain rfl : m = l1.length := by have := HM.out; omega
   have hmt : (l1.take l1.length).foldl (fun m p => mn (m * ((ofL l0 p.f0).length : Int)) 2001) 1 = manyT l0 l1 := by rw [List.take_length]; rfl
   rw [hmt]
   have HBW := Aside0.mk (below_step HB.out HB1.out)
   by_cases hx : 2000 < manyT l0 l1
   ·go_wp2
    go_ret
    exact ⟨rfl, HBW.out⟩
   ·go_wp2
    go_ret
    exact ⟨rfl, HBW.out⟩
end Go.Proofs.Ytnbbbeghgomnoaa.X
namespace Go.Proofs.Ytnbbbeghgomnoaa.X
open Go.RowKit Go.Proofs.YtnbbbeghgomnoaaW.PrintWords Go.Proofs.YtnbbbeghgomnoaaW.PrintLast Go.Proofs.YtnbbbeghgomnoaaW.PrintMore
structure Tab (A0 : Option Addr) (c0 : Nat) (l0 : List S109) (A1 : Option Addr) (c1 : Nat) (l1 : List S110) (w : World) : Prop where
 r0 : Kd.C k109 w A0 l0.length l0
 h0 : l0.length ≤ c0
 r1 : Kd.C k110 w A1 l1.length l1
 h1 : l1.length ≤ c1
 n0 : l0.length ≤ 30
 n1 : l1.length ≤ 30
 ms : ∀ p ∈ l1, p.f0.length ≤ 30
theorem Tab.below {A0 : Option Addr} {c0 : Nat} {l0 : List S109} {A1 : Option Addr} {c1 : Nat} {l1 : List S110} {w w' : World} (h : Tab A0 c0 l0 A1 c1 l1 w) (hb : Below w.heap.size w w') : Tab A0 c0 l0 A1 c1 l1 w' :=
 ⟨Kd.C_below h.r0 hb, h.h0, Kd.C_below h.r1 hb, h.h1, h.n0, h.n1, h.ms⟩
theorem check_calls {A0 : Option Addr} {c0 : Nat} {l0 : List S109} {A1 : Option Addr} {c1 : Nat} {l1 : List S110} (wg : Int) {w : World} (ht : Tab A0 c0 l0 A1 c1 l1 w) :
  Calls Try.prog 61 #[.agg #[.slice A0 l0.length c0, .slice A1 l1.length c1, .int .i64 wg]] w fun e w' => e = .returned (.int .i64 (checkT l0 l1 wg)) ∧ Below w.heap.size w w' := by
 obtain ⟨r0, h0, r1, h1, n0, n1, ms⟩ := ht
 unfold checkT
 by_cases h5 : 5 < l0.length
 ·rw [if_pos (.inl h5)]
  exact check_women A0 c0 l0 A1 c1 l1 wg w r0 h0 r1 h1 n0 n1 ms h5
 ·by_cases h7 : 7 < l1.length
  ·rw [if_pos (.inr h7)]
   exact check_pieces A0 c0 l0 A1 c1 l1 wg w r0 h0 r1 h1 n0 n1 ms h5 h7
  ·rw [if_neg (by omega)]
   by_cases hw : okIn wg 0 5 = true
   ·by_cases ha : l0.all okW = true
    ·by_cases hp : l1.all (okP l0) = true
     ·rw [if_neg (by rw [hw, ha, hp]; decide)]
      exact check_many A0 c0 l0 A1 c1 l1 wg w r0 h0 r1 h1 n0 n1 ms h5 h7 hw ha hp
     ·have hp' : l1.all (okP l0) = false := Bool.eq_false_iff.2 hp
      rw [if_pos (.inr (.inr hp'))]
      exact check_piece A0 c0 l0 A1 c1 l1 wg w r0 h0 r1 h1 n0 n1 ms h5 h7 hw ha hp'
    ·have ha' : l0.all okW = false := Bool.eq_false_iff.2 ha
     rw [if_pos (.inr (.inl ha'))]
     exact check_woman A0 c0 l0 A1 c1 l1 wg w r0 h0 r1 h1 n0 n1 ms h5 h7 hw ha'
   ·have hw' : okIn wg 0 5 = false := Bool.eq_false_iff.2 hw
    rw [if_pos (.inl hw')]
    exact check_wrong A0 c0 l0 A1 c1 l1 wg w r0 h0 r1 h1 n0 n1 ms h5 h7 hw'
structure Val (l0 : List S109) (l1 : List S110) (wg : Int) : Prop where
 n0 : l0.length ≤ 5
 n1 : l1.length ≤ 7
 wg0 : 0 ≤ wg
 wg1 : wg ≤ 5
 ws : l0.all okW = true
 ps : l1.all (okP l0) = true
 mn : manyT l0 l1 ≤ 2000
theorem checkT_zero {l0 : List S109} {l1 : List S110} {wg : Int} (h : checkT l0 l1 wg = 0) : Val l0 l1 wg := by
 unfold checkT at h
 split at h
 ·exact absurd h (by decide)
 ·rename_i h1
  split at h
  ·exact absurd h (by decide)
  ·rename_i h2
   split at h
   ·exact absurd h (by decide)
   ·rename_i h3
    have hw : okIn wg 0 5 = true := by
     cases hh : okIn wg 0 5
     ·exact absurd (.inl hh) h2
     ·rfl
    unfold okIn at hw
    rw [Bool.and_eq_true, decide_eq_true_eq, decide_eq_true_eq] at hw
    refine ⟨by omega, by omega, hw.1, hw.2, ?_, ?_, by omega⟩
    ·cases hh : l0.all okW
     ·exact absurd (.inr (.inl hh)) h2
     ·rfl
    ·cases hh : l1.all (okP l0)
     ·exact absurd (.inr (.inr hh)) h2
     ·rfl
end Go.Proofs.Ytnbbbeghgomnoaa.X
namespace Go.Proofs.Ytnbbbeghgomnoaa.X
open Go.RowKit Go.Proofs.YtnbbbeghgomnoaaW.PrintWords Go.Proofs.YtnbbbeghgomnoaaW.PrintLast Go.Proofs.YtnbbbeghgomnoaaW.PrintMore
def k121 : Kd (List Int) where
 sz := 7
 E := []
 K _ x cs := cs = (ac (pad x)).toList
 M _ _ _ x cs := cs = (ac (pad x)).toList
 K_len h := by rw [h]; rfl
 K_one h := by
  intro u hu
  rw [h] at hu
  simp only [ac, List.mem_cons, List.not_mem_nil, or_false] at hu
  rcases hu with rfl | rfl | rfl | rfl | rfl | rfl | rfl <;> rfl
 K_below _ h := h
 K_of_M h := h
 M_mono _ h := h
 M_bound h := h
 M_move _ h := h
 M_lower _ h := h
def isT (l0 : List S109) (n1 : Nat) (wg : Int) (xs : List Int) : Bool := decide (((sel (bad l0 n1 (pad xs)) l0.length).length : Int) ≤ wg)
def truthsL (l0 : List S109) (l1 : List S110) (wg : Int) : List (List Int) := (allL l0 l1).filter (isT l0 l1.length wg)
def manyS (n1 : Nat) (ts : List (List Int)) (i k : Int) : Int := if 0 ≤ i ∧ i < n1 then ((ts.filter fun xs => pad xs i.toNat == k).length : Int) else 0
theorem manyS_append (n1 : Nat) (ts : List (List Int)) (x : List Int) (i k : Int) : manyS n1 (ts ++ [x]) i k = manyS n1 ts i k + if 0 ≤ i ∧ i < n1 ∧ pad x i.toNat = k then 1 else 0 := by
 unfold manyS
 by_cases h : 0 ≤ i ∧ i < n1
 ·rw [if_pos h, if_pos h, List.filter_append, List.length_append]
  by_cases hk : pad x i.toNat = k
  ·rw [if_pos ⟨h.1, h.2, hk⟩]
   simp [hk]
  ·rw [if_neg (fun h' => hk h'.2.2)]
   simp [hk]
 ·rw [if_neg h, if_neg h, if_neg (fun h' => h ⟨h'.1, h'.2.1⟩)]
  rfl
def wcs (A0 : Option Addr) (n0 c0 : Nat) (A1 : Option Addr) (n1 c1 : Nat) (wg : Int) (vt : Value) (gm : Nat) : Array Value := #[.slice A0 n0 c0, .slice A1 n1 c1, .int .i64 wg, vt, .map (some gm)]
structure AskI (w : World) (A0 : Option Addr) (n0 c0 : Nat) (A1 : Option Addr) (n1 c1 : Nat) (wg : Int) (g1 g5 gw gm B : Nat) (W : World) (vt : Value) (ts : List (List Int)) (f : Int → Int → Int) : Prop where
 hb : Below w.heap.size w W
 k1 : W.heap[g1]? = some (.cells #[.slice A0 n0 c0, .slice A1 n1 c1, .int .i64 wg] 35 (0, 0))
 k5 : W.heap[g5]? = some (.cells #[.pointer (some ⟨gw, 0, none⟩)] 99 (0, 0))
 kw : W.heap[gw]? = some (.cells (wcs A0 n0 c0 A1 n1 c1 wg vt gm) 105 (0, 0))
 row : Kd.R k121 121 W (B + 4) (fun _ => True) vt ts
 mp : ∃ L, MapL W gm L ∧ ∀ i k, getL L (i, k) = f i k
theorem AskI.below {w : World} {A0 : Option Addr} {n0 c0 : Nat} {A1 : Option Addr} {n1 c1 : Nat} {wg : Int} {g1 g5 gw gm B : Nat} {W W' : World} {vt : Value} {ts : List (List Int)} {f : Int → Int → Int} (h : AskI w A0 n0 c0 A1 n1 c1 wg g1 g5 gw gm B W vt ts f) (hb : Below W.heap.size W W') :
  AskI w A0 n0 c0 A1 n1 c1 wg g1 g5 gw gm B W' vt ts f :=
 ⟨h.hb.trans (hb.mono h.hb.size), blk_below h.k1 hb, blk_below h.k5 hb, blk_below h.kw hb, Kd.R_below h.row hb, by obtain ⟨L, h1, h2⟩ := h.mp; exact ⟨L, blk_below h1 hb, h2⟩⟩
theorem AskI.grown {w : World} {A0 : Option Addr} {n0 c0 : Nat} {A1 : Option Addr} {n1 c1 : Nat} {wg : Int} {g1 g5 gw gm B : Nat} {W W' : World} {vt : Value} {ts : List (List Int)} {f : Int → Int → Int} (h : AskI w A0 n0 c0 A1 n1 c1 wg g1 g5 gw gm B W vt ts f) {row : Option Nat} (hg : W.grownBy W' row) (hr : ∀ r, row = some r → r = B ∨ r = B + 1 ∨ r = B + 3)
  (hn : w.heap.size ≤ B) (h1 : g1 < B) (h5 : g5 < B) (hw : gw < B) (hm : gm < B) : AskI w A0 n0 c0 A1 n1 c1 wg g1 g5 gw gm B W' vt ts f :=
 ⟨abide_below h.hb hg hr hn h.hb.size, abide_blk h.k1 hg hr (.inl h1), abide_blk h.k5 hg hr (.inl h5), abide_blk h.kw hg hr (.inl hw),
  Kd.R_mono (Kd.R_grown (Kd.R_bound h.row) hg (fun k hk e => by have := hr k e.symm; omega)) (fun _ _ => trivial),
  by obtain ⟨L, m1, m2⟩ := h.mp; exact ⟨L, abide_blk m1 hg hr (.inl hm), m2⟩⟩
theorem eq121g (d : Nat) (w : World) (o p : Nat → Int) : (Op.equalIn (d + 2) 121 (.agg (ac o)) (.agg (ac p))).run Try.prog w = .ok ((List.range 7).all fun i => o i == p i) w := by
 obtain ⟨ti, hi⟩ := info_of_underlying Try.underlying3
 have hc : Try.prog.cellsOf 3 = 1 := by kernel_rfl
 rw [run_equalIn_array w (d + 1) (ac o) (ac p) Try.underlying121 hi, hc]
 have hpart : ∀ (q : Nat → Int) (i : Nat), i < 7 → (part 3 (ac q) (i * 1)).run Try.prog w = .ok (.int .i64 (q i)) w := by
  intro q i hi
  rcases (show i = 0 ∨ i = 1 ∨ i = 2 ∨ i = 3 ∨ i = 4 ∨ i = 5 ∨ i = 6 from by omega) with rfl | rfl | rfl | rfl | rfl | rfl | rfl <;> (simp only [part]; go_simp; first | done | rfl)
 have heq : ∀ x y : Int, (Op.equalIn (d + 1) 3 (.int .i64 x) (.int .i64 y)).run Try.prog w = .ok (x == y) w := by
  intro x y
  go_simp
 have main : ∀ is : List Nat, (∀ i ∈ is, i < 7) → (Op.eqItems (d + 1) 3 1 (ac o) (ac p) is).run Try.prog w = .ok (is.all fun i => o i == p i) w := by
  intro is
  induction is with
  | nil => intro _; rfl
  | cons i r ih =>
   intro hi
   have hi0 : i < 7 := hi i (by simp)
   simp only [Op.eqItems, Sem.run_bind, hpart o i hi0, hpart p i hi0, heq, Result.andThen_ok]
   cases hb : (o i == p i) with
   | false => simp [hb]
   | true => simp [hb, ih (fun j hj => hi j (by simp [hj]))]
 rw [main _ (fun i hi => by simpa using hi)]
end Go.Proofs.Ytnbbbeghgomnoaa.X
namespace Go.Proofs.Ytnbbbeghgomnoaa.X
open Go.RowKit Go.Proofs.YtnbbbeghgomnoaaW.PrintWords Go.Proofs.YtnbbbeghgomnoaaW.PrintLast Go.Proofs.YtnbbbeghgomnoaaW.PrintMore
theorem at_T121 {w : World} {A : Option Addr} {n : Nat} {xs : List (List Int)} (h : Kd.C k121 w A n xs) (i : Nat) (h1 : i < n) : ∃ ad, A = some ad ∧ w.cell? (ad.add (i * 7)) = some (.int .i64 (pad (xs.getD i []) 0)) ∧
  w.cell? ⟨(ad.add (i * 7)).block, (ad.add (i * 7)).off + 1, none⟩ = some (.int .i64 (pad (xs.getD i []) 1)) ∧ w.cell? ⟨(ad.add (i * 7)).block, (ad.add (i * 7)).off + 2, none⟩ = some (.int .i64 (pad (xs.getD i []) 2)) ∧
  w.cell? ⟨(ad.add (i * 7)).block, (ad.add (i * 7)).off + 3, none⟩ = some (.int .i64 (pad (xs.getD i []) 3)) ∧ w.cell? ⟨(ad.add (i * 7)).block, (ad.add (i * 7)).off + 4, none⟩ = some (.int .i64 (pad (xs.getD i []) 4)) ∧
  w.cell? ⟨(ad.add (i * 7)).block, (ad.add (i * 7)).off + 5, none⟩ = some (.int .i64 (pad (xs.getD i []) 5)) ∧ w.cell? ⟨(ad.add (i * 7)).block, (ad.add (i * 7)).off + 6, none⟩ = some (.int .i64 (pad (xs.getD i []) 6)) := by
 obtain ⟨ad, c, e, _, hK, hc0⟩ := Kd.C_get h [] (i : Int) (by omega) (by omega)
 rw [Int.toNat_natCast] at hK hc0
 have hc : ∀ j u, c[j]? = some u → w.cell? (ad.add (i * 7 + j)) = some u := hc0
 have hK' : c = (ac (pad (xs.getD i []))).toList := hK
 subst hK'
 have hs : ∀ j, 0 < j → j < 7 → w.cell? ⟨(ad.add (i * 7)).block, (ad.add (i * 7)).off + j, none⟩ = some (.int .i64 (pad (xs.getD i []) j)) := by
  intro j h0 hj
  rw [← add_field _ _ j h0]
  refine hc j _ ?_
  have := ac_get (pad (xs.getD i [])) j hj
  simpa using this
 exact ⟨ad, e, hc 0 _ rfl, hs 1 (by omega) (by omega), hs 2 (by omega) (by omega), hs 3 (by omega) (by omega), hs 4 (by omega) (by omega), hs 5 (by omega) (by omega), hs 6 (by omega) (by omega)⟩
theorem row_ne {α : Type} {d : Kd α} {e base : Nat} {W : World} {ok : Nat → Prop} {v : Value} {xs : List α} (h : d.R e W base ok v xs) {g : Nat} (hg : g < base) : some g ≠ v.ownBlock := fun he => by
 have := ((Kd.R_bound h).1 g he.symm).2.1
 omega
theorem Kp.row {B0 : Nat} {X : Nat → Prop} {Bo : Nat} {A C : World} {v : Value} {ts : List (List Int)} (h : Kd.R k121 121 A (Bo + 1) (fun _ => True) v ts) (hg : A.grownBy C v.ownBlock) (h0 : B0 ≤ Bo) (hb : Bo < A.heap.size) : Kp B0 X Bo A C :=
 KpS.of_grown hg fun k hk => by
  rcases hk with hk | hk | ⟨h1, h2, h3⟩
  ·exact ⟨by omega, row_ne h (by omega)⟩
  ·exact ⟨by omega, row_ne h (by omega)⟩
  ·refine ⟨h1, fun he => ?_⟩
   obtain ⟨_, _, _, q, hq, cells, hc⟩ := (Kd.R_bound h).1 k he.symm
   simp only [k121, List.mem_cons, List.not_mem_nil, or_false] at hq
   subst hq
   exact h3 _ _ hc
theorem prods_len (opts : Nat → List Int) (n : Nat) (h : ∀ i, (opts i).length ≤ n) : ∀ (d i : Nat), (prods opts d i).length ≤ n ^ d := by
 intro d
 induction d with
 | zero => intro i; simp [prods]
 | succ d ih =>
  intro i
  simp only [prods, List.length_flatMap, List.length_map]
  have hs : ∀ l : List Int, (l.map fun _ => (prods opts d (i + 1)).length).sum ≤ l.length * n ^ d := by
   intro l
   induction l with
   | nil => simp
   | cons a r ihr =>
    simp only [List.map_cons, List.sum_cons, List.length_cons]
    have := ih (i + 1)
    rw [Nat.add_mul, Nat.one_mul]
    omega
  have h1 := hs (opts i)
  have h2 := Nat.mul_le_mul_right (n ^ d) (h i)
  rw [Nat.pow_succ, Nat.mul_comm (n ^ d) n]
  exact Nat.le_trans h1 h2
theorem ofL_le (l0 : List S109) (ms : List Int) : (ofL l0 ms).length ≤ l0.length := sel_le _ _
theorem allL_len {l0 : List S109} {l1 : List S110} (h0 : l0.length ≤ 5) (h1 : l1.length ≤ 7) : (allL l0 l1).length ≤ 78125 := by
 refine Nat.le_trans (prods_len _ 5 (fun i => Nat.le_trans (ofL_le _ _) h0) _ _) ?_
 exact Nat.le_trans (Nat.pow_le_pow_right (by omega) h1) (by decide)
theorem touch_get (L : List ((Int × Int) × Int)) (p : Int × Int) : ∃ n0, (touch L p)[place L p]? = some (p, n0) := by
 have h := at_touch L p
 rcases getL_at (touch L p) p with ⟨j, e, h1, h2, h3, _⟩ | ⟨h1, _, _⟩
 ·rw [h] at h1
  obtain rfl := Option.some.inj h1
  exact ⟨e.2, by rw [h2]; exact congrArg some (Prod.ext h3 rfl)⟩
 ·rw [h] at h1; cases h1
theorem info121 : (Try.prog.info? 121).map (fun i => (i.zero, i.size, i.bytes)) = some (some (.agg (ac fun _ => 0)), 7, 56) := by kernel_rfl
theorem info121' : (Try.prog.info? 121).map (fun i => (i.zero, i.size, i.bytes)) = some (some (.agg (ac fun _ => 0)), k121.sz, 56) := info121
theorem manyS_bound (n1 : Nat) (ts : List (List Int)) (i k : Int) : 0 ≤ manyS n1 ts i k ∧ manyS n1 ts i k ≤ ts.length := by
 unfold manyS
 split
 ·have := List.length_filter_le (fun xs => pad xs i.toNat == k) ts
  omega
 ·omega
def midS (n1 : Nat) (ts : List (List Int)) (x : List Int) (m : Nat) : Int → Int → Int := fun i k => manyS n1 ts i k + if 0 ≤ i ∧ i < m ∧ pad x i.toNat = k then 1 else 0
theorem midS_zero (n1 : Nat) (ts : List (List Int)) (x : List Int) : midS n1 ts x 0 = manyS n1 ts := by
 funext i k
 unfold midS
 rw [if_neg (by omega)]
 omega
theorem midS_end (n1 : Nat) (ts : List (List Int)) (x : List Int) : midS n1 ts x n1 = manyS n1 (ts ++ [x]) := by
 funext i k
 unfold midS
 rw [manyS_append]
theorem midS_succ (n1 : Nat) (ts : List (List Int)) (x : List Int) (m : Nat) (i k : Int) : midS n1 ts x (m + 1) i k = if (i, k) = ((m : Int), pad x m) then midS n1 ts x m m (pad x m) + 1 else midS n1 ts x m i k := by
 unfold midS
 by_cases h : (i, k) = ((m : Int), pad x m)
 ·rw [if_pos h]
  injection h with h1 h2
  subst h1 h2
  rw [if_pos ⟨by omega, by omega, by rw [Int.toNat_natCast]⟩, if_neg (by omega)]
  omega
 ·rw [if_neg h]
  have : (0 ≤ i ∧ i < ((m + 1 : Nat) : Int) ∧ pad x i.toNat = k) ↔ (0 ≤ i ∧ i < (m : Int) ∧ pad x i.toNat = k) := by
   constructor
   ·rintro ⟨h1, h2, h3⟩
    refine ⟨h1, ?_, h3⟩
    by_cases hi : i = m
    ·subst hi
     rw [Int.toNat_natCast] at h3
     exact absurd (by rw [h3]) h
    ·omega
   ·rintro ⟨h1, h2, h3⟩
    exact ⟨h1, by omega, h3⟩
  simp only [this]
theorem midS_bound (n1 : Nat) (ts : List (List Int)) (x : List Int) (m : Nat) (i k : Int) : 0 ≤ midS n1 ts x m i k ∧ midS n1 ts x m i k ≤ ts.length + 1 := by
 unfold midS
 have := manyS_bound n1 ts i k
 split <;> omega
def eq7 (a0 a1 a2 a3 a4 a5 a6 b0 b1 b2 b3 b4 b5 b6 : Int) : Bool := [a0, a1, a2, a3, a4, a5, a6] == [b0, b1, b2, b3, b4, b5, b6]
theorem eq121r (d : Nat) (w : World) (a0 a1 a2 a3 a4 a5 a6 b0 b1 b2 b3 b4 b5 b6 : Int) : (Op.equalIn (d + 2) 121 (.agg #[.int .i64 a0, .int .i64 a1, .int .i64 a2, .int .i64 a3, .int .i64 a4, .int .i64 a5, .int .i64 a6]) (.agg #[.int .i64 b0, .int .i64 b1, .int .i64 b2, .int .i64 b3, .int .i64 b4, .int .i64 b5, .int .i64 b6])).run Try.prog w = .ok (eq7 a0 a1 a2 a3 a4 a5 a6 b0 b1 b2 b3 b4 b5 b6) w := by
 obtain ⟨o, ho⟩ : ∃ o : Nat → Int, o = fun i => [a0, a1, a2, a3, a4, a5, a6].getD i 0 := ⟨_, rfl⟩
 obtain ⟨p, hp⟩ : ∃ o : Nat → Int, o = fun i => [b0, b1, b2, b3, b4, b5, b6].getD i 0 := ⟨_, rfl⟩
 have h1 : (#[.int .i64 a0, .int .i64 a1, .int .i64 a2, .int .i64 a3, .int .i64 a4, .int .i64 a5, .int .i64 a6] : Array Value) = ac o := by subst ho; rfl
 have h2 : (#[.int .i64 b0, .int .i64 b1, .int .i64 b2, .int .i64 b3, .int .i64 b4, .int .i64 b5, .int .i64 b6] : Array Value) = ac p := by subst hp; rfl
 rw [h1, h2, eq121g]
 refine congrArg (fun b => Result.ok b w) ?_
 subst ho hp
 simp [eq7, List.range, List.range.loop]
theorem eq7_false (o p : Nat → Int) (h : ∃ i, i < 7 ∧ o i ≠ p i) : eq7 (o 0) (o 1) (o 2) (o 3) (o 4) (o 5) (o 6) (p 0) (p 1) (p 2) (p 3) (p 4) (p 5) (p 6) = false := by
 obtain ⟨i, hi, hne⟩ := h
 unfold eq7
 rw [beq_eq_false_iff_ne]
 intro he
 simp only [List.cons.injEq, and_true] at he
 obtain ⟨h0, h1, h2, h3, h4, h5, h6⟩ := he
 rcases (show i = 0 ∨ i = 1 ∨ i = 2 ∨ i = 3 ∨ i = 4 ∨ i = 5 ∨ i = 6 from by omega) with rfl | rfl | rfl | rfl | rfl | rfl | rfl <;> exact hne (by assumption)
end Go.Proofs.Ytnbbbeghgomnoaa.X
namespace Go.Proofs.Ytnbbbeghgomnoaa.X
open Go.RowKit Go.Proofs.YtnbbbeghgomnoaaW.PrintWords Go.Proofs.YtnbbbeghgomnoaaW.PrintLast Go.Proofs.YtnbbbeghgomnoaaW.PrintMore
attribute [local go_sem] Oper.semAt_some
attribute [local go_sem high] eq121r
theorem mkmap_event {P : Program} {ops : Array Oper} {o : Oper} {rest : List Oper} {a : Act} {Q : Exit → Act → World → Prop} {W : World} (hgd : o.guard = none)
  (hrun : (execOp a.eval o).run P W = .ok (.value (.map (some W.heap.size))) (W.alloc (.map #[] 0)))
  (h : ∀ g, g = W.heap.size → ∀ w1, MapL w1 g [] → Below W.heap.size W w1 → wpList P ops Q rest (a.put o.dst (.map (some g))) w1) : wpList P ops Q (o :: rest) a W :=
 Kd.event_run hgd hrun (h _ rfl _ (by show (W.alloc (.map #[] 0)).heap[W.heap.size]? = _; exact blk_new W _) (below_alloc (Below.refl _ _) _))
set_option maxHeartbeats 4000000 in
set_option maxRecDepth 100000 in
theorem asked_err {A0 : Option Addr} {c0 : Nat} {l0 : List S109} {A1 : Option Addr} {c1 : Nat} {l1 : List S110} (wg : Int) {w : World} (ht : Tab A0 c0 l0 A1 c1 l1 w) (he : checkT l0 l1 wg ≠ 0) :
  Calls Try.prog 68 #[.agg #[.slice A0 l0.length c0, .slice A1 l1.length c1, .int .i64 wg]] w fun e w' => e = .returned (.tuple #[.pointer none, .int .i64 (checkT l0 l1 wg)]) ∧ Below w.heap.size w w' := by
 have hu35 := Try.underlying35
 have HT := Aside0.mk ht
 have HE := Aside0.mk he
 clear ht he
 have HB := Aside0.mk (Below.refl w.heap.size w)
 go_enter Try.func68, Try.ntmps68
 go_wp2_with (first | ((with_reducible refine gate_dst (N := 1) rfl ?_); refine sbox (N := 1) #[.slice A0 l0.length c0, .slice A1 l1.length c1, .int .i64 wg] 35 ?_; intro g1 hg W_ hbox hb; have GEg1 := Aside0.mk (by rw [hg]; exact HB.out.size : w.heap.size ≤ g1); replace HB := Aside0.mk (below_step HB.out hb); have BKg1 := Aside0.mk hbox; clear hb hbox hg; have hczg1_0 : W_.cell? ⟨g1, 0, none⟩ = some (.slice A0 l0.length c0) := (blk_cell BKg1.out 0).trans rfl; have hczg1_1 : W_.cell? ⟨g1, 1, none⟩ = some (.slice A1 l1.length c1) := (blk_cell BKg1.out 1).trans rfl; have hczg1_2 : W_.cell? ⟨g1, 2, none⟩ = some (.int .i64 wg) := (blk_cell BKg1.out 2).trans rfl) | (go_at_call 61; refine (check_calls wg (HT.out.below HB.out)).mono ?_; rintro e W_ ⟨rfl, hb⟩; replace BKg1 := Aside0.mk (blk_below BKg1.out hb); replace HB := Aside0.mk (below_step HB.out hb); clear hb; have he := HE.out; generalize hec : checkT l0 l1 wg = ec at *; have hne : (ec == (0 : Int)) = false := by simpa using he))
 go_ret2
 exact ⟨by rw [hec]; rfl, HB.out⟩
set_option maxHeartbeats 4000000 in
set_option maxRecDepth 100000 in
theorem asked_calls {A0 : Option Addr} {c0 : Nat} {l0 : List S109} {A1 : Option Addr} {c1 : Nat} {l1 : List S110} (wg : Int) {w : World} (ht : Tab A0 c0 l0 A1 c1 l1 w) (he : checkT l0 l1 wg = 0) :
  Calls Try.prog 68 #[.agg #[.slice A0 l0.length c0, .slice A1 l1.length c1, .int .i64 wg]] w fun e w' => Below w.heap.size w w' ∧ ((truthsL l0 l1 wg = [] ∧ e = .returned (.tuple #[.pointer none, .int .i64 11])) ∨
   (truthsL l0 l1 wg ≠ [] ∧ ∃ gw gm vt, w.heap.size ≤ gw ∧ w.heap.size ≤ gm ∧ e = .returned (.tuple #[.pointer (some ⟨gw, 0, none⟩), .int .i64 0]) ∧ w'.heap[gw]? = some (.cells (wcs A0 l0.length c0 A1 l1.length c1 wg vt gm) 105 (0, 0)) ∧
    Kd.R k121 121 w' w.heap.size (fun _ => True) vt (truthsL l0 l1 wg) ∧ ∃ L, MapL w' gm L ∧ ∀ i k, getL L (i, k) = manyS l1.length (truthsL l0 l1 wg) i k)) := by
 have hu35 := Try.underlying35
 have hu121 := Try.underlying121
 have hu105 := Try.underlying105
 have hu99 := Try.underlying99
 have HV := Aside0.mk (checkT_zero he)
 have HT := Aside0.mk ht
 have HE := Aside0.mk he
 clear ht he
 have HB := Aside0.mk (Below.refl w.heap.size w)
 refine callsIn_wide.1 (callsIn_of_wp_marks (n := 0) Try.func68 rfl trivial ?_ rfl)
 refine wpIn_wide.2 ?_
 simp only [Try.ntmps68, List.size_toArray, List.length_cons, List.length_nil, Nat.reduceAdd, Nat.reduceSub, Array.replicate_succ, Array.replicate_zero, List.push_toArray, List.append_toArray, List.nil_append, List.cons_append]
 go_wp2_with (first | ((with_reducible refine gate_dst (N := 1) rfl ?_); refine sbox (N := 1) #[.slice A0 l0.length c0, .slice A1 l1.length c1, .int .i64 wg] 35 ?_; intro g1 hg W_ hbox hb; have GEg1 := Aside0.mk (by rw [hg]; exact HB.out.size : w.heap.size ≤ g1); replace HB := Aside0.mk (below_step HB.out hb); have BKg1 := Aside0.mk hbox; clear hb hbox hg; have hczg1_0 : W_.cell? ⟨g1, 0, none⟩ = some (.slice A0 l0.length c0) := (blk_cell BKg1.out 0).trans rfl; have hczg1_1 : W_.cell? ⟨g1, 1, none⟩ = some (.slice A1 l1.length c1) := (blk_cell BKg1.out 1).trans rfl; have hczg1_2 : W_.cell? ⟨g1, 2, none⟩ = some (.int .i64 wg) := (blk_cell BKg1.out 2).trans rfl) | (go_at_call 61; refine (check_calls wg (HT.out.below HB.out)).mono ?_; rintro e W_ ⟨rfl, hb⟩; replace BKg1 := Aside0.mk (blk_below BKg1.out hb); replace HB := Aside0.mk (below_step HB.out hb); clear hb; have hczg1_0 : W_.cell? ⟨g1, 0, none⟩ = some (.slice A0 l0.length c0) := (blk_cell BKg1.out 0).trans rfl; have hczg1_1 : W_.cell? ⟨g1, 1, none⟩ = some (.slice A1 l1.length c1) := (blk_cell BKg1.out 1).trans rfl; have hczg1_2 : W_.cell? ⟨g1, 2, none⟩ = some (.int .i64 wg) := (blk_cell BKg1.out 2).trans rfl; have he := HE.out; generalize hec : checkT l0 l1 wg = ec at *; subst he) | ((with_reducible refine gate_dst (N := 14) rfl ?_); refine mkmap_event ?hg ?hr ?_; (case hg => rfl); (case hr => go_simp; rfl); intro gm hg W_ hmp hb; have GEm := Aside0.mk (by rw [hg]; exact HB.out.size : w.heap.size ≤ gm); have LTm := Aside0.mk (by rw [hg]; exact blk_lt BKg1.out : g1 < gm); replace BKg1 := Aside0.mk (blk_below BKg1.out hb); replace HB := Aside0.mk (below_step HB.out hb); have BKm := Aside0.mk hmp; clear hb hmp hg) | ((with_reducible refine gate_dst (N := 16) rfl ?_); refine sbox (N := 16) #[.slice A0 l0.length c0, .slice A1 l1.length c1, .int .i64 wg, .slice none 0 0, .map (some gm)] 105 ?_; intro gw hg W_ hbox hb; have LTgw_gm := Aside0.mk (by rw [hg]; exact blk_lt BKm.out : gm < gw); have LTgw_g1 := Aside0.mk (by rw [hg]; exact blk_lt BKg1.out : g1 < gw); have GEgw := Aside0.mk (by rw [hg]; exact HB.out.size : w.heap.size ≤ gw); replace BKg1 := Aside0.mk (blk_below BKg1.out hb); replace BKm := Aside0.mk (blk_below (o := .map _ _) BKm.out hb); replace HB := Aside0.mk (below_step HB.out hb); have BKgw := Aside0.mk hbox; clear hb hbox hg) | ((with_reducible refine gate_dst (N := 5) rfl ?_); refine sbox (N := 5) #[.pointer none] 99 ?_; intro g5 hg W_ hbox hb; have LTg5_gw := Aside0.mk (by rw [hg]; exact blk_lt BKgw.out : gw < g5); have LTg5_g1 := Aside0.mk (by rw [hg]; exact blk_lt BKg1.out : g1 < g5); have LTg5_gm := Aside0.mk (by rw [hg]; exact blk_lt BKm.out : gm < g5); have GEg5 := Aside0.mk (by rw [hg]; exact HB.out.size : w.heap.size ≤ g5); replace BKg1 := Aside0.mk (blk_below BKg1.out hb); replace BKm := Aside0.mk (blk_below (o := .map _ _) BKm.out hb); replace BKgw := Aside0.mk (blk_below BKgw.out hb); replace HB := Aside0.mk (below_step HB.out hb); have BKg5 := Aside0.mk hbox; clear hb hbox hg; have hczg1_0 : W_.cell? ⟨g1, 0, none⟩ = some (.slice A0 l0.length c0) := (blk_cell BKg1.out 0).trans rfl; have hczg1_1 : W_.cell? ⟨g1, 1, none⟩ = some (.slice A1 l1.length c1) := (blk_cell BKg1.out 1).trans rfl; have hczg1_2 : W_.cell? ⟨g1, 2, none⟩ = some (.int .i64 wg) := (blk_cell BKg1.out 2).trans rfl; have hf5 : W_.frozen? ⟨g5, 0, none⟩ = false := blk_frozen BKg5.out 0; have hx5 : W_.cell? ⟨g5, 0, none⟩ = some (.pointer none) := (blk_cell BKg5.out 0).trans rfl; have hne51 : g5 ≠ g1 := by have := LTg5_g1.out; omega) | (go_at_call 96; refine (lists_calls A0 c0 l0.length A1 c1 l1.length wg _).mono ?_; rintro e W5 ⟨rfl, hk, hb⟩; have hsz : (W_.setCell ⟨g5, 0, none⟩ (.pointer (some ⟨gw, 0, none⟩))).heap.size = W_.heap.size := (by simp [World.setCell]); have LTg1 := Aside0.mk (LTm.out); have HS5 := Aside0.mk (blk_lt BKg5.out);  have hbs : Below w.heap.size w (W_.setCell ⟨g5, 0, none⟩ (.pointer (some ⟨gw, 0, none⟩))) := HB.out.setCell (p := ⟨g5, 0, none⟩) GEg5.out _;  have HI := Aside0.mk (show AskI w A0 l0.length c0 A1 l1.length c1 wg g1 g5 gw gm W5.heap.size W5 (.slice none 0 0) [] (fun _ _ => 0) from ⟨hbs.trans (hb.mono hbs.size), blk_below (blk_far BKg1.out (show g1 ≠ g5 by have := LTg5_g1.out; omega) _) hb, blk_below (blk_put BKg5.out 0 _ rfl) hb, blk_below (blk_far BKgw.out (show gw ≠ g5 by have := LTg5_gw.out; omega) _) hb, Kd.R_nil _ _ _ _ _, [], blk_below (o := .map _ _) ((Below.heap_setCell W_ ⟨g5, 0, none⟩ _ gm (show gm ≠ g5 by have := LTg5_gm.out; omega)).trans BKm.out) hb, fun _ _ => rfl⟩);  have HB5 := Aside0.mk (hbs.trans (hb.mono hbs.size)); rw [hsz] at hk; have BKl := Aside0.mk hk; have HG1 := Aside0.mk (show w.heap.size ≤ W_.heap.size from HB.out.size); have HGS := Aside0.mk (show W_.heap.size < W5.heap.size from by have := blk_lt hk; omega); clear hk hb hbs hczg1_0 hczg1_1 hczg1_2; clear hsz))
 generalize hgl : W_.heap.size = gl at *
 have HGL := Aside0.mk (show g1 < W5.heap.size ∧ g5 < W5.heap.size ∧ gw < W5.heap.size ∧ gm < W5.heap.size ∧ w.heap.size ≤ W5.heap.size ∧ g5 < gl ∧ gw < gl ∧ gm < gl ∧ gl < W5.heap.size from by
  have h1 := LTg5_g1.out
  have h2 := LTg5_gw.out
  have h3 := LTg5_gm.out
  have h4 := HS5.out
  have h5 := HGS.out
  have h6 := HB5.out.size
  have h7 := blk_lt BKl.out
  omega)
 have HW := Aside0.mk (And.intro GEm.out (And.intro GEgw.out GEg5.out))
 have HN := Aside0.mk (And.intro LTg5_gw.out (And.intro LTg5_gm.out LTgw_gm.out))
 clear hgl HGS HS5 LTg5_g1 LTg5_gw LTg5_gm GEm GEgw GEg5 LTm BKg1 BKgw BKg5 BKm HB
 refine wp_rangeR (gf := 108) (lb := #[.pointer (some ⟨gl, 0, none⟩)]) (enc := fun xs => .agg (ac (pad xs))) (ALL := allL l0 l1) (B0 := w.heap.size) (X := fun k => k = gw ∨ k = gm) rfl (enters_of Try.func108 (by kernel_rfl) rfl) HB5.out.size (fun k hk e => by have := HGL.out; omega)
  (lists1_seq w A0 c0 l0 A1 c1 l1 wg gl (fun k => k = gw ∨ k = gm) W5 HT.out.r0 HT.out.h0 HT.out.r1 HT.out.h1 HT.out.n0 HV.out.n1 HT.out.ms HB5.out BKl.out (fun e => by have := HGL.out; omega) (fun k hk e => by have := HGL.out; omega)) rfl
  (fun pre W => ∃ vt, AskI w A0 l0.length c0 A1 l1.length c1 wg g1 g5 gw gm W5.heap.size W vt (pre.filter (isT l0 l1.length wg)) (fun i k => manyS l1.length (pre.filter (isT l0 l1.length wg)) i k))
  (fun _ _ _ => False)
  (fun s A B row hs hg hr => by obtain ⟨vt, hs⟩ := hs; exact ⟨vt, hs.grown hg hr HGL.out.2.2.2.2.1 HGL.out.1 HGL.out.2.1 HGL.out.2.2.1 HGL.out.2.2.2.1⟩)
  (fun c s A B row hs hg hr => hs)
  ⟨_, by simpa [manyS] using HI.out⟩
  (fun x a' W => ∃ g6, W5.heap.size + 3 < g6 ∧ W.heap[g6]? = some (.cells (ac (pad x)) 121 (0, 0)) ∧ (∀ vt, W.heap[gw]? = some (.cells (wcs A0 l0.length c0 A1 l1.length c1 wg vt gm) 105 (0, 0)) → some g6 ≠ vt.ownBlock) ∧ a' = { tmps := #[.agg #[.slice A0 l0.length c0, .slice A1 l1.length c1, .int .i64 wg], .pointer (some ⟨g1, 0, none⟩), .pointer none, .int .i64 0, .int .i64 0, .pointer (some ⟨g5, 0, none⟩), .pointer (some ⟨g6, 0, none⟩), undef, .agg #[.slice A0 l0.length c0, .slice A1 l1.length c1, .int .i64 wg], .int .i64 0, .int .i64 0, .bool false, undef, .agg #[.slice A0 l0.length c0, .slice A1 l1.length c1, .int .i64 wg], .map (some gm), .agg #[.slice A0 l0.length c0, .slice A1 l1.length c1, .int .i64 wg, .slice none 0 0, .map (some gm)], .pointer (some ⟨gw, 0, none⟩), .agg #[.slice A0 l0.length c0, .slice A1 l1.length c1, .int .i64 wg], .func (.func 108) #[] #[.pointer (some ⟨gl, 0, none⟩)], .agg (ac (pad x)), undef, undef, undef, undef, undef, undef, undef, undef, undef, undef, undef, undef, undef, undef, undef, undef, undef, undef, undef, undef, undef, undef, undef, undef, undef, undef, undef, undef, undef, undef, undef, undef, undef, undef, undef, undef, undef, undef, undef, undef, undef, undef, undef, undef, undef, undef, undef, undef, undef, undef, undef, undef, undef, undef, undef, undef, undef, undef, undef, undef, undef, undef, undef, undef, undef, undef, undef, undef], defers := [] })
  (fun x a' s A B row hs hg hr => by
   obtain ⟨g6, h1, h2, h4, h3⟩ := hs
   refine ⟨g6, h1, abide_blk h2 hg hr (.inr h1), fun vt hv => h4 vt ?_, h3⟩
   have := blk_lt h2
   rw [← hv]
   exact (hg.block gw (by have := HGL.out; omega) (fun e => by have := hr gw e.symm; have := HGL.out; omega)).symm) ?assign ?body ?done ?stop
 case assign =>
  intro l pre x W K hi hz hK
  unfold ac
  gi_wp2
  obtain ⟨vt, hi⟩ := hi
  exact hK _ _ (Kp.of_below (below_alloc (Below.refl _ _) _) hi.hb.size hz) ⟨vt, hi.below (below_alloc (Below.refl _ _) _)⟩ ⟨W.heap.size, hz, heap_alloc_new W _, fun vt2 hv he => by
   have h1 := (below_alloc (Below.refl W.heap.size W) (.cells #[.int .i64 (pad x 0), .int .i64 (pad x 1), .int .i64 (pad x 2), .int .i64 (pad x 3), .int .i64 (pad x 4), .int .i64 (pad x 5), .int .i64 (pad x 6)] 121)).block gw (blk_lt hi.kw)
   rw [hv, hi.kw] at h1
   have h2 : vt2 = vt := by simpa [wcs] using h1
   rw [h2] at he
   have := Kd.R_lt hi.row W.heap.size he.symm
   omega, rfl⟩
 case body => 
  rintro l pre x a' W ⟨vt, hi⟩ ⟨g6, hg6, hk6, hn6, rfl⟩ hz hp
  have HI := Aside0.mk hi
  have HK6 := Aside0.mk hk6
  have HN6 := Aside0.mk (hn6 vt hi.kw)
  have HG6 := Aside0.mk hg6
  have HZ := Aside0.mk hz
  have HSZ := Aside0.mk hi.hb.size
  have hxm : x ∈ allL l0 l1 := hp.subset (by simp)
  have HOW := Aside0.mk (allL_owners l0 l1 x hxm)
  have HXL := Aside0.mk ((allL_mem l0 l1 x).1 hxm).1
  have HB1 := Aside0.mk (Below.refl W.heap.size W)
  have HPL0 := Aside0.mk (show pre.length ≤ 78125 from Nat.le_trans (Nat.le_trans (by simp) hp.length_le) (allL_len HV.out.n0 HV.out.n1))
  have HPP := Aside0.mk hp
  have HI0 := HI
  clear hi hk6 hn6 hg6 hz hxm hp
  apply wpIn_block
  repeat (apply wpIn_seq_k; intro _ _)
  have hct0 : W.cell? ⟨g1, 0, none⟩ = some (.slice A0 l0.length c0) := (blk_cell HI.out.k1 0).trans rfl
  have hct1 : W.cell? ⟨g1, 1, none⟩ = some (.slice A1 l1.length c1) := (blk_cell HI.out.k1 1).trans rfl
  have hct2 : W.cell? ⟨g1, 2, none⟩ = some (.int .i64 wg) := (blk_cell HI.out.k1 2).trans rfl
  have hca0 : W.cell? ⟨g6, 0, none⟩ = some (.int .i64 (pad x 0)) := (blk_cell HK6.out 0).trans rfl
  have hca1 : W.cell? ⟨g6, 1, none⟩ = some (.int .i64 (pad x 1)) := (blk_cell HK6.out 1).trans rfl
  have hca2 : W.cell? ⟨g6, 2, none⟩ = some (.int .i64 (pad x 2)) := (blk_cell HK6.out 2).trans rfl
  have hca3 : W.cell? ⟨g6, 3, none⟩ = some (.int .i64 (pad x 3)) := (blk_cell HK6.out 3).trans rfl
  have hca4 : W.cell? ⟨g6, 4, none⟩ = some (.int .i64 (pad x 4)) := (blk_cell HK6.out 4).trans rfl
  have hca5 : W.cell? ⟨g6, 5, none⟩ = some (.int .i64 (pad x 5)) := (blk_cell HK6.out 5).trans rfl
  have hca6 : W.cell? ⟨g6, 6, none⟩ = some (.int .i64 (pad x 6)) := (blk_cell HK6.out 6).trans rfl
  have hc5 : W.cell? ⟨g5, 0, none⟩ = some (.pointer (some ⟨gw, 0, none⟩)) := (blk_cell HI.out.k5 0).trans rfl
  obtain ⟨nb, hnb⟩ : ∃ nb : Nat, (sel (bad l0 l1.length (pad x)) l0.length).length = nb := ⟨_, rfl⟩
  have HNB := Aside0.mk hnb
  clear hnb
  have hnbl : nb ≤ l0.length := by rw [← HNB.out]; exact sel_le _ _
  have hT : isT l0 l1.length wg x = decide ((nb : Int) ≤ wg) := by unfold isT; rw [HNB.out]
  by_cases htr : wg < (nb : Int)
  ·have htd : decide (wg < (nb : Int)) = true := by simpa using htr
   have HFA := Aside0.mk (show (pre ++ [x]).filter (isT l0 l1.length wg) = pre.filter (isT l0 l1.length wg) from by
    rw [List.filter_append]
    have : isT l0 l1.length wg x = false := by rw [hT]; simpa using htr
    simp [this])
   clear hT
   refine startIn_ (m := 31) (S := fun w' => w'.cell? ⟨g1, 0, none⟩ = some (.slice A0 l0.length c0) ∧ w'.cell? ⟨g1, 1, none⟩ = some (.slice A1 l1.length c1) ∧ w'.cell? ⟨g1, 2, none⟩ = some (.int .i64 wg) ∧ w'.cell? ⟨g6, 0, none⟩ = some (.int .i64 (pad x 0)) ∧ w'.cell? ⟨g6, 1, none⟩ = some (.int .i64 (pad x 1)) ∧ w'.cell? ⟨g6, 2, none⟩ = some (.int .i64 (pad x 2)) ∧ w'.cell? ⟨g6, 3, none⟩ = some (.int .i64 (pad x 3)) ∧ w'.cell? ⟨g6, 4, none⟩ = some (.int .i64 (pad x 4)) ∧ w'.cell? ⟨g6, 5, none⟩ = some (.int .i64 (pad x 5)) ∧ w'.cell? ⟨g6, 6, none⟩ = some (.int .i64 (pad x 6))) (ds := []) (fun ⟨_, _, h⟩ => h) (by rfl) (lm 31 0) (by kernel_rfl) rfl (by kernel_rfl) ⟨hct0, hct1, hct2, hca0, hca1, hca2, hca3, hca4, hca5, hca6⟩ (fun hHeld => ?_)
   replace HI := Aside0.mk (HI.out.below (below_drew1 (Below.refl _ _)))
   replace HK6 := Aside0.mk (show W.drew.heap[g6]? = _ from HK6.out)
   replace HB1 := Aside0.mk (below_drew1 HB1.out)
   replace hct0 := (show W.drew.cell? _ = _ from hct0)
   replace hct1 := (show W.drew.cell? _ = _ from hct1)
   replace hct2 := (show W.drew.cell? _ = _ from hct2)
   replace hca0 := (show W.drew.cell? _ = _ from hca0)
   replace hca1 := (show W.drew.cell? _ = _ from hca1)
   replace hca2 := (show W.drew.cell? _ = _ from hca2)
   replace hca3 := (show W.drew.cell? _ = _ from hca3)
   replace hca4 := (show W.drew.cell? _ = _ from hca4)
   replace hca5 := (show W.drew.cell? _ = _ from hca5)
   replace hca6 := (show W.drew.cell? _ = _ from hca6)
   generalize W.drew = W2 at *
   have HCW := Aside0.mk (wrong_calls A0 c0 l0 A1 c1 l1 wg (pad x) W2 (Kd.C_below HT.out.r0 HI.out.hb) HT.out.n0 HV.out.n1 HOW.out)
   unfold ac at HCW
   refine sP (i := 4) (N := some 24) (lm 31 16) ?_
   refine take_ (i := 0) (N := some 20) (v := ?_) (a' := ?_) (lm 31 17) rfl rfl (by kernel_rfl) (fun _ _ _ h => h) (Or.inl ⟨by rfl, ?_⟩) hHeld ?_ ?_
   rotate_left
   ·rintro w' ⟨s0, s1, s2, s3, s4, s5, s6, s7, s8, s9⟩
    go_simp
    with_reducible rfl
   rotate_left
   ·simp only [Act.put, List.setIfInBounds_toArray, List.set_cons_zero, List.set_cons_succ, i64_w, i32_w]
    rfl
   refine take_ (i := 1) (N := some 21) (v := ?_) (a' := ?_) (lm 31 19) rfl rfl (by kernel_rfl) (fun _ _ _ h => h) (Or.inl ⟨by rfl, ?_⟩) hHeld ?_ ?_
   rotate_left
   ·rintro w' ⟨s0, s1, s2, s3, s4, s5, s6, s7, s8, s9⟩
    go_simp
    with_reducible rfl
   rotate_left
   ·simp only [Act.put, List.setIfInBounds_toArray, List.set_cons_zero, List.set_cons_succ, i64_w, i32_w]
    rfl
   refine take_ (i := 5) (N := some 25) (v := ?_) (a' := ?_) (lm 31 51) rfl rfl (by kernel_rfl) (fun _ _ _ h => h) (Or.inl ⟨by rfl, ?_⟩) hHeld ?_ ?_
   rotate_left
   ·rintro w' ⟨s0, s1, s2, s3, s4, s5, s6, s7, s8, s9⟩
    go_simp
    with_reducible rfl
   rotate_left
   ·simp only [Act.put, List.setIfInBounds_toArray, List.set_cons_zero, List.set_cons_succ, i64_w, i32_w]
    rfl
   refine one_ (i := 2) (N := some 22) (lm 31 55) rfl rfl (by kernel_rfl) (by decide) (fun K hK => ?_)
   refine goes_ Try.func86 (by kernel_rfl) rfl #[.agg #[.slice A0 l0.length c0, .slice A1 l1.length c1, .int .i64 wg], .agg #[.int .i64 (pad x 0), .int .i64 (pad x 1), .int .i64 (pad x 2), .int .i64 (pad x 3), .int .i64 (pad x 4), .int .i64 (pad x 5), .int .i64 (pad x 6)]] (by rfl) rfl rfl (by simp only [List.map_toArray, List.map_cons, List.map_nil]; rfl) ?_
   with_reducible refine (HCW.out).mono ?_
   rintro e W3 ⟨v22, rfl, ho, hb⟩
   refine ⟨_, rfl, ?_⟩
   replace hct0 := (hb.cell (World.block_lt_of_cell? _ _ hct0)).trans hct0
   replace hct1 := (hb.cell (World.block_lt_of_cell? _ _ hct1)).trans hct1
   replace hct2 := (hb.cell (World.block_lt_of_cell? _ _ hct2)).trans hct2
   replace hca0 := (hb.cell (World.block_lt_of_cell? _ _ hca0)).trans hca0
   replace hca1 := (hb.cell (World.block_lt_of_cell? _ _ hca1)).trans hca1
   replace hca2 := (hb.cell (World.block_lt_of_cell? _ _ hca2)).trans hca2
   replace hca3 := (hb.cell (World.block_lt_of_cell? _ _ hca3)).trans hca3
   replace hca4 := (hb.cell (World.block_lt_of_cell? _ _ hca4)).trans hca4
   replace hca5 := (hb.cell (World.block_lt_of_cell? _ _ hca5)).trans hca5
   replace hca6 := (hb.cell (World.block_lt_of_cell? _ _ hca6)).trans hca6
   replace HI := Aside0.mk (HI.out.below hb)
   replace HK6 := Aside0.mk (blk_below HK6.out hb)
   have HB2 := Aside0.mk (below_step HB1.out hb)
   clear HB1
   have HB1 := HB2
   clear HB2
   obtain ⟨A22, c22, e22⟩ := Kd.R_slice ho
   subst e22
   rw [HNB.out]
   clear ho hb HCW
   refine hK.out _ _ ⟨hct0, hct1, hct2, hca0, hca1, hca2, hca3, hca4, hca5, hca6⟩ (fun hHeld => ?_)
   clear hK K
   refine sN ?_
   refine sP (i := 3) (N := some 23) (lm 31 63) ?_
   refine sP (i := 6) (N := some 26) (lm 31 127) ?_
   refine sP (i := 7) (N := some 27) (lm 31 255) ?_
   refine pure_ (i := 8) (N := some 28) (v := undef) (a' := ?_) (lm 31 511) rfl rfl (by kernel_rfl) (fun _ _ _ h => h) (Or.inr ⟨by rfl, rfl⟩) ?_ ?_
   rotate_left
   ·simp only [Act.put, List.setIfInBounds_toArray, List.set_cons_zero, List.set_cons_succ, i64_w, i32_w]
    rfl
   refine pure_ (i := 9) (N := some 29) (v := undef) (a' := ?_) (lm 31 1023) rfl rfl (by kernel_rfl) (fun _ _ _ h => h) (Or.inr ⟨by rfl, rfl⟩) ?_ ?_
   rotate_left
   ·simp only [Act.put, List.setIfInBounds_toArray, List.set_cons_zero, List.set_cons_succ, i64_w, i32_w]
    rfl
   refine pure_ (i := 10) (N := some 30) (v := undef) (a' := ?_) (lm 31 2047) rfl rfl (by kernel_rfl) (fun _ _ _ h => h) (Or.inr ⟨by rfl, rfl⟩) ?_ ?_
   rotate_left
   ·simp only [Act.put, List.setIfInBounds_toArray, List.set_cons_zero, List.set_cons_succ, i64_w, i32_w]
    rfl
   refine pure_ (i := 11) (N := some 31) (v := undef) (a' := ?_) (lm 31 4095) rfl rfl (by kernel_rfl) (fun _ _ _ h => h) (Or.inr ⟨by rfl, rfl⟩) ?_ ?_
   rotate_left
   ·simp only [Act.put, List.setIfInBounds_toArray, List.set_cons_zero, List.set_cons_succ, i64_w, i32_w]
    rfl
   refine pure_ (i := 12) (N := some 32) (v := undef) (a' := ?_) (lm 31 8191) rfl rfl (by kernel_rfl) (fun _ _ _ h => h) (Or.inr ⟨by rfl, rfl⟩) ?_ ?_
   rotate_left
   ·simp only [Act.put, List.setIfInBounds_toArray, List.set_cons_zero, List.set_cons_succ, i64_w, i32_w]
    rfl
   refine pure_ (i := 13) (N := some 33) (v := undef) (a' := ?_) (lm 31 16383) rfl rfl (by kernel_rfl) (fun _ _ _ h => h) (Or.inr ⟨by rfl, rfl⟩) ?_ ?_
   rotate_left
   ·simp only [Act.put, List.setIfInBounds_toArray, List.set_cons_zero, List.set_cons_succ, i64_w, i32_w]
    rfl
   refine pure_ (i := 14) (N := some 34) (v := undef) (a' := ?_) (lm 31 32767) rfl rfl (by kernel_rfl) (fun _ _ _ h => h) (Or.inr ⟨by rfl, rfl⟩) ?_ ?_
   rotate_left
   ·simp only [Act.put, List.setIfInBounds_toArray, List.set_cons_zero, List.set_cons_succ, i64_w, i32_w]
    rfl
   refine pure_ (i := 15) (N := some 35) (v := undef) (a' := ?_) (lm 31 65535) rfl rfl (by kernel_rfl) (fun _ _ _ h => h) (Or.inr ⟨by rfl, rfl⟩) ?_ ?_
   rotate_left
   ·simp only [Act.put, List.setIfInBounds_toArray, List.set_cons_zero, List.set_cons_succ, i64_w, i32_w]
    rfl
   refine pure_ (i := 16) (N := some 36) (v := undef) (a' := ?_) (lm 31 131071) rfl rfl (by kernel_rfl) (fun _ _ _ h => h) (Or.inr ⟨by rfl, rfl⟩) ?_ ?_
   rotate_left
   ·simp only [Act.put, List.setIfInBounds_toArray, List.set_cons_zero, List.set_cons_succ, i64_w, i32_w]
    rfl
   refine pure_ (i := 17) (N := some 37) (v := undef) (a' := ?_) (lm 31 262143) rfl rfl (by kernel_rfl) (fun _ _ _ h => h) (Or.inr ⟨by rfl, rfl⟩) ?_ ?_
   rotate_left
   ·simp only [Act.put, List.setIfInBounds_toArray, List.set_cons_zero, List.set_cons_succ, i64_w, i32_w]
    rfl
   refine pure_ (i := 18) (N := some 38) (v := undef) (a' := ?_) (lm 31 524287) rfl rfl (by kernel_rfl) (fun _ _ _ h => h) (Or.inr ⟨by rfl, rfl⟩) ?_ ?_
   rotate_left
   ·simp only [Act.put, List.setIfInBounds_toArray, List.set_cons_zero, List.set_cons_succ, i64_w, i32_w]
    rfl
   refine pure_ (i := 19) (N := some 39) (v := undef) (a' := ?_) (lm 31 1048575) rfl rfl (by kernel_rfl) (fun _ _ _ h => h) (Or.inr ⟨by rfl, rfl⟩) ?_ ?_
   rotate_left
   ·simp only [Act.put, List.setIfInBounds_toArray, List.set_cons_zero, List.set_cons_succ, i64_w, i32_w]
    rfl
   refine pure_ (i := 20) (N := some 40) (v := undef) (a' := ?_) (lm 31 2097151) rfl rfl (by kernel_rfl) (fun _ _ _ h => h) (Or.inr ⟨by rfl, rfl⟩) ?_ ?_
   rotate_left
   ·simp only [Act.put, List.setIfInBounds_toArray, List.set_cons_zero, List.set_cons_succ, i64_w, i32_w]
    rfl
   refine pure_ (i := 21) (N := some 41) (v := undef) (a' := ?_) (lm 31 4194303) rfl rfl (by kernel_rfl) (fun _ _ _ h => h) (Or.inr ⟨by rfl, rfl⟩) ?_ ?_
   rotate_left
   ·simp only [Act.put, List.setIfInBounds_toArray, List.set_cons_zero, List.set_cons_succ, i64_w, i32_w]
    rfl
   refine pure_ (i := 22) (N := some 42) (v := undef) (a' := ?_) (lm 31 8388607) rfl rfl (by kernel_rfl) (fun _ _ _ h => h) (Or.inr ⟨by rfl, rfl⟩) ?_ ?_
   rotate_left
   ·simp only [Act.put, List.setIfInBounds_toArray, List.set_cons_zero, List.set_cons_succ, i64_w, i32_w]
    rfl
   refine pure_ (i := 23) (N := some 43) (v := undef) (a' := ?_) (lm 31 16777215) rfl rfl (by kernel_rfl) (fun _ _ _ h => h) (Or.inr ⟨by rfl, rfl⟩) ?_ ?_
   rotate_left
   ·simp only [Act.put, List.setIfInBounds_toArray, List.set_cons_zero, List.set_cons_succ, i64_w, i32_w]
    rfl
   refine pure_ (i := 24) (N := some 44) (v := undef) (a' := ?_) (lm 31 33554431) rfl rfl (by kernel_rfl) (fun _ _ _ h => h) (Or.inr ⟨by rfl, rfl⟩) ?_ ?_
   rotate_left
   ·simp only [Act.put, List.setIfInBounds_toArray, List.set_cons_zero, List.set_cons_succ, i64_w, i32_w]
    rfl
   refine pure_ (i := 25) (N := some 45) (v := undef) (a' := ?_) (lm 31 67108863) rfl rfl (by kernel_rfl) (fun _ _ _ h => h) (Or.inr ⟨by rfl, rfl⟩) ?_ ?_
   rotate_left
   ·simp only [Act.put, List.setIfInBounds_toArray, List.set_cons_zero, List.set_cons_succ, i64_w, i32_w]
    rfl
   refine pure_ (i := 26) (N := some 46) (v := undef) (a' := ?_) (lm 31 134217727) rfl rfl (by kernel_rfl) (fun _ _ _ h => h) (Or.inr ⟨by rfl, rfl⟩) ?_ ?_
   rotate_left
   ·simp only [Act.put, List.setIfInBounds_toArray, List.set_cons_zero, List.set_cons_succ, i64_w, i32_w]
    rfl
   refine pure_ (i := 27) (N := some 47) (v := undef) (a' := ?_) (lm 31 268435455) rfl rfl (by kernel_rfl) (fun _ _ _ h => h) (Or.inr ⟨by rfl, rfl⟩) ?_ ?_
   rotate_left
   ·simp only [Act.put, List.setIfInBounds_toArray, List.set_cons_zero, List.set_cons_succ, i64_w, i32_w]
    rfl
   refine pure_ (i := 28) (N := some 48) (v := undef) (a' := ?_) (lm 31 536870911) rfl rfl (by kernel_rfl) (fun _ _ _ h => h) (Or.inr ⟨by rfl, rfl⟩) ?_ ?_
   rotate_left
   ·simp only [Act.put, List.setIfInBounds_toArray, List.set_cons_zero, List.set_cons_succ, i64_w, i32_w]
    rfl
   refine pure_ (i := 29) (N := some 49) (v := undef) (a' := ?_) (lm 31 1073741823) rfl rfl (by kernel_rfl) (fun _ _ _ h => h) (Or.inr ⟨by rfl, rfl⟩) ?_ ?_
   rotate_left
   ·simp only [Act.put, List.setIfInBounds_toArray, List.set_cons_zero, List.set_cons_succ, i64_w, i32_w]
    rfl
   refine sP (i := 30) (N := some 50) (lm 31 2147483647) ?_
   refine done_ (by kernel_rfl) ?_
   gi_wp2
   exact ⟨Kp.of_below HB1.out HSZ.out HZ.out, vt, by rw [HFA.out]; exact HI.out⟩
  ·have htd : decide (wg < (nb : Int)) = false := by simpa using htr
   have HFA := Aside0.mk (show (pre ++ [x]).filter (isT l0 l1.length wg) = pre.filter (isT l0 l1.length wg) ++ [x] from by
    rw [List.filter_append]
    have : isT l0 l1.length wg x = true := by rw [hT]; simpa using htr
    simp [this])
   have HTL := Aside0.mk (show (pre.filter (isT l0 l1.length wg)).length ≤ 78125 from Nat.le_trans (List.length_filter_le _ _) HPL0.out)
   have HSZ2 := Aside0.mk HZ.out
   clear hT
   generalize hts : pre.filter (isT l0 l1.length wg) = ts at *
   have HTS := Aside0.mk hts
   clear hts
   obtain ⟨At, ct, ev⟩ := Kd.R_slice HI.out.row
   subst ev
   cases hq : ts.length with
   | zero =>
    have HI_ := HI.out
    rw [hq] at HI_
    replace HI := Aside0.mk HI_
    replace HI0 := HI
    clear HI_
    rw [hq] at HN6
    have hcv : W.cell? ⟨gw, 3, none⟩ = some (.slice At 0 ct) := (blk_cell HI.out.kw 3).trans rfl
    refine startIn_ (m := 31) (S := fun w' => w'.cell? ⟨g1, 0, none⟩ = some (.slice A0 l0.length c0) ∧ w'.cell? ⟨g1, 1, none⟩ = some (.slice A1 l1.length c1) ∧ w'.cell? ⟨g1, 2, none⟩ = some (.int .i64 wg) ∧ w'.cell? ⟨g6, 0, none⟩ = some (.int .i64 (pad x 0)) ∧ w'.cell? ⟨g6, 1, none⟩ = some (.int .i64 (pad x 1)) ∧ w'.cell? ⟨g6, 2, none⟩ = some (.int .i64 (pad x 2)) ∧ w'.cell? ⟨g6, 3, none⟩ = some (.int .i64 (pad x 3)) ∧ w'.cell? ⟨g6, 4, none⟩ = some (.int .i64 (pad x 4)) ∧ w'.cell? ⟨g6, 5, none⟩ = some (.int .i64 (pad x 5)) ∧ w'.cell? ⟨g6, 6, none⟩ = some (.int .i64 (pad x 6)) ∧ w'.cell? ⟨g5, 0, none⟩ = some (.pointer (some ⟨gw, 0, none⟩)) ∧ w'.cell? ⟨gw, 3, none⟩ = some (.slice At 0 ct)) (ds := []) (fun ⟨_, _, h⟩ => h) (by rfl) (lm 31 0) (by kernel_rfl) rfl (by kernel_rfl) ⟨hct0, hct1, hct2, hca0, hca1, hca2, hca3, hca4, hca5, hca6, hc5, hcv⟩ (fun hHeld => ?_)
    replace HI := Aside0.mk (HI.out.below (below_drew1 (Below.refl _ _)))
    replace HK6 := Aside0.mk (show W.drew.heap[g6]? = _ from HK6.out)
    replace HB1 := Aside0.mk (below_drew1 HB1.out)
    replace hct0 := (show W.drew.cell? _ = _ from hct0)
    replace hct1 := (show W.drew.cell? _ = _ from hct1)
    replace hct2 := (show W.drew.cell? _ = _ from hct2)
    replace hca0 := (show W.drew.cell? _ = _ from hca0)
    replace hca1 := (show W.drew.cell? _ = _ from hca1)
    replace hca2 := (show W.drew.cell? _ = _ from hca2)
    replace hca3 := (show W.drew.cell? _ = _ from hca3)
    replace hca4 := (show W.drew.cell? _ = _ from hca4)
    replace hca5 := (show W.drew.cell? _ = _ from hca5)
    replace hca6 := (show W.drew.cell? _ = _ from hca6)
    replace hc5 := (show W.drew.cell? _ = _ from hc5)
    replace hcv := (show W.drew.cell? _ = _ from hcv)
    generalize W.drew = W2 at *
    have HCW := Aside0.mk (wrong_calls A0 c0 l0 A1 c1 l1 wg (pad x) W2 (Kd.C_below HT.out.r0 HI.out.hb) HT.out.n0 HV.out.n1 HOW.out)
    unfold ac at HCW
    refine sP (i := 4) (N := some 24) (lm 31 16) ?_
    refine take_ (i := 0) (N := some 20) (v := ?_) (a' := ?_) (lm 31 17) rfl rfl (by kernel_rfl) (fun _ _ _ h => h) (Or.inl ⟨by rfl, ?_⟩) hHeld ?_ ?_
    rotate_left
    ·rintro w' ⟨s0, s1, s2, s3, s4, s5, s6, s7, s8, s9, s10, s11⟩
     go_simp
     with_reducible rfl
    rotate_left
    ·simp only [Act.put, List.setIfInBounds_toArray, List.set_cons_zero, List.set_cons_succ, i64_w, i32_w]
     rfl
    refine take_ (i := 1) (N := some 21) (v := ?_) (a' := ?_) (lm 31 19) rfl rfl (by kernel_rfl) (fun _ _ _ h => h) (Or.inl ⟨by rfl, ?_⟩) hHeld ?_ ?_
    rotate_left
    ·rintro w' ⟨s0, s1, s2, s3, s4, s5, s6, s7, s8, s9, s10, s11⟩
     go_simp
     with_reducible rfl
    rotate_left
    ·simp only [Act.put, List.setIfInBounds_toArray, List.set_cons_zero, List.set_cons_succ, i64_w, i32_w]
     rfl
    refine take_ (i := 5) (N := some 25) (v := ?_) (a' := ?_) (lm 31 51) rfl rfl (by kernel_rfl) (fun _ _ _ h => h) (Or.inl ⟨by rfl, ?_⟩) hHeld ?_ ?_
    rotate_left
    ·rintro w' ⟨s0, s1, s2, s3, s4, s5, s6, s7, s8, s9, s10, s11⟩
     go_simp
     with_reducible rfl
    rotate_left
    ·simp only [Act.put, List.setIfInBounds_toArray, List.set_cons_zero, List.set_cons_succ, i64_w, i32_w]
     rfl
    refine one_ (i := 2) (N := some 22) (lm 31 55) rfl rfl (by kernel_rfl) (by decide) (fun K hK => ?_)
    refine goes_ Try.func86 (by kernel_rfl) rfl #[.agg #[.slice A0 l0.length c0, .slice A1 l1.length c1, .int .i64 wg], .agg #[.int .i64 (pad x 0), .int .i64 (pad x 1), .int .i64 (pad x 2), .int .i64 (pad x 3), .int .i64 (pad x 4), .int .i64 (pad x 5), .int .i64 (pad x 6)]] (by rfl) rfl rfl (by simp only [List.map_toArray, List.map_cons, List.map_nil]; rfl) ?_
    with_reducible refine (HCW.out).mono ?_
    rintro e W3 ⟨v22, rfl, ho, hb⟩
    refine ⟨_, rfl, ?_⟩
    replace hct0 := (hb.cell (World.block_lt_of_cell? _ _ hct0)).trans hct0
    replace hct1 := (hb.cell (World.block_lt_of_cell? _ _ hct1)).trans hct1
    replace hct2 := (hb.cell (World.block_lt_of_cell? _ _ hct2)).trans hct2
    replace hca0 := (hb.cell (World.block_lt_of_cell? _ _ hca0)).trans hca0
    replace hca1 := (hb.cell (World.block_lt_of_cell? _ _ hca1)).trans hca1
    replace hca2 := (hb.cell (World.block_lt_of_cell? _ _ hca2)).trans hca2
    replace hca3 := (hb.cell (World.block_lt_of_cell? _ _ hca3)).trans hca3
    replace hca4 := (hb.cell (World.block_lt_of_cell? _ _ hca4)).trans hca4
    replace hca5 := (hb.cell (World.block_lt_of_cell? _ _ hca5)).trans hca5
    replace hca6 := (hb.cell (World.block_lt_of_cell? _ _ hca6)).trans hca6
    replace hc5 := (hb.cell (World.block_lt_of_cell? _ _ hc5)).trans hc5
    replace hcv := (hb.cell (World.block_lt_of_cell? _ _ hcv)).trans hcv
    replace HI := Aside0.mk (HI.out.below hb)
    replace HK6 := Aside0.mk (blk_below HK6.out hb)
    have HB2 := Aside0.mk (below_step HB1.out hb)
    clear HB1
    have HB1 := HB2
    clear HB2
    obtain ⟨A22, c22, e22⟩ := Kd.R_slice ho
    subst e22
    rw [HNB.out]
    clear ho hb HCW
    refine hK.out _ _ ⟨hct0, hct1, hct2, hca0, hca1, hca2, hca3, hca4, hca5, hca6, hc5, hcv⟩ (fun hHeld => ?_)
    clear hK K
    refine sN ?_
    refine sP (i := 3) (N := some 23) (lm 31 63) ?_
    refine sP (i := 6) (N := some 26) (lm 31 127) ?_
    refine sP (i := 7) (N := some 27) (lm 31 255) ?_
    refine take_ (i := 8) (N := some 28) (v := ?_) (a' := ?_) (lm 31 511) rfl rfl (by kernel_rfl) (fun _ _ _ h => h) (Or.inl ⟨by rfl, ?_⟩) hHeld ?_ ?_
    rotate_left
    ·rintro w' ⟨s0, s1, s2, s3, s4, s5, s6, s7, s8, s9, s10, s11⟩
     go_simp
     with_reducible rfl
    rotate_left
    ·simp only [Act.put, List.setIfInBounds_toArray, List.set_cons_zero, List.set_cons_succ, i64_w, i32_w]
     rfl
    refine sP (i := 9) (N := some 29) (lm 31 1023) ?_
    refine sP (i := 10) (N := some 30) (lm 31 2047) ?_
    refine take_ (i := 11) (N := some 31) (v := ?_) (a' := ?_) (lm 31 4095) rfl rfl (by kernel_rfl) (fun _ _ _ h => h) (Or.inl ⟨by rfl, ?_⟩) hHeld ?_ ?_
    rotate_left
    ·rintro w' ⟨s0, s1, s2, s3, s4, s5, s6, s7, s8, s9, s10, s11⟩
     go_simp
     with_reducible rfl
    rotate_left
    ·simp only [Act.put, List.setIfInBounds_toArray, List.set_cons_zero, List.set_cons_succ, i64_w, i32_w]
     rfl
    refine sP (i := 12) (N := some 32) (lm 31 8191) ?_
    refine sP (i := 13) (N := some 33) (lm 31 16383) ?_
    refine sP (i := 14) (N := some 34) (lm 31 32767) ?_
    refine pure_ (i := 15) (N := some 35) (v := undef) (a' := ?_) (lm 31 65535) rfl rfl (by kernel_rfl) (fun _ _ _ h => h) (Or.inr ⟨by rfl, rfl⟩) ?_ ?_
    rotate_left
    ·simp only [Act.put, List.setIfInBounds_toArray, List.set_cons_zero, List.set_cons_succ, i64_w, i32_w]
     rfl
    refine pure_ (i := 16) (N := some 36) (v := undef) (a' := ?_) (lm 31 131071) rfl rfl (by kernel_rfl) (fun _ _ _ h => h) (Or.inr ⟨by rfl, rfl⟩) ?_ ?_
    rotate_left
    ·simp only [Act.put, List.setIfInBounds_toArray, List.set_cons_zero, List.set_cons_succ, i64_w, i32_w]
     rfl
    refine pure_ (i := 17) (N := some 37) (v := undef) (a' := ?_) (lm 31 262143) rfl rfl (by kernel_rfl) (fun _ _ _ h => h) (Or.inr ⟨by rfl, rfl⟩) ?_ ?_
    rotate_left
    ·simp only [Act.put, List.setIfInBounds_toArray, List.set_cons_zero, List.set_cons_succ, i64_w, i32_w]
     rfl
    refine pure_ (i := 18) (N := some 38) (v := undef) (a' := ?_) (lm 31 524287) rfl rfl (by kernel_rfl) (fun _ _ _ h => h) (Or.inr ⟨by rfl, rfl⟩) ?_ ?_
    rotate_left
    ·simp only [Act.put, List.setIfInBounds_toArray, List.set_cons_zero, List.set_cons_succ, i64_w, i32_w]
     rfl
    refine pure_ (i := 19) (N := some 39) (v := undef) (a' := ?_) (lm 31 1048575) rfl rfl (by kernel_rfl) (fun _ _ _ h => h) (Or.inr ⟨by rfl, rfl⟩) ?_ ?_
    rotate_left
    ·simp only [Act.put, List.setIfInBounds_toArray, List.set_cons_zero, List.set_cons_succ, i64_w, i32_w]
     rfl
    refine pure_ (i := 20) (N := some 40) (v := undef) (a' := ?_) (lm 31 2097151) rfl rfl (by kernel_rfl) (fun _ _ _ h => h) (Or.inr ⟨by rfl, rfl⟩) ?_ ?_
    rotate_left
    ·simp only [Act.put, List.setIfInBounds_toArray, List.set_cons_zero, List.set_cons_succ, i64_w, i32_w]
     rfl
    refine pure_ (i := 21) (N := some 41) (v := undef) (a' := ?_) (lm 31 4194303) rfl rfl (by kernel_rfl) (fun _ _ _ h => h) (Or.inr ⟨by rfl, rfl⟩) ?_ ?_
    rotate_left
    ·simp only [Act.put, List.setIfInBounds_toArray, List.set_cons_zero, List.set_cons_succ, i64_w, i32_w]
     rfl
    refine pure_ (i := 22) (N := some 42) (v := undef) (a' := ?_) (lm 31 8388607) rfl rfl (by kernel_rfl) (fun _ _ _ h => h) (Or.inr ⟨by rfl, rfl⟩) ?_ ?_
    rotate_left
    ·simp only [Act.put, List.setIfInBounds_toArray, List.set_cons_zero, List.set_cons_succ, i64_w, i32_w]
     rfl
    refine pure_ (i := 23) (N := some 43) (v := undef) (a' := ?_) (lm 31 16777215) rfl rfl (by kernel_rfl) (fun _ _ _ h => h) (Or.inr ⟨by rfl, rfl⟩) ?_ ?_
    rotate_left
    ·simp only [Act.put, List.setIfInBounds_toArray, List.set_cons_zero, List.set_cons_succ, i64_w, i32_w]
     rfl
    refine pure_ (i := 24) (N := some 44) (v := undef) (a' := ?_) (lm 31 33554431) rfl rfl (by kernel_rfl) (fun _ _ _ h => h) (Or.inr ⟨by rfl, rfl⟩) ?_ ?_
    rotate_left
    ·simp only [Act.put, List.setIfInBounds_toArray, List.set_cons_zero, List.set_cons_succ, i64_w, i32_w]
     rfl
    refine pure_ (i := 25) (N := some 45) (v := undef) (a' := ?_) (lm 31 67108863) rfl rfl (by kernel_rfl) (fun _ _ _ h => h) (Or.inr ⟨by rfl, rfl⟩) ?_ ?_
    rotate_left
    ·simp only [Act.put, List.setIfInBounds_toArray, List.set_cons_zero, List.set_cons_succ, i64_w, i32_w]
     rfl
    refine pure_ (i := 26) (N := some 46) (v := undef) (a' := ?_) (lm 31 134217727) rfl rfl (by kernel_rfl) (fun _ _ _ h => h) (Or.inr ⟨by rfl, rfl⟩) ?_ ?_
    rotate_left
    ·simp only [Act.put, List.setIfInBounds_toArray, List.set_cons_zero, List.set_cons_succ, i64_w, i32_w]
     rfl
    refine pure_ (i := 27) (N := some 47) (v := undef) (a' := ?_) (lm 31 268435455) rfl rfl (by kernel_rfl) (fun _ _ _ h => h) (Or.inr ⟨by rfl, rfl⟩) ?_ ?_
    rotate_left
    ·simp only [Act.put, List.setIfInBounds_toArray, List.set_cons_zero, List.set_cons_succ, i64_w, i32_w]
     rfl
    refine pure_ (i := 28) (N := some 48) (v := undef) (a' := ?_) (lm 31 536870911) rfl rfl (by kernel_rfl) (fun _ _ _ h => h) (Or.inr ⟨by rfl, rfl⟩) ?_ ?_
    rotate_left
    ·simp only [Act.put, List.setIfInBounds_toArray, List.set_cons_zero, List.set_cons_succ, i64_w, i32_w]
     rfl
    refine sP (i := 29) (N := some 49) (lm 31 1073741823) ?_
    refine sP (i := 30) (N := some 50) (lm 31 2147483647) ?_
    refine done_ (by kernel_rfl) ?_
    repeat (first | (apply wpIn_seq_k; intro _ _) | gi_step)
    refine startIn_ (m := 11) (S := fun w' => w'.cell? ⟨g5, 0, none⟩ = some (.pointer (some ⟨gw, 0, none⟩)) ∧ w'.cell? ⟨gw, 3, none⟩ = some (.slice At 0 ct) ∧ w'.cell? ⟨g6, 0, none⟩ = some (.int .i64 (pad x 0)) ∧ w'.cell? ⟨g6, 1, none⟩ = some (.int .i64 (pad x 1)) ∧ w'.cell? ⟨g6, 2, none⟩ = some (.int .i64 (pad x 2)) ∧ w'.cell? ⟨g6, 3, none⟩ = some (.int .i64 (pad x 3)) ∧ w'.cell? ⟨g6, 4, none⟩ = some (.int .i64 (pad x 4)) ∧ w'.cell? ⟨g6, 5, none⟩ = some (.int .i64 (pad x 5)) ∧ w'.cell? ⟨g6, 6, none⟩ = some (.int .i64 (pad x 6))) (ds := [10]) (fun ⟨_, _, h⟩ => h) (by rfl) (lm 11 0) (by kernel_rfl) rfl (by kernel_rfl) ⟨hc5, hcv, hca0, hca1, hca2, hca3, hca4, hca5, hca6⟩ (fun hHeld => ?_)
    replace HI := Aside0.mk (HI.out.below (below_drew1 (Below.refl _ _)))
    replace HK6 := Aside0.mk (show W3.drew.heap[g6]? = _ from HK6.out)
    replace HB1 := Aside0.mk (below_drew1 HB1.out)
    replace HSZ2 := Aside0.mk (show W5.heap.size + 3 < W3.drew.heap.size from Nat.lt_of_lt_of_le HSZ2.out HB1.out.size)
    replace hc5 := (show W3.drew.cell? _ = _ from hc5)
    replace hcv := (show W3.drew.cell? _ = _ from hcv)
    replace hca0 := (show W3.drew.cell? _ = _ from hca0)
    replace hca1 := (show W3.drew.cell? _ = _ from hca1)
    replace hca2 := (show W3.drew.cell? _ = _ from hca2)
    replace hca3 := (show W3.drew.cell? _ = _ from hca3)
    replace hca4 := (show W3.drew.cell? _ = _ from hca4)
    replace hca5 := (show W3.drew.cell? _ = _ from hca5)
    replace hca6 := (show W3.drew.cell? _ = _ from hca6)
    generalize W3.drew = W2 at *
    refine take_ (i := 0) (N := some 51) (v := ?_) (a' := ?_) (lm 11 1) rfl rfl (by kernel_rfl) (fun _ _ _ h => h) (Or.inl ⟨by rfl, ?_⟩) hHeld ?_ ?_
    rotate_left
    ·rintro w' ⟨s0, s1, s2, s3, s4, s5, s6, s7, s8⟩
     go_simp
     with_reducible rfl
    rotate_left
    ·simp only [Act.put, List.setIfInBounds_toArray, List.set_cons_zero, List.set_cons_succ, i64_w, i32_w]
     rfl
    refine take_ (i := 1) (N := some 52) (v := ?_) (a' := ?_) (lm 11 3) rfl rfl (by kernel_rfl) (fun _ _ _ h => h) (Or.inl ⟨by rfl, ?_⟩) hHeld ?_ ?_
    rotate_left
    ·rintro w' ⟨s0, s1, s2, s3, s4, s5, s6, s7, s8⟩
     go_simp
     with_reducible rfl
    rotate_left
    ·simp only [Act.put, List.setIfInBounds_toArray, List.set_cons_zero, List.set_cons_succ, i64_w, i32_w]
     rfl
    refine sP (i := 2) (N := some 53) (lm 11 7) ?_
    refine sP (i := 3) (N := some 54) (lm 11 15) ?_
    refine take_ (i := 4) (N := some 55) (v := ?_) (a' := ?_) (lm 11 31) rfl rfl (by kernel_rfl) (fun _ _ _ h => h) (Or.inl ⟨by rfl, ?_⟩) hHeld ?_ ?_
    rotate_left
    ·rintro w' ⟨s0, s1, s2, s3, s4, s5, s6, s7, s8⟩
     go_simp
     with_reducible rfl
    rotate_left
    ·simp only [Act.put, List.setIfInBounds_toArray, List.set_cons_zero, List.set_cons_succ, i64_w, i32_w]
     rfl
    refine take_ (i := 5) (N := some 56) (v := ?_) (a' := ?_) (lm 11 63) rfl rfl (by kernel_rfl) (fun _ _ _ h => h) (Or.inl ⟨by rfl, ?_⟩) hHeld ?_ ?_
    rotate_left
    ·rintro w' ⟨s0, s1, s2, s3, s4, s5, s6, s7, s8⟩
     go_simp
     with_reducible rfl
    rotate_left
    ·simp only [Act.put, List.setIfInBounds_toArray, List.set_cons_zero, List.set_cons_succ, i64_w, i32_w]
     rfl
    refine one_ (i := 6) (N := some 57) (lm 11 127) rfl rfl (by kernel_rfl) (by decide) (fun K hK => ?_)
    refine value_ (w1 := ?_) (v := ?_) (by rfl) rfl ?_ ?_
    rotate_left 2
    ·go_simp
     constructor
     ·rfl
     ·rfl
    refine hK.out _ _ ⟨(blk_cell (blk_alloc HI.out.k5 _) 0).trans rfl, (blk_cell (blk_alloc HI.out.kw _) 3).trans rfl, (blk_cell (blk_alloc HK6.out _) 0).trans rfl, (blk_cell (blk_alloc HK6.out _) 1).trans rfl, (blk_cell (blk_alloc HK6.out _) 2).trans rfl, (blk_cell (blk_alloc HK6.out _) 3).trans rfl, (blk_cell (blk_alloc HK6.out _) 4).trans rfl, (blk_cell (blk_alloc HK6.out _) 5).trans rfl, (blk_cell (blk_alloc HK6.out _) 6).trans rfl⟩ (fun hHeld => ?_)
    clear hK K
    refine sN ?_
    refine one_ (i := 7) (N := some 58) (lm 11 255) rfl rfl (by kernel_rfl) (by decide) (fun K hK => ?_)
    refine Kd.R_append_step k121 (w0 := W2) (W5.heap.size + 3 + 1) (by rfl) (.tmp 55) (.tmp 57) 102 121 (.agg (ac fun _ => 0)) 56 rfl Try.underlying102 info121' rfl (by decide) (by omega) (.slice At 0 ct) ts x [.int .i64 (pad x 0), .int .i64 (pad x 1), .int .i64 (pad x 2), .int .i64 (pad x 3), .int .i64 (pad x 4), .int .i64 (pad x 5), .int .i64 (pad x 6)] (fun _ => True) (fun _ => False) rfl rfl ?aP (fun _ hk => hk.elim) ?aF ?aO ?aB ?aS ?aL ?_
    (case aP => exact rfl)
    (case aB => exact Below.refl _ _)
    (case aF => exact fun _ _ => trivial)
    (case aO => exact HI.out.row)
    (case aS => have := HSZ2.out; omega)
    (case aL => have := HTL.out; omega)
    intro v1 W4 ho hb hg hat
    obtain ⟨Av, cw, ev1⟩ := Kd.R_slice ho
    obtain ⟨nv, hnv⟩ : ∃ nv, (ts ++ [x]).length = nv := ⟨_, rfl⟩
    rw [hnv] at ev1
    subst ev1
    clear hnv
    have HRW := Aside0.mk ho
    have HKP := Aside0.mk (Kp.trans (Kp.of_below HB1.out HSZ.out HZ.out) (Kp.row (X := fun k => k = gw ∨ k = gm) HI.out.row hg (by have := HGL.out; omega) (by have := HSZ2.out; omega)))
    have HK1 := Aside0.mk (blk_grown HI.out.k1 hg (row_ne HI.out.row (by have := HGL.out; omega)))
    have HK5 := Aside0.mk (blk_grown HI.out.k5 hg (row_ne HI.out.row (by have := HGL.out; omega)))
    have HKW := Aside0.mk (blk_grown HI.out.kw hg (row_ne HI.out.row (by have := HGL.out; omega)))
    have HMP := Aside0.mk (show ∃ L, MapL W4 gm L ∧ ∀ i k, getL L (i, k) = manyS l1.length ts i k from by obtain ⟨L, m1, m2⟩ := HI.out.mp; exact ⟨L, blk_grown (o := .map _ _) m1 hg (row_ne HI.out.row (by have := HGL.out; omega)), m2⟩)
    have HK64 := Aside0.mk (blk_grown HK6.out hg HN6.out)
    have HBW := Aside0.mk (show Below w.heap.size w W4 from HI.out.hb.trans (hb.mono (by have := HSZ2.out; have := HGL.out; omega)))
    have HS4 := Aside0.mk hg.size
    clear ho hb hg hat
    clear hc5
    clear hcv
    clear hca0
    clear hca1
    clear hca2
    clear hca3
    clear hca4
    clear hca5
    clear hca6
    clear HI HK6
    have HK6 := HK64
    clear HK64
    refine hK.out _ _ ⟨(blk_cell HK5.out 0).trans rfl, (blk_cell HKW.out 3).trans rfl, (blk_cell HK6.out 0).trans rfl, (blk_cell HK6.out 1).trans rfl, (blk_cell HK6.out 2).trans rfl, (blk_cell HK6.out 3).trans rfl, (blk_cell HK6.out 4).trans rfl, (blk_cell HK6.out 5).trans rfl, (blk_cell HK6.out 6).trans rfl⟩ (fun hHeld => ?_)
    clear hK K
    refine sN ?_
    refine sP (i := 8) (N := some 59) (lm 11 511) ?_
    refine sP (i := 9) (N := some 60) (lm 11 1023) ?_
    refine last_ (i := 10) (N := none) (lm 11 2047) rfl rfl (by kernel_rfl) (by decide) (fun K hK => ?_)
    have hfw : W4.frozen? ⟨gw, 3, none⟩ = false := blk_frozen HKW.out 3
    have hxw : W4.cell? ⟨gw, 3, none⟩ = some (.slice At 0 ct) := (blk_cell HKW.out 3).trans rfl
    refine skip_ (w1 := ?_) (by rfl) rfl ?_ ?_
    rotate_left
    ·go_simp
     rfl
    refine hK.out _ _ ?_
    clear hK K
    refine done_ (by kernel_rfl) ?_
    have hks : ∀ g cs t, g ≠ gw → W4.heap[g]? = some (.cells cs t (0, 0)) → (W4.setCell ⟨gw, 3, none⟩ (.slice Av nv cw)).heap[g]? = some (.cells cs t (0, 0)) := fun g cs t hne h => blk_far h hne _
    have HI2 := Aside0.mk (show AskI w A0 l0.length c0 A1 l1.length c1 wg g1 g5 gw gm W5.heap.size (W4.setCell ⟨gw, 3, none⟩ (.slice Av nv cw)) (.slice Av nv cw) (ts ++ [x]) (midS l1.length ts x 0) from ⟨HBW.out.setCell (p := ⟨gw, 3, none⟩) HW.out.2.1 _, hks _ _ _ (by have := LTgw_g1.out; omega) HK1.out, hks _ _ _ (by have := HN.out; omega) HK5.out, blk_put HKW.out 3 _ rfl,
     Kd.R_mono (Kd.R_far (p := ⟨gw, 3, none⟩) (Kd.R_bound HRW.out) (fun k hk => by have h1 := hk.2.1; have h2 := HGL.out; show k ≠ gw; omega) _) (fun _ _ => trivial), by
     obtain ⟨L, m1, m2⟩ := HMP.out
     exact ⟨L, (Below.heap_setCell W4 ⟨gw, 3, none⟩ _ gm (by have := HN.out; show gm ≠ gw; omega)).trans m1, by rw [midS_zero]; exact m2⟩⟩)
    have HKP2 := Aside0.mk (show Kp w.heap.size (fun k => k = gw ∨ k = gm) (W5.heap.size + 3) W (W4.setCell ⟨gw, 3, none⟩ (.slice Av nv cw)) from Kp.set HKP.out HW.out.2.1 (by have := HGL.out; omega) (.inl rfl) 3 _)
    have HK62 := Aside0.mk (hks _ _ _ (by have := HGL.out; have := HG6.out; omega) HK6.out)
    clear hks HKP HK6 HBW HRW HK1 HK5 HKW HMP HS4
    generalize (W4.setCell ⟨gw, 3, none⟩ (.slice Av nv cw)) = W3 at *
    have hct1 : W3.cell? ⟨g1, 1, none⟩ = some (.slice A1 l1.length c1) := (blk_cell HI2.out.k1 1).trans rfl
    have HN1 := Aside0.mk HV.out.n1
    gi_wp2
    gi_loopg [64] l1.length (fun kq v64 w' => ∃ m : Nat, v64 = .int .i64 (m : Int) ∧ Aside0 (m + kq = l1.length) ∧ Aside0 (AskI w A0 l0.length c0 A1 l1.length c1 wg g1 g5 gw gm W5.heap.size w' (.slice Av nv cw) (ts ++ [x]) (midS l1.length ts x m)) ∧ Aside0 (Kp w.heap.size (fun k => k = gw ∨ k = gm) (W5.heap.size + 3) W w') ∧ Aside0 (w'.heap[g6]? = some (.cells (ac (pad x)) 121 (0, 0))))
    case atStart => exact ⟨0, rfl, ⟨Nat.zero_add _⟩, HI2, HKP2, HK62⟩
    case round =>
     clear HI2 HKP2 HK62
     obtain ⟨m, rfl, HM, HI, HKP, HK6⟩ := hrel
     by_cases hlt : m < l1.length
     ·cases gk with
      | zero => have := HM.out; omega
      | succ k1 =>
      have hm7 : m < 7 := by have := HN1.out; omega
      have hc5 : wr.cell? ⟨g5, 0, none⟩ = some (.pointer (some ⟨gw, 0, none⟩)) := (blk_cell HI.out.k5 0).trans rfl
      have hcm : wr.cell? ⟨gw, 4, none⟩ = some (.map (some gm)) := (blk_cell HI.out.kw 4).trans rfl
      obtain ⟨xm, hxmd⟩ : ∃ xm, pad x m = xm := ⟨_, rfl⟩
      have hcx : wr.cell? ⟨g6, m, none⟩ = some (.int .i64 xm) := (blk_cell HK6.out m).trans (by rw [ac_get _ m hm7, hxmd])
      have HXM := Aside0.mk hxmd
      obtain ⟨L, hmp, hgl⟩ := HI.out.mp
      obtain ⟨cv, hcv⟩ : ∃ cv, getL L ((m : Int), xm) = cv := ⟨_, rfl⟩
      have hcb : 0 ≤ cv ∧ cv ≤ 78126 := by
       rw [← hcv, hgl]
       have h1 := midS_bound l1.length ts x m (m : Int) xm
       have h2 := HTL.out
       omega
      obtain ⟨pl, hpl⟩ : ∃ pl, place L ((m : Int), xm) = pl := ⟨_, rfl⟩
      have HMP := Aside0.mk hmp
      have HGL2 := Aside0.mk hgl
      have HCV := Aside0.mk hcv
      have HPL := Aside0.mk hpl
      have hlk := lookup_run wr.drew gm L ((m : Int), xm) (show MapL wr.drew gm L from HMP.out)
      rw [HCV.out] at hlk
      unfold spv at hlk
      dsimp only at hlk
      have hm7z : (m : Int) < 7 := by omega
      have hwcv : wrap64 (cv + 1) = cv + 1 := wrap64_id _ (by omega) (by omega)
      clear hmp hgl hcv hpl hxmd
      gi_wp2_with fail
      refine startIn_ (m := 14) (S := fun w' => w'.cell? ⟨g5, 0, none⟩ = some (.pointer (some ⟨gw, 0, none⟩)) ∧ w'.cell? ⟨gw, 4, none⟩ = some (.map (some gm)) ∧ w'.cell? ⟨g6, m, none⟩ = some (.int .i64 xm) ∧ (Instr.lookup 103 (.map (some gm)) (.agg #[.int .i64 (m : Int), .int .i64 xm]) false).run Try.prog w' = .ok (.int .i64 cv) w') (ds := [13]) (fun ⟨_, _, h⟩ => h) (by rfl) (lm 14 0) (by kernel_rfl) rfl (by kernel_rfl) ⟨hc5, hcm, hcx, hlk⟩ (fun hHeld => ?_)
      replace HI := Aside0.mk (HI.out.below (below_drew1 (Below.refl _ _)))
      replace HK6 := Aside0.mk (show wr.drew.heap[g6]? = _ from HK6.out)
      replace HKP := Aside0.mk (show Kp w.heap.size (fun k => k = gw ∨ k = gm) (W5.heap.size + 3) W wr.drew from Kp.trans HKP.out (Kp.of_below (below_drew1 (Below.refl _ _)) HI.out.hb.size (by have h1 := HKP.out.size; have h2 := HZ.out; omega)))
      replace HMP := Aside0.mk (show MapL wr.drew gm L from HMP.out)
      replace hc5 := (show wr.drew.cell? _ = _ from hc5)
      replace hcm := (show wr.drew.cell? _ = _ from hcm)
      replace hcx := (show wr.drew.cell? _ = _ from hcx)
      replace hlk := lookup_run wr.drew gm L ((m : Int), xm) HMP.out
      rw [HCV.out] at hlk
      unfold spv at hlk
      dsimp only at hlk
      generalize wr.drew = W6 at *
      obtain ⟨W7, hW7⟩ : ∃ W7, W7 = W6.putObj gm (.map (entsFrom 0 (touch L ((m : Int), xm))).toArray (touch L ((m : Int), xm)).length) := ⟨_, rfl⟩
      have hme := mapEntry_run W6 gm L ((m : Int), xm) HMP.out
      rw [← hW7, HCV.out, HPL.out] at hme
      unfold spv at hme
      dsimp only at hme
      have hm7 : MapL W7 gm (touch L ((m : Int), xm)) := by rw [hW7]; exact MapL.put _ _ _ (blk_lt (o := .map _ _) HMP.out)
      have hk7 : ∀ g o, g ≠ gm → W6.heap[g]? = some o → W7.heap[g]? = some o := fun g o hne h => by rw [hW7]; exact (World.putObj_heap_other hne).trans h
      have HK57 := Aside0.mk (hk7 _ _ (by have := HN.out; omega) HI.out.k5)
      have HKW7 := Aside0.mk (hk7 _ _ (by have := HN.out; omega) HI.out.kw)
      have HK67 := Aside0.mk (hk7 _ _ (by have := HGL.out; have := HG6.out; omega) HK6.out)
      have hcx7 : W7.cell? ⟨g6, m, none⟩ = some (.int .i64 xm) := (blk_cell HK67.out m).trans (by rw [ac_get _ m (by have := HV.out.n1; omega), HXM.out])
      have hlk7 := lookup_run W7 gm (touch L ((m : Int), xm)) ((m : Int), xm) hm7
      rw [getL_touch, HCV.out] at hlk7
      unfold spv at hlk7
      dsimp only at hlk7
      obtain ⟨n0_, htg⟩ := touch_get L ((m : Int), xm)
      rw [HPL.out] at htg
      obtain ⟨W8, hW8⟩ : ∃ W8, W8 = W7.putObj gm (.map (entsFrom 0 ((touch L ((m : Int), xm)).set pl (((m : Int), xm), cv + 1))).toArray ((touch L ((m : Int), xm)).set pl (((m : Int), xm), cv + 1)).length) := ⟨_, rfl⟩
      have hes := entryStore_run W7 gm (touch L ((m : Int), xm)) pl ((m : Int), xm) n0_ (cv + 1) hm7 htg
      rw [← hW8] at hes
      have hm8 : MapL W8 gm ((touch L ((m : Int), xm)).set pl (((m : Int), xm), cv + 1)) := by rw [hW8]; exact MapL.put _ _ _ (blk_lt (o := .map _ _) hm7)
      have hk8 : ∀ g o, g ≠ gm → W6.heap[g]? = some o → W8.heap[g]? = some o := fun g o hne h => by rw [hW8]; exact (World.putObj_heap_other hne).trans (hk7 g o hne h)
      have HKP8 := Aside0.mk (show Kp w.heap.size (fun k => k = gw ∨ k = gm) (W5.heap.size + 3) W W8 from Kp.trans HKP.out (by rw [hW8, hW7]; exact Kp.trans (Kp.putObj W6 gm _ HW.out.1 (.inr rfl) (by have := HGL.out; omega)) (Kp.putObj _ gm _ HW.out.1 (.inr rfl) (by have := HGL.out; omega))))
      have HI8 := Aside0.mk (show AskI w A0 l0.length c0 A1 l1.length c1 wg g1 g5 gw gm W5.heap.size W8 (.slice Av nv cw) (ts ++ [x]) (midS l1.length ts x (m + 1)) from ⟨HI0.out.hb.trans HKP8.out.below, hk8 _ _ (by have := LTg1.out; omega) HI.out.k1, hk8 _ _ (by have := HN.out; omega) HI.out.k5, hk8 _ _ (by have := HN.out; omega) HI.out.kw, Kd.R_mono (Kd.R_move (Kd.R_bound HI.out.row) (fun k hk => by have h1 := hk.2.1; have h2 := HGL.out; rw [hW8, hW7]; exact (World.putObj_heap_other (by omega)).trans (World.putObj_heap_other (by omega)))) (fun _ _ => trivial), _, hm8, fun i k => by have h_ := getL_set (touch L ((m : Int), xm)) ((m : Int), xm) (cv + 1) pl (by rw [at_touch, HPL.out]) (i, k); rw [h_, midS_succ, HXM.out, ← HGL2.out (m : Int) xm, HCV.out]; exact ite_congr rfl (fun _ => rfl) (fun _ => by rw [getL_touch]; exact HGL2.out i k)⟩)
      have HK68 := Aside0.mk (hk8 _ _ (by have := HGL.out; have := HG6.out; omega) HK6.out)
      clear hW7 hW8 hk7 hk8 hm7 hm8 htg
      refine sP (i := 4) (N := some 71) (lm 14 16) ?_
      refine sP (i := 5) (N := some 72) (lm 14 48) ?_
      refine sP (i := 6) (N := some 73) (lm 14 112) ?_
      refine take_ (i := 0) (N := some 67) (v := ?_) (a' := ?_) (lm 14 113) rfl rfl (by kernel_rfl) (fun _ _ _ h => h) (Or.inl ⟨by rfl, ?_⟩) hHeld ?_ ?_
      rotate_left
      ·rintro w' ⟨s0, s1, s2, s3⟩
       go_simp
       with_reducible rfl
      rotate_left
      ·simp only [Act.put, List.setIfInBounds_toArray, List.set_cons_zero, List.set_cons_succ, i64_w, i32_w]
       rfl
      refine sP (i := 1) (N := some 68) (lm 14 115) ?_
      refine sP (i := 2) (N := some 69) (lm 14 119) ?_
      refine take_ (i := 3) (N := some 70) (v := ?_) (a' := ?_) (lm 14 127) rfl rfl (by kernel_rfl) (fun _ _ _ h => h) (Or.inl ⟨by rfl, ?_⟩) hHeld ?_ ?_
      rotate_left
      ·rintro w' ⟨s0, s1, s2, s3⟩
       go_simp
       with_reducible rfl
      rotate_left
      ·simp only [Act.put, List.setIfInBounds_toArray, List.set_cons_zero, List.set_cons_succ, i64_w, i32_w]
       rfl
      refine take_ (i := 7) (N := some 74) (v := ?_) (a' := ?_) (lm 14 255) rfl rfl (by kernel_rfl) (fun _ _ _ h => h) (Or.inl ⟨by rfl, ?_⟩) hHeld ?_ ?_
      rotate_left
      ·rintro w' ⟨s0, s1, s2, s3⟩
       go_simp
       with_reducible rfl
      rotate_left
      ·simp only [Act.put, List.setIfInBounds_toArray, List.set_cons_zero, List.set_cons_succ, i64_w, i32_w]
       rfl
      refine sP (i := 8) (N := some 75) (lm 14 511) ?_
      refine take_ (i := 9) (N := some 76) (v := ?_) (a' := ?_) (lm 14 1023) rfl rfl (by kernel_rfl) (fun _ _ _ h => h) (Or.inl ⟨by rfl, ?_⟩) hHeld ?_ ?_
      rotate_left
      ·rintro w' ⟨s0, s1, s2, s3⟩
       go_simp
       with_reducible rfl
      rotate_left
      ·simp only [Act.put, List.setIfInBounds_toArray, List.set_cons_zero, List.set_cons_succ, i64_w, i32_w]
       rfl
      refine sP (i := 10) (N := some 77) (lm 14 2047) ?_
      refine one_ (i := 11) (N := some 78) (lm 14 4095) rfl rfl (by kernel_rfl) (by decide) (fun K hK => ?_)
      refine value_ (w1 := W7) (v := .tuple #[.int .i64 cv, .int .i64 (pl : Int)]) (by rfl) rfl ?_ ?_
      ·go_simp
      refine hK.out _ _ ⟨(blk_cell HK57.out 0).trans rfl, (blk_cell HKW7.out 4).trans rfl, hcx7, hlk7⟩ (fun hHeld => ?_)
      clear hK K
      refine sN ?_
      refine sP (i := 12) (N := some 79) (lm 14 8191) ?_
      refine last_ (i := 13) (N := none) (lm 14 16383) rfl rfl (by kernel_rfl) (by decide) (fun K hK => ?_)
      refine skip_ (w1 := W8) (by rfl) rfl ?_ ?_
      ·go_simp
      refine hK.out _ _ ?_
      clear hK K
      refine done_ (by kernel_rfl) ?_
      gi_wp2_with fail
      gi_roundg k1
      case measure => omega
      case rel => exact ⟨m + 1, by go_num, ⟨by have := HM.out; omega⟩, HI8, HKP8, HK68⟩
     ·gi_wp2
      obtain rfl : m = l1.length := by have := HM.out; omega
      refine ⟨HKP.out, .slice Av nv cw, ?_⟩
      rw [HFA.out, show (fun i k => manyS l1.length (ts ++ [x]) i k) = midS l1.length ts x l1.length from (midS_end _ _ _).symm]
      exact HI.out
   | succ q =>
    have HI_ := HI.out
    rw [hq] at HI_
    replace HI := Aside0.mk HI_
    replace HI0 := HI
    clear HI_
    rw [hq] at HN6
    have hcv : W.cell? ⟨gw, 3, none⟩ = some (.slice At (q + 1) ct) := (blk_cell HI.out.kw 3).trans rfl
    obtain ⟨adt, eAt, hcl0, hcl1, hcl2, hcl3, hcl4, hcl5, hcl6⟩ := at_T121 (Kd.R_reads' (A := At) (n := q + 1) (c := ct) HI.out.row).2.2 q (by omega)
    subst eAt
    have hyt : ts.getD q [] ∈ ts := by
     rw [List.getD_eq_getElem?_getD, List.getElem?_eq_getElem (by omega)]
     exact List.getElem_mem _
    generalize ts.getD q [] = y at *
    have hyp : y ∈ pre := by rw [← HTS.out] at hyt; exact (List.mem_filter.1 hyt).1
    have hnd : (pre ++ [x]).Nodup := HPP.out.sublist.nodup (allL_nodup l0 l1)
    have hyx : y ≠ x := fun e => by
     subst e
     exact (List.nodup_append.1 hnd).2.2 y hyp y (by simp) rfl
    have hyl : y.length = l1.length := ((allL_mem l0 l1 y).1 (HPP.out.subset (List.mem_append_left _ hyp))).1
    have hdiff : ∃ i, i < 7 ∧ pad y i ≠ pad x i := by
     refine Classical.byContradiction fun hn => hyx (pad_inj y x (by rw [hyl, HXL.out]) fun i hi => ?_)
     refine Classical.byContradiction fun hne => hn ⟨i, by have := HV.out.n1; omega, hne⟩
    have he7 := eq7_false (pad y) (pad x) hdiff
    clear hyt hyp hnd hyx hyl hdiff
    have hwq : wrap64 ((q : Nat) : Int) = (q : Int) := wrap64_id _ (by have := HTL.out; omega) (by have := HTL.out; omega)
    have hql : (q : Int) < (q : Int) + 1 := by omega
    refine startIn_ (m := 31) (S := fun w' => w'.cell? ⟨g1, 0, none⟩ = some (.slice A0 l0.length c0) ∧ w'.cell? ⟨g1, 1, none⟩ = some (.slice A1 l1.length c1) ∧ w'.cell? ⟨g1, 2, none⟩ = some (.int .i64 wg) ∧ w'.cell? ⟨g6, 0, none⟩ = some (.int .i64 (pad x 0)) ∧ w'.cell? ⟨g6, 1, none⟩ = some (.int .i64 (pad x 1)) ∧ w'.cell? ⟨g6, 2, none⟩ = some (.int .i64 (pad x 2)) ∧ w'.cell? ⟨g6, 3, none⟩ = some (.int .i64 (pad x 3)) ∧ w'.cell? ⟨g6, 4, none⟩ = some (.int .i64 (pad x 4)) ∧ w'.cell? ⟨g6, 5, none⟩ = some (.int .i64 (pad x 5)) ∧ w'.cell? ⟨g6, 6, none⟩ = some (.int .i64 (pad x 6)) ∧ w'.cell? ⟨g5, 0, none⟩ = some (.pointer (some ⟨gw, 0, none⟩)) ∧ w'.cell? ⟨gw, 3, none⟩ = some (.slice (some adt) (q + 1) ct) ∧ w'.cell? (adt.add (q * 7)) = some (.int .i64 (pad y 0)) ∧ w'.cell? ⟨(adt.add (q * 7)).block, (adt.add (q * 7)).off + 1, none⟩ = some (.int .i64 (pad y 1)) ∧ w'.cell? ⟨(adt.add (q * 7)).block, (adt.add (q * 7)).off + 2, none⟩ = some (.int .i64 (pad y 2)) ∧ w'.cell? ⟨(adt.add (q * 7)).block, (adt.add (q * 7)).off + 3, none⟩ = some (.int .i64 (pad y 3)) ∧ w'.cell? ⟨(adt.add (q * 7)).block, (adt.add (q * 7)).off + 4, none⟩ = some (.int .i64 (pad y 4)) ∧ w'.cell? ⟨(adt.add (q * 7)).block, (adt.add (q * 7)).off + 5, none⟩ = some (.int .i64 (pad y 5)) ∧ w'.cell? ⟨(adt.add (q * 7)).block, (adt.add (q * 7)).off + 6, none⟩ = some (.int .i64 (pad y 6))) (ds := []) (fun ⟨_, _, h⟩ => h) (by rfl) (lm 31 0) (by kernel_rfl) rfl (by kernel_rfl) ⟨hct0, hct1, hct2, hca0, hca1, hca2, hca3, hca4, hca5, hca6, hc5, hcv, hcl0, hcl1, hcl2, hcl3, hcl4, hcl5, hcl6⟩ (fun hHeld => ?_)
    replace HI := Aside0.mk (HI.out.below (below_drew1 (Below.refl _ _)))
    replace HK6 := Aside0.mk (show W.drew.heap[g6]? = _ from HK6.out)
    replace HB1 := Aside0.mk (below_drew1 HB1.out)
    replace hct0 := (show W.drew.cell? _ = _ from hct0)
    replace hct1 := (show W.drew.cell? _ = _ from hct1)
    replace hct2 := (show W.drew.cell? _ = _ from hct2)
    replace hca0 := (show W.drew.cell? _ = _ from hca0)
    replace hca1 := (show W.drew.cell? _ = _ from hca1)
    replace hca2 := (show W.drew.cell? _ = _ from hca2)
    replace hca3 := (show W.drew.cell? _ = _ from hca3)
    replace hca4 := (show W.drew.cell? _ = _ from hca4)
    replace hca5 := (show W.drew.cell? _ = _ from hca5)
    replace hca6 := (show W.drew.cell? _ = _ from hca6)
    replace hc5 := (show W.drew.cell? _ = _ from hc5)
    replace hcv := (show W.drew.cell? _ = _ from hcv)
    replace hcl0 := (show W.drew.cell? _ = _ from hcl0)
    replace hcl1 := (show W.drew.cell? _ = _ from hcl1)
    replace hcl2 := (show W.drew.cell? _ = _ from hcl2)
    replace hcl3 := (show W.drew.cell? _ = _ from hcl3)
    replace hcl4 := (show W.drew.cell? _ = _ from hcl4)
    replace hcl5 := (show W.drew.cell? _ = _ from hcl5)
    replace hcl6 := (show W.drew.cell? _ = _ from hcl6)
    generalize W.drew = W2 at *
    have HCW := Aside0.mk (wrong_calls A0 c0 l0 A1 c1 l1 wg (pad x) W2 (Kd.C_below HT.out.r0 HI.out.hb) HT.out.n0 HV.out.n1 HOW.out)
    unfold ac at HCW
    refine sP (i := 4) (N := some 24) (lm 31 16) ?_
    refine take_ (i := 0) (N := some 20) (v := ?_) (a' := ?_) (lm 31 17) rfl rfl (by kernel_rfl) (fun _ _ _ h => h) (Or.inl ⟨by rfl, ?_⟩) hHeld ?_ ?_
    rotate_left
    ·rintro w' ⟨s0, s1, s2, s3, s4, s5, s6, s7, s8, s9, s10, s11, s12, s13, s14, s15, s16, s17, s18⟩
     go_simp
     with_reducible rfl
    rotate_left
    ·simp only [Act.put, List.setIfInBounds_toArray, List.set_cons_zero, List.set_cons_succ, i64_w, i32_w]
     rfl
    refine take_ (i := 1) (N := some 21) (v := ?_) (a' := ?_) (lm 31 19) rfl rfl (by kernel_rfl) (fun _ _ _ h => h) (Or.inl ⟨by rfl, ?_⟩) hHeld ?_ ?_
    rotate_left
    ·rintro w' ⟨s0, s1, s2, s3, s4, s5, s6, s7, s8, s9, s10, s11, s12, s13, s14, s15, s16, s17, s18⟩
     go_simp
     with_reducible rfl
    rotate_left
    ·simp only [Act.put, List.setIfInBounds_toArray, List.set_cons_zero, List.set_cons_succ, i64_w, i32_w]
     rfl
    refine take_ (i := 5) (N := some 25) (v := ?_) (a' := ?_) (lm 31 51) rfl rfl (by kernel_rfl) (fun _ _ _ h => h) (Or.inl ⟨by rfl, ?_⟩) hHeld ?_ ?_
    rotate_left
    ·rintro w' ⟨s0, s1, s2, s3, s4, s5, s6, s7, s8, s9, s10, s11, s12, s13, s14, s15, s16, s17, s18⟩
     go_simp
     with_reducible rfl
    rotate_left
    ·simp only [Act.put, List.setIfInBounds_toArray, List.set_cons_zero, List.set_cons_succ, i64_w, i32_w]
     rfl
    refine one_ (i := 2) (N := some 22) (lm 31 55) rfl rfl (by kernel_rfl) (by decide) (fun K hK => ?_)
    refine goes_ Try.func86 (by kernel_rfl) rfl #[.agg #[.slice A0 l0.length c0, .slice A1 l1.length c1, .int .i64 wg], .agg #[.int .i64 (pad x 0), .int .i64 (pad x 1), .int .i64 (pad x 2), .int .i64 (pad x 3), .int .i64 (pad x 4), .int .i64 (pad x 5), .int .i64 (pad x 6)]] (by rfl) rfl rfl (by simp only [List.map_toArray, List.map_cons, List.map_nil]; rfl) ?_
    with_reducible refine (HCW.out).mono ?_
    rintro e W3 ⟨v22, rfl, ho, hb⟩
    refine ⟨_, rfl, ?_⟩
    replace hct0 := (hb.cell (World.block_lt_of_cell? _ _ hct0)).trans hct0
    replace hct1 := (hb.cell (World.block_lt_of_cell? _ _ hct1)).trans hct1
    replace hct2 := (hb.cell (World.block_lt_of_cell? _ _ hct2)).trans hct2
    replace hca0 := (hb.cell (World.block_lt_of_cell? _ _ hca0)).trans hca0
    replace hca1 := (hb.cell (World.block_lt_of_cell? _ _ hca1)).trans hca1
    replace hca2 := (hb.cell (World.block_lt_of_cell? _ _ hca2)).trans hca2
    replace hca3 := (hb.cell (World.block_lt_of_cell? _ _ hca3)).trans hca3
    replace hca4 := (hb.cell (World.block_lt_of_cell? _ _ hca4)).trans hca4
    replace hca5 := (hb.cell (World.block_lt_of_cell? _ _ hca5)).trans hca5
    replace hca6 := (hb.cell (World.block_lt_of_cell? _ _ hca6)).trans hca6
    replace hc5 := (hb.cell (World.block_lt_of_cell? _ _ hc5)).trans hc5
    replace hcv := (hb.cell (World.block_lt_of_cell? _ _ hcv)).trans hcv
    replace hcl0 := (hb.cell (World.block_lt_of_cell? _ _ hcl0)).trans hcl0
    replace hcl1 := (hb.cell (World.block_lt_of_cell? _ _ hcl1)).trans hcl1
    replace hcl2 := (hb.cell (World.block_lt_of_cell? _ _ hcl2)).trans hcl2
    replace hcl3 := (hb.cell (World.block_lt_of_cell? _ _ hcl3)).trans hcl3
    replace hcl4 := (hb.cell (World.block_lt_of_cell? _ _ hcl4)).trans hcl4
    replace hcl5 := (hb.cell (World.block_lt_of_cell? _ _ hcl5)).trans hcl5
    replace hcl6 := (hb.cell (World.block_lt_of_cell? _ _ hcl6)).trans hcl6
    replace HI := Aside0.mk (HI.out.below hb)
    replace HK6 := Aside0.mk (blk_below HK6.out hb)
    have HB2 := Aside0.mk (below_step HB1.out hb)
    clear HB1
    have HB1 := HB2
    clear HB2
    obtain ⟨A22, c22, e22⟩ := Kd.R_slice ho
    subst e22
    rw [HNB.out]
    clear ho hb HCW
    refine hK.out _ _ ⟨hct0, hct1, hct2, hca0, hca1, hca2, hca3, hca4, hca5, hca6, hc5, hcv, hcl0, hcl1, hcl2, hcl3, hcl4, hcl5, hcl6⟩ (fun hHeld => ?_)
    clear hK K
    refine sN ?_
    refine sP (i := 3) (N := some 23) (lm 31 63) ?_
    refine sP (i := 6) (N := some 26) (lm 31 127) ?_
    refine sP (i := 7) (N := some 27) (lm 31 255) ?_
    refine take_ (i := 8) (N := some 28) (v := ?_) (a' := ?_) (lm 31 511) rfl rfl (by kernel_rfl) (fun _ _ _ h => h) (Or.inl ⟨by rfl, ?_⟩) hHeld ?_ ?_
    rotate_left
    ·rintro w' ⟨s0, s1, s2, s3, s4, s5, s6, s7, s8, s9, s10, s11, s12, s13, s14, s15, s16, s17, s18⟩
     go_simp
     with_reducible rfl
    rotate_left
    ·simp only [Act.put, List.setIfInBounds_toArray, List.set_cons_zero, List.set_cons_succ, i64_w, i32_w]
     rfl
    refine sP (i := 9) (N := some 29) (lm 31 1023) ?_
    refine sP (i := 10) (N := some 30) (lm 31 2047) ?_
    refine take_ (i := 11) (N := some 31) (v := ?_) (a' := ?_) (lm 31 4095) rfl rfl (by kernel_rfl) (fun _ _ _ h => h) (Or.inl ⟨by rfl, ?_⟩) hHeld ?_ ?_
    rotate_left
    ·rintro w' ⟨s0, s1, s2, s3, s4, s5, s6, s7, s8, s9, s10, s11, s12, s13, s14, s15, s16, s17, s18⟩
     go_simp
     with_reducible rfl
    rotate_left
    ·simp only [Act.put, List.setIfInBounds_toArray, List.set_cons_zero, List.set_cons_succ, i64_w, i32_w]
     rfl
    refine sP (i := 12) (N := some 32) (lm 31 8191) ?_
    refine sP (i := 13) (N := some 33) (lm 31 16383) ?_
    refine sP (i := 14) (N := some 34) (lm 31 32767) ?_
    refine take_ (i := 15) (N := some 35) (v := ?_) (a' := ?_) (lm 31 65535) rfl rfl (by kernel_rfl) (fun _ _ _ h => h) (Or.inl ⟨by rfl, ?_⟩) hHeld ?_ ?_
    rotate_left
    ·rintro w' ⟨s0, s1, s2, s3, s4, s5, s6, s7, s8, s9, s10, s11, s12, s13, s14, s15, s16, s17, s18⟩
     go_simp
     with_reducible rfl
    rotate_left
    ·simp only [Act.put, List.setIfInBounds_toArray, List.set_cons_zero, List.set_cons_succ, i64_w, i32_w]
     rfl
    refine sP (i := 16) (N := some 36) (lm 31 131071) ?_
    refine sP (i := 17) (N := some 37) (lm 31 262143) ?_
    refine take_ (i := 18) (N := some 38) (v := ?_) (a' := ?_) (lm 31 524287) rfl rfl (by kernel_rfl) (fun _ _ _ h => h) (Or.inl ⟨by rfl, ?_⟩) hHeld ?_ ?_
    rotate_left
    ·rintro w' ⟨s0, s1, s2, s3, s4, s5, s6, s7, s8, s9, s10, s11, s12, s13, s14, s15, s16, s17, s18⟩
     go_simp
     with_reducible rfl
    rotate_left
    ·simp only [Act.put, List.setIfInBounds_toArray, List.set_cons_zero, List.set_cons_succ, i64_w, i32_w]
     rfl
    refine take_ (i := 19) (N := some 39) (v := ?_) (a' := ?_) (lm 31 1048575) rfl rfl (by kernel_rfl) (fun _ _ _ h => h) (Or.inl ⟨by rfl, ?_⟩) hHeld ?_ ?_
    rotate_left
    ·rintro w' ⟨s0, s1, s2, s3, s4, s5, s6, s7, s8, s9, s10, s11, s12, s13, s14, s15, s16, s17, s18⟩
     go_simp
     with_reducible rfl
    rotate_left
    ·simp only [Act.put, List.setIfInBounds_toArray, List.set_cons_zero, List.set_cons_succ, i64_w, i32_w]
     rfl
    refine sP (i := 20) (N := some 40) (lm 31 2097151) ?_
    refine sP (i := 21) (N := some 41) (lm 31 4194303) ?_
    refine take_ (i := 22) (N := some 42) (v := ?_) (a' := ?_) (lm 31 8388607) rfl rfl (by kernel_rfl) (fun _ _ _ h => h) (Or.inl ⟨by rfl, ?_⟩) hHeld ?_ ?_
    rotate_left
    ·rintro w' ⟨s0, s1, s2, s3, s4, s5, s6, s7, s8, s9, s10, s11, s12, s13, s14, s15, s16, s17, s18⟩
     go_simp
     with_reducible rfl
    rotate_left
    ·simp only [Act.put, List.setIfInBounds_toArray, List.set_cons_zero, List.set_cons_succ, i64_w, i32_w]
     rfl
    refine sP (i := 23) (N := some 43) (lm 31 16777215) ?_
    refine sP (i := 24) (N := some 44) (lm 31 33554431) ?_
    refine sP (i := 25) (N := some 45) (lm 31 67108863) ?_
    refine take_ (i := 26) (N := some 46) (v := ?_) (a' := ?_) (lm 31 134217727) rfl rfl (by kernel_rfl) (fun _ _ _ h => h) (Or.inl ⟨by rfl, ?_⟩) hHeld ?_ ?_
    rotate_left
    ·rintro w' ⟨s0, s1, s2, s3, s4, s5, s6, s7, s8, s9, s10, s11, s12, s13, s14, s15, s16, s17, s18⟩
     go_simp
     with_reducible rfl
    rotate_left
    ·simp only [Act.put, List.setIfInBounds_toArray, List.set_cons_zero, List.set_cons_succ, i64_w, i32_w]
     rfl
    refine take_ (i := 27) (N := some 47) (v := ?_) (a' := ?_) (lm 31 268435455) rfl rfl (by kernel_rfl) (fun _ _ _ h => h) (Or.inl ⟨by rfl, ?_⟩) hHeld ?_ ?_
    rotate_left
    ·rintro w' ⟨s0, s1, s2, s3, s4, s5, s6, s7, s8, s9, s10, s11, s12, s13, s14, s15, s16, s17, s18⟩
     go_simp
     with_reducible rfl
    rotate_left
    ·simp only [Act.put, List.setIfInBounds_toArray, List.set_cons_zero, List.set_cons_succ, i64_w, i32_w]
     rfl
    refine sP (i := 28) (N := some 48) (lm 31 536870911) ?_
    refine sP (i := 29) (N := some 49) (lm 31 1073741823) ?_
    refine sP (i := 30) (N := some 50) (lm 31 2147483647) ?_
    refine done_ (by kernel_rfl) ?_
    repeat (first | (apply wpIn_seq_k; intro _ _) | gi_step)
    refine startIn_ (m := 11) (S := fun w' => w'.cell? ⟨g5, 0, none⟩ = some (.pointer (some ⟨gw, 0, none⟩)) ∧ w'.cell? ⟨gw, 3, none⟩ = some (.slice (some adt) (q + 1) ct) ∧ w'.cell? ⟨g6, 0, none⟩ = some (.int .i64 (pad x 0)) ∧ w'.cell? ⟨g6, 1, none⟩ = some (.int .i64 (pad x 1)) ∧ w'.cell? ⟨g6, 2, none⟩ = some (.int .i64 (pad x 2)) ∧ w'.cell? ⟨g6, 3, none⟩ = some (.int .i64 (pad x 3)) ∧ w'.cell? ⟨g6, 4, none⟩ = some (.int .i64 (pad x 4)) ∧ w'.cell? ⟨g6, 5, none⟩ = some (.int .i64 (pad x 5)) ∧ w'.cell? ⟨g6, 6, none⟩ = some (.int .i64 (pad x 6))) (ds := [10]) (fun ⟨_, _, h⟩ => h) (by rfl) (lm 11 0) (by kernel_rfl) rfl (by kernel_rfl) ⟨hc5, hcv, hca0, hca1, hca2, hca3, hca4, hca5, hca6⟩ (fun hHeld => ?_)
    replace HI := Aside0.mk (HI.out.below (below_drew1 (Below.refl _ _)))
    replace HK6 := Aside0.mk (show W3.drew.heap[g6]? = _ from HK6.out)
    replace HB1 := Aside0.mk (below_drew1 HB1.out)
    replace HSZ2 := Aside0.mk (show W5.heap.size + 3 < W3.drew.heap.size from Nat.lt_of_lt_of_le HSZ2.out HB1.out.size)
    replace hc5 := (show W3.drew.cell? _ = _ from hc5)
    replace hcv := (show W3.drew.cell? _ = _ from hcv)
    replace hca0 := (show W3.drew.cell? _ = _ from hca0)
    replace hca1 := (show W3.drew.cell? _ = _ from hca1)
    replace hca2 := (show W3.drew.cell? _ = _ from hca2)
    replace hca3 := (show W3.drew.cell? _ = _ from hca3)
    replace hca4 := (show W3.drew.cell? _ = _ from hca4)
    replace hca5 := (show W3.drew.cell? _ = _ from hca5)
    replace hca6 := (show W3.drew.cell? _ = _ from hca6)
    generalize W3.drew = W2 at *
    refine take_ (i := 0) (N := some 51) (v := ?_) (a' := ?_) (lm 11 1) rfl rfl (by kernel_rfl) (fun _ _ _ h => h) (Or.inl ⟨by rfl, ?_⟩) hHeld ?_ ?_
    rotate_left
    ·rintro w' ⟨s0, s1, s2, s3, s4, s5, s6, s7, s8⟩
     go_simp
     with_reducible rfl
    rotate_left
    ·simp only [Act.put, List.setIfInBounds_toArray, List.set_cons_zero, List.set_cons_succ, i64_w, i32_w]
     rfl
    refine take_ (i := 1) (N := some 52) (v := ?_) (a' := ?_) (lm 11 3) rfl rfl (by kernel_rfl) (fun _ _ _ h => h) (Or.inl ⟨by rfl, ?_⟩) hHeld ?_ ?_
    rotate_left
    ·rintro w' ⟨s0, s1, s2, s3, s4, s5, s6, s7, s8⟩
     go_simp
     with_reducible rfl
    rotate_left
    ·simp only [Act.put, List.setIfInBounds_toArray, List.set_cons_zero, List.set_cons_succ, i64_w, i32_w]
     rfl
    refine sP (i := 2) (N := some 53) (lm 11 7) ?_
    refine sP (i := 3) (N := some 54) (lm 11 15) ?_
    refine take_ (i := 4) (N := some 55) (v := ?_) (a' := ?_) (lm 11 31) rfl rfl (by kernel_rfl) (fun _ _ _ h => h) (Or.inl ⟨by rfl, ?_⟩) hHeld ?_ ?_
    rotate_left
    ·rintro w' ⟨s0, s1, s2, s3, s4, s5, s6, s7, s8⟩
     go_simp
     with_reducible rfl
    rotate_left
    ·simp only [Act.put, List.setIfInBounds_toArray, List.set_cons_zero, List.set_cons_succ, i64_w, i32_w]
     rfl
    refine take_ (i := 5) (N := some 56) (v := ?_) (a' := ?_) (lm 11 63) rfl rfl (by kernel_rfl) (fun _ _ _ h => h) (Or.inl ⟨by rfl, ?_⟩) hHeld ?_ ?_
    rotate_left
    ·rintro w' ⟨s0, s1, s2, s3, s4, s5, s6, s7, s8⟩
     go_simp
     with_reducible rfl
    rotate_left
    ·simp only [Act.put, List.setIfInBounds_toArray, List.set_cons_zero, List.set_cons_succ, i64_w, i32_w]
     rfl
    refine one_ (i := 6) (N := some 57) (lm 11 127) rfl rfl (by kernel_rfl) (by decide) (fun K hK => ?_)
    refine value_ (w1 := ?_) (v := ?_) (by rfl) rfl ?_ ?_
    rotate_left 2
    ·go_simp
     constructor
     ·rfl
     ·rfl
    refine hK.out _ _ ⟨(blk_cell (blk_alloc HI.out.k5 _) 0).trans rfl, (blk_cell (blk_alloc HI.out.kw _) 3).trans rfl, (blk_cell (blk_alloc HK6.out _) 0).trans rfl, (blk_cell (blk_alloc HK6.out _) 1).trans rfl, (blk_cell (blk_alloc HK6.out _) 2).trans rfl, (blk_cell (blk_alloc HK6.out _) 3).trans rfl, (blk_cell (blk_alloc HK6.out _) 4).trans rfl, (blk_cell (blk_alloc HK6.out _) 5).trans rfl, (blk_cell (blk_alloc HK6.out _) 6).trans rfl⟩ (fun hHeld => ?_)
    clear hK K
    refine sN ?_
    refine one_ (i := 7) (N := some 58) (lm 11 255) rfl rfl (by kernel_rfl) (by decide) (fun K hK => ?_)
    refine Kd.R_append_step k121 (w0 := W2) (W5.heap.size + 3 + 1) (by rfl) (.tmp 55) (.tmp 57) 102 121 (.agg (ac fun _ => 0)) 56 rfl Try.underlying102 info121' rfl (by decide) (by omega) (.slice (some adt) (q + 1) ct) ts x [.int .i64 (pad x 0), .int .i64 (pad x 1), .int .i64 (pad x 2), .int .i64 (pad x 3), .int .i64 (pad x 4), .int .i64 (pad x 5), .int .i64 (pad x 6)] (fun _ => True) (fun _ => False) rfl rfl ?aP (fun _ hk => hk.elim) ?aF ?aO ?aB ?aS ?aL ?_
    (case aP => exact rfl)
    (case aB => exact Below.refl _ _)
    (case aF => exact fun _ _ => trivial)
    (case aO => exact HI.out.row)
    (case aS => have := HSZ2.out; omega)
    (case aL => have := HTL.out; omega)
    intro v1 W4 ho hb hg hat
    obtain ⟨Av, cw, ev1⟩ := Kd.R_slice ho
    obtain ⟨nv, hnv⟩ : ∃ nv, (ts ++ [x]).length = nv := ⟨_, rfl⟩
    rw [hnv] at ev1
    subst ev1
    clear hnv
    have HRW := Aside0.mk ho
    have HKP := Aside0.mk (Kp.trans (Kp.of_below HB1.out HSZ.out HZ.out) (Kp.row (X := fun k => k = gw ∨ k = gm) HI.out.row hg (by have := HGL.out; omega) (by have := HSZ2.out; omega)))
    have HK1 := Aside0.mk (blk_grown HI.out.k1 hg (row_ne HI.out.row (by have := HGL.out; omega)))
    have HK5 := Aside0.mk (blk_grown HI.out.k5 hg (row_ne HI.out.row (by have := HGL.out; omega)))
    have HKW := Aside0.mk (blk_grown HI.out.kw hg (row_ne HI.out.row (by have := HGL.out; omega)))
    have HMP := Aside0.mk (show ∃ L, MapL W4 gm L ∧ ∀ i k, getL L (i, k) = manyS l1.length ts i k from by obtain ⟨L, m1, m2⟩ := HI.out.mp; exact ⟨L, blk_grown (o := .map _ _) m1 hg (row_ne HI.out.row (by have := HGL.out; omega)), m2⟩)
    have HK64 := Aside0.mk (blk_grown HK6.out hg HN6.out)
    have HBW := Aside0.mk (show Below w.heap.size w W4 from HI.out.hb.trans (hb.mono (by have := HSZ2.out; have := HGL.out; omega)))
    have HS4 := Aside0.mk hg.size
    clear ho hb hg hat
    clear hc5
    clear hcv
    clear hca0
    clear hca1
    clear hca2
    clear hca3
    clear hca4
    clear hca5
    clear hca6
    clear HI HK6
    have HK6 := HK64
    clear HK64
    refine hK.out _ _ ⟨(blk_cell HK5.out 0).trans rfl, (blk_cell HKW.out 3).trans rfl, (blk_cell HK6.out 0).trans rfl, (blk_cell HK6.out 1).trans rfl, (blk_cell HK6.out 2).trans rfl, (blk_cell HK6.out 3).trans rfl, (blk_cell HK6.out 4).trans rfl, (blk_cell HK6.out 5).trans rfl, (blk_cell HK6.out 6).trans rfl⟩ (fun hHeld => ?_)
    clear hK K
    refine sN ?_
    refine sP (i := 8) (N := some 59) (lm 11 511) ?_
    refine sP (i := 9) (N := some 60) (lm 11 1023) ?_
    refine last_ (i := 10) (N := none) (lm 11 2047) rfl rfl (by kernel_rfl) (by decide) (fun K hK => ?_)
    have hfw : W4.frozen? ⟨gw, 3, none⟩ = false := blk_frozen HKW.out 3
    have hxw : W4.cell? ⟨gw, 3, none⟩ = some (.slice (some adt) (q + 1) ct) := (blk_cell HKW.out 3).trans rfl
    refine skip_ (w1 := ?_) (by rfl) rfl ?_ ?_
    rotate_left
    ·go_simp
     rfl
    refine hK.out _ _ ?_
    clear hK K
    refine done_ (by kernel_rfl) ?_
    have hks : ∀ g cs t, g ≠ gw → W4.heap[g]? = some (.cells cs t (0, 0)) → (W4.setCell ⟨gw, 3, none⟩ (.slice Av nv cw)).heap[g]? = some (.cells cs t (0, 0)) := fun g cs t hne h => blk_far h hne _
    have HI2 := Aside0.mk (show AskI w A0 l0.length c0 A1 l1.length c1 wg g1 g5 gw gm W5.heap.size (W4.setCell ⟨gw, 3, none⟩ (.slice Av nv cw)) (.slice Av nv cw) (ts ++ [x]) (midS l1.length ts x 0) from ⟨HBW.out.setCell (p := ⟨gw, 3, none⟩) HW.out.2.1 _, hks _ _ _ (by have := LTgw_g1.out; omega) HK1.out, hks _ _ _ (by have := HN.out; omega) HK5.out, blk_put HKW.out 3 _ rfl,
     Kd.R_mono (Kd.R_far (p := ⟨gw, 3, none⟩) (Kd.R_bound HRW.out) (fun k hk => by have h1 := hk.2.1; have h2 := HGL.out; show k ≠ gw; omega) _) (fun _ _ => trivial), by
     obtain ⟨L, m1, m2⟩ := HMP.out
     exact ⟨L, (Below.heap_setCell W4 ⟨gw, 3, none⟩ _ gm (by have := HN.out; show gm ≠ gw; omega)).trans m1, by rw [midS_zero]; exact m2⟩⟩)
    have HKP2 := Aside0.mk (show Kp w.heap.size (fun k => k = gw ∨ k = gm) (W5.heap.size + 3) W (W4.setCell ⟨gw, 3, none⟩ (.slice Av nv cw)) from Kp.set HKP.out HW.out.2.1 (by have := HGL.out; omega) (.inl rfl) 3 _)
    have HK62 := Aside0.mk (hks _ _ _ (by have := HGL.out; have := HG6.out; omega) HK6.out)
    clear hks HKP HK6 HBW HRW HK1 HK5 HKW HMP HS4
    generalize (W4.setCell ⟨gw, 3, none⟩ (.slice Av nv cw)) = W3 at *
    have hct1 : W3.cell? ⟨g1, 1, none⟩ = some (.slice A1 l1.length c1) := (blk_cell HI2.out.k1 1).trans rfl
    have HN1 := Aside0.mk HV.out.n1
    gi_wp2
    gi_loopg [64] l1.length (fun kq v64 w' => ∃ m : Nat, v64 = .int .i64 (m : Int) ∧ Aside0 (m + kq = l1.length) ∧ Aside0 (AskI w A0 l0.length c0 A1 l1.length c1 wg g1 g5 gw gm W5.heap.size w' (.slice Av nv cw) (ts ++ [x]) (midS l1.length ts x m)) ∧ Aside0 (Kp w.heap.size (fun k => k = gw ∨ k = gm) (W5.heap.size + 3) W w') ∧ Aside0 (w'.heap[g6]? = some (.cells (ac (pad x)) 121 (0, 0))))
    case atStart => exact ⟨0, rfl, ⟨Nat.zero_add _⟩, HI2, HKP2, HK62⟩
    case round =>
     clear HI2 HKP2 HK62
     obtain ⟨m, rfl, HM, HI, HKP, HK6⟩ := hrel
     by_cases hlt : m < l1.length
     ·cases gk with
      | zero => have := HM.out; omega
      | succ k1 =>
      have hm7 : m < 7 := by have := HN1.out; omega
      have hc5 : wr.cell? ⟨g5, 0, none⟩ = some (.pointer (some ⟨gw, 0, none⟩)) := (blk_cell HI.out.k5 0).trans rfl
      have hcm : wr.cell? ⟨gw, 4, none⟩ = some (.map (some gm)) := (blk_cell HI.out.kw 4).trans rfl
      obtain ⟨xm, hxmd⟩ : ∃ xm, pad x m = xm := ⟨_, rfl⟩
      have hcx : wr.cell? ⟨g6, m, none⟩ = some (.int .i64 xm) := (blk_cell HK6.out m).trans (by rw [ac_get _ m hm7, hxmd])
      have HXM := Aside0.mk hxmd
      obtain ⟨L, hmp, hgl⟩ := HI.out.mp
      obtain ⟨cv, hcv⟩ : ∃ cv, getL L ((m : Int), xm) = cv := ⟨_, rfl⟩
      have hcb : 0 ≤ cv ∧ cv ≤ 78126 := by
       rw [← hcv, hgl]
       have h1 := midS_bound l1.length ts x m (m : Int) xm
       have h2 := HTL.out
       omega
      obtain ⟨pl, hpl⟩ : ∃ pl, place L ((m : Int), xm) = pl := ⟨_, rfl⟩
      have HMP := Aside0.mk hmp
      have HGL2 := Aside0.mk hgl
      have HCV := Aside0.mk hcv
      have HPL := Aside0.mk hpl
      have hlk := lookup_run wr.drew gm L ((m : Int), xm) (show MapL wr.drew gm L from HMP.out)
      rw [HCV.out] at hlk
      unfold spv at hlk
      dsimp only at hlk
      have hm7z : (m : Int) < 7 := by omega
      have hwcv : wrap64 (cv + 1) = cv + 1 := wrap64_id _ (by omega) (by omega)
      clear hmp hgl hcv hpl hxmd
      gi_wp2_with fail
      refine startIn_ (m := 14) (S := fun w' => w'.cell? ⟨g5, 0, none⟩ = some (.pointer (some ⟨gw, 0, none⟩)) ∧ w'.cell? ⟨gw, 4, none⟩ = some (.map (some gm)) ∧ w'.cell? ⟨g6, m, none⟩ = some (.int .i64 xm) ∧ (Instr.lookup 103 (.map (some gm)) (.agg #[.int .i64 (m : Int), .int .i64 xm]) false).run Try.prog w' = .ok (.int .i64 cv) w') (ds := [13]) (fun ⟨_, _, h⟩ => h) (by rfl) (lm 14 0) (by kernel_rfl) rfl (by kernel_rfl) ⟨hc5, hcm, hcx, hlk⟩ (fun hHeld => ?_)
      replace HI := Aside0.mk (HI.out.below (below_drew1 (Below.refl _ _)))
      replace HK6 := Aside0.mk (show wr.drew.heap[g6]? = _ from HK6.out)
      replace HKP := Aside0.mk (show Kp w.heap.size (fun k => k = gw ∨ k = gm) (W5.heap.size + 3) W wr.drew from Kp.trans HKP.out (Kp.of_below (below_drew1 (Below.refl _ _)) HI.out.hb.size (by have h1 := HKP.out.size; have h2 := HZ.out; omega)))
      replace HMP := Aside0.mk (show MapL wr.drew gm L from HMP.out)
      replace hc5 := (show wr.drew.cell? _ = _ from hc5)
      replace hcm := (show wr.drew.cell? _ = _ from hcm)
      replace hcx := (show wr.drew.cell? _ = _ from hcx)
      replace hlk := lookup_run wr.drew gm L ((m : Int), xm) HMP.out
      rw [HCV.out] at hlk
      unfold spv at hlk
      dsimp only at hlk
      generalize wr.drew = W6 at *
      obtain ⟨W7, hW7⟩ : ∃ W7, W7 = W6.putObj gm (.map (entsFrom 0 (touch L ((m : Int), xm))).toArray (touch L ((m : Int), xm)).length) := ⟨_, rfl⟩
      have hme := mapEntry_run W6 gm L ((m : Int), xm) HMP.out
      rw [← hW7, HCV.out, HPL.out] at hme
      unfold spv at hme
      dsimp only at hme
      have hm7 : MapL W7 gm (touch L ((m : Int), xm)) := by rw [hW7]; exact MapL.put _ _ _ (blk_lt (o := .map _ _) HMP.out)
      have hk7 : ∀ g o, g ≠ gm → W6.heap[g]? = some o → W7.heap[g]? = some o := fun g o hne h => by rw [hW7]; exact (World.putObj_heap_other hne).trans h
      have HK57 := Aside0.mk (hk7 _ _ (by have := HN.out; omega) HI.out.k5)
      have HKW7 := Aside0.mk (hk7 _ _ (by have := HN.out; omega) HI.out.kw)
      have HK67 := Aside0.mk (hk7 _ _ (by have := HGL.out; have := HG6.out; omega) HK6.out)
      have hcx7 : W7.cell? ⟨g6, m, none⟩ = some (.int .i64 xm) := (blk_cell HK67.out m).trans (by rw [ac_get _ m (by have := HV.out.n1; omega), HXM.out])
      have hlk7 := lookup_run W7 gm (touch L ((m : Int), xm)) ((m : Int), xm) hm7
      rw [getL_touch, HCV.out] at hlk7
      unfold spv at hlk7
      dsimp only at hlk7
      obtain ⟨n0_, htg⟩ := touch_get L ((m : Int), xm)
      rw [HPL.out] at htg
      obtain ⟨W8, hW8⟩ : ∃ W8, W8 = W7.putObj gm (.map (entsFrom 0 ((touch L ((m : Int), xm)).set pl (((m : Int), xm), cv + 1))).toArray ((touch L ((m : Int), xm)).set pl (((m : Int), xm), cv + 1)).length) := ⟨_, rfl⟩
      have hes := entryStore_run W7 gm (touch L ((m : Int), xm)) pl ((m : Int), xm) n0_ (cv + 1) hm7 htg
      rw [← hW8] at hes
      have hm8 : MapL W8 gm ((touch L ((m : Int), xm)).set pl (((m : Int), xm), cv + 1)) := by rw [hW8]; exact MapL.put _ _ _ (blk_lt (o := .map _ _) hm7)
      have hk8 : ∀ g o, g ≠ gm → W6.heap[g]? = some o → W8.heap[g]? = some o := fun g o hne h => by rw [hW8]; exact (World.putObj_heap_other hne).trans (hk7 g o hne h)
      have HKP8 := Aside0.mk (show Kp w.heap.size (fun k => k = gw ∨ k = gm) (W5.heap.size + 3) W W8 from Kp.trans HKP.out (by rw [hW8, hW7]; exact Kp.trans (Kp.putObj W6 gm _ HW.out.1 (.inr rfl) (by have := HGL.out; omega)) (Kp.putObj _ gm _ HW.out.1 (.inr rfl) (by have := HGL.out; omega))))
      have HI8 := Aside0.mk (show AskI w A0 l0.length c0 A1 l1.length c1 wg g1 g5 gw gm W5.heap.size W8 (.slice Av nv cw) (ts ++ [x]) (midS l1.length ts x (m + 1)) from ⟨HI0.out.hb.trans HKP8.out.below, hk8 _ _ (by have := LTg1.out; omega) HI.out.k1, hk8 _ _ (by have := HN.out; omega) HI.out.k5, hk8 _ _ (by have := HN.out; omega) HI.out.kw, Kd.R_mono (Kd.R_move (Kd.R_bound HI.out.row) (fun k hk => by have h1 := hk.2.1; have h2 := HGL.out; rw [hW8, hW7]; exact (World.putObj_heap_other (by omega)).trans (World.putObj_heap_other (by omega)))) (fun _ _ => trivial), _, hm8, fun i k => by have h_ := getL_set (touch L ((m : Int), xm)) ((m : Int), xm) (cv + 1) pl (by rw [at_touch, HPL.out]) (i, k); rw [h_, midS_succ, HXM.out, ← HGL2.out (m : Int) xm, HCV.out]; exact ite_congr rfl (fun _ => rfl) (fun _ => by rw [getL_touch]; exact HGL2.out i k)⟩)
      have HK68 := Aside0.mk (hk8 _ _ (by have := HGL.out; have := HG6.out; omega) HK6.out)
      clear hW7 hW8 hk7 hk8 hm7 hm8 htg
      refine sP (i := 4) (N := some 71) (lm 14 16) ?_
      refine sP (i := 5) (N := some 72) (lm 14 48) ?_
      refine sP (i := 6) (N := some 73) (lm 14 112) ?_
      refine take_ (i := 0) (N := some 67) (v := ?_) (a' := ?_) (lm 14 113) rfl rfl (by kernel_rfl) (fun _ _ _ h => h) (Or.inl ⟨by rfl, ?_⟩) hHeld ?_ ?_
      rotate_left
      ·rintro w' ⟨s0, s1, s2, s3⟩
       go_simp
       with_reducible rfl
      rotate_left
      ·simp only [Act.put, List.setIfInBounds_toArray, List.set_cons_zero, List.set_cons_succ, i64_w, i32_w]
       rfl
      refine sP (i := 1) (N := some 68) (lm 14 115) ?_
      refine sP (i := 2) (N := some 69) (lm 14 119) ?_
      refine take_ (i := 3) (N := some 70) (v := ?_) (a' := ?_) (lm 14 127) rfl rfl (by kernel_rfl) (fun _ _ _ h => h) (Or.inl ⟨by rfl, ?_⟩) hHeld ?_ ?_
      rotate_left
      ·rintro w' ⟨s0, s1, s2, s3⟩
       go_simp
       with_reducible rfl
      rotate_left
      ·simp only [Act.put, List.setIfInBounds_toArray, List.set_cons_zero, List.set_cons_succ, i64_w, i32_w]
       rfl
      refine take_ (i := 7) (N := some 74) (v := ?_) (a' := ?_) (lm 14 255) rfl rfl (by kernel_rfl) (fun _ _ _ h => h) (Or.inl ⟨by rfl, ?_⟩) hHeld ?_ ?_
      rotate_left
      ·rintro w' ⟨s0, s1, s2, s3⟩
       go_simp
       with_reducible rfl
      rotate_left
      ·simp only [Act.put, List.setIfInBounds_toArray, List.set_cons_zero, List.set_cons_succ, i64_w, i32_w]
       rfl
      refine sP (i := 8) (N := some 75) (lm 14 511) ?_
      refine take_ (i := 9) (N := some 76) (v := ?_) (a' := ?_) (lm 14 1023) rfl rfl (by kernel_rfl) (fun _ _ _ h => h) (Or.inl ⟨by rfl, ?_⟩) hHeld ?_ ?_
      rotate_left
      ·rintro w' ⟨s0, s1, s2, s3⟩
       go_simp
       with_reducible rfl
      rotate_left
      ·simp only [Act.put, List.setIfInBounds_toArray, List.set_cons_zero, List.set_cons_succ, i64_w, i32_w]
       rfl
      refine sP (i := 10) (N := some 77) (lm 14 2047) ?_
      refine one_ (i := 11) (N := some 78) (lm 14 4095) rfl rfl (by kernel_rfl) (by decide) (fun K hK => ?_)
      refine value_ (w1 := W7) (v := .tuple #[.int .i64 cv, .int .i64 (pl : Int)]) (by rfl) rfl ?_ ?_
      ·go_simp
      refine hK.out _ _ ⟨(blk_cell HK57.out 0).trans rfl, (blk_cell HKW7.out 4).trans rfl, hcx7, hlk7⟩ (fun hHeld => ?_)
      clear hK K
      refine sN ?_
      refine sP (i := 12) (N := some 79) (lm 14 8191) ?_
      refine last_ (i := 13) (N := none) (lm 14 16383) rfl rfl (by kernel_rfl) (by decide) (fun K hK => ?_)
      refine skip_ (w1 := W8) (by rfl) rfl ?_ ?_
      ·go_simp
      refine hK.out _ _ ?_
      clear hK K
      refine done_ (by kernel_rfl) ?_
      gi_wp2_with fail
      gi_roundg k1
      case measure => omega
      case rel => exact ⟨m + 1, by go_num, ⟨by have := HM.out; omega⟩, HI8, HKP8, HK68⟩
     ·gi_wp2
      obtain rfl : m = l1.length := by have := HM.out; omega
      refine ⟨HKP.out, .slice Av nv cw, ?_⟩
      rw [HFA.out, show (fun i k => manyS l1.length (ts ++ [x]) i k) = midS l1.length ts x l1.length from (midS_end _ _ _).symm]
      exact HI.out
 case done => 
  rintro W ⟨vt, hi⟩ hD
  obtain ⟨At, ct, ev⟩ := Kd.R_slice hi.row
  subst ev
  have hx5 : W.cell? ⟨g5, 0, none⟩ = some (.pointer (some ⟨gw, 0, none⟩)) := (blk_cell hi.k5 0).trans rfl
  have hxv : W.cell? ⟨gw, 3, none⟩ = some (.slice At (truthsL l0 l1 wg).length ct) := (blk_cell hi.kw 3).trans rfl
  have HI2 := Aside0.mk hi
  have HD := Aside0.mk hD
  clear hi hD
  have hT : truthsL l0 l1 wg = (allL l0 l1).filter (isT l0 l1.length wg) := rfl
  rw [← hT] at HI2
  clear hT
  have HR2 := Aside0.mk HI2.out.row
  obtain ⟨nt, hnt⟩ : ∃ nt : Nat, (truthsL l0 l1 wg).length = nt := ⟨_, rfl⟩
  have HNT := Aside0.mk hnt
  rw [hnt] at hxv
  clear hnt
  cases nt with
  | zero =>
   have hb0 : (((0 : Nat) : Int) == 0) = true := rfl
   go_wp2
   refine ⟨by simp, .inl ⟨_, _, rfl, run_takeDeferred HD.out, ?_⟩⟩
   refine ⟨.tuple #[.pointer none, .int .i64 11], ?_, below_put0 HI2.out.hb HB5.out.size _, .inl ⟨List.length_eq_zero_iff.1 HNT.out, rfl⟩⟩
   simp [results, Try.f68, go_sem]
  | succ nt =>
   have hb0 : (((nt + 1 : Nat) : Int) == 0) = false := by simp; omega
   go_wp2
   refine ⟨by simp, .inl ⟨_, _, rfl, run_takeDeferred HD.out, ?_⟩⟩
   have hbp : Below W5.heap.size W (W.putObj W5.heap.size (.deferred none)) := below_put0 (Below.refl _ _) (Nat.le_refl _) _
   refine ⟨.tuple #[.pointer (some ⟨gw, 0, none⟩), .int .i64 0], ?_, below_put0 HI2.out.hb HB5.out.size _, .inr ⟨fun h => by have h2 := HNT.out; rw [h] at h2; exact absurd h2 (by simp), gw, gm, _, HW.out.2.1, HW.out.1, rfl, (hbp.block _ HGL.out.2.2.1).trans HI2.out.kw, Kd.R_lower (Kd.R_mono (Kd.R_move (Kd.R_bound HI2.out.row) (fun k hk => World.putObj_heap_other (by have := hk.2.1; omega))) (fun _ _ => trivial)) (show w.heap.size ≤ W5.heap.size + 4 from by have := HGL.out.2.2.2.2.1; omega), ?_⟩⟩
   ·simp [results, Try.f68, go_sem]
   ·obtain ⟨L, m1, m2⟩ := HI2.out.mp
    exact ⟨L, (hbp.block _ HGL.out.2.2.2.1).trans m1, m2⟩
 case stop => rintro c pre W hpre h; exact h.elim
end Go.Proofs.Ytnbbbeghgomnoaa.X
namespace Go.Proofs.Ytnbbbeghgomnoaa.X
open Go.RowKit Go.Proofs.YtnbbbeghgomnoaaW.PrintWords Go.Proofs.YtnbbbeghgomnoaaW.PrintLast Go.Proofs.YtnbbbeghgomnoaaW.PrintMore
def askE (l0 : List S109) (l1 : List S110) (wg : Int) : Int := if checkT l0 l1 wg ≠ 0 then checkT l0 l1 wg else if truthsL l0 l1 wg = [] then 11 else 0
structure Wk (A0 : Option Addr) (c0 : Nat) (l0 : List S109) (A1 : Option Addr) (c1 : Nat) (l1 : List S110) (wg : Int) (b : Nat) (gw gm : Nat) (At : Option Addr) (ct : Nat) (W : World) : Prop where
 gw0 : b ≤ gw
 gm0 : b ≤ gm
 kw : W.heap[gw]? = some (.cells (wcs A0 l0.length c0 A1 l1.length c1 wg (.slice At (truthsL l0 l1 wg).length ct) gm) 105 (0, 0))
 row : Kd.C k121 W At (truthsL l0 l1 wg).length (truthsL l0 l1 wg)
 mp : ∃ L, MapL W gm L ∧ ∀ i k, getL L (i, k) = manyS l1.length (truthsL l0 l1 wg) i k
theorem Wk.below {A0 : Option Addr} {c0 : Nat} {l0 : List S109} {A1 : Option Addr} {c1 : Nat} {l1 : List S110} {wg : Int} {b gw gm : Nat} {At : Option Addr} {ct : Nat} {W W' : World} (h : Wk A0 c0 l0 A1 c1 l1 wg b gw gm At ct W) (hb : Below W.heap.size W W') : Wk A0 c0 l0 A1 c1 l1 wg b gw gm At ct W' :=
 ⟨h.gw0, h.gm0, blk_below h.kw hb, Kd.C_below h.row hb, by obtain ⟨L, h1, h2⟩ := h.mp; exact ⟨L, blk_below (o := .map _ _) h1 hb, h2⟩⟩
theorem askE_zero {l0 : List S109} {l1 : List S110} {wg : Int} (h : askE l0 l1 wg = 0) : checkT l0 l1 wg = 0 ∧ truthsL l0 l1 wg ≠ [] := by
 unfold askE at h
 by_cases hc : checkT l0 l1 wg = 0
 ·refine ⟨hc, fun ht => ?_⟩
  rw [if_neg (fun hn => hn hc), if_pos ht] at h
  exact absurd h (by decide)
 ·rw [if_pos hc] at h
  exact absurd h hc
theorem asked_e {A0 : Option Addr} {c0 : Nat} {l0 : List S109} {A1 : Option Addr} {c1 : Nat} {l1 : List S110} (wg : Int) {w : World} (ht : Tab A0 c0 l0 A1 c1 l1 w) (he : askE l0 l1 wg ≠ 0) :
  Calls Try.prog 68 #[.agg #[.slice A0 l0.length c0, .slice A1 l1.length c1, .int .i64 wg]] w fun e w' => e = .returned (.tuple #[.pointer none, .int .i64 (askE l0 l1 wg)]) ∧ Below w.heap.size w w' := by
 by_cases hc : checkT l0 l1 wg = 0
 ·refine (asked_calls wg ht hc).mono ?_
  rintro e w' ⟨hb, ⟨h1, rfl⟩ | ⟨h1, _⟩⟩
  ·refine ⟨?_, hb⟩
   unfold askE
   rw [if_neg (fun hn => hn hc), if_pos h1]
  ·refine absurd ?_ he
   unfold askE
   rw [if_neg (fun hn => hn hc), if_neg h1]
 ·refine (asked_err wg ht hc).mono ?_
  rintro e w' ⟨rfl, hb⟩
  refine ⟨?_, hb⟩
  unfold askE
  rw [if_pos hc]
theorem asked_ok {A0 : Option Addr} {c0 : Nat} {l0 : List S109} {A1 : Option Addr} {c1 : Nat} {l1 : List S110} (wg : Int) {w : World} (ht : Tab A0 c0 l0 A1 c1 l1 w) (he : askE l0 l1 wg = 0) :
  Calls Try.prog 68 #[.agg #[.slice A0 l0.length c0, .slice A1 l1.length c1, .int .i64 wg]] w fun e w' => ∃ gw gm At ct, e = .returned (.tuple #[.pointer (some ⟨gw, 0, none⟩), .int .i64 0]) ∧ Wk A0 c0 l0 A1 c1 l1 wg w.heap.size gw gm At ct w' ∧ Below w.heap.size w w' := by
 obtain ⟨hc, hn⟩ := askE_zero he
 refine (asked_calls wg ht hc).mono ?_
 rintro e w' ⟨hb, ⟨h1, _⟩ | ⟨_, gw, gm, vt, h1, h2, rfl, h3, h4, h5⟩⟩
 ·exact absurd h1 hn
 ·obtain ⟨At, ct, rfl⟩ := Kd.R_slice h4
  exact ⟨gw, gm, At, ct, rfl, ⟨h1, h2, h3, (Kd.R_reads' h4).2.2, h5⟩, hb⟩
theorem truths_len {l0 : List S109} {l1 : List S110} (wg : Int) (h0 : l0.length ≤ 5) (h1 : l1.length ≤ 7) : (truthsL l0 l1 wg).length ≤ 78125 := Nat.le_trans (List.length_filter_le _ _) (allL_len h0 h1)
theorem truths_mem {l0 : List S109} {l1 : List S110} {wg : Int} {x : List Int} (h : x ∈ truthsL l0 l1 wg) : x ∈ allL l0 l1 := (List.mem_filter.1 h).1
end Go.Proofs.Ytnbbbeghgomnoaa.X
namespace Go.Proofs.Ytnbbbeghgomnoaa.X
open Go.RowKit Go.Proofs.YtnbbbeghgomnoaaW.PrintWords Go.Proofs.YtnbbbeghgomnoaaW.PrintLast Go.Proofs.YtnbbbeghgomnoaaW.PrintMore
def lostN (l1 : List S110) (o : Nat → Int) : Int := ((sel (off l1 o) l1.length).length : Int)
def missN (l1 : List S110) (o : Nat → Int) (k : Int) : Int := (((sel (off l1 o) l1.length).filter fun i => o i.toNat == k).length : Int)
set_option maxHeartbeats 4000000 in
set_option maxRecDepth 100000 in
theorem lost_calls {A0 : Option Addr} {c0 : Nat} {l0 : List S109} {A1 : Option Addr} {c1 : Nat} {l1 : List S110} {wg : Int} {b gw gm : Nat} {At : Option Addr} {ct : Nat} (o : Nat → Int) (ab : Int) {w : World} (hk : Wk A0 c0 l0 A1 c1 l1 wg b gw gm At ct w) (hr1 : Kd.C k110 w A1 l1.length l1) (hn1 : l1.length ≤ 7) :
  Calls Try.prog 80 #[.pointer (some ⟨gw, 0, none⟩), .agg #[.int .i64 (o 0), .int .i64 (o 1), .int .i64 (o 2), .int .i64 (o 3), .int .i64 (o 4), .int .i64 (o 5), .int .i64 (o 6)], .int .i64 ab] w fun e w' => e = .returned (.int .i64 (lostN l1 o)) ∧ Below w.heap.size w w' := by
 have hu35 := Try.underlying35
 have hu121 := Try.underlying121
 have hu105 := Try.underlying105
 have HK := Aside0.mk hk
 have HR1 := Aside0.mk hr1
 have HN1 := Aside0.mk hn1
 clear hk hr1 hn1
 have HB := Aside0.mk (Below.refl w.heap.size w)
 go_enter Try.func80, Try.ntmps80
 go_wp2_with (first | ((with_reducible refine gate_dst (N := 4) rfl ?_); refine sbox (N := 4) #[.int .i64 (o 0), .int .i64 (o 1), .int .i64 (o 2), .int .i64 (o 3), .int .i64 (o 4), .int .i64 (o 5), .int .i64 (o 6)] 121 ?_; intro g4 hg W_ hbox hb; have GEg4 := Aside0.mk (by rw [hg]; exact HB.out.size : w.heap.size ≤ g4); replace HK := Aside0.mk (HK.out.below hb); replace HR1 := Aside0.mk (Kd.C_below HR1.out hb); replace HB := Aside0.mk (below_step HB.out hb); have BKg4 := Aside0.mk hbox; clear hb hbox hg))
 have hcw0 : W_.cell? ⟨gw, 0, none⟩ = some (.slice A0 l0.length c0) := (blk_cell HK.out.kw 0).trans rfl
 have hcw1 : W_.cell? ⟨gw, 1, none⟩ = some (.slice A1 l1.length c1) := (blk_cell HK.out.kw 1).trans rfl
 have hcw2 : W_.cell? ⟨gw, 2, none⟩ = some (.int .i64 wg) := (blk_cell HK.out.kw 2).trans rfl
 have hca0 := sc 0 BKg4
 have hca1 := sc 1 BKg4
 have hca2 := sc 2 BKg4
 have hca3 := sc 3 BKg4
 have hca4 := sc 4 BKg4
 have hca5 := sc 5 BKg4
 have hca6 := sc 6 BKg4
 refine start_ (n := 8) (S := fun w' => w'.cell? ⟨gw, 0, none⟩ = some (.slice A0 l0.length c0) ∧ w'.cell? ⟨gw, 1, none⟩ = some (.slice A1 l1.length c1) ∧ w'.cell? ⟨gw, 2, none⟩ = some (.int .i64 wg) ∧ w'.cell? ⟨g4, 0, none⟩ = some (.int .i64 (o 0)) ∧ w'.cell? ⟨g4, 1, none⟩ = some (.int .i64 (o 1)) ∧ w'.cell? ⟨g4, 2, none⟩ = some (.int .i64 (o 2)) ∧ w'.cell? ⟨g4, 3, none⟩ = some (.int .i64 (o 3)) ∧ w'.cell? ⟨g4, 4, none⟩ = some (.int .i64 (o 4)) ∧ w'.cell? ⟨g4, 5, none⟩ = some (.int .i64 (o 5)) ∧ w'.cell? ⟨g4, 6, none⟩ = some (.int .i64 (o 6))) (ds := []) (lm 8 0) (by kernel_rfl) rfl (by kernel_rfl) ⟨hcw0, hcw1, hcw2, hca0, hca1, hca2, hca3, hca4, hca5, hca6⟩ (fun hHeld => ?_)
 have hb := below_drew1 (Below.refl W_.heap.size W_)
 replace HK := Aside0.mk (HK.out.below hb)
 replace HR1 := Aside0.mk (Kd.C_below HR1.out hb)
 replace BKg4 := Aside0.mk (blk_below BKg4.out hb)
 replace HB := Aside0.mk (below_step HB.out hb)
 replace hcw0 := (hb.cell (World.block_lt_of_cell? _ _ hcw0)).trans hcw0
 replace hcw1 := (hb.cell (World.block_lt_of_cell? _ _ hcw1)).trans hcw1
 replace hcw2 := (hb.cell (World.block_lt_of_cell? _ _ hcw2)).trans hcw2
 replace hca0 := (hb.cell (World.block_lt_of_cell? _ _ hca0)).trans hca0
 replace hca1 := (hb.cell (World.block_lt_of_cell? _ _ hca1)).trans hca1
 replace hca2 := (hb.cell (World.block_lt_of_cell? _ _ hca2)).trans hca2
 replace hca3 := (hb.cell (World.block_lt_of_cell? _ _ hca3)).trans hca3
 replace hca4 := (hb.cell (World.block_lt_of_cell? _ _ hca4)).trans hca4
 replace hca5 := (hb.cell (World.block_lt_of_cell? _ _ hca5)).trans hca5
 replace hca6 := (hb.cell (World.block_lt_of_cell? _ _ hca6)).trans hca6
 generalize W_.drew = W2 at *
 clear hb
 refine sP (i := 0) (N := some 7) (lm 8 1) ?_
 refine sP (i := 1) (N := some 8) (lm 8 3) ?_
 refine sP (i := 2) (N := some 9) (lm 8 7) ?_
 refine take_ (i := 3) (N := some 10) (v := ?_) (a' := ?_) (lm 8 15) rfl rfl (by kernel_rfl) (fun _ _ _ h => h) (Or.inl ⟨by rfl, ?_⟩) hHeld ?_ ?_
 rotate_left
 ·rintro w' ⟨s0, s1, s2, s3, s4, s5, s6, s7, s8, s9⟩
  go_simp
  with_reducible rfl
 rotate_left
 ·simp only [Act.put, List.setIfInBounds_toArray, List.set_cons_zero, List.set_cons_succ, i64_w, i32_w]
  rfl
 refine take_ (i := 4) (N := some 11) (v := ?_) (a' := ?_) (lm 8 31) rfl rfl (by kernel_rfl) (fun _ _ _ h => h) (Or.inl ⟨by rfl, ?_⟩) hHeld ?_ ?_
 rotate_left
 ·rintro w' ⟨s0, s1, s2, s3, s4, s5, s6, s7, s8, s9⟩
  go_simp
  with_reducible rfl
 rotate_left
 ·simp only [Act.put, List.setIfInBounds_toArray, List.set_cons_zero, List.set_cons_succ, i64_w, i32_w]
  rfl
 refine one_ (i := 5) (N := some 12) (lm 8 63) rfl rfl (by kernel_rfl) (by decide) (fun K hK => ?_)
 refine goes_ Try.func82 (by kernel_rfl) rfl #[.agg #[.slice A0 l0.length c0, .slice A1 l1.length c1, .int .i64 wg], .agg #[.int .i64 (o 0), .int .i64 (o 1), .int .i64 (o 2), .int .i64 (o 3), .int .i64 (o 4), .int .i64 (o 5), .int .i64 (o 6)]] (by rfl) rfl rfl (by simp only [List.map_toArray, List.map_cons, List.map_nil]; rfl) ?_
 with_reducible refine (astray_calls A0 c0 l0 A1 c1 l1 wg o W2 HR1.out HN1.out).mono ?_
 rintro e W3 ⟨v12, rfl, ho, hb⟩
 refine ⟨_, rfl, ?_⟩
 replace hcw0 := (hb.cell (World.block_lt_of_cell? _ _ hcw0)).trans hcw0
 replace hcw1 := (hb.cell (World.block_lt_of_cell? _ _ hcw1)).trans hcw1
 replace hcw2 := (hb.cell (World.block_lt_of_cell? _ _ hcw2)).trans hcw2
 replace hca0 := (hb.cell (World.block_lt_of_cell? _ _ hca0)).trans hca0
 replace hca1 := (hb.cell (World.block_lt_of_cell? _ _ hca1)).trans hca1
 replace hca2 := (hb.cell (World.block_lt_of_cell? _ _ hca2)).trans hca2
 replace hca3 := (hb.cell (World.block_lt_of_cell? _ _ hca3)).trans hca3
 replace hca4 := (hb.cell (World.block_lt_of_cell? _ _ hca4)).trans hca4
 replace hca5 := (hb.cell (World.block_lt_of_cell? _ _ hca5)).trans hca5
 replace hca6 := (hb.cell (World.block_lt_of_cell? _ _ hca6)).trans hca6
 replace HK := Aside0.mk (HK.out.below hb)
 replace HR1 := Aside0.mk (Kd.C_below HR1.out hb)
 replace BKg4 := Aside0.mk (blk_below BKg4.out hb)
 replace HB := Aside0.mk (below_step HB.out hb)
 have HO := Aside0.mk ho
 clear ho
 obtain ⟨Ao, co, eo_⟩ := Kd.R_slice HO.out
 subst eo_
 clear hb
 refine hK.out _ _ ⟨hcw0, hcw1, hcw2, hca0, hca1, hca2, hca3, hca4, hca5, hca6⟩ (fun hHeld => ?_)
 clear hK K
 refine sN ?_
 refine sP (i := 6) (N := some 13) (lm 8 127) ?_
 refine sP (i := 7) (N := some 6) (lm 8 255) ?_
 refine done_ (by kernel_rfl) ?_
 go_wp2
 go_ret
 exact ⟨rfl, HB.out⟩
set_option maxHeartbeats 4000000 in
set_option maxRecDepth 100000 in
theorem missed_calls {A0 : Option Addr} {c0 : Nat} {l0 : List S109} {A1 : Option Addr} {c1 : Nat} {l1 : List S110} {wg : Int} {b gw gm : Nat} {At : Option Addr} {ct : Nat} (o : Nat → Int) (ab : Int) {w : World} (hk : Wk A0 c0 l0 A1 c1 l1 wg b gw gm At ct w) (hr1 : Kd.C k110 w A1 l1.length l1) (hn1 : l1.length ≤ 7) :
  Calls Try.prog 70 #[.pointer (some ⟨gw, 0, none⟩), .agg #[.int .i64 (o 0), .int .i64 (o 1), .int .i64 (o 2), .int .i64 (o 3), .int .i64 (o 4), .int .i64 (o 5), .int .i64 (o 6)], .int .i64 ab] w fun e w' => e = .returned (.int .i64 (missN l1 o ab)) ∧ Below w.heap.size w w' := by
 have hu35 := Try.underlying35
 have hu121 := Try.underlying121
 have hu105 := Try.underlying105
 have HK := Aside0.mk hk
 have HR1 := Aside0.mk hr1
 have HN1 := Aside0.mk hn1
 clear hk hr1 hn1
 have HB := Aside0.mk (Below.refl w.heap.size w)
 go_enter Try.func70, Try.ntmps70
 go_wp2_with (first | ((with_reducible refine gate_dst (N := 4) rfl ?_); refine sbox (N := 4) #[.int .i64 (o 0), .int .i64 (o 1), .int .i64 (o 2), .int .i64 (o 3), .int .i64 (o 4), .int .i64 (o 5), .int .i64 (o 6)] 121 ?_; intro g4 hg W_ hbox hb; have GEg4 := Aside0.mk (by rw [hg]; exact HB.out.size : w.heap.size ≤ g4); replace HK := Aside0.mk (HK.out.below hb); replace HR1 := Aside0.mk (Kd.C_below HR1.out hb); replace HB := Aside0.mk (below_step HB.out hb); have BKg4 := Aside0.mk hbox; clear hb hbox hg))
 have hcw0 : W_.cell? ⟨gw, 0, none⟩ = some (.slice A0 l0.length c0) := (blk_cell HK.out.kw 0).trans rfl
 have hcw1 : W_.cell? ⟨gw, 1, none⟩ = some (.slice A1 l1.length c1) := (blk_cell HK.out.kw 1).trans rfl
 have hcw2 : W_.cell? ⟨gw, 2, none⟩ = some (.int .i64 wg) := (blk_cell HK.out.kw 2).trans rfl
 have hca0 := sc 0 BKg4
 have hca1 := sc 1 BKg4
 have hca2 := sc 2 BKg4
 have hca3 := sc 3 BKg4
 have hca4 := sc 4 BKg4
 have hca5 := sc 5 BKg4
 have hca6 := sc 6 BKg4
 refine start_ (n := 8) (S := fun w' => w'.cell? ⟨gw, 0, none⟩ = some (.slice A0 l0.length c0) ∧ w'.cell? ⟨gw, 1, none⟩ = some (.slice A1 l1.length c1) ∧ w'.cell? ⟨gw, 2, none⟩ = some (.int .i64 wg) ∧ w'.cell? ⟨g4, 0, none⟩ = some (.int .i64 (o 0)) ∧ w'.cell? ⟨g4, 1, none⟩ = some (.int .i64 (o 1)) ∧ w'.cell? ⟨g4, 2, none⟩ = some (.int .i64 (o 2)) ∧ w'.cell? ⟨g4, 3, none⟩ = some (.int .i64 (o 3)) ∧ w'.cell? ⟨g4, 4, none⟩ = some (.int .i64 (o 4)) ∧ w'.cell? ⟨g4, 5, none⟩ = some (.int .i64 (o 5)) ∧ w'.cell? ⟨g4, 6, none⟩ = some (.int .i64 (o 6))) (ds := []) (lm 8 0) (by kernel_rfl) rfl (by kernel_rfl) ⟨hcw0, hcw1, hcw2, hca0, hca1, hca2, hca3, hca4, hca5, hca6⟩ (fun hHeld => ?_)
 have hb := below_drew1 (Below.refl W_.heap.size W_)
 replace HK := Aside0.mk (HK.out.below hb)
 replace HR1 := Aside0.mk (Kd.C_below HR1.out hb)
 replace BKg4 := Aside0.mk (blk_below BKg4.out hb)
 replace HB := Aside0.mk (below_step HB.out hb)
 replace hcw0 := (hb.cell (World.block_lt_of_cell? _ _ hcw0)).trans hcw0
 replace hcw1 := (hb.cell (World.block_lt_of_cell? _ _ hcw1)).trans hcw1
 replace hcw2 := (hb.cell (World.block_lt_of_cell? _ _ hcw2)).trans hcw2
 replace hca0 := (hb.cell (World.block_lt_of_cell? _ _ hca0)).trans hca0
 replace hca1 := (hb.cell (World.block_lt_of_cell? _ _ hca1)).trans hca1
 replace hca2 := (hb.cell (World.block_lt_of_cell? _ _ hca2)).trans hca2
 replace hca3 := (hb.cell (World.block_lt_of_cell? _ _ hca3)).trans hca3
 replace hca4 := (hb.cell (World.block_lt_of_cell? _ _ hca4)).trans hca4
 replace hca5 := (hb.cell (World.block_lt_of_cell? _ _ hca5)).trans hca5
 replace hca6 := (hb.cell (World.block_lt_of_cell? _ _ hca6)).trans hca6
 generalize W_.drew = W2 at *
 clear hb
 refine sP (i := 0) (N := some 9) (lm 8 1) ?_
 refine sP (i := 1) (N := some 10) (lm 8 3) ?_
 refine sP (i := 2) (N := some 11) (lm 8 7) ?_
 refine sP (i := 7) (N := some 16) (lm 8 135) ?_
 refine take_ (i := 3) (N := some 12) (v := ?_) (a' := ?_) (lm 8 143) rfl rfl (by kernel_rfl) (fun _ _ _ h => h) (Or.inl ⟨by rfl, ?_⟩) hHeld ?_ ?_
 rotate_left
 ·rintro w' ⟨s0, s1, s2, s3, s4, s5, s6, s7, s8, s9⟩
  go_simp
  with_reducible rfl
 rotate_left
 ·simp only [Act.put, List.setIfInBounds_toArray, List.set_cons_zero, List.set_cons_succ, i64_w, i32_w]
  rfl
 refine take_ (i := 4) (N := some 13) (v := ?_) (a' := ?_) (lm 8 159) rfl rfl (by kernel_rfl) (fun _ _ _ h => h) (Or.inl ⟨by rfl, ?_⟩) hHeld ?_ ?_
 rotate_left
 ·rintro w' ⟨s0, s1, s2, s3, s4, s5, s6, s7, s8, s9⟩
  go_simp
  with_reducible rfl
 rotate_left
 ·simp only [Act.put, List.setIfInBounds_toArray, List.set_cons_zero, List.set_cons_succ, i64_w, i32_w]
  rfl
 refine one_ (i := 5) (N := some 14) (lm 8 191) rfl rfl (by kernel_rfl) (by decide) (fun K hK => ?_)
 refine goes_ Try.func82 (by kernel_rfl) rfl #[.agg #[.slice A0 l0.length c0, .slice A1 l1.length c1, .int .i64 wg], .agg #[.int .i64 (o 0), .int .i64 (o 1), .int .i64 (o 2), .int .i64 (o 3), .int .i64 (o 4), .int .i64 (o 5), .int .i64 (o 6)]] (by rfl) rfl rfl (by simp only [List.map_toArray, List.map_cons, List.map_nil]; rfl) ?_
 with_reducible refine (astray_calls A0 c0 l0 A1 c1 l1 wg o W2 HR1.out HN1.out).mono ?_
 rintro e W3 ⟨v14, rfl, ho, hb⟩
 refine ⟨_, rfl, ?_⟩
 replace hcw0 := (hb.cell (World.block_lt_of_cell? _ _ hcw0)).trans hcw0
 replace hcw1 := (hb.cell (World.block_lt_of_cell? _ _ hcw1)).trans hcw1
 replace hcw2 := (hb.cell (World.block_lt_of_cell? _ _ hcw2)).trans hcw2
 replace hca0 := (hb.cell (World.block_lt_of_cell? _ _ hca0)).trans hca0
 replace hca1 := (hb.cell (World.block_lt_of_cell? _ _ hca1)).trans hca1
 replace hca2 := (hb.cell (World.block_lt_of_cell? _ _ hca2)).trans hca2
 replace hca3 := (hb.cell (World.block_lt_of_cell? _ _ hca3)).trans hca3
 replace hca4 := (hb.cell (World.block_lt_of_cell? _ _ hca4)).trans hca4
 replace hca5 := (hb.cell (World.block_lt_of_cell? _ _ hca5)).trans hca5
 replace hca6 := (hb.cell (World.block_lt_of_cell? _ _ hca6)).trans hca6
 replace HK := Aside0.mk (HK.out.below hb)
 replace HR1 := Aside0.mk (Kd.C_below HR1.out hb)
 replace BKg4 := Aside0.mk (blk_below BKg4.out hb)
 replace HB := Aside0.mk (below_step HB.out hb)
 have HO := Aside0.mk ho
 clear ho
 obtain ⟨Ao, co, eo_⟩ := Kd.R_slice HO.out
 subst eo_
 clear hb
 refine hK.out _ _ ⟨hcw0, hcw1, hcw2, hca0, hca1, hca2, hca3, hca4, hca5, hca6⟩ (fun hHeld => ?_)
 clear hK K
 refine sN ?_
 refine sP (i := 6) (N := some 15) (lm 8 255) ?_
 refine done_ (by kernel_rfl) ?_
 clear hcw0 hcw1 hcw2
 clear hca0 hca1 hca2 hca3 hca4 hca5 hca6
 obtain ⟨nn, hnn⟩ : ∃ nn : Nat, (sel (off l1 o) l1.length).length = nn := ⟨_, rfl⟩
 have HNN := Aside0.mk hnn
 have hnl : nn ≤ 7 := by rw [← hnn]; exact Nat.le_trans (sel_le _ _) HN1.out
 rw [hnn]
 clear hnn
 go_wp2
 go_loopg [6, 16] nn (fun kq v6 v16 w' => ∃ m : Nat, v16 = .int .i64 (m : Int) ∧ v6 = .int .i64 ((((sel (off l1 o) l1.length).take m).filter fun i => o i.toNat == ab).length : Int) ∧ Aside0 (m + kq = nn) ∧ w' = W3)
 case atStart => exact ⟨0, rfl, rfl, ⟨Nat.zero_add _⟩, rfl⟩
 case round =>
  obtain ⟨m, rfl, rfl, HM, hw_⟩ := hrel
  subst hw_
  by_cases hlt : m < nn
  ·cases gk with
   | zero => have := HM.out; omega
   | succ k1 =>
   obtain ⟨ad, e14, hx14⟩ := Kd.at_int (Kd.R_reads' HO.out).2.2 (m : Int) (by omega) (by have := HNN.out; omega)
   subst e14
   have hlm : m < (sel (off l1 o) l1.length).length := by have := HNN.out; omega
   obtain ⟨i, hi, hil⟩ : ∃ i : Nat, (sel (off l1 o) l1.length)[m] = (i : Int) ∧ i < 7 := by
    obtain ⟨k, hk, _, hx⟩ := (sel_mem (off l1 o) l1.length _).1 (List.getElem_mem hlm)
    exact ⟨k, hx, by have := HN1.out; omega⟩
   have hrd : rd (sel (off l1 o) l1.length) (m : Int) = (i : Int) := by
    unfold rd
    rw [Int.toNat_natCast, List.getD_eq_getElem?_getD, List.getElem?_eq_getElem hlm]
    exact hi
   rw [hrd] at hx14
   simp only [Int.toNat_natCast] at hx14
   have htk : (sel (off l1 o) l1.length).take (m + 1) = (sel (off l1 o) l1.length).take m ++ [(i : Int)] := by
    rw [List.take_succ_eq_append_getElem hlm, hi]
   have hia : wr.cell? ⟨g4, i, none⟩ = some (.int .i64 (o i)) := (blk_cell BKg4.out i).trans (ac_get o i hil)
   have hil2 : (i : Int) < 7 := by omega
   have HTK := Aside0.mk htk
   clear htk hi hlm hrd
   obtain ⟨q, hq⟩ : ∃ q : Nat, (((sel (off l1 o) l1.length).take m).filter fun i => o i.toNat == ab).length = q := ⟨_, rfl⟩
   have hql : q ≤ m := by rw [← hq]; exact Nat.le_trans (List.length_filter_le _ _) (by simp; omega)
   have HQ := Aside0.mk hq
   rw [hq]
   clear hq
   obtain ⟨z, hz⟩ : ∃ z, o i = z := ⟨_, rfl⟩
   rw [hz] at hia
   have HZ := Aside0.mk hz
   clear hz
   by_cases hza : z = ab
   ·have hzb : (z == ab) = true := by simpa using hza
    go_wp2
    go_roundg k1
    case measure => omega
    case rel => exact ⟨m + 1, by go_num, by rw [HTK.out, List.filter_append, List.length_append, HQ.out]; simp [HZ.out, hza], ⟨by have := HM.out; omega⟩, rfl⟩
   ·have hzb : (z == ab) = false := by simpa using hza
    go_wp2
    go_roundg k1
    case measure => omega
    case rel => exact ⟨m + 1, by go_num, by rw [HTK.out, List.filter_append, List.length_append, HQ.out]; simp [HZ.out, hza], ⟨by have := HM.out; omega⟩, rfl⟩
  ·go_wp2
   go_ret
   obtain rfl : m = nn := by have := HM.out; omega
   refine ⟨?_, HB.out⟩
   rw [List.take_of_length_le (by rw [HNN.out]; exact Nat.le_refl _)]
   rfl
end Go.Proofs.Ytnbbbeghgomnoaa.X
namespace Go.Proofs.Ytnbbbeghgomnoaa.X
open Go.RowKit Go.Proofs.YtnbbbeghgomnoaaW.PrintWords Go.Proofs.YtnbbbeghgomnoaaW.PrintLast Go.Proofs.YtnbbbeghgomnoaaW.PrintMore
attribute [local go_sem] max2_int min2_int max_two min_two
set_option maxHeartbeats 4000000 in
set_option maxRecDepth 100000 in
theorem wider_calls (lo hi n : Int) (w : World) :
  Calls Try.prog 97 #[.agg #[.int .i64 lo, .int .i64 hi], .int .i64 n] w fun e w' => e = .returned (.agg #[.int .i64 (mn lo n), .int .i64 (mx hi n)]) ∧ Below w.heap.size w w' := by
 have hu55 := Try.underlying55
 obtain ⟨r, hr⟩ : ∃ r, (if hi < n then n else hi) = r := ⟨_, rfl⟩
 have HR := Aside0.mk hr
 have HB := Aside0.mk (Below.refl w.heap.size w)
 go_enter Try.func97, Try.ntmps97
 go_wp2_with (first | ((with_reducible refine gate_dst (N := 2) rfl ?_); refine sbox (N := 2) #[.int .i64 lo, .int .i64 hi] 55 ?_; intro g2 hg W_ hbox hb; have GEg2 := Aside0.mk (by rw [hg]; exact HB.out.size : w.heap.size ≤ g2); replace HB := Aside0.mk (below_step HB.out hb); have BKg2 := Aside0.mk hbox; clear hb hbox hg) | ((with_reducible refine gate_dst (N := 4) rfl ?_); refine sbox (N := 4) #[.int .i64 0, .int .i64 0] 55 ?_; intro g4 hg W_ hbox hb; have GEg4 := Aside0.mk (by rw [hg]; exact HB.out.size : w.heap.size ≤ g4); replace BKg2 := Aside0.mk (blk_below BKg2.out hb); replace HB := Aside0.mk (below_step HB.out hb); have BKg4 := Aside0.mk hbox; clear hb hbox hg))
 have hcr0 := sc 0 BKg2
 have hcr1 := sc 1 BKg2
 refine start_ (n := 11) (S := fun w' => w'.cell? ⟨g2, 0, none⟩ = some (.int .i64 lo) ∧ w'.cell? ⟨g2, 1, none⟩ = some (.int .i64 hi)) (ds := [10]) (lm 11 0) (by kernel_rfl) rfl (by kernel_rfl) ⟨hcr0, hcr1⟩ (fun hHeld => ?_)
 have hb := below_drew1 (Below.refl W_.heap.size W_)
 replace BKg2 := Aside0.mk (blk_below BKg2.out hb)
 replace BKg4 := Aside0.mk (blk_below BKg4.out hb)
 replace HB := Aside0.mk (below_step HB.out hb)
 replace hcr0 := (hb.cell (World.block_lt_of_cell? _ _ hcr0)).trans hcr0
 replace hcr1 := (hb.cell (World.block_lt_of_cell? _ _ hcr1)).trans hcr1
 generalize W_.drew = W2 at *
 clear hb
 refine sP (i := 0) (N := some 5) (lm 11 1) ?_
 refine sP (i := 2) (N := some 7) (lm 11 5) ?_
 refine sP (i := 5) (N := some 10) (lm 11 37) ?_
 refine sP (i := 7) (N := some 12) (lm 11 165) ?_
 refine take_ (i := 1) (N := some 6) (v := ?_) (a' := ?_) (lm 11 167) rfl rfl (by kernel_rfl) (fun _ _ _ h => h) (Or.inl ⟨by rfl, ?_⟩) hHeld ?_ ?_
 rotate_left
 ·rintro w' ⟨s0, s1⟩
  go_simp
  with_reducible rfl
 rotate_left
 ·simp only [Act.put, List.setIfInBounds_toArray, List.set_cons_zero, List.set_cons_succ, i64_w, i32_w]
  rfl
 refine take_ (i := 6) (N := some 11) (v := ?_) (a' := ?_) (lm 11 231) rfl rfl (by kernel_rfl) (fun _ _ _ h => h) (Or.inl ⟨by rfl, ?_⟩) hHeld ?_ ?_
 rotate_left
 ·rintro w' ⟨s0, s1⟩
  go_simp
  with_reducible rfl
 rotate_left
 ·simp only [Act.put, List.setIfInBounds_toArray, List.set_cons_zero, List.set_cons_succ, i64_w, i32_w]
  rfl
 refine sP (i := 8) (N := some 13) (lm 11 487) ?_
 refine one_ (i := 3) (N := some 8) (lm 11 495) rfl rfl (by kernel_rfl) (by decide) (fun K hK => ?_)
 refine value_ (w1 := ?_) (v := ?_) (by rfl) rfl ?_ ?_
 rotate_left 2
 ·go_simp
  constructor
  ·rfl
  ·rfl
 refine hK.out _ _ ⟨(blk_cell (blk_alloc BKg2.out _) 0).trans rfl, (blk_cell (blk_alloc BKg2.out _) 1).trans rfl⟩ (fun hHeld => ?_)
 clear hK K
 refine sN ?_
 refine one_ (i := 4) (N := some 9) (lm 11 511) rfl rfl (by kernel_rfl) (by decide) (fun K hK => ?_)
 refine goes_ Try.func92 (by kernel_rfl) rfl #[.slice (some ⟨W2.heap.size, 0, none⟩) 2 2] (by rfl) rfl rfl (by simp only [List.map_toArray, List.map_cons, List.map_nil]; rfl) ?_
 with_reducible refine (minimum_calls W2.heap.size 2 lo n _ ((blk_cell (blk_new W2 _) 0).trans rfl) ((blk_cell (blk_new W2 _) 1).trans rfl)).mono ?_
 rintro e W3 ⟨rfl, rfl⟩
 refine ⟨_, rfl, ?_⟩
 refine hK.out _ _ ⟨(blk_cell (blk_alloc BKg2.out _) 0).trans rfl, (blk_cell (blk_alloc BKg2.out _) 1).trans rfl⟩ (fun hHeld => ?_)
 clear hK K
 refine sN ?_
 refine sP (i := 9) (N := some 14) (lm 11 1023) ?_
 refine last_ (i := 10) (N := none) (lm 11 2047) rfl rfl (by kernel_rfl) (by decide) (fun K hK => ?_)
 have hf0 : (W2.alloc (.cells #[.int .i64 lo, .int .i64 n] 3)).frozen? ⟨g4, 0, none⟩ = false := blk_frozen (blk_alloc BKg4.out _) 0
 have hf1 : (W2.alloc (.cells #[.int .i64 lo, .int .i64 n] 3)).frozen? ⟨g4, 1, none⟩ = false := blk_frozen (blk_alloc BKg4.out _) 1
 have hx0 : (W2.alloc (.cells #[.int .i64 lo, .int .i64 n] 3)).cell? ⟨g4, 0, none⟩ = some (.int .i64 0) := (blk_cell (blk_alloc BKg4.out _) 0).trans rfl
 have hx1 : (W2.alloc (.cells #[.int .i64 lo, .int .i64 n] 3)).cell? ⟨g4, 1, none⟩ = some (.int .i64 0) := (blk_cell (blk_alloc BKg4.out _) 1).trans rfl
 refine skip_ (w1 := ?_) (by rfl) rfl ?_ ?_
 rotate_left
 ·go_simp
  rfl
 refine hK.out _ _ ?_
 clear hK K
 refine done_ (by kernel_rfl) ?_
 go_wp2
 have hbk := blk_put (blk_put (blk_alloc BKg4.out (.cells #[.int .i64 lo, .int .i64 n] 3)) 0 (.int .i64 (mn lo n)) rfl) 1 (.int .i64 r) rfl
 refine bodyPost_ret (results_cell_row rfl _ _ g4 55 #[.int .i64 (mn lo n), .int .i64 r] (0, 0) _ rfl hbk Try.underlying55 rfl (by kernel_rfl)) rfl ?_
 exact ⟨by rw [show mx hi n = r from HR.out], ((below_alloc HB.out _).setCell (p := ⟨g4, 0, none⟩) GEg4.out _).setCell (p := ⟨g4, 1, none⟩) GEg4.out _⟩
end Go.Proofs.Ytnbbbeghgomnoaa.X
namespace Go.Proofs.Ytnbbbeghgomnoaa.X
open Go.RowKit Go.Proofs.YtnbbbeghgomnoaaW.PrintWords Go.Proofs.YtnbbbeghgomnoaaW.PrintLast Go.Proofs.YtnbbbeghgomnoaaW.PrintMore
section
variable {P : Program} {ops : Array Oper} {Q : Exit → Act → World → Prop}
theorem goesV_ {oi : Oper} {N : Option Tmp} {a : Act} {w : World} {K : Act → World → Prop} {f : FuncId} {fn : Func} {c : Operand} {ao : Array Operand} {ts : Array TypeId} (hf : P.funcs[f]? = some fn) (hname : (fn.name == "runtime.NumGoroutine") = false) (hb : fn.body.isSome = true) (args : Array Value)
  (hw : Region.wanted oi (yielded ops a.tmps) = true) (hN : oi.dst = N) (hop : oi.op = .call { callee := .value c, args := ao, argTypes := ts }) (hc : a.eval c = .func (.func f) #[] #[]) (hargs : ao.map a.eval = args)
  (h : Calls P f args w fun e w' => ∃ v, e = .returned v ∧ K (a.put N v) w') : if Region.wanted oi (yielded ops a.tmps) = true then Oper.wp P oi a w K Q else K (a.put N undef) w := by
 refine call_ f args hw hN ?_ h
 have he := enters_ hf hname hb args w
 unfold execOp
 simp [hop, resolve, hc, Deferred.ofValue, invoke, hargs, he]
end
def boundsL (g : List Int → Int) (ts : List (List Int)) : Int × Int := ts.foldl (fun r x => (mn r.1 (g x), mx r.2 (g x))) (g (ts.getD 0 []), g (ts.getD 0 []))
set_option maxHeartbeats 4000000 in
set_option maxRecDepth 100000 in
theorem bounds_lost {A0 : Option Addr} {c0 : Nat} {l0 : List S109} {A1 : Option Addr} {c1 : Nat} {l1 : List S110} {wg : Int} {b gw gm : Nat} {At : Option Addr} {ct : Nat} (ab : Int) {w : World} (hk : Wk A0 c0 l0 A1 c1 l1 wg b gw gm At ct w) (hr1 : Kd.C k110 w A1 l1.length l1) (hn1 : l1.length ≤ 7) (hnt : truthsL l0 l1 wg ≠ []) (hntl : (truthsL l0 l1 wg).length ≤ 78125) :
  Calls Try.prog 71 #[.agg #[.func (.func 80) #[] #[]], .pointer (some ⟨gw, 0, none⟩), .int .i64 ab] w fun e w' => e = .returned (.agg #[.int .i64 (boundsL (fun x => lostN l1 (pad x)) (truthsL l0 l1 wg)).1, .int .i64 (boundsL (fun x => lostN l1 (pad x)) (truthsL l0 l1 wg)).2]) ∧ Below w.heap.size w w' := by
 have hu35 := Try.underlying35
 have hu55 := Try.underlying55
 have hu121 := Try.underlying121
 have hu105 := Try.underlying105
 have hu115 := Try.underlying115
 have HR1 := Aside0.mk hr1
 have HN1 := Aside0.mk hn1
 have HNT := Aside0.mk hntl
 obtain ⟨ts, hts⟩ : ∃ ts, truthsL l0 l1 wg = ts := ⟨_, rfl⟩
 have HTS := Aside0.mk hts
 have HK := Aside0.mk hk
 obtain ⟨y0, hy0⟩ : ∃ y, ts.getD 0 [] = y := ⟨_, rfl⟩
 obtain ⟨nt, hnt2⟩ : ∃ n, (truthsL l0 l1 wg).length = n := ⟨_, rfl⟩
 have hpos : 0 < nt := by rw [← hnt2]; exact List.length_pos_iff.2 hnt
 have hnl : nt ≤ 78125 := by rw [← hnt2]; exact hntl
 obtain ⟨adt, rfl, hct0, hct1, hct2, hct3, hct4, hct5, hct6⟩ := at_T121 hk.row 0 (by omega)
 rw [show (truthsL l0 l1 wg).getD 0 [] = y0 from by rw [hts]; exact hy0] at hct0 hct1 hct2 hct3 hct4 hct5 hct6
 have hadd : adt.add (0 * 7) = adt := by simp [Addr.add]
 rw [hadd] at hct0 hct1 hct2 hct3 hct4 hct5 hct6
 have hcv : w.cell? ⟨gw, 3, none⟩ = some (.slice (some adt) nt ct) := (blk_cell hk.kw 3).trans (by rw [← hnt2]; rfl)
 have HY0 := Aside0.mk hy0
 have HNT2 := Aside0.mk hnt2
 have HCT := Aside0.mk (And.intro hct0 (And.intro hct1 (And.intro hct2 (And.intro hct3 (And.intro hct4 (And.intro hct5 hct6))))))
 have HCV := Aside0.mk hcv
 clear hk hr1 hn1 hts hy0 hnt2 hadd hct0 hct1 hct2 hct3 hct4 hct5 hct6 hcv hntl hnt
 have HB := Aside0.mk (Below.refl w.heap.size w)
 go_enter Try.func71, Try.ntmps71
 go_wp2_with (first | ((with_reducible refine gate_dst (N := 3) rfl ?_); refine box_event ?hg (N := 3) ?hd (cs := #[.func (.func 80) #[] #[]]) (t := 115) ?hr ?_; (case hd => rfl); (case hg => rfl); (case hr => first | (go_simp; done) | (go_simp; rfl)); intro g3 hg W_ hbox hb; have GEg3 := Aside0.mk (by rw [hg]; exact HB.out.size : w.heap.size ≤ g3); replace HK := Aside0.mk (HK.out.below hb); replace HR1 := Aside0.mk (Kd.C_below HR1.out hb); replace HB := Aside0.mk (below_step HB.out hb); have BKg3 := Aside0.mk hbox; clear hb hbox hg) | ((with_reducible refine gate_dst (N := 6) rfl ?_); refine sbox (N := 6) #[.int .i64 0, .int .i64 0] 55 ?_; intro g6 hg W_ hbox hb; have GEg6 := Aside0.mk (by rw [hg]; exact HB.out.size : w.heap.size ≤ g6); replace HK := Aside0.mk (HK.out.below hb); replace HR1 := Aside0.mk (Kd.C_below HR1.out hb); replace BKg3 := Aside0.mk (blk_below BKg3.out hb); replace HB := Aside0.mk (below_step HB.out hb); have BKg6 := Aside0.mk hbox; clear hb hbox hg))
 obtain ⟨hct0, hct1, hct2, hct3, hct4, hct5, hct6⟩ := HCT.out
 replace hct0 := (HB.out.cell (World.block_lt_of_cell? _ _ hct0)).trans hct0
 replace hct1 := (HB.out.cell (World.block_lt_of_cell? _ _ hct1)).trans hct1
 replace hct2 := (HB.out.cell (World.block_lt_of_cell? _ _ hct2)).trans hct2
 replace hct3 := (HB.out.cell (World.block_lt_of_cell? _ _ hct3)).trans hct3
 replace hct4 := (HB.out.cell (World.block_lt_of_cell? _ _ hct4)).trans hct4
 replace hct5 := (HB.out.cell (World.block_lt_of_cell? _ _ hct5)).trans hct5
 replace hct6 := (HB.out.cell (World.block_lt_of_cell? _ _ hct6)).trans hct6
 have hcv := (HB.out.cell (World.block_lt_of_cell? _ _ HCV.out)).trans HCV.out
 have hcf := sc 0 BKg3
 refine start_ (n := 12) (S := fun w' => w'.cell? ⟨g3, 0, none⟩ = some (.func (.func 80) #[] #[]) ∧ w'.cell? ⟨gw, 3, none⟩ = some (.slice (some adt) nt ct) ∧ w'.cell? adt = some (.int .i64 (pad y0 0)) ∧ w'.cell? ⟨adt.block, adt.off + 1, none⟩ = some (.int .i64 (pad y0 1)) ∧ w'.cell? ⟨adt.block, adt.off + 2, none⟩ = some (.int .i64 (pad y0 2)) ∧ w'.cell? ⟨adt.block, adt.off + 3, none⟩ = some (.int .i64 (pad y0 3)) ∧ w'.cell? ⟨adt.block, adt.off + 4, none⟩ = some (.int .i64 (pad y0 4)) ∧ w'.cell? ⟨adt.block, adt.off + 5, none⟩ = some (.int .i64 (pad y0 5)) ∧ w'.cell? ⟨adt.block, adt.off + 6, none⟩ = some (.int .i64 (pad y0 6))) (ds := []) (lm 12 0) (by kernel_rfl) rfl (by kernel_rfl) ⟨hcf, hcv, hct0, hct1, hct2, hct3, hct4, hct5, hct6⟩ (fun hHeld => ?_)
 have hb := below_drew1 (Below.refl W_.heap.size W_)
 replace HK := Aside0.mk (HK.out.below hb)
 replace HR1 := Aside0.mk (Kd.C_below HR1.out hb)
 replace BKg3 := Aside0.mk (blk_below BKg3.out hb)
 replace BKg6 := Aside0.mk (blk_below BKg6.out hb)
 replace HB := Aside0.mk (below_step HB.out hb)
 replace hcf := (hb.cell (World.block_lt_of_cell? _ _ hcf)).trans hcf
 replace hcv := (hb.cell (World.block_lt_of_cell? _ _ hcv)).trans hcv
 replace hct0 := (hb.cell (World.block_lt_of_cell? _ _ hct0)).trans hct0
 replace hct1 := (hb.cell (World.block_lt_of_cell? _ _ hct1)).trans hct1
 replace hct2 := (hb.cell (World.block_lt_of_cell? _ _ hct2)).trans hct2
 replace hct3 := (hb.cell (World.block_lt_of_cell? _ _ hct3)).trans hct3
 replace hct4 := (hb.cell (World.block_lt_of_cell? _ _ hct4)).trans hct4
 replace hct5 := (hb.cell (World.block_lt_of_cell? _ _ hct5)).trans hct5
 replace hct6 := (hb.cell (World.block_lt_of_cell? _ _ hct6)).trans hct6
 generalize W_.drew = W2 at *
 clear hb
 refine sP (i := 0) (N := some 11) (lm 12 1) ?_
 refine sP (i := 2) (N := some 13) (lm 12 5) ?_
 refine sP (i := 3) (N := some 14) (lm 12 13) ?_
 refine sP (i := 4) (N := some 15) (lm 12 29) ?_
 refine sP (i := 5) (N := some 16) (lm 12 61) ?_
 refine sP (i := 9) (N := some 20) (lm 12 573) ?_
 refine take_ (i := 1) (N := some 12) (v := ?_) (a' := ?_) (lm 12 575) rfl rfl (by kernel_rfl) (fun _ _ _ h => h) (Or.inl ⟨by rfl, ?_⟩) hHeld ?_ ?_
 rotate_left
 ·rintro w' ⟨s0, s1, s2, s3, s4, s5, s6, s7, s8⟩
  go_simp
  with_reducible rfl
 rotate_left
 ·simp only [Act.put, List.setIfInBounds_toArray, List.set_cons_zero, List.set_cons_succ, i64_w, i32_w]
  rfl
 refine take_ (i := 6) (N := some 17) (v := ?_) (a' := ?_) (lm 12 639) rfl rfl (by kernel_rfl) (fun _ _ _ h => h) (Or.inl ⟨by rfl, ?_⟩) hHeld ?_ ?_
 rotate_left
 ·rintro w' ⟨s0, s1, s2, s3, s4, s5, s6, s7, s8⟩
  go_simp
  with_reducible rfl
 rotate_left
 ·simp only [Act.put, List.setIfInBounds_toArray, List.set_cons_zero, List.set_cons_succ, i64_w, i32_w]
  rfl
 refine sP (i := 7) (N := some 18) (lm 12 767) ?_
 refine take_ (i := 8) (N := some 19) (v := ?_) (a' := ?_) (lm 12 1023) rfl rfl (by kernel_rfl) (fun _ _ _ h => h) (Or.inl ⟨by rfl, ?_⟩) hHeld ?_ ?_
 rotate_left
 ·rintro w' ⟨s0, s1, s2, s3, s4, s5, s6, s7, s8⟩
  go_simp
  with_reducible rfl
 rotate_left
 ·simp only [Act.put, List.setIfInBounds_toArray, List.set_cons_zero, List.set_cons_succ, i64_w, i32_w]
  rfl
 refine one_ (i := 10) (N := some 21) (lm 12 2047) rfl rfl (by kernel_rfl) (by decide) (fun K hK => ?_)
 refine goesV_ Try.func80 (by kernel_rfl) rfl #[.pointer (some ⟨gw, 0, none⟩), .agg #[.int .i64 (pad y0 0), .int .i64 (pad y0 1), .int .i64 (pad y0 2), .int .i64 (pad y0 3), .int .i64 (pad y0 4), .int .i64 (pad y0 5), .int .i64 (pad y0 6)], .int .i64 ab] (by rfl) rfl rfl (by rfl) (by simp only [List.map_toArray, List.map_cons, List.map_nil]; rfl) ?_
 with_reducible refine (lost_calls (pad y0) ab HK.out HR1.out HN1.out).mono ?_
 rintro e W3 ⟨rfl, hb⟩
 refine ⟨_, rfl, ?_⟩
 replace hcf := (hb.cell (World.block_lt_of_cell? _ _ hcf)).trans hcf
 replace hcv := (hb.cell (World.block_lt_of_cell? _ _ hcv)).trans hcv
 replace hct0 := (hb.cell (World.block_lt_of_cell? _ _ hct0)).trans hct0
 replace hct1 := (hb.cell (World.block_lt_of_cell? _ _ hct1)).trans hct1
 replace hct2 := (hb.cell (World.block_lt_of_cell? _ _ hct2)).trans hct2
 replace hct3 := (hb.cell (World.block_lt_of_cell? _ _ hct3)).trans hct3
 replace hct4 := (hb.cell (World.block_lt_of_cell? _ _ hct4)).trans hct4
 replace hct5 := (hb.cell (World.block_lt_of_cell? _ _ hct5)).trans hct5
 replace hct6 := (hb.cell (World.block_lt_of_cell? _ _ hct6)).trans hct6
 replace HK := Aside0.mk (HK.out.below hb)
 replace HR1 := Aside0.mk (Kd.C_below HR1.out hb)
 replace BKg3 := Aside0.mk (blk_below BKg3.out hb)
 replace BKg6 := Aside0.mk (blk_below BKg6.out hb)
 replace HB := Aside0.mk (below_step HB.out hb)
 clear hb
 refine hK.out _ _ ⟨hcf, hcv, hct0, hct1, hct2, hct3, hct4, hct5, hct6⟩ (fun hHeld => ?_)
 clear hK K
 refine sN ?_
 refine sP (i := 11) (N := some 7) (lm 12 4095) ?_
 refine done_ (by kernel_rfl) ?_
 clear hct0 hct1 hct2 hct3 hct4 hct5 hct6
 obtain ⟨n0, hn0_⟩ : ∃ n0, lostN l1 (pad y0) = n0 := ⟨_, rfl⟩
 have HN0_ := Aside0.mk hn0_
 rw [hn0_]
 clear hn0_
 have hne : g3 < W3.heap.size ∧ g6 < W3.heap.size := ⟨blk_lt BKg3.out, blk_lt BKg6.out⟩
 have HNE := Aside0.mk hne
 clear hne
 have hcv2 : ∀ o, (W3.alloc o).cell? ⟨gw, 3, none⟩ = some (.slice (some adt) nt ct) := fun o => (blk_cell (blk_alloc HK.out.kw o) 3).trans (by rw [← HNT2.out]; rfl)
 go_wp2
 clear hcv2 hcv hcf
 generalize hg8 : W3.heap.size = g8
 have HZ8 := Aside0.mk hg8
 have HB1 := Aside0.mk (below_alloc (Below.refl W3.heap.size W3) (.cells #[.int .i64 n0, .int .i64 n0] 55))
 have BKg8 := Aside0.mk (show (W3.alloc (.cells #[.int .i64 n0, .int .i64 n0] 55)).heap[g8]? = some (.cells #[.int .i64 n0, .int .i64 n0] 55 (0, 0)) from by rw [← hg8]; exact heap_alloc_new W3 _)
 clear hg8
 generalize W3.alloc (.cells #[.int .i64 n0, .int .i64 n0] 55) = W1 at *
 go_loopg [30] nt (fun kq v30 w' => ∃ m : Nat, v30 = .int .i64 (m : Int) ∧ Aside0 (m + kq = nt) ∧ Aside0 (Below W3.heap.size W3 w') ∧ Aside0 (w'.heap[g8]? = some (.cells #[.int .i64 ((ts.take m).foldl (fun r x => (mn r.1 (lostN l1 (pad x)), mx r.2 (lostN l1 (pad x)))) (n0, n0)).1, .int .i64 ((ts.take m).foldl (fun r x => (mn r.1 (lostN l1 (pad x)), mx r.2 (lostN l1 (pad x)))) (n0, n0)).2] 55 (0, 0))))
 case atStart => exact ⟨0, rfl, ⟨Nat.zero_add _⟩, HB1, BKg8⟩
 case round =>
  clear BKg8 HB1
  obtain ⟨m, rfl, HM, HB1, BKg8⟩ := hrel
  obtain ⟨rl, hrl⟩ : ∃ r, ((ts.take m).foldl (fun r x => (mn r.1 (lostN l1 (pad x)), mx r.2 (lostN l1 (pad x)))) (n0, n0)).1 = r := ⟨_, rfl⟩
  obtain ⟨rh, hrh⟩ : ∃ r, ((ts.take m).foldl (fun r x => (mn r.1 (lostN l1 (pad x)), mx r.2 (lostN l1 (pad x)))) (n0, n0)).2 = r := ⟨_, rfl⟩
  rw [hrl, hrh] at BKg8
  have HRL := Aside0.mk hrl
  have HRH := Aside0.mk hrh
  clear hrl hrh
  by_cases hlt : m < nt
  ·cases gk with
   | zero => have := HM.out; omega
   | succ k1 =>
   obtain ⟨adt2, ea, hct0, hct1, hct2, hct3, hct4, hct5, hct6⟩ := at_T121 (Kd.C_below HK.out.row HB1.out) m (by have := HNT2.out; omega)
   cases ea
   rw [HTS.out] at hct0 hct1 hct2 hct3 hct4 hct5 hct6
   have hmt : m < ts.length := by rw [← HTS.out, HNT2.out]; exact hlt
   have htk : ts.take (m + 1) = ts.take m ++ [ts.getD m []] := by
    rw [List.take_succ_eq_append_getElem hmt, List.getD_eq_getElem?_getD, List.getElem?_eq_getElem hmt, Option.getD_some]
   have HTK := Aside0.mk htk
   clear htk hmt
   generalize ts.getD m [] = y at *
   go_wp2
   have hb := below_alloc (Below.refl wr.heap.size wr) (.cells #[.int .i64 (pad y 0), .int .i64 (pad y 1), .int .i64 (pad y 2), .int .i64 (pad y 3), .int .i64 (pad y 4), .int .i64 (pad y 5), .int .i64 (pad y 6)] 121)
   have BKg10 := Aside0.mk (heap_alloc_new wr (.cells #[.int .i64 (pad y 0), .int .i64 (pad y 1), .int .i64 (pad y 2), .int .i64 (pad y 3), .int .i64 (pad y 4), .int .i64 (pad y 5), .int .i64 (pad y 6)] 121))
   have LT8 := Aside0.mk (blk_lt BKg8.out)
   replace HB1 := Aside0.mk (below_step HB1.out hb)
   replace BKg8 := Aside0.mk (blk_below BKg8.out hb)
   clear hb
   generalize wr.alloc (.cells #[.int .i64 (pad y 0), .int .i64 (pad y 1), .int .i64 (pad y 2), .int .i64 (pad y 3), .int .i64 (pad y 4), .int .i64 (pad y 5), .int .i64 (pad y 6)] 121) = W5 at *
   clear hct0 hct1 hct2 hct3 hct4 hct5 hct6
   generalize wr.heap.size = g10 at *
   have hcl := sc 0 BKg8
   have hch := sc 1 BKg8
   have hcf : W5.cell? ⟨g3, 0, none⟩ = some (.func (.func 80) #[] #[]) := (blk_cell (blk_below BKg3.out HB1.out) 0).trans rfl
   have hca0 := sc 0 BKg10
   have hca1 := sc 1 BKg10
   have hca2 := sc 2 BKg10
   have hca3 := sc 3 BKg10
   have hca4 := sc 4 BKg10
   have hca5 := sc 5 BKg10
   have hca6 := sc 6 BKg10
   refine start_ (n := 9) (S := fun w' => w'.cell? ⟨g8, 0, none⟩ = some (.int .i64 rl) ∧ w'.cell? ⟨g8, 1, none⟩ = some (.int .i64 rh) ∧ w'.cell? ⟨g3, 0, none⟩ = some (.func (.func 80) #[] #[]) ∧ w'.cell? ⟨g10, 0, none⟩ = some (.int .i64 (pad y 0)) ∧ w'.cell? ⟨g10, 1, none⟩ = some (.int .i64 (pad y 1)) ∧ w'.cell? ⟨g10, 2, none⟩ = some (.int .i64 (pad y 2)) ∧ w'.cell? ⟨g10, 3, none⟩ = some (.int .i64 (pad y 3)) ∧ w'.cell? ⟨g10, 4, none⟩ = some (.int .i64 (pad y 4)) ∧ w'.cell? ⟨g10, 5, none⟩ = some (.int .i64 (pad y 5)) ∧ w'.cell? ⟨g10, 6, none⟩ = some (.int .i64 (pad y 6))) (ds := [8]) (lm 9 0) (by kernel_rfl) rfl (by kernel_rfl) ⟨hcl, hch, hcf, hca0, hca1, hca2, hca3, hca4, hca5, hca6⟩ (fun hHeld => ?_)
   have hb := below_drew1 (Below.refl W5.heap.size W5)
   replace HB1 := Aside0.mk (below_step HB1.out hb)
   replace BKg8 := Aside0.mk (blk_below BKg8.out hb)
   replace BKg10 := Aside0.mk (blk_below BKg10.out hb)
   replace hcl := (hb.cell (World.block_lt_of_cell? _ _ hcl)).trans hcl
   replace hch := (hb.cell (World.block_lt_of_cell? _ _ hch)).trans hch
   replace hcf := (hb.cell (World.block_lt_of_cell? _ _ hcf)).trans hcf
   replace hca0 := (hb.cell (World.block_lt_of_cell? _ _ hca0)).trans hca0
   replace hca1 := (hb.cell (World.block_lt_of_cell? _ _ hca1)).trans hca1
   replace hca2 := (hb.cell (World.block_lt_of_cell? _ _ hca2)).trans hca2
   replace hca3 := (hb.cell (World.block_lt_of_cell? _ _ hca3)).trans hca3
   replace hca4 := (hb.cell (World.block_lt_of_cell? _ _ hca4)).trans hca4
   replace hca5 := (hb.cell (World.block_lt_of_cell? _ _ hca5)).trans hca5
   replace hca6 := (hb.cell (World.block_lt_of_cell? _ _ hca6)).trans hca6
   generalize W5.drew = W7 at *
   clear hb
   refine sP (i := 1) (N := some 35) (lm 9 2) ?_
   refine sP (i := 3) (N := some 37) (lm 9 10) ?_
   refine sP (i := 5) (N := some 39) (lm 9 42) ?_
   refine take_ (i := 0) (N := some 34) (v := ?_) (a' := ?_) (lm 9 43) rfl rfl (by kernel_rfl) (fun _ _ _ h => h) (Or.inl ⟨by rfl, ?_⟩) hHeld ?_ ?_
   rotate_left
   ·rintro w' ⟨s0, s1, s2, s3, s4, s5, s6, s7, s8, s9⟩
    go_simp
    with_reducible rfl
   rotate_left
   ·simp only [Act.put, List.setIfInBounds_toArray, List.set_cons_zero, List.set_cons_succ, i64_w, i32_w]
    rfl
   refine take_ (i := 2) (N := some 36) (v := ?_) (a' := ?_) (lm 9 47) rfl rfl (by kernel_rfl) (fun _ _ _ h => h) (Or.inl ⟨by rfl, ?_⟩) hHeld ?_ ?_
   rotate_left
   ·rintro w' ⟨s0, s1, s2, s3, s4, s5, s6, s7, s8, s9⟩
    go_simp
    with_reducible rfl
   rotate_left
   ·simp only [Act.put, List.setIfInBounds_toArray, List.set_cons_zero, List.set_cons_succ, i64_w, i32_w]
    rfl
   refine take_ (i := 4) (N := some 38) (v := ?_) (a' := ?_) (lm 9 63) rfl rfl (by kernel_rfl) (fun _ _ _ h => h) (Or.inl ⟨by rfl, ?_⟩) hHeld ?_ ?_
   rotate_left
   ·rintro w' ⟨s0, s1, s2, s3, s4, s5, s6, s7, s8, s9⟩
    go_simp
    with_reducible rfl
   rotate_left
   ·simp only [Act.put, List.setIfInBounds_toArray, List.set_cons_zero, List.set_cons_succ, i64_w, i32_w]
    rfl
   refine one_ (i := 6) (N := some 40) (lm 9 127) rfl rfl (by kernel_rfl) (by decide) (fun K hK => ?_)
   refine goesV_ Try.func80 (by kernel_rfl) rfl #[.pointer (some ⟨gw, 0, none⟩), .agg #[.int .i64 (pad y 0), .int .i64 (pad y 1), .int .i64 (pad y 2), .int .i64 (pad y 3), .int .i64 (pad y 4), .int .i64 (pad y 5), .int .i64 (pad y 6)], .int .i64 ab] (by rfl) rfl rfl (by rfl) (by simp only [List.map_toArray, List.map_cons, List.map_nil]; rfl) ?_
   with_reducible refine (lost_calls (pad y) ab (HK.out.below HB1.out) (Kd.C_below HR1.out HB1.out) HN1.out).mono ?_
   rintro e W8 ⟨rfl, hb⟩
   refine ⟨_, rfl, ?_⟩
   replace hcl := (hb.cell (World.block_lt_of_cell? _ _ hcl)).trans hcl
   replace hch := (hb.cell (World.block_lt_of_cell? _ _ hch)).trans hch
   replace hcf := (hb.cell (World.block_lt_of_cell? _ _ hcf)).trans hcf
   replace hca0 := (hb.cell (World.block_lt_of_cell? _ _ hca0)).trans hca0
   replace hca1 := (hb.cell (World.block_lt_of_cell? _ _ hca1)).trans hca1
   replace hca2 := (hb.cell (World.block_lt_of_cell? _ _ hca2)).trans hca2
   replace hca3 := (hb.cell (World.block_lt_of_cell? _ _ hca3)).trans hca3
   replace hca4 := (hb.cell (World.block_lt_of_cell? _ _ hca4)).trans hca4
   replace hca5 := (hb.cell (World.block_lt_of_cell? _ _ hca5)).trans hca5
   replace hca6 := (hb.cell (World.block_lt_of_cell? _ _ hca6)).trans hca6
   replace HB1 := Aside0.mk (below_step HB1.out hb)
   replace BKg8 := Aside0.mk (blk_below BKg8.out hb)
   replace BKg10 := Aside0.mk (blk_below BKg10.out hb)
   clear hb
   refine hK.out _ _ ⟨hcl, hch, hcf, hca0, hca1, hca2, hca3, hca4, hca5, hca6⟩ (fun hHeld => ?_)
   clear hK K
   refine sN ?_
   refine one_ (i := 7) (N := some 41) (lm 9 255) rfl rfl (by kernel_rfl) (by decide) (fun K hK => ?_)
   refine goes_ Try.func97 (by kernel_rfl) rfl #[.agg #[.int .i64 rl, .int .i64 rh], .int .i64 (lostN l1 (pad y))] (by rfl) rfl rfl (by simp only [List.map_toArray, List.map_cons, List.map_nil]; rfl) ?_
   with_reducible refine (wider_calls rl rh (lostN l1 (pad y)) W8).mono ?_
   rintro e W9 ⟨rfl, hb⟩
   refine ⟨_, rfl, ?_⟩
   replace hcl := (hb.cell (World.block_lt_of_cell? _ _ hcl)).trans hcl
   replace hch := (hb.cell (World.block_lt_of_cell? _ _ hch)).trans hch
   replace hcf := (hb.cell (World.block_lt_of_cell? _ _ hcf)).trans hcf
   replace hca0 := (hb.cell (World.block_lt_of_cell? _ _ hca0)).trans hca0
   replace hca1 := (hb.cell (World.block_lt_of_cell? _ _ hca1)).trans hca1
   replace hca2 := (hb.cell (World.block_lt_of_cell? _ _ hca2)).trans hca2
   replace hca3 := (hb.cell (World.block_lt_of_cell? _ _ hca3)).trans hca3
   replace hca4 := (hb.cell (World.block_lt_of_cell? _ _ hca4)).trans hca4
   replace hca5 := (hb.cell (World.block_lt_of_cell? _ _ hca5)).trans hca5
   replace hca6 := (hb.cell (World.block_lt_of_cell? _ _ hca6)).trans hca6
   replace HB1 := Aside0.mk (below_step HB1.out hb)
   replace BKg8 := Aside0.mk (blk_below BKg8.out hb)
   replace BKg10 := Aside0.mk (blk_below BKg10.out hb)
   clear hb
   refine hK.out _ _ ⟨hcl, hch, hcf, hca0, hca1, hca2, hca3, hca4, hca5, hca6⟩ (fun hHeld => ?_)
   clear hK K
   refine sN ?_
   refine last_ (i := 8) (N := none) (lm 9 511) rfl rfl (by kernel_rfl) (by decide) (fun K hK => ?_)
   have hf0 : W9.frozen? ⟨g8, 0, none⟩ = false := blk_frozen BKg8.out 0
   have hf1 : W9.frozen? ⟨g8, 1, none⟩ = false := blk_frozen BKg8.out 1
   refine skip_ (w1 := ?_) (by rfl) rfl ?_ ?_
   rotate_left
   ·go_simp
    rfl
   refine hK.out _ _ ?_
   clear hK K
   refine done_ (by kernel_rfl) ?_
   go_wp2
   obtain ⟨ny, hny⟩ : ∃ n, lostN l1 (pad y) = n := ⟨_, rfl⟩
   have HNY := Aside0.mk hny
   clear hny
   have HB9 := Aside0.mk ((HB1.out.setCell (p := ⟨g8, 0, none⟩) (by rw [← HZ8.out]; exact Nat.le_refl _) (.int .i64 (mn rl (lostN l1 (pad y))))).setCell (p := ⟨g8, 1, none⟩) (by rw [← HZ8.out]; exact Nat.le_refl _) (.int .i64 (mx rh (lostN l1 (pad y)))))
   have BK9 := Aside0.mk (blk_put (blk_put BKg8.out 0 (.int .i64 (mn rl (lostN l1 (pad y)))) rfl) 1 (.int .i64 (mx rh (lostN l1 (pad y)))) rfl)
   go_roundg k1
   case measure => omega
   case rel => exact ⟨m + 1, by go_num, ⟨by have := HM.out; omega⟩, HB9, ⟨by rw [HTK.out, List.foldl_append, List.foldl_cons, List.foldl_nil, HRL.out, HRH.out]; exact BK9.out⟩⟩
  ·obtain rfl : m = nt := by have := HM.out; omega
   have hl0 := sc 0 BKg8
   have hl1 := sc 1 BKg8
   have BK6 := Aside0.mk (blk_below BKg6.out HB1.out)
   have hf0 := blk_frozen BK6.out 0
   have hf1 := blk_frozen BK6.out 1
   have hx0 := sc 0 BK6
   have hx1 := sc 1 BK6
   go_wp2
   have hbk := blk_put (blk_put BK6.out 0 (.int .i64 rl) rfl) 1 (.int .i64 rh) rfl
   refine bodyPost_ret (results_cell_row rfl _ _ g6 55 #[.int .i64 rl, .int .i64 rh] (0, 0) _ rfl hbk Try.underlying55 rfl (by kernel_rfl)) rfl ?_
   have hbs : boundsL (fun x => lostN l1 (pad x)) (truthsL l0 l1 wg) = (rl, rh) := by
    unfold boundsL
    rw [HTS.out, HY0.out, show (fun x => lostN l1 (pad x)) y0 = n0 from HN0_.out, ← HRL.out, ← HRH.out, List.take_of_length_le (by rw [← HTS.out, HNT2.out]; exact Nat.le_refl _)]
   exact ⟨by rw [hbs], ((below_step HB.out HB1.out).setCell (p := ⟨g6, 0, none⟩) GEg6.out _).setCell (p := ⟨g6, 1, none⟩) GEg6.out _⟩
set_option maxHeartbeats 4000000 in
set_option maxRecDepth 100000 in
theorem bounds_missed {A0 : Option Addr} {c0 : Nat} {l0 : List S109} {A1 : Option Addr} {c1 : Nat} {l1 : List S110} {wg : Int} {b gw gm : Nat} {At : Option Addr} {ct : Nat} (ab : Int) {w : World} (hk : Wk A0 c0 l0 A1 c1 l1 wg b gw gm At ct w) (hr1 : Kd.C k110 w A1 l1.length l1) (hn1 : l1.length ≤ 7) (hnt : truthsL l0 l1 wg ≠ []) (hntl : (truthsL l0 l1 wg).length ≤ 78125) :
  Calls Try.prog 71 #[.agg #[.func (.func 70) #[] #[]], .pointer (some ⟨gw, 0, none⟩), .int .i64 ab] w fun e w' => e = .returned (.agg #[.int .i64 (boundsL (fun x => missN l1 (pad x) ab) (truthsL l0 l1 wg)).1, .int .i64 (boundsL (fun x => missN l1 (pad x) ab) (truthsL l0 l1 wg)).2]) ∧ Below w.heap.size w w' := by
 have hu35 := Try.underlying35
 have hu55 := Try.underlying55
 have hu121 := Try.underlying121
 have hu105 := Try.underlying105
 have hu115 := Try.underlying115
 have HR1 := Aside0.mk hr1
 have HN1 := Aside0.mk hn1
 have HNT := Aside0.mk hntl
 obtain ⟨ts, hts⟩ : ∃ ts, truthsL l0 l1 wg = ts := ⟨_, rfl⟩
 have HTS := Aside0.mk hts
 have HK := Aside0.mk hk
 obtain ⟨y0, hy0⟩ : ∃ y, ts.getD 0 [] = y := ⟨_, rfl⟩
 obtain ⟨nt, hnt2⟩ : ∃ n, (truthsL l0 l1 wg).length = n := ⟨_, rfl⟩
 have hpos : 0 < nt := by rw [← hnt2]; exact List.length_pos_iff.2 hnt
 have hnl : nt ≤ 78125 := by rw [← hnt2]; exact hntl
 obtain ⟨adt, rfl, hct0, hct1, hct2, hct3, hct4, hct5, hct6⟩ := at_T121 hk.row 0 (by omega)
 rw [show (truthsL l0 l1 wg).getD 0 [] = y0 from by rw [hts]; exact hy0] at hct0 hct1 hct2 hct3 hct4 hct5 hct6
 have hadd : adt.add (0 * 7) = adt := by simp [Addr.add]
 rw [hadd] at hct0 hct1 hct2 hct3 hct4 hct5 hct6
 have hcv : w.cell? ⟨gw, 3, none⟩ = some (.slice (some adt) nt ct) := (blk_cell hk.kw 3).trans (by rw [← hnt2]; rfl)
 have HY0 := Aside0.mk hy0
 have HNT2 := Aside0.mk hnt2
 have HCT := Aside0.mk (And.intro hct0 (And.intro hct1 (And.intro hct2 (And.intro hct3 (And.intro hct4 (And.intro hct5 hct6))))))
 have HCV := Aside0.mk hcv
 clear hk hr1 hn1 hts hy0 hnt2 hadd hct0 hct1 hct2 hct3 hct4 hct5 hct6 hcv hntl hnt
 have HB := Aside0.mk (Below.refl w.heap.size w)
 go_enter Try.func71, Try.ntmps71
 go_wp2_with (first | ((with_reducible refine gate_dst (N := 3) rfl ?_); refine box_event ?hg (N := 3) ?hd (cs := #[.func (.func 70) #[] #[]]) (t := 115) ?hr ?_; (case hd => rfl); (case hg => rfl); (case hr => first | (go_simp; done) | (go_simp; rfl)); intro g3 hg W_ hbox hb; have GEg3 := Aside0.mk (by rw [hg]; exact HB.out.size : w.heap.size ≤ g3); replace HK := Aside0.mk (HK.out.below hb); replace HR1 := Aside0.mk (Kd.C_below HR1.out hb); replace HB := Aside0.mk (below_step HB.out hb); have BKg3 := Aside0.mk hbox; clear hb hbox hg) | ((with_reducible refine gate_dst (N := 6) rfl ?_); refine sbox (N := 6) #[.int .i64 0, .int .i64 0] 55 ?_; intro g6 hg W_ hbox hb; have GEg6 := Aside0.mk (by rw [hg]; exact HB.out.size : w.heap.size ≤ g6); replace HK := Aside0.mk (HK.out.below hb); replace HR1 := Aside0.mk (Kd.C_below HR1.out hb); replace BKg3 := Aside0.mk (blk_below BKg3.out hb); replace HB := Aside0.mk (below_step HB.out hb); have BKg6 := Aside0.mk hbox; clear hb hbox hg))
 obtain ⟨hct0, hct1, hct2, hct3, hct4, hct5, hct6⟩ := HCT.out
 replace hct0 := (HB.out.cell (World.block_lt_of_cell? _ _ hct0)).trans hct0
 replace hct1 := (HB.out.cell (World.block_lt_of_cell? _ _ hct1)).trans hct1
 replace hct2 := (HB.out.cell (World.block_lt_of_cell? _ _ hct2)).trans hct2
 replace hct3 := (HB.out.cell (World.block_lt_of_cell? _ _ hct3)).trans hct3
 replace hct4 := (HB.out.cell (World.block_lt_of_cell? _ _ hct4)).trans hct4
 replace hct5 := (HB.out.cell (World.block_lt_of_cell? _ _ hct5)).trans hct5
 replace hct6 := (HB.out.cell (World.block_lt_of_cell? _ _ hct6)).trans hct6
 have hcv := (HB.out.cell (World.block_lt_of_cell? _ _ HCV.out)).trans HCV.out
 have hcf := sc 0 BKg3
 refine start_ (n := 12) (S := fun w' => w'.cell? ⟨g3, 0, none⟩ = some (.func (.func 70) #[] #[]) ∧ w'.cell? ⟨gw, 3, none⟩ = some (.slice (some adt) nt ct) ∧ w'.cell? adt = some (.int .i64 (pad y0 0)) ∧ w'.cell? ⟨adt.block, adt.off + 1, none⟩ = some (.int .i64 (pad y0 1)) ∧ w'.cell? ⟨adt.block, adt.off + 2, none⟩ = some (.int .i64 (pad y0 2)) ∧ w'.cell? ⟨adt.block, adt.off + 3, none⟩ = some (.int .i64 (pad y0 3)) ∧ w'.cell? ⟨adt.block, adt.off + 4, none⟩ = some (.int .i64 (pad y0 4)) ∧ w'.cell? ⟨adt.block, adt.off + 5, none⟩ = some (.int .i64 (pad y0 5)) ∧ w'.cell? ⟨adt.block, adt.off + 6, none⟩ = some (.int .i64 (pad y0 6))) (ds := []) (lm 12 0) (by kernel_rfl) rfl (by kernel_rfl) ⟨hcf, hcv, hct0, hct1, hct2, hct3, hct4, hct5, hct6⟩ (fun hHeld => ?_)
 have hb := below_drew1 (Below.refl W_.heap.size W_)
 replace HK := Aside0.mk (HK.out.below hb)
 replace HR1 := Aside0.mk (Kd.C_below HR1.out hb)
 replace BKg3 := Aside0.mk (blk_below BKg3.out hb)
 replace BKg6 := Aside0.mk (blk_below BKg6.out hb)
 replace HB := Aside0.mk (below_step HB.out hb)
 replace hcf := (hb.cell (World.block_lt_of_cell? _ _ hcf)).trans hcf
 replace hcv := (hb.cell (World.block_lt_of_cell? _ _ hcv)).trans hcv
 replace hct0 := (hb.cell (World.block_lt_of_cell? _ _ hct0)).trans hct0
 replace hct1 := (hb.cell (World.block_lt_of_cell? _ _ hct1)).trans hct1
 replace hct2 := (hb.cell (World.block_lt_of_cell? _ _ hct2)).trans hct2
 replace hct3 := (hb.cell (World.block_lt_of_cell? _ _ hct3)).trans hct3
 replace hct4 := (hb.cell (World.block_lt_of_cell? _ _ hct4)).trans hct4
 replace hct5 := (hb.cell (World.block_lt_of_cell? _ _ hct5)).trans hct5
 replace hct6 := (hb.cell (World.block_lt_of_cell? _ _ hct6)).trans hct6
 generalize W_.drew = W2 at *
 clear hb
 refine sP (i := 0) (N := some 11) (lm 12 1) ?_
 refine sP (i := 2) (N := some 13) (lm 12 5) ?_
 refine sP (i := 3) (N := some 14) (lm 12 13) ?_
 refine sP (i := 4) (N := some 15) (lm 12 29) ?_
 refine sP (i := 5) (N := some 16) (lm 12 61) ?_
 refine sP (i := 9) (N := some 20) (lm 12 573) ?_
 refine take_ (i := 1) (N := some 12) (v := ?_) (a' := ?_) (lm 12 575) rfl rfl (by kernel_rfl) (fun _ _ _ h => h) (Or.inl ⟨by rfl, ?_⟩) hHeld ?_ ?_
 rotate_left
 ·rintro w' ⟨s0, s1, s2, s3, s4, s5, s6, s7, s8⟩
  go_simp
  with_reducible rfl
 rotate_left
 ·simp only [Act.put, List.setIfInBounds_toArray, List.set_cons_zero, List.set_cons_succ, i64_w, i32_w]
  rfl
 refine take_ (i := 6) (N := some 17) (v := ?_) (a' := ?_) (lm 12 639) rfl rfl (by kernel_rfl) (fun _ _ _ h => h) (Or.inl ⟨by rfl, ?_⟩) hHeld ?_ ?_
 rotate_left
 ·rintro w' ⟨s0, s1, s2, s3, s4, s5, s6, s7, s8⟩
  go_simp
  with_reducible rfl
 rotate_left
 ·simp only [Act.put, List.setIfInBounds_toArray, List.set_cons_zero, List.set_cons_succ, i64_w, i32_w]
  rfl
 refine sP (i := 7) (N := some 18) (lm 12 767) ?_
 refine take_ (i := 8) (N := some 19) (v := ?_) (a' := ?_) (lm 12 1023) rfl rfl (by kernel_rfl) (fun _ _ _ h => h) (Or.inl ⟨by rfl, ?_⟩) hHeld ?_ ?_
 rotate_left
 ·rintro w' ⟨s0, s1, s2, s3, s4, s5, s6, s7, s8⟩
  go_simp
  with_reducible rfl
 rotate_left
 ·simp only [Act.put, List.setIfInBounds_toArray, List.set_cons_zero, List.set_cons_succ, i64_w, i32_w]
  rfl
 refine one_ (i := 10) (N := some 21) (lm 12 2047) rfl rfl (by kernel_rfl) (by decide) (fun K hK => ?_)
 refine goesV_ Try.func70 (by kernel_rfl) rfl #[.pointer (some ⟨gw, 0, none⟩), .agg #[.int .i64 (pad y0 0), .int .i64 (pad y0 1), .int .i64 (pad y0 2), .int .i64 (pad y0 3), .int .i64 (pad y0 4), .int .i64 (pad y0 5), .int .i64 (pad y0 6)], .int .i64 ab] (by rfl) rfl rfl (by rfl) (by simp only [List.map_toArray, List.map_cons, List.map_nil]; rfl) ?_
 with_reducible refine (missed_calls (pad y0) ab HK.out HR1.out HN1.out).mono ?_
 rintro e W3 ⟨rfl, hb⟩
 refine ⟨_, rfl, ?_⟩
 replace hcf := (hb.cell (World.block_lt_of_cell? _ _ hcf)).trans hcf
 replace hcv := (hb.cell (World.block_lt_of_cell? _ _ hcv)).trans hcv
 replace hct0 := (hb.cell (World.block_lt_of_cell? _ _ hct0)).trans hct0
 replace hct1 := (hb.cell (World.block_lt_of_cell? _ _ hct1)).trans hct1
 replace hct2 := (hb.cell (World.block_lt_of_cell? _ _ hct2)).trans hct2
 replace hct3 := (hb.cell (World.block_lt_of_cell? _ _ hct3)).trans hct3
 replace hct4 := (hb.cell (World.block_lt_of_cell? _ _ hct4)).trans hct4
 replace hct5 := (hb.cell (World.block_lt_of_cell? _ _ hct5)).trans hct5
 replace hct6 := (hb.cell (World.block_lt_of_cell? _ _ hct6)).trans hct6
 replace HK := Aside0.mk (HK.out.below hb)
 replace HR1 := Aside0.mk (Kd.C_below HR1.out hb)
 replace BKg3 := Aside0.mk (blk_below BKg3.out hb)
 replace BKg6 := Aside0.mk (blk_below BKg6.out hb)
 replace HB := Aside0.mk (below_step HB.out hb)
 clear hb
 refine hK.out _ _ ⟨hcf, hcv, hct0, hct1, hct2, hct3, hct4, hct5, hct6⟩ (fun hHeld => ?_)
 clear hK K
 refine sN ?_
 refine sP (i := 11) (N := some 7) (lm 12 4095) ?_
 refine done_ (by kernel_rfl) ?_
 clear hct0 hct1 hct2 hct3 hct4 hct5 hct6
 obtain ⟨n0, hn0_⟩ : ∃ n0, missN l1 (pad y0) ab = n0 := ⟨_, rfl⟩
 have HN0_ := Aside0.mk hn0_
 rw [hn0_]
 clear hn0_
 have hne : g3 < W3.heap.size ∧ g6 < W3.heap.size := ⟨blk_lt BKg3.out, blk_lt BKg6.out⟩
 have HNE := Aside0.mk hne
 clear hne
 have hcv2 : ∀ o, (W3.alloc o).cell? ⟨gw, 3, none⟩ = some (.slice (some adt) nt ct) := fun o => (blk_cell (blk_alloc HK.out.kw o) 3).trans (by rw [← HNT2.out]; rfl)
 go_wp2
 clear hcv2 hcv hcf
 generalize hg8 : W3.heap.size = g8
 have HZ8 := Aside0.mk hg8
 have HB1 := Aside0.mk (below_alloc (Below.refl W3.heap.size W3) (.cells #[.int .i64 n0, .int .i64 n0] 55))
 have BKg8 := Aside0.mk (show (W3.alloc (.cells #[.int .i64 n0, .int .i64 n0] 55)).heap[g8]? = some (.cells #[.int .i64 n0, .int .i64 n0] 55 (0, 0)) from by rw [← hg8]; exact heap_alloc_new W3 _)
 clear hg8
 generalize W3.alloc (.cells #[.int .i64 n0, .int .i64 n0] 55) = W1 at *
 go_loopg [30] nt (fun kq v30 w' => ∃ m : Nat, v30 = .int .i64 (m : Int) ∧ Aside0 (m + kq = nt) ∧ Aside0 (Below W3.heap.size W3 w') ∧ Aside0 (w'.heap[g8]? = some (.cells #[.int .i64 ((ts.take m).foldl (fun r x => (mn r.1 (missN l1 (pad x) ab), mx r.2 (missN l1 (pad x) ab))) (n0, n0)).1, .int .i64 ((ts.take m).foldl (fun r x => (mn r.1 (missN l1 (pad x) ab), mx r.2 (missN l1 (pad x) ab))) (n0, n0)).2] 55 (0, 0))))
 case atStart => exact ⟨0, rfl, ⟨Nat.zero_add _⟩, HB1, BKg8⟩
 case round =>
  clear BKg8 HB1
  obtain ⟨m, rfl, HM, HB1, BKg8⟩ := hrel
  obtain ⟨rl, hrl⟩ : ∃ r, ((ts.take m).foldl (fun r x => (mn r.1 (missN l1 (pad x) ab), mx r.2 (missN l1 (pad x) ab))) (n0, n0)).1 = r := ⟨_, rfl⟩
  obtain ⟨rh, hrh⟩ : ∃ r, ((ts.take m).foldl (fun r x => (mn r.1 (missN l1 (pad x) ab), mx r.2 (missN l1 (pad x) ab))) (n0, n0)).2 = r := ⟨_, rfl⟩
  rw [hrl, hrh] at BKg8
  have HRL := Aside0.mk hrl
  have HRH := Aside0.mk hrh
  clear hrl hrh
  by_cases hlt : m < nt
  ·cases gk with
   | zero => have := HM.out; omega
   | succ k1 =>
   obtain ⟨adt2, ea, hct0, hct1, hct2, hct3, hct4, hct5, hct6⟩ := at_T121 (Kd.C_below HK.out.row HB1.out) m (by have := HNT2.out; omega)
   cases ea
   rw [HTS.out] at hct0 hct1 hct2 hct3 hct4 hct5 hct6
   have hmt : m < ts.length := by rw [← HTS.out, HNT2.out]; exact hlt
   have htk : ts.take (m + 1) = ts.take m ++ [ts.getD m []] := by
    rw [List.take_succ_eq_append_getElem hmt, List.getD_eq_getElem?_getD, List.getElem?_eq_getElem hmt, Option.getD_some]
   have HTK := Aside0.mk htk
   clear htk hmt
   generalize ts.getD m [] = y at *
   go_wp2
   have hb := below_alloc (Below.refl wr.heap.size wr) (.cells #[.int .i64 (pad y 0), .int .i64 (pad y 1), .int .i64 (pad y 2), .int .i64 (pad y 3), .int .i64 (pad y 4), .int .i64 (pad y 5), .int .i64 (pad y 6)] 121)
   have BKg10 := Aside0.mk (heap_alloc_new wr (.cells #[.int .i64 (pad y 0), .int .i64 (pad y 1), .int .i64 (pad y 2), .int .i64 (pad y 3), .int .i64 (pad y 4), .int .i64 (pad y 5), .int .i64 (pad y 6)] 121))
   have LT8 := Aside0.mk (blk_lt BKg8.out)
   replace HB1 := Aside0.mk (below_step HB1.out hb)
   replace BKg8 := Aside0.mk (blk_below BKg8.out hb)
   clear hb
   generalize wr.alloc (.cells #[.int .i64 (pad y 0), .int .i64 (pad y 1), .int .i64 (pad y 2), .int .i64 (pad y 3), .int .i64 (pad y 4), .int .i64 (pad y 5), .int .i64 (pad y 6)] 121) = W5 at *
   clear hct0 hct1 hct2 hct3 hct4 hct5 hct6
   generalize wr.heap.size = g10 at *
   have hcl := sc 0 BKg8
   have hch := sc 1 BKg8
   have hcf : W5.cell? ⟨g3, 0, none⟩ = some (.func (.func 70) #[] #[]) := (blk_cell (blk_below BKg3.out HB1.out) 0).trans rfl
   have hca0 := sc 0 BKg10
   have hca1 := sc 1 BKg10
   have hca2 := sc 2 BKg10
   have hca3 := sc 3 BKg10
   have hca4 := sc 4 BKg10
   have hca5 := sc 5 BKg10
   have hca6 := sc 6 BKg10
   refine start_ (n := 9) (S := fun w' => w'.cell? ⟨g8, 0, none⟩ = some (.int .i64 rl) ∧ w'.cell? ⟨g8, 1, none⟩ = some (.int .i64 rh) ∧ w'.cell? ⟨g3, 0, none⟩ = some (.func (.func 70) #[] #[]) ∧ w'.cell? ⟨g10, 0, none⟩ = some (.int .i64 (pad y 0)) ∧ w'.cell? ⟨g10, 1, none⟩ = some (.int .i64 (pad y 1)) ∧ w'.cell? ⟨g10, 2, none⟩ = some (.int .i64 (pad y 2)) ∧ w'.cell? ⟨g10, 3, none⟩ = some (.int .i64 (pad y 3)) ∧ w'.cell? ⟨g10, 4, none⟩ = some (.int .i64 (pad y 4)) ∧ w'.cell? ⟨g10, 5, none⟩ = some (.int .i64 (pad y 5)) ∧ w'.cell? ⟨g10, 6, none⟩ = some (.int .i64 (pad y 6))) (ds := [8]) (lm 9 0) (by kernel_rfl) rfl (by kernel_rfl) ⟨hcl, hch, hcf, hca0, hca1, hca2, hca3, hca4, hca5, hca6⟩ (fun hHeld => ?_)
   have hb := below_drew1 (Below.refl W5.heap.size W5)
   replace HB1 := Aside0.mk (below_step HB1.out hb)
   replace BKg8 := Aside0.mk (blk_below BKg8.out hb)
   replace BKg10 := Aside0.mk (blk_below BKg10.out hb)
   replace hcl := (hb.cell (World.block_lt_of_cell? _ _ hcl)).trans hcl
   replace hch := (hb.cell (World.block_lt_of_cell? _ _ hch)).trans hch
   replace hcf := (hb.cell (World.block_lt_of_cell? _ _ hcf)).trans hcf
   replace hca0 := (hb.cell (World.block_lt_of_cell? _ _ hca0)).trans hca0
   replace hca1 := (hb.cell (World.block_lt_of_cell? _ _ hca1)).trans hca1
   replace hca2 := (hb.cell (World.block_lt_of_cell? _ _ hca2)).trans hca2
   replace hca3 := (hb.cell (World.block_lt_of_cell? _ _ hca3)).trans hca3
   replace hca4 := (hb.cell (World.block_lt_of_cell? _ _ hca4)).trans hca4
   replace hca5 := (hb.cell (World.block_lt_of_cell? _ _ hca5)).trans hca5
   replace hca6 := (hb.cell (World.block_lt_of_cell? _ _ hca6)).trans hca6
   generalize W5.drew = W7 at *
   clear hb
   refine sP (i := 1) (N := some 35) (lm 9 2) ?_
   refine sP (i := 3) (N := some 37) (lm 9 10) ?_
   refine sP (i := 5) (N := some 39) (lm 9 42) ?_
   refine take_ (i := 0) (N := some 34) (v := ?_) (a' := ?_) (lm 9 43) rfl rfl (by kernel_rfl) (fun _ _ _ h => h) (Or.inl ⟨by rfl, ?_⟩) hHeld ?_ ?_
   rotate_left
   ·rintro w' ⟨s0, s1, s2, s3, s4, s5, s6, s7, s8, s9⟩
    go_simp
    with_reducible rfl
   rotate_left
   ·simp only [Act.put, List.setIfInBounds_toArray, List.set_cons_zero, List.set_cons_succ, i64_w, i32_w]
    rfl
   refine take_ (i := 2) (N := some 36) (v := ?_) (a' := ?_) (lm 9 47) rfl rfl (by kernel_rfl) (fun _ _ _ h => h) (Or.inl ⟨by rfl, ?_⟩) hHeld ?_ ?_
   rotate_left
   ·rintro w' ⟨s0, s1, s2, s3, s4, s5, s6, s7, s8, s9⟩
    go_simp
    with_reducible rfl
   rotate_left
   ·simp only [Act.put, List.setIfInBounds_toArray, List.set_cons_zero, List.set_cons_succ, i64_w, i32_w]
    rfl
   refine take_ (i := 4) (N := some 38) (v := ?_) (a' := ?_) (lm 9 63) rfl rfl (by kernel_rfl) (fun _ _ _ h => h) (Or.inl ⟨by rfl, ?_⟩) hHeld ?_ ?_
   rotate_left
   ·rintro w' ⟨s0, s1, s2, s3, s4, s5, s6, s7, s8, s9⟩
    go_simp
    with_reducible rfl
   rotate_left
   ·simp only [Act.put, List.setIfInBounds_toArray, List.set_cons_zero, List.set_cons_succ, i64_w, i32_w]
    rfl
   refine one_ (i := 6) (N := some 40) (lm 9 127) rfl rfl (by kernel_rfl) (by decide) (fun K hK => ?_)
   refine goesV_ Try.func70 (by kernel_rfl) rfl #[.pointer (some ⟨gw, 0, none⟩), .agg #[.int .i64 (pad y 0), .int .i64 (pad y 1), .int .i64 (pad y 2), .int .i64 (pad y 3), .int .i64 (pad y 4), .int .i64 (pad y 5), .int .i64 (pad y 6)], .int .i64 ab] (by rfl) rfl rfl (by rfl) (by simp only [List.map_toArray, List.map_cons, List.map_nil]; rfl) ?_
   with_reducible refine (missed_calls (pad y) ab (HK.out.below HB1.out) (Kd.C_below HR1.out HB1.out) HN1.out).mono ?_
   rintro e W8 ⟨rfl, hb⟩
   refine ⟨_, rfl, ?_⟩
   replace hcl := (hb.cell (World.block_lt_of_cell? _ _ hcl)).trans hcl
   replace hch := (hb.cell (World.block_lt_of_cell? _ _ hch)).trans hch
   replace hcf := (hb.cell (World.block_lt_of_cell? _ _ hcf)).trans hcf
   replace hca0 := (hb.cell (World.block_lt_of_cell? _ _ hca0)).trans hca0
   replace hca1 := (hb.cell (World.block_lt_of_cell? _ _ hca1)).trans hca1
   replace hca2 := (hb.cell (World.block_lt_of_cell? _ _ hca2)).trans hca2
   replace hca3 := (hb.cell (World.block_lt_of_cell? _ _ hca3)).trans hca3
   replace hca4 := (hb.cell (World.block_lt_of_cell? _ _ hca4)).trans hca4
   replace hca5 := (hb.cell (World.block_lt_of_cell? _ _ hca5)).trans hca5
   replace hca6 := (hb.cell (World.block_lt_of_cell? _ _ hca6)).trans hca6
   replace HB1 := Aside0.mk (below_step HB1.out hb)
   replace BKg8 := Aside0.mk (blk_below BKg8.out hb)
   replace BKg10 := Aside0.mk (blk_below BKg10.out hb)
   clear hb
   refine hK.out _ _ ⟨hcl, hch, hcf, hca0, hca1, hca2, hca3, hca4, hca5, hca6⟩ (fun hHeld => ?_)
   clear hK K
   refine sN ?_
   refine one_ (i := 7) (N := some 41) (lm 9 255) rfl rfl (by kernel_rfl) (by decide) (fun K hK => ?_)
   refine goes_ Try.func97 (by kernel_rfl) rfl #[.agg #[.int .i64 rl, .int .i64 rh], .int .i64 (missN l1 (pad y) ab)] (by rfl) rfl rfl (by simp only [List.map_toArray, List.map_cons, List.map_nil]; rfl) ?_
   with_reducible refine (wider_calls rl rh (missN l1 (pad y) ab) W8).mono ?_
   rintro e W9 ⟨rfl, hb⟩
   refine ⟨_, rfl, ?_⟩
   replace hcl := (hb.cell (World.block_lt_of_cell? _ _ hcl)).trans hcl
   replace hch := (hb.cell (World.block_lt_of_cell? _ _ hch)).trans hch
   replace hcf := (hb.cell (World.block_lt_of_cell? _ _ hcf)).trans hcf
   replace hca0 := (hb.cell (World.block_lt_of_cell? _ _ hca0)).trans hca0
   replace hca1 := (hb.cell (World.block_lt_of_cell? _ _ hca1)).trans hca1
   replace hca2 := (hb.cell (World.block_lt_of_cell? _ _ hca2)).trans hca2
   replace hca3 := (hb.cell (World.block_lt_of_cell? _ _ hca3)).trans hca3
   replace hca4 := (hb.cell (World.block_lt_of_cell? _ _ hca4)).trans hca4
   replace hca5 := (hb.cell (World.block_lt_of_cell? _ _ hca5)).trans hca5
   replace hca6 := (hb.cell (World.block_lt_of_cell? _ _ hca6)).trans hca6
   replace HB1 := Aside0.mk (below_step HB1.out hb)
   replace BKg8 := Aside0.mk (blk_below BKg8.out hb)
   replace BKg10 := Aside0.mk (blk_below BKg10.out hb)
   clear hb
   refine hK.out _ _ ⟨hcl, hch, hcf, hca0, hca1, hca2, hca3, hca4, hca5, hca6⟩ (fun hHeld => ?_)
   clear hK K
   refine sN ?_
   refine last_ (i := 8) (N := none) (lm 9 511) rfl rfl (by kernel_rfl) (by decide) (fun K hK => ?_)
   have hf0 : W9.frozen? ⟨g8, 0, none⟩ = false := blk_frozen BKg8.out 0
   have hf1 : W9.frozen? ⟨g8, 1, none⟩ = false := blk_frozen BKg8.out 1
   refine skip_ (w1 := ?_) (by rfl) rfl ?_ ?_
   rotate_left
   ·go_simp
    rfl
   refine hK.out _ _ ?_
   clear hK K
   refine done_ (by kernel_rfl) ?_
   go_wp2
   obtain ⟨ny, hny⟩ : ∃ n, missN l1 (pad y) ab = n := ⟨_, rfl⟩
   have HNY := Aside0.mk hny
   clear hny
   have HB9 := Aside0.mk ((HB1.out.setCell (p := ⟨g8, 0, none⟩) (by rw [← HZ8.out]; exact Nat.le_refl _) (.int .i64 (mn rl (missN l1 (pad y) ab)))).setCell (p := ⟨g8, 1, none⟩) (by rw [← HZ8.out]; exact Nat.le_refl _) (.int .i64 (mx rh (missN l1 (pad y) ab))))
   have BK9 := Aside0.mk (blk_put (blk_put BKg8.out 0 (.int .i64 (mn rl (missN l1 (pad y) ab))) rfl) 1 (.int .i64 (mx rh (missN l1 (pad y) ab))) rfl)
   go_roundg k1
   case measure => omega
   case rel => exact ⟨m + 1, by go_num, ⟨by have := HM.out; omega⟩, HB9, ⟨by rw [HTK.out, List.foldl_append, List.foldl_cons, List.foldl_nil, HRL.out, HRH.out]; exact BK9.out⟩⟩
  ·obtain rfl : m = nt := by have := HM.out; omega
   have hl0 := sc 0 BKg8
   have hl1 := sc 1 BKg8
   have BK6 := Aside0.mk (blk_below BKg6.out HB1.out)
   have hf0 := blk_frozen BK6.out 0
   have hf1 := blk_frozen BK6.out 1
   have hx0 := sc 0 BK6
   have hx1 := sc 1 BK6
   go_wp2
   have hbk := blk_put (blk_put BK6.out 0 (.int .i64 rl) rfl) 1 (.int .i64 rh) rfl
   refine bodyPost_ret (results_cell_row rfl _ _ g6 55 #[.int .i64 rl, .int .i64 rh] (0, 0) _ rfl hbk Try.underlying55 rfl (by kernel_rfl)) rfl ?_
   have hbs : boundsL (fun x => missN l1 (pad x) ab) (truthsL l0 l1 wg) = (rl, rh) := by
    unfold boundsL
    rw [HTS.out, HY0.out, show (fun x => missN l1 (pad x) ab) y0 = n0 from HN0_.out, ← HRL.out, ← HRH.out, List.take_of_length_le (by rw [← HTS.out, HNT2.out]; exact Nat.le_refl _)]
   exact ⟨by rw [hbs], ((below_step HB.out HB1.out).setCell (p := ⟨g6, 0, none⟩) GEg6.out _).setCell (p := ⟨g6, 1, none⟩) GEg6.out _⟩
end Go.Proofs.Ytnbbbeghgomnoaa.X
namespace Go.Proofs.Ytnbbbeghgomnoaa.X
open Go.RowKit Go.Proofs.YtnbbbeghgomnoaaW.PrintWords Go.Proofs.YtnbbbeghgomnoaaW.PrintLast Go.Proofs.YtnbbbeghgomnoaaW.PrintMore
set_option maxHeartbeats 4000000 in
set_option maxRecDepth 100000 in
theorem Astray_ok {A0 : Option Addr} {c0 : Nat} {l0 : List S109} {A1 : Option Addr} {c1 : Nat} {l1 : List S110} (wg : Int) {w : World} (ht : Tab A0 c0 l0 A1 c1 l1 w) (he : askE l0 l1 wg = 0) :
  Calls Try.prog 37 #[.agg #[.slice A0 l0.length c0, .slice A1 l1.length c1, .int .i64 wg]] w fun e w' => e = .returned (.tuple #[.agg #[.int .i64 (boundsL (fun x => lostN l1 (pad x)) (truthsL l0 l1 wg)).1, .int .i64 (boundsL (fun x => lostN l1 (pad x)) (truthsL l0 l1 wg)).2], .int .i64 0]) ∧ Below w.heap.size w w' := by
 have hu35 := Try.underlying35
 have hu55 := Try.underlying55
 have HT := Aside0.mk ht
 have HE := Aside0.mk he
 clear ht he
 obtain ⟨hck, htn⟩ := askE_zero HE.out
 have HTN := Aside0.mk htn
 have HN1 := Aside0.mk (checkT_zero hck).n1
 have HTL := Aside0.mk (truths_len wg (checkT_zero hck).n0 (checkT_zero hck).n1)
 clear hck htn
 have HB := Aside0.mk (Below.refl w.heap.size w)
 go_enter Try.func37, Try.ntmps37
 go_wp2_with (first | ((with_reducible refine gate_dst (N := 1) rfl ?_); refine sbox (N := 1) #[.slice A0 l0.length c0, .slice A1 l1.length c1, .int .i64 wg] 35 ?_; intro g1 hg W_ hbox hb; have GEg1 := Aside0.mk (by rw [hg]; exact HB.out.size : w.heap.size ≤ g1); replace HB := Aside0.mk (below_step HB.out hb); have BKg1 := Aside0.mk hbox; clear hb hbox hg; have hcz0 := sc 0 BKg1; have hcz1 := sc 1 BKg1; have hcz2 := sc 2 BKg1) | ((with_reducible refine gate_dst (N := 2) rfl ?_); refine sbox (N := 2) #[.int .i64 0, .int .i64 0] 55 ?_; intro g2 hg W_ hbox hb; have GEg2 := Aside0.mk (by rw [hg]; exact HB.out.size : w.heap.size ≤ g2); replace BKg1 := Aside0.mk (blk_below BKg1.out hb); replace HB := Aside0.mk (below_step HB.out hb); have BKg2 := Aside0.mk hbox; clear hb hbox hg; have hcz0 := sc 0 BKg1; have hcz1 := sc 1 BKg1; have hcz2 := sc 2 BKg1) | (go_at_call 68; go_must (refine (asked_ok wg (HT.out.below HB.out) HE.out).mono ?_; rintro e W_ ⟨gw, gm, At, ct, rfl, hwk, hb⟩; replace BKg1 := Aside0.mk (blk_below BKg1.out hb); replace BKg2 := Aside0.mk (blk_below BKg2.out hb); replace HB := Aside0.mk (below_step HB.out hb); try (clear hcz0 hcz1 hcz2); have HK := Aside0.mk hwk; clear hb hwk)) | (go_at_call 71; go_must (refine (bounds_lost 0 HK.out (HT.out.below HB.out).r1 HN1.out HTN.out HTL.out).mono ?_; rintro e W_ ⟨rfl, hb⟩; replace BKg1 := Aside0.mk (blk_below BKg1.out hb); replace BKg2 := Aside0.mk (blk_below BKg2.out hb); replace HB := Aside0.mk (below_step HB.out hb); have hcx0 := sc 0 BKg2; have hcx1 := sc 1 BKg2; have hf0 := blk_frozen BKg2.out 0; have hf1 := blk_frozen BKg2.out 1; generalize hrl : (boundsL (fun x => lostN l1 (pad x)) (truthsL l0 l1 wg)).1 = rl at *; generalize hrh : (boundsL (fun x => lostN l1 (pad x)) (truthsL l0 l1 wg)).2 = rh at *; clear hb)))
 have hbk := blk_put (blk_put BKg2.out 0 (.int .i64 rl) rfl) 1 (.int .i64 rh) rfl
 have h0 := (blk_cell hbk 0)
 have h1 := (blk_cell hbk 1)
 refine bodyPost_ret (v := .tuple #[.agg #[.int .i64 rl, .int .i64 rh], .int .i64 0]) (by simp [results, Try.f37, go_sem, h0, h1]) rfl ?_
 exact ⟨by rw [hrl, hrh], (HB.out.setCell (p := ⟨g2, 0, none⟩) GEg2.out _).setCell (p := ⟨g2, 1, none⟩) GEg2.out _⟩
end Go.Proofs.Ytnbbbeghgomnoaa.X
namespace Go.Proofs.Ytnbbbeghgomnoaa.X
open Go.RowKit Go.Proofs.YtnbbbeghgomnoaaW.PrintWords Go.Proofs.YtnbbbeghgomnoaaW.PrintLast Go.Proofs.YtnbbbeghgomnoaaW.PrintMore
set_option maxHeartbeats 4000000 in
set_option maxRecDepth 100000 in
theorem Misses_e {A0 : Option Addr} {c0 : Nat} {l0 : List S109} {A1 : Option Addr} {c1 : Nat} {l1 : List S110} (wg : Int) {w : World} (ht : Tab A0 c0 l0 A1 c1 l1 w) (he : askE l0 l1 wg ≠ 0) :
  Calls Try.prog 27 #[.agg #[.slice A0 l0.length c0, .slice A1 l1.length c1, .int .i64 wg]] w fun e w' => e = .returned (.tuple #[.slice none 0 0, .int .i64 (askE l0 l1 wg)]) ∧ Below w.heap.size w w' := by
 have hu35 := Try.underlying35
 have hu55 := Try.underlying55
 have HT := Aside0.mk ht
 have HE := Aside0.mk he
 clear ht he
 have HB := Aside0.mk (Below.refl w.heap.size w)
 go_enter Try.func27, Try.ntmps27
 go_wp2_with (first | ((with_reducible refine gate_dst (N := 1) rfl ?_); refine sbox (N := 1) #[.slice A0 l0.length c0, .slice A1 l1.length c1, .int .i64 wg] 35 ?_; intro g1 hg W_ hbox hb; have GEg1 := Aside0.mk (by rw [hg]; exact HB.out.size : w.heap.size ≤ g1); replace HB := Aside0.mk (below_step HB.out hb); have BKg1 := Aside0.mk hbox; clear hb hbox hg; have hcz0 := sc 0 BKg1; have hcz1 := sc 1 BKg1; have hcz2 := sc 2 BKg1) | (go_at_call 68; go_must (refine (asked_e wg (HT.out.below HB.out) HE.out).mono ?_; rintro e W_ ⟨rfl, hb⟩; replace BKg1 := Aside0.mk (blk_below BKg1.out hb); replace HB := Aside0.mk (below_step HB.out hb); try (clear hcz0 hcz1 hcz2); clear hb; have he := HE.out; generalize hec : askE l0 l1 wg = ec at *; have hne : (ec == (0 : Int)) = false := (by simpa using he))))
 go_ret2
 exact ⟨by rw [hec]; rfl, HB.out⟩
end Go.Proofs.Ytnbbbeghgomnoaa.X
namespace Go.Proofs.Ytnbbbeghgomnoaa.X
open Go.RowKit Go.Proofs.YtnbbbeghgomnoaaW.PrintWords Go.Proofs.YtnbbbeghgomnoaaW.PrintLast Go.Proofs.YtnbbbeghgomnoaaW.PrintMore
def verdL (r : Int × Int) : Int := if 0 < r.1 then 1 else if r.2 = 0 then 2 else 3
def missL (l1 : List S110) (ts : List (List Int)) (m : Nat) : List Int := (List.range m).map fun (k : Nat) => verdL (boundsL (fun x => missN l1 (pad x) (k : Int)) ts)
theorem missL_len (l1 : List S110) (ts : List (List Int)) (m : Nat) : (missL l1 ts m).length = m := by simp [missL]
theorem missL_succ (l1 : List S110) (ts : List (List Int)) (m : Nat) : missL l1 ts (m + 1) = missL l1 ts m ++ [verdL (boundsL (fun x => missN l1 (pad x) (m : Int)) ts)] := by
 unfold missL
 rw [List.range_succ, List.map_append]; rfl
set_option maxHeartbeats 4000000 in
set_option maxRecDepth 100000 in
theorem Misses_ok {A0 : Option Addr} {c0 : Nat} {l0 : List S109} {A1 : Option Addr} {c1 : Nat} {l1 : List S110} (wg : Int) {w : World} (ht : Tab A0 c0 l0 A1 c1 l1 w) (he : askE l0 l1 wg = 0) :
  Calls Try.prog 27 #[.agg #[.slice A0 l0.length c0, .slice A1 l1.length c1, .int .i64 wg]] w fun e w' => ∃ v, e = .returned (.tuple #[v, .int .i64 0]) ∧ Kd.R (Kd.int .i64) 3 w' w.heap.size (fun _ => True) v (missL l1 (truthsL l0 l1 wg) l0.length) ∧ Below w.heap.size w w' := by
 have hu35 := Try.underlying35
 have hu55 := Try.underlying55
 have HT := Aside0.mk ht
 have HE := Aside0.mk he
 clear ht he
 obtain ⟨hck, htn⟩ := askE_zero HE.out
 have HTN := Aside0.mk htn
 have HN0 := Aside0.mk (checkT_zero hck).n0
 have HN1 := Aside0.mk (checkT_zero hck).n1
 have HTL := Aside0.mk (truths_len wg (checkT_zero hck).n0 (checkT_zero hck).n1)
 clear hck htn
 have HB := Aside0.mk (Below.refl w.heap.size w)
 go_enter Try.func27, Try.ntmps27
 go_wp2_with (first | ((with_reducible refine gate_dst (N := 1) rfl ?_); refine sbox (N := 1) #[.slice A0 l0.length c0, .slice A1 l1.length c1, .int .i64 wg] 35 ?_; intro g1 hg W_ hbox hb; have GEg1 := Aside0.mk (by rw [hg]; exact HB.out.size : w.heap.size ≤ g1); replace HB := Aside0.mk (below_step HB.out hb); have BKg1 := Aside0.mk hbox; clear hb hbox hg; have hcz0 := sc 0 BKg1; have hcz1 := sc 1 BKg1; have hcz2 := sc 2 BKg1) | (go_at_call 68; go_must (refine (asked_ok wg (HT.out.below HB.out) HE.out).mono ?_; rintro e W_ ⟨gw, gm, At, ct, rfl, hwk, hb⟩; replace BKg1 := Aside0.mk (blk_below BKg1.out hb); replace HB := Aside0.mk (below_step HB.out hb); try (clear hcz0 hcz1 hcz2); have HK := Aside0.mk hwk; clear hb hwk; have hcz0 := sc 0 BKg1; have hcz1 := sc 1 BKg1; have hcz2 := sc 2 BKg1)))
 obtain ⟨W1, hW1⟩ : ∃ W1 : World, W1 = W_ := ⟨_, rfl⟩
 subst hW1
 clear hcz0 hcz1 hcz2
 have HZ1 := Aside0.mk HB.out.size
 go_loopg [6, 21] l0.length (fun kq v6 v21 w' => ∃ m : Nat, v21 = .int .i64 (m : Int) ∧ Aside0 (m + kq = l0.length) ∧ Aside0 (Kd.R (Kd.int .i64) 3 w' W1.heap.size (fun _ => True) v6 (missL l1 (truthsL l0 l1 wg) m)) ∧ Aside0 (Below W1.heap.size W1 w'))
 case atStart => exact ⟨0, rfl, ⟨Nat.zero_add _⟩, ⟨Kd.R_nil _ _ _ _ _⟩, ⟨Below.refl _ _⟩⟩
 case round =>
  obtain ⟨m, rfl, HM, HO, HB1⟩ := hrel
  have hn0 := HN0.out
  by_cases hlt : m < l0.length
  ·cases gk with
   | zero => have := HM.out; omega
   | succ k1 =>
   obtain ⟨r, hr⟩ : ∃ r, boundsL (fun x => missN l1 (pad x) (m : Int)) (truthsL l0 l1 wg) = r := ⟨_, rfl⟩
   have HVD := Aside0.mk (show verdL (boundsL (fun x => missN l1 (pad x) (m : Int)) (truthsL l0 l1 wg)) = verdL r from by rw [hr])
   have HRR := Aside0.mk hr
   clear hr
   obtain ⟨rl, rh⟩ := r
   by_cases h1 : 0 < rl
   ·have h1d : decide (0 < rl) = true := by simpa using h1
    have HV := Aside0.mk (show verdL (rl, rh) = 1 from by unfold verdL; rw [if_pos h1])
    go_wp2_with (first | (go_at_call 71; go_must (refine (bounds_missed (m : Int) (HK.out.below HB1.out) (Kd.C_below HT.out.r1 (below_step HB.out HB1.out)) HN1.out HTN.out HTL.out).mono ?_; rintro e W_ ⟨rfl, hb⟩; replace HB1 := Aside0.mk (below_step HB1.out hb); replace HO := Aside0.mk (Kd.R_below HO.out hb); clear hb; rw [HRR.out])) | ((with_reducible refine gate_builtin (b := .append) (xs := #[.tmp 36, .tmp 38]) rfl ?_); go_must (at_builtin; refine Kd.R_append (Kd.int .i64) (w0 := W1) W1.heap.size rfl (.tmp 36) (.tmp 38) 39 3 (.int .i64 0) 8 rfl Try.underlying39 info3 rfl (by decide) (by omega) u6 (missL l1 (truthsL l0 l1 wg) m) 1 [.int .i64 (1)] (fun _ => True) (fun _ => False) rfl (congrArg (fun n => Value.slice (some ⟨n, 0, none⟩) 1 1) (World.size_alloc _ _).symm) ?aP (fun _ hk => hk.elim) ?aF ?aO ?aB ?aS ?aL ?_; (case aP => exact rfl); (case aB => exact (by repeat (first | exact HB1.out | apply below_alloc | apply pw_below_drewN | apply below_drew1))); (case aF => exact (fun _ _ => trivial)); (case aO => exact (sR HO)); (case aS => exact (by repeat (first | exact HB1.out | apply below_alloc | apply pw_below_drewN | apply below_drew1) : Below W1.heap.size W1 _).size); (case aL => exact (by rw [missL_len]; omega)); intro v39 W_ ho hb hg hat; have HO_ := Aside0.mk ho; have HB_ := Aside0.mk hb; clear ho hb hg hat HO HB1; have HO := HO_; have HB1 := HB_; clear HO_ HB_)))
    go_roundg k1
    case measure => omega
    case rel => exact ⟨m + 1, by go_num, ⟨by have := HM.out; omega⟩, ⟨by rw [missL_succ, HVD.out, HV.out]; exact HO.out⟩, HB1⟩
   ·have h1d : decide (0 < rl) = false := by simpa using h1
    by_cases h2 : rh = 0
    ·have h2d : (rh == 0) = true := by simpa using h2
     have HV := Aside0.mk (show verdL (rl, rh) = 2 from by unfold verdL; rw [if_neg h1, if_pos h2])
     go_wp2_with (first | (go_at_call 71; go_must (refine (bounds_missed (m : Int) (HK.out.below HB1.out) (Kd.C_below HT.out.r1 (below_step HB.out HB1.out)) HN1.out HTN.out HTL.out).mono ?_; rintro e W_ ⟨rfl, hb⟩; replace HB1 := Aside0.mk (below_step HB1.out hb); replace HO := Aside0.mk (Kd.R_below HO.out hb); clear hb; rw [HRR.out])) | ((with_reducible refine gate_builtin (b := .append) (xs := #[.tmp 36, .tmp 38]) rfl ?_); go_must (at_builtin; refine Kd.R_append (Kd.int .i64) (w0 := W1) W1.heap.size rfl (.tmp 36) (.tmp 38) 39 3 (.int .i64 0) 8 rfl Try.underlying39 info3 rfl (by decide) (by omega) u6 (missL l1 (truthsL l0 l1 wg) m) 2 [.int .i64 (2)] (fun _ => True) (fun _ => False) rfl (congrArg (fun n => Value.slice (some ⟨n, 0, none⟩) 1 1) (World.size_alloc _ _).symm) ?aP (fun _ hk => hk.elim) ?aF ?aO ?aB ?aS ?aL ?_; (case aP => exact rfl); (case aB => exact (by repeat (first | exact HB1.out | apply below_alloc | apply pw_below_drewN | apply below_drew1))); (case aF => exact (fun _ _ => trivial)); (case aO => exact (sR HO)); (case aS => exact (by repeat (first | exact HB1.out | apply below_alloc | apply pw_below_drewN | apply below_drew1) : Below W1.heap.size W1 _).size); (case aL => exact (by rw [missL_len]; omega)); intro v39 W_ ho hb hg hat; have HO_ := Aside0.mk ho; have HB_ := Aside0.mk hb; clear ho hb hg hat HO HB1; have HO := HO_; have HB1 := HB_; clear HO_ HB_)))
     go_roundg k1
     case measure => omega
     case rel => exact ⟨m + 1, by go_num, ⟨by have := HM.out; omega⟩, ⟨by rw [missL_succ, HVD.out, HV.out]; exact HO.out⟩, HB1⟩
    ·have h2d : (rh == 0) = false := by simpa using h2
     have HV := Aside0.mk (show verdL (rl, rh) = 3 from by unfold verdL; rw [if_neg h1, if_neg h2])
     go_wp2_with (first | (go_at_call 71; go_must (refine (bounds_missed (m : Int) (HK.out.below HB1.out) (Kd.C_below HT.out.r1 (below_step HB.out HB1.out)) HN1.out HTN.out HTL.out).mono ?_; rintro e W_ ⟨rfl, hb⟩; replace HB1 := Aside0.mk (below_step HB1.out hb); replace HO := Aside0.mk (Kd.R_below HO.out hb); clear hb; rw [HRR.out])) | ((with_reducible refine gate_builtin (b := .append) (xs := #[.tmp 36, .tmp 38]) rfl ?_); go_must (at_builtin; refine Kd.R_append (Kd.int .i64) (w0 := W1) W1.heap.size rfl (.tmp 36) (.tmp 38) 39 3 (.int .i64 0) 8 rfl Try.underlying39 info3 rfl (by decide) (by omega) u6 (missL l1 (truthsL l0 l1 wg) m) 3 [.int .i64 (3)] (fun _ => True) (fun _ => False) rfl (congrArg (fun n => Value.slice (some ⟨n, 0, none⟩) 1 1) (World.size_alloc _ _).symm) ?aP (fun _ hk => hk.elim) ?aF ?aO ?aB ?aS ?aL ?_; (case aP => exact rfl); (case aB => exact (by repeat (first | exact HB1.out | apply below_alloc | apply pw_below_drewN | apply below_drew1))); (case aF => exact (fun _ _ => trivial)); (case aO => exact (sR HO)); (case aS => exact (by repeat (first | exact HB1.out | apply below_alloc | apply pw_below_drewN | apply below_drew1) : Below W1.heap.size W1 _).size); (case aL => exact (by rw [missL_len]; omega)); intro v39 W_ ho hb hg hat; have HO_ := Aside0.mk ho; have HB_ := Aside0.mk hb; clear ho hb hg hat HO HB1; have HO := HO_; have HB1 := HB_; clear HO_ HB_)))
     go_roundg k1
     case measure => omega
     case rel => exact ⟨m + 1, by go_num, ⟨by have := HM.out; omega⟩, ⟨by rw [missL_succ, HVD.out, HV.out]; exact HO.out⟩, HB1⟩
  ·go_wp2
   go_ret2
   obtain rfl : m = l0.length := by have := HM.out; omega
   exact ⟨_, rfl, Kd.R_lower HO.out HZ1.out, below_step HB.out HB1.out⟩
end Go.Proofs.Ytnbbbeghgomnoaa.X
namespace Go.Proofs.Ytnbbbeghgomnoaa.X
open Go.RowKit Go.Proofs.YtnbbbeghgomnoaaW.PrintWords Go.Proofs.YtnbbbeghgomnoaaW.PrintLast Go.Proofs.YtnbbbeghgomnoaaW.PrintMore
def mostL (n1 : Nat) (ts : List (List Int)) (i : Int) (m : Nat) : Int := (List.range m).foldl (fun a (k : Nat) => mx a (manyS n1 ts i (k : Int))) 0
theorem mostL_succ (n1 : Nat) (ts : List (List Int)) (i : Int) (m : Nat) : mostL n1 ts i (m + 1) = mx (mostL n1 ts i m) (manyS n1 ts i (m : Int)) := by
 unfold mostL
 rw [List.range_succ, List.foldl_append]; rfl
def lookL (n0 n1 : Nat) (ts : List (List Int)) (m : Nat) : Int × Int := (List.range m).foldl (fun r (i : Nat) => if mostL n1 ts (i : Int) n0 < r.2 then ((i : Int), mostL n1 ts (i : Int) n0) else r) (0, (ts.length : Int) + 1)
theorem lookL_succ (n0 n1 : Nat) (ts : List (List Int)) (m : Nat) : lookL n0 n1 ts (m + 1) = if mostL n1 ts (m : Int) n0 < (lookL n0 n1 ts m).2 then ((m : Int), mostL n1 ts (m : Int) n0) else lookL n0 n1 ts m := by
 unfold lookL
 rw [List.range_succ, List.foldl_append]; rfl
attribute [local go_sem] max2_int min2_int max_two min_two
set_option maxHeartbeats 4000000 in
set_option maxRecDepth 100000 in
theorem Look_ok {A0 : Option Addr} {c0 : Nat} {l0 : List S109} {A1 : Option Addr} {c1 : Nat} {l1 : List S110} (wg : Int) {w : World} (ht : Tab A0 c0 l0 A1 c1 l1 w) (he : askE l0 l1 wg = 0) (hp : l1.length ≠ 0) :
  Calls Try.prog 29 #[.agg #[.slice A0 l0.length c0, .slice A1 l1.length c1, .int .i64 wg]] w fun e w' => e = .returned (.tuple #[.int .i64 (lookL l0.length l1.length (truthsL l0 l1 wg) l1.length).1, .int .i64 (lookL l0.length l1.length (truthsL l0 l1 wg) l1.length).2, .int .i64 0]) ∧ Below w.heap.size w w' := by
 have hu35 := Try.underlying35
 have hu55 := Try.underlying55
 have HT := Aside0.mk ht
 have HE := Aside0.mk he
 have hpd : ((l1.length : Int) == 0) = false := (by simp; intro h; exact hp (by rw [h]; rfl))
 clear ht he hp
 obtain ⟨hck, htn⟩ := askE_zero HE.out
 have HTN := Aside0.mk htn
 have HN0 := Aside0.mk (checkT_zero hck).n0
 have HN1 := Aside0.mk (checkT_zero hck).n1
 have HTL := Aside0.mk (truths_len wg (checkT_zero hck).n0 (checkT_zero hck).n1)
 clear hck htn
 have HB := Aside0.mk (Below.refl w.heap.size w)
 go_enter Try.func29, Try.ntmps29
 go_wp2_with (first | ((with_reducible refine gate_dst (N := 1) rfl ?_); refine sbox (N := 1) #[.slice A0 l0.length c0, .slice A1 l1.length c1, .int .i64 wg] 35 ?_; intro g1 hg W_ hbox hb; have GEg1 := Aside0.mk (by rw [hg]; exact HB.out.size : w.heap.size ≤ g1); replace HB := Aside0.mk (below_step HB.out hb); have BKg1 := Aside0.mk hbox; clear hb hbox hg; have hcz0 := sc 0 BKg1; have hcz1 := sc 1 BKg1; have hcz2 := sc 2 BKg1) | (go_at_call 68; go_must (refine (asked_ok wg (HT.out.below HB.out) HE.out).mono ?_; rintro e W_ ⟨gw, gm, At, ct, rfl, hwk, hb⟩; replace BKg1 := Aside0.mk (blk_below BKg1.out hb); replace HB := Aside0.mk (below_step HB.out hb); try (clear hcz0 hcz1 hcz2); have HK := Aside0.mk hwk; obtain ⟨nt, hnt⟩ : ∃ nt : Nat, (truthsL l0 l1 wg).length = nt := ⟨_, rfl⟩; have hct : W_.cell? ⟨gw, 3, none⟩ = some (.slice At nt ct) := (blk_cell hwk.kw 3).trans (by rw [← hnt]; rfl); have hcm : W_.cell? ⟨gw, 4, none⟩ = some (.map (some gm)) := (blk_cell hwk.kw 4).trans rfl; have hntl : nt ≤ 78125 := (by rw [← hnt]; exact HTL.out); have HNT := Aside0.mk hnt; clear hnt; clear hb hwk; have hcz0 := sc 0 BKg1; have hcz1 := sc 1 BKg1; have hcz2 := sc 2 BKg1)))
 obtain ⟨W1, hW1⟩ : ∃ W1 : World, W1 = W_ := ⟨_, rfl⟩
 subst hW1
 have hn1 := HN1.out
 have hn0 := HN0.out
 go_loopg [2, 3, 30] l1.length (fun kq v2 v3 v30 w' => ∃ m : Nat, v30 = .int .i64 (m : Int) ∧ v2 = .int .i64 (lookL l0.length l1.length (truthsL l0 l1 wg) m).1 ∧ v3 = .int .i64 (lookL l0.length l1.length (truthsL l0 l1 wg) m).2 ∧ Aside0 (m + kq = l1.length) ∧ w' = W1)
 case atStart => exact ⟨0, rfl, rfl, (by rw [show (lookL l0.length l1.length (truthsL l0 l1 wg) 0).2 = (nt : Int) + 1 from by rw [← HNT.out]; rfl]), ⟨Nat.zero_add _⟩, rfl⟩
 case round =>
  obtain ⟨m, rfl, rfl, rfl, HM, hw_⟩ := hrel
  subst hw_
  have HLS := Aside0.mk (lookL_succ l0.length l1.length (truthsL l0 l1 wg) m)
  generalize hlk : lookL l0.length l1.length (truthsL l0 l1 wg) m = lk at *
  have HLK := Aside0.mk hlk
  clear hlk
  obtain ⟨lp, ll⟩ := lk
  dsimp only
  by_cases hlt : m < l1.length
  ·cases gk with
   | zero => have := HM.out; omega
   | succ k1 =>
   go_wp2
   go_loopg [7, 36] l0.length (fun kq v7 v36 w' => ∃ k : Nat, v36 = .int .i64 (k : Int) ∧ v7 = .int .i64 (mostL l1.length (truthsL l0 l1 wg) (m : Int) k) ∧ Aside0 (k + kq = l0.length) ∧ w' = wr)
   case atStart => exact ⟨0, rfl, rfl, ⟨Nat.zero_add _⟩, rfl⟩
   case round =>
    obtain ⟨k, rfl, rfl, HM2, hw_⟩ := hrel
    subst hw_
    have HMS := Aside0.mk (mostL_succ l1.length (truthsL l0 l1 wg) (m : Int) k)
    generalize hml : mostL l1.length (truthsL l0 l1 wg) (m : Int) k = ml at *
    have HML := Aside0.mk hml
    clear hml
    by_cases hlt2 : k < l0.length
    ·cases gk with
     | zero => have := HM2.out; omega
     | succ k2 =>
     obtain ⟨L, hmp, hgl⟩ := HK.out.mp
     have hlu := lookup_run wr gm L ((m : Int), (k : Int)) hmp
     rw [hgl] at hlu
     unfold spv at hlu
     dsimp only at hlu
     generalize manyS l1.length (truthsL l0 l1 wg) (m : Int) (k : Int) = cv at *
     obtain ⟨mm, hmm⟩ : ∃ mm, (if ml < cv then cv else ml) = mm := ⟨_, rfl⟩
     have HMM := Aside0.mk hmm
     clear hmp hgl
     go_wp2
     go_roundg k2
     case measure => omega
     case rel => exact ⟨k + 1, by go_num, by rw [HMS.out, show mx ml cv = mm from HMM.out], ⟨by have := HM2.out; omega⟩, rfl⟩
    ·obtain rfl : k = l0.length := by have := HM2.out; omega
     by_cases hl : ml < ll
     ·have hld : decide (ml < ll) = true := by simpa using hl
      go_wp2
      go_roundg k1
      case measure => omega
      case rel => exact ⟨m + 1, by go_num, by rw [HLS.out, HML.out, if_pos hl], by rw [HLS.out, HML.out, if_pos hl], ⟨by have := HM.out; omega⟩, rfl⟩
     ·have hld : decide (ml < ll) = false := by simpa using hl
      have HLL := Aside0.mk hl
      clear hl
      go_wp2
      go_roundg k1
      case measure => omega
      case rel => exact ⟨m + 1, by go_num, by rw [HLS.out, HML.out, if_neg (by have := HLL.out; omega)], by rw [HLS.out, HML.out, if_neg (by have := HLL.out; omega)], ⟨by have := HM.out; omega⟩, rfl⟩
  ·go_wp2
   go_ret3
   obtain rfl : m = l1.length := by have := HM.out; omega
   exact ⟨by rw [HLK.out]; rfl, HB.out⟩
end Go.Proofs.Ytnbbbeghgomnoaa.X
