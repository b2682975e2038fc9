/-
  Words and walks of the wash-house's bundles, part 2 of 5: what all these proofs lean on.
-/
import Derived.Test.YtnbbbeghgomnoaaQBase01
set_option linter.unusedVariables false
set_option linter.unusedSimpArgs false
namespace Go.Proofs.Ytnbbbeghgomnoaa.X
open Go.RowKit Go.Proofs.YtnbbbeghgomnoaaW.PrintWords Go.Proofs.YtnbbbeghgomnoaaW.PrintLast Go.Proofs.YtnbbbeghgomnoaaW.PrintMore
def ownB (l0 : List S109) (l1 : List S110) (l : List Int) (m : Nat) : Bool := (List.range m).all fun i => (ofL l0 (l1.getD i z110).f0).contains (l.getD i 0)
theorem ownB_succ (l0 : List S109) (l1 : List S110) (l : List Int) (m : Nat) : ownB l0 l1 l (m + 1) = (ownB l0 l1 l m && (ofL l0 (l1.getD m z110).f0).contains (l.getD m 0)) := by
 unfold ownB
 rw [List.range_succ, List.all_append]
 simp
def areB (l0 : List S109) (l1 : List S110) (l : List Int) : Bool := decide (l.length = l1.length) && ownB l0 l1 l l.length
theorem ownB_false (l0 : List S109) (l1 : List S110) (l : List Int) (m n : Nat) (h : m < n) (hm : (ofL l0 (l1.getD m z110).f0).contains (l.getD m 0) = false) : ownB l0 l1 l n = false := by
 unfold ownB
 rw [List.all_eq_false]
 exact ⟨m, by simpa using h, by rw [hm]; decide⟩
set_option maxHeartbeats 2000000 in
set_option maxRecDepth 100000 in
theorem listed_calls (A0 : Option Addr) (c0 : Nat) (l0 : List S109) (A1 : Option Addr) (c1 : Nat) (l1 : List S110) (wg : Int) (Al : Option Addr) (cl : Nat) (l : List Int) (w : World)
  (hr0 : Kd.C k109 w A0 l0.length l0) (hc0 : l0.length ≤ c0) (hr1 : Kd.C k110 w A1 l1.length l1) (hc1 : l1.length ≤ c1) (hrl : Kd.C (Kd.int .i64) w Al l.length l) (hcl : l.length ≤ cl)
  (hn0 : l0.length ≤ 30) (hn1 : l1.length ≤ 7) (hms : ∀ p ∈ l1, p.f0.length ≤ 30) (hll : l.length ≤ 4611686018427387904) :
  Calls Try.prog 83 #[.agg #[.slice A0 l0.length c0, .slice A1 l1.length c1, .int .i64 wg], .slice Al l.length cl] w fun e w' => ∃ o : Nat → Int, e = .returned (.tuple #[.agg (ac o), .bool (areB l0 l1 l)]) ∧ (areB l0 l1 l = true → ∀ i, i < l.length → o i = l.getD i 0) ∧ (∀ i, l.length ≤ i → o i = 0) ∧ Below w.heap.size w w' := by
 have hu35 := Try.underlying35
 have hu110 := Try.underlying110
 have hu121 := Try.underlying121
 have HN0 := Aside0.mk hn0
 have HN1 := Aside0.mk hn1
 have HR0 := Aside0.mk hr0
 have HC0 := Aside0.mk hc0
 have HR1 := Aside0.mk hr1
 have HC1 := Aside0.mk hc1
 have HRL := Aside0.mk hrl
 have HMS := Aside0.mk hms
 clear hr0 hc0 hr1 hc1 hrl hms
 have HB := Aside0.mk (Below.refl w.heap.size w)
 by_cases hlen : l.length = l1.length
 ·have hq : ((l.length : Int) != (l1.length : Int)) = false := by rw [hlen]; simp
  have hq2 : ((l.length : Int) == (l1.length : Int)) = true := by rw [hlen]; simp
  have hq3 : (l.length == l1.length) = true := by rw [hlen]; simp
  have hq4 : (l.length != l1.length) = false := by rw [hlen]; simp
  have HLEN := Aside0.mk hlen
  clear hlen
  go_enter Try.func83, Try.ntmps83
  go_wp2_with (first | ((with_reducible refine gate_dst (N := 2) rfl ?_); refine sbox (N := 2) #[.slice A0 l0.length c0, .slice A1 l1.length c1, .int .i64 wg] 35 ?_; intro g2 hg W_ hbox hb; have GEg2 := Aside0.mk (by rw [hg]; exact HB.out.size : w.heap.size ≤ g2); replace HB := Aside0.mk (below_step HB.out hb); have BKg2 := Aside0.mk hbox; clear hb hbox hg) | ((with_reducible refine gate_dst (N := 4) rfl ?_); refine sbox (N := 4) #[.int .i64 0, .int .i64 0, .int .i64 0, .int .i64 0, .int .i64 0, .int .i64 0, .int .i64 0] 121 ?_; intro g4 hg W_ hbox hb; have GEg4 := Aside0.mk (by rw [hg]; exact HB.out.size : w.heap.size ≤ g4); replace BKg2 := Aside0.mk (blk_below BKg2.out hb); replace HB := Aside0.mk (below_step HB.out hb); have BKg4 := Aside0.mk hbox; clear hb hbox hg; have hczg2_0 := sc 0 BKg2; have hczg2_1 := sc 1 BKg2; have hczg2_2 := sc 2 BKg2; have NG := Aside0.mk (show g2 ≠ g4 from fun e_ => by have h_ := BKg2.out; have h2_ := BKg4.out; rw [e_] at h_; rw [h_] at h2_; cases h2_); replace BKg4 : Aside0 (W_.heap[g4]? = some (.cells (ac (fun _ => 0)) 121 (0, 0))) := ⟨BKg4.out⟩))
  clear hq hq2 hq3 hq4
  go_loopg [17] l.length (fun kq v17 w' => ∃ (m : Nat) (o : Nat → Int), v17 = .int .i64 (m : Int) ∧ Aside0 (m + kq = l.length) ∧ Aside0 (ownB l0 l1 l m = true) ∧ Aside0 (∀ i, i < m → o i = l.getD i 0) ∧ Aside0 (∀ i, m ≤ i → o i = 0) ∧ Aside0 (w'.heap[g2]? = some (.cells #[.slice A0 l0.length c0, .slice A1 l1.length c1, .int .i64 wg] 35 (0, 0))) ∧ Aside0 (w'.heap[g4]? = some (.cells (ac o) 121 (0, 0))) ∧ Aside0 (Below w.heap.size w w'))
  case atStart => exact ⟨0, fun _ => 0, rfl, ⟨Nat.zero_add _⟩, ⟨rfl⟩, ⟨fun i h => absurd h (by omega)⟩, ⟨fun _ _ => rfl⟩, BKg2, BKg4, HB⟩
  case round =>
   clear BKg2 BKg4 HB
   obtain ⟨m, o, rfl, HM, HOB, HOI, HOZ, BKg2, BKg4, HB⟩ := hrel
   by_cases hlt : m < l.length
   ·cases gk with
    | zero => have := HM.out; omega
    | succ k1 =>
    have hlt1 : m < l1.length := by have := HLEN.out; omega
    have hm7 : m < 7 := by have := HN1.out; omega
    obtain ⟨adl, el, hxl⟩ := Kd.at_int (Kd.C_below HRL.out HB.out) (m : Int) (by omega) (by omega)
    cases el
    rw [rd_nat] at hxl
    generalize hxm : l.getD m 0 = xm at hxl
    have HXM := Aside0.mk hxm
    obtain ⟨ad1, A6, c6, e1, hx1_0, hx1_1, hl1, hi1⟩ := at_T110 (Kd.C_below HR1.out HB.out) (m : Int) (by omega) (by omega)
    cases e1
    have hrd : rd_T110 l1 (m : Int) = l1.getD m z110 := rfl
    rw [hrd] at hx1_0 hx1_1 hl1 hi1
    have hz30 : (l1.getD m z110).f0.length ≤ 30 := by
     rw [List.getD_eq_getElem?_getD, List.getElem?_eq_getElem hlt1]
     exact HMS.out _ (List.getElem_mem hlt1)
    clear hrd
    generalize hz : l1.getD m z110 = z at hx1_0 hx1_1 hl1 hi1 hz30
    have HZ := Aside0.mk hz
    simp only [Int.toNat_natCast] at hxl hx1_0 hx1_1
    obtain ⟨kof, hkof⟩ := of_ev l0 l1 wg z.f0 z.f1 HN0.out hz30
    have HKOF := Aside0.mk (hkof kof (Nat.le_refl _))
    obtain ⟨kct, hkct⟩ := contains_ev (ofL l0 z.f0) xm (by have := sel_le (fun j => z.f0.contains (l0.getD j z109).f0) l0.length; have := HN0.out; unfold ofL; omega)
    have HKCT := Aside0.mk (hkct kct (Nat.le_refl _))
    have HL1 := Aside0.mk hl1
    have HI1 := Aside0.mk hi1
    have hcz0 := sc 0 BKg2
    have hcz1 := sc 1 BKg2
    have hcz2 := sc 2 BKg2
    clear hz hkof hkct hl1 hi1 hz30 hxm
    by_cases hct : (ofL l0 z.f0).contains xm = true
    ·rw [hct] at HKCT
     have HCT := Aside0.mk hct
     clear hct
     go_wp2
     refine start_ (n := 10) (S := fun w' => w'.cell? ⟨g2, 0, none⟩ = some (.slice A0 l0.length c0) ∧ w'.cell? ⟨g2, 1, none⟩ = some (.slice (some ad1) l1.length c1) ∧ w'.cell? ⟨g2, 2, none⟩ = some (.int .i64 wg) ∧ w'.cell? (ad1.add (m * 2)) = some (.slice A6 z.f0.length c6) ∧ w'.cell? ⟨(ad1.add (m * 2)).block, (ad1.add (m * 2)).off + 1, none⟩ = some (.int .i64 z.f1)) (ds := []) (lm 10 0) (by kernel_rfl) rfl (by kernel_rfl) ⟨hcz0, hcz1, hcz2, hx1_0, hx1_1⟩ (fun hHeld => ?_)
     replace HB := Aside0.mk (below_drew1 HB.out)
     replace BKg2 := Aside0.mk (blk_drew BKg2.out)
     replace BKg4 := Aside0.mk (blk_drew BKg4.out)
     replace HI1 := Aside0.mk (Kd.C_drew HI1.out)
     replace hcz0 := (show wr.drew.cell? _ = _ from hcz0)
     replace hcz1 := (show wr.drew.cell? _ = _ from hcz1)
     replace hcz2 := (show wr.drew.cell? _ = _ from hcz2)
     replace hx1_0 := (show wr.drew.cell? _ = _ from hx1_0)
     replace hx1_1 := (show wr.drew.cell? _ = _ from hx1_1)
     generalize wr.drew = W2 at *
     refine sP (i := 1) (N := some 23) (lm 10 2) ?_
     refine sP (i := 3) (N := some 25) (lm 10 10) ?_
     refine sP (i := 7) (N := some 29) (lm 10 138) ?_
     refine take_ (i := 0) (N := some 22) (v := ?_) (a' := ?_) (lm 10 139) rfl rfl (by kernel_rfl) (fun _ _ _ h => h) (Or.inl ⟨by rfl, ?_⟩) hHeld ?_ ?_
     rotate_left
     ·rintro w' ⟨s0, s1, s2, s3, s4⟩
      go_simp
      with_reducible rfl
     rotate_left
     ·simp only [Act.put, List.setIfInBounds_toArray, List.set_cons_zero, List.set_cons_succ, i64_w, i32_w]
      rfl
     refine take_ (i := 2) (N := some 24) (v := ?_) (a' := ?_) (lm 10 143) rfl rfl (by kernel_rfl) (fun _ _ _ h => h) (Or.inl ⟨by rfl, ?_⟩) hHeld ?_ ?_
     rotate_left
     ·rintro w' ⟨s0, s1, s2, s3, s4⟩
      go_simp
      with_reducible rfl
     rotate_left
     ·simp only [Act.put, List.setIfInBounds_toArray, List.set_cons_zero, List.set_cons_succ, i64_w, i32_w]
      rfl
     refine sP (i := 4) (N := some 26) (lm 10 159) ?_
     refine take_ (i := 5) (N := some 27) (v := ?_) (a' := ?_) (lm 10 191) rfl rfl (by kernel_rfl) (fun _ _ _ h => h) (Or.inl ⟨by rfl, ?_⟩) hHeld ?_ ?_
     rotate_left
     ·rintro w' ⟨s0, s1, s2, s3, s4⟩
      go_simp
      with_reducible rfl
     rotate_left
     ·simp only [Act.put, List.setIfInBounds_toArray, List.set_cons_zero, List.set_cons_succ, i64_w, i32_w]
      rfl
     refine one_ (i := 6) (N := some 28) (lm 10 255) rfl rfl (by kernel_rfl) (by decide) (fun K hK => ?_)
     refine goes_ Try.func93 (by kernel_rfl) rfl #[.agg #[.slice A0 l0.length c0, .slice (some ad1) l1.length c1, .int .i64 wg], .agg #[.slice A6 z.f0.length c6, .int .i64 z.f1]] (by rfl) rfl rfl (by simp only [List.map_toArray, List.map_cons, List.map_nil]; rfl) ?_
     with_reducible refine (bundle_Table_of.calls kof A0 c0 l0 (some ad1) c1 l1 wg A6 c6 z.f0 z.f1 (ofL l0 z.f0) _ (Kd.C_below HR0.out HB.out) HC0.out (Kd.C_below HR1.out HB.out) HC1.out HI1.out HL1.out HKOF.out).mono ?_
     rintro e W3 ⟨v28, rfl, ho, hb⟩
     refine ⟨_, rfl, ?_⟩
     replace hcz0 := (hb.cell (World.block_lt_of_cell? _ _ hcz0)).trans hcz0
     replace hcz1 := (hb.cell (World.block_lt_of_cell? _ _ hcz1)).trans hcz1
     replace hcz2 := (hb.cell (World.block_lt_of_cell? _ _ hcz2)).trans hcz2
     replace hx1_0 := (hb.cell (World.block_lt_of_cell? _ _ hx1_0)).trans hx1_0
     replace hx1_1 := (hb.cell (World.block_lt_of_cell? _ _ hx1_1)).trans hx1_1
     replace BKg2 := Aside0.mk (blk_below BKg2.out hb)
     replace BKg4 := Aside0.mk (blk_below BKg4.out hb)
     replace HB := Aside0.mk (below_step HB.out hb)
     have HO28 := Aside0.mk ho
     clear ho hb
     obtain ⟨A28, c28, e28⟩ := Kd.R_slice HO28.out
     subst e28
     refine hK.out _ _ ⟨hcz0, hcz1, hcz2, hx1_0, hx1_1⟩ (fun hHeld => ?_)
     clear hK K
     refine sN ?_
     refine one_ (i := 8) (N := some 30) (lm 10 511) rfl rfl (by kernel_rfl) (by decide) (fun K hK => ?_)
     refine goes_ Try.func100 (by kernel_rfl) rfl #[.slice A28 (ofL l0 z.f0).length c28, .int .i64 xm] (by rfl) rfl rfl (by simp only [List.map_toArray, List.map_cons, List.map_nil]; rfl) ?_
     with_reducible refine (slices_Contains_int_int.calls kct A28 c28 (ofL l0 z.f0) xm true _ (Kd.R_reads' HO28.out).2.2 (Kd.R_reads' HO28.out).2.1 HKCT.out).mono ?_
     rintro e W4 ⟨rfl, ⟨nd, rfl⟩⟩
     refine ⟨_, rfl, ?_⟩
     replace BKg2 := Aside0.mk (blk_drewN BKg2.out nd)
     replace BKg4 := Aside0.mk (blk_drewN BKg4.out nd)
     replace HB := Aside0.mk (pw_below_drewN HB.out nd)
     replace hcz0 := (show (W3.drewN nd).cell? _ = _ from hcz0)
     replace hcz1 := (show (W3.drewN nd).cell? _ = _ from hcz1)
     replace hcz2 := (show (W3.drewN nd).cell? _ = _ from hcz2)
     replace hx1_0 := (show (W3.drewN nd).cell? _ = _ from hx1_0)
     replace hx1_1 := (show (W3.drewN nd).cell? _ = _ from hx1_1)
     refine hK.out _ _ ⟨hcz0, hcz1, hcz2, hx1_0, hx1_1⟩ (fun hHeld => ?_)
     clear hK K
     refine sN ?_
     refine sP (i := 9) (N := some 31) (lm 10 1023) ?_
     refine done_ (by kernel_rfl) ?_
     have hx4 : (W3.drewN nd).cell? ⟨g4, m, none⟩ = some (.int .i64 (o m)) := (blk_cell BKg4.out m).trans (ac_get o m hm7)
     have hf4 := blk_frozen BKg4.out m
     go_wp2
     go_roundg k1
     case measure => omega
     case rel =>
      refine ⟨m + 1, upd o m xm, by go_num, ⟨by have := HM.out; omega⟩, ⟨by rw [ownB_succ, HOB.out, HZ.out, HXM.out, HCT.out]; rfl⟩, ⟨?_⟩, ⟨?_⟩, ⟨blk_far BKg2.out NG.out _⟩, ⟨by rw [← ac_set o m xm hm7]; exact blk_set BKg4.out m _⟩, ⟨HB.out.setCell GEg4.out _⟩⟩
      ·intro i hi
       unfold upd
       by_cases e : i = m
       ·rw [if_pos e, e]; exact HXM.out.symm
       ·rw [if_neg e]; exact HOI.out i (by omega)
      ·intro i hi
       unfold upd
       rw [if_neg (by omega)]
       exact HOZ.out i (by omega)
    ·have hct' : (ofL l0 z.f0).contains xm = false := by simpa using hct
     rw [hct'] at HKCT
     have HCT := Aside0.mk hct'
     clear hct hct'
     go_wp2
     refine start_ (n := 10) (S := fun w' => w'.cell? ⟨g2, 0, none⟩ = some (.slice A0 l0.length c0) ∧ w'.cell? ⟨g2, 1, none⟩ = some (.slice (some ad1) l1.length c1) ∧ w'.cell? ⟨g2, 2, none⟩ = some (.int .i64 wg) ∧ w'.cell? (ad1.add (m * 2)) = some (.slice A6 z.f0.length c6) ∧ w'.cell? ⟨(ad1.add (m * 2)).block, (ad1.add (m * 2)).off + 1, none⟩ = some (.int .i64 z.f1)) (ds := []) (lm 10 0) (by kernel_rfl) rfl (by kernel_rfl) ⟨hcz0, hcz1, hcz2, hx1_0, hx1_1⟩ (fun hHeld => ?_)
     replace HB := Aside0.mk (below_drew1 HB.out)
     replace BKg2 := Aside0.mk (blk_drew BKg2.out)
     replace BKg4 := Aside0.mk (blk_drew BKg4.out)
     replace HI1 := Aside0.mk (Kd.C_drew HI1.out)
     replace hcz0 := (show wr.drew.cell? _ = _ from hcz0)
     replace hcz1 := (show wr.drew.cell? _ = _ from hcz1)
     replace hcz2 := (show wr.drew.cell? _ = _ from hcz2)
     replace hx1_0 := (show wr.drew.cell? _ = _ from hx1_0)
     replace hx1_1 := (show wr.drew.cell? _ = _ from hx1_1)
     generalize wr.drew = W2 at *
     refine sP (i := 1) (N := some 23) (lm 10 2) ?_
     refine sP (i := 3) (N := some 25) (lm 10 10) ?_
     refine sP (i := 7) (N := some 29) (lm 10 138) ?_
     refine take_ (i := 0) (N := some 22) (v := ?_) (a' := ?_) (lm 10 139) rfl rfl (by kernel_rfl) (fun _ _ _ h => h) (Or.inl ⟨by rfl, ?_⟩) hHeld ?_ ?_
     rotate_left
     ·rintro w' ⟨s0, s1, s2, s3, s4⟩
      go_simp
      with_reducible rfl
     rotate_left
     ·simp only [Act.put, List.setIfInBounds_toArray, List.set_cons_zero, List.set_cons_succ, i64_w, i32_w]
      rfl
     refine take_ (i := 2) (N := some 24) (v := ?_) (a' := ?_) (lm 10 143) rfl rfl (by kernel_rfl) (fun _ _ _ h => h) (Or.inl ⟨by rfl, ?_⟩) hHeld ?_ ?_
     rotate_left
     ·rintro w' ⟨s0, s1, s2, s3, s4⟩
      go_simp
      with_reducible rfl
     rotate_left
     ·simp only [Act.put, List.setIfInBounds_toArray, List.set_cons_zero, List.set_cons_succ, i64_w, i32_w]
      rfl
     refine sP (i := 4) (N := some 26) (lm 10 159) ?_
     refine take_ (i := 5) (N := some 27) (v := ?_) (a' := ?_) (lm 10 191) rfl rfl (by kernel_rfl) (fun _ _ _ h => h) (Or.inl ⟨by rfl, ?_⟩) hHeld ?_ ?_
     rotate_left
     ·rintro w' ⟨s0, s1, s2, s3, s4⟩
      go_simp
      with_reducible rfl
     rotate_left
     ·simp only [Act.put, List.setIfInBounds_toArray, List.set_cons_zero, List.set_cons_succ, i64_w, i32_w]
      rfl
     refine one_ (i := 6) (N := some 28) (lm 10 255) rfl rfl (by kernel_rfl) (by decide) (fun K hK => ?_)
     refine goes_ Try.func93 (by kernel_rfl) rfl #[.agg #[.slice A0 l0.length c0, .slice (some ad1) l1.length c1, .int .i64 wg], .agg #[.slice A6 z.f0.length c6, .int .i64 z.f1]] (by rfl) rfl rfl (by simp only [List.map_toArray, List.map_cons, List.map_nil]; rfl) ?_
     with_reducible refine (bundle_Table_of.calls kof A0 c0 l0 (some ad1) c1 l1 wg A6 c6 z.f0 z.f1 (ofL l0 z.f0) _ (Kd.C_below HR0.out HB.out) HC0.out (Kd.C_below HR1.out HB.out) HC1.out HI1.out HL1.out HKOF.out).mono ?_
     rintro e W3 ⟨v28, rfl, ho, hb⟩
     refine ⟨_, rfl, ?_⟩
     replace hcz0 := (hb.cell (World.block_lt_of_cell? _ _ hcz0)).trans hcz0
     replace hcz1 := (hb.cell (World.block_lt_of_cell? _ _ hcz1)).trans hcz1
     replace hcz2 := (hb.cell (World.block_lt_of_cell? _ _ hcz2)).trans hcz2
     replace hx1_0 := (hb.cell (World.block_lt_of_cell? _ _ hx1_0)).trans hx1_0
     replace hx1_1 := (hb.cell (World.block_lt_of_cell? _ _ hx1_1)).trans hx1_1
     replace BKg2 := Aside0.mk (blk_below BKg2.out hb)
     replace BKg4 := Aside0.mk (blk_below BKg4.out hb)
     replace HB := Aside0.mk (below_step HB.out hb)
     have HO28 := Aside0.mk ho
     clear ho hb
     obtain ⟨A28, c28, e28⟩ := Kd.R_slice HO28.out
     subst e28
     refine hK.out _ _ ⟨hcz0, hcz1, hcz2, hx1_0, hx1_1⟩ (fun hHeld => ?_)
     clear hK K
     refine sN ?_
     refine one_ (i := 8) (N := some 30) (lm 10 511) rfl rfl (by kernel_rfl) (by decide) (fun K hK => ?_)
     refine goes_ Try.func100 (by kernel_rfl) rfl #[.slice A28 (ofL l0 z.f0).length c28, .int .i64 xm] (by rfl) rfl rfl (by simp only [List.map_toArray, List.map_cons, List.map_nil]; rfl) ?_
     with_reducible refine (slices_Contains_int_int.calls kct A28 c28 (ofL l0 z.f0) xm false _ (Kd.R_reads' HO28.out).2.2 (Kd.R_reads' HO28.out).2.1 HKCT.out).mono ?_
     rintro e W4 ⟨rfl, ⟨nd, rfl⟩⟩
     refine ⟨_, rfl, ?_⟩
     replace BKg2 := Aside0.mk (blk_drewN BKg2.out nd)
     replace BKg4 := Aside0.mk (blk_drewN BKg4.out nd)
     replace HB := Aside0.mk (pw_below_drewN HB.out nd)
     replace hcz0 := (show (W3.drewN nd).cell? _ = _ from hcz0)
     replace hcz1 := (show (W3.drewN nd).cell? _ = _ from hcz1)
     replace hcz2 := (show (W3.drewN nd).cell? _ = _ from hcz2)
     replace hx1_0 := (show (W3.drewN nd).cell? _ = _ from hx1_0)
     replace hx1_1 := (show (W3.drewN nd).cell? _ = _ from hx1_1)
     refine hK.out _ _ ⟨hcz0, hcz1, hcz2, hx1_0, hx1_1⟩ (fun hHeld => ?_)
     clear hK K
     refine sN ?_
     refine sP (i := 9) (N := some 31) (lm 10 1023) ?_
     refine done_ (by kernel_rfl) ?_
     go_wp2_with (first | ((with_reducible refine gate_dst (N := 32) rfl ?_); go_must (refine wpList_load_row rfl 121 _ rfl g4 rfl 121 ((ac o)) (0, 0) _ BKg4.out Try.underlying121 rfl rfl ?_)) | ((with_reducible refine gate_store (t := 121) (p := 4) rfl ?_); go_must (refine wpList_store_row rfl 121 _ _ rfl g4 ((ac o)) rfl rfl 121 ((ac o)) BKg4.out rfl rfl (ac_one _) ?_; rw [setRow_self _ _ _ _ _ BKg4.out])))
     refine bodyPost_ret (results_ct rfl _ _ g4 121 (ac o) (0, 0) _ rfl BKg4.out Try.underlying121 rfl (by kernel_rfl)) rfl ?_
     have hf : areB l0 l1 l = false := by
      unfold areB
      rw [ownB_false l0 l1 l m l.length hlt (by rw [HZ.out, HXM.out]; exact HCT.out), Bool.and_false]
     exact ⟨o, by rw [hf]; rfl, fun h => (by rw [hf] at h; cases h), fun i hi => HOZ.out i (by omega), HB.out⟩
   ·obtain rfl : m = l.length := by have := HM.out; omega
    go_wp2_with (first | ((with_reducible refine gate_dst (N := 37) rfl ?_); go_must (refine wpList_load_row rfl 121 _ rfl g4 rfl 121 ((ac o)) (0, 0) _ BKg4.out Try.underlying121 rfl rfl ?_)) | ((with_reducible refine gate_store (t := 121) (p := 4) rfl ?_); go_must (refine wpList_store_row rfl 121 _ _ rfl g4 ((ac o)) rfl rfl 121 ((ac o)) BKg4.out rfl rfl (ac_one _) ?_; rw [setRow_self _ _ _ _ _ BKg4.out])))
    refine bodyPost_ret (results_ct rfl _ _ g4 121 (ac o) (0, 0) _ rfl BKg4.out Try.underlying121 rfl (by kernel_rfl)) rfl ?_
    have hf : areB l0 l1 l = true := by
     unfold areB
     rw [HOB.out, HLEN.out]; simp
    exact ⟨o, by rw [hf]; rfl, fun _ => HOI.out, HOZ.out, HB.out⟩
 ·have hne : ¬ ((l.length : Int) = (l1.length : Int)) := by omega
  have hq : ((l.length : Int) != (l1.length : Int)) = true := bne_iff_ne.mpr hne
  have hq2 : ((l.length : Int) == (l1.length : Int)) = false := beq_eq_false_iff_ne.mpr hne
  have hq3 : (l.length == l1.length) = false := beq_eq_false_iff_ne.mpr hlen
  have hq4 : (l.length != l1.length) = true := bne_iff_ne.mpr hlen
  have HLEN := Aside0.mk hlen
  clear hlen hne
  go_enter Try.func83, Try.ntmps83
  go_wp2_with (first | ((with_reducible refine gate_dst (N := 2) rfl ?_); refine sbox (N := 2) #[.slice A0 l0.length c0, .slice A1 l1.length c1, .int .i64 wg] 35 ?_; intro g2 hg W_ hbox hb; have GEg2 := Aside0.mk (by rw [hg]; exact HB.out.size : w.heap.size ≤ g2); replace HB := Aside0.mk (below_step HB.out hb); have BKg2 := Aside0.mk hbox; clear hb hbox hg) | ((with_reducible refine gate_dst (N := 4) rfl ?_); refine sbox (N := 4) #[.int .i64 0, .int .i64 0, .int .i64 0, .int .i64 0, .int .i64 0, .int .i64 0, .int .i64 0] 121 ?_; intro g4 hg W_ hbox hb; have GEg4 := Aside0.mk (by rw [hg]; exact HB.out.size : w.heap.size ≤ g4); replace BKg2 := Aside0.mk (blk_below BKg2.out hb); replace HB := Aside0.mk (below_step HB.out hb); have BKg4 := Aside0.mk hbox; clear hb hbox hg; have hczg2_0 := sc 0 BKg2; have hczg2_1 := sc 1 BKg2; have hczg2_2 := sc 2 BKg2; have NG := Aside0.mk (show g2 ≠ g4 from fun e_ => by have h_ := BKg2.out; have h2_ := BKg4.out; rw [e_] at h_; rw [h_] at h2_; cases h2_); replace BKg4 : Aside0 (W_.heap[g4]? = some (.cells (ac (fun _ => 0)) 121 (0, 0))) := ⟨BKg4.out⟩) | ((with_reducible refine gate_dst (N := 14) rfl ?_); go_must (refine wpList_load_row rfl 121 _ rfl g4 rfl 121 ((ac (fun _ => 0))) (0, 0) _ BKg4.out Try.underlying121 rfl rfl ?_)) | ((with_reducible refine gate_store (t := 121) (p := 4) rfl ?_); go_must (refine wpList_store_row rfl 121 _ _ rfl g4 ((ac (fun _ => 0))) rfl rfl 121 ((ac (fun _ => 0))) BKg4.out rfl rfl (ac_one _) ?_; rw [setRow_self _ _ _ _ _ BKg4.out])))
  refine bodyPost_ret (results_ct rfl _ _ g4 121 (ac (fun _ => 0)) (0, 0) _ rfl BKg4.out Try.underlying121 rfl (by kernel_rfl)) rfl ?_
  have hf : areB l0 l1 l = false := by
   unfold areB
   rw [decide_eq_false HLEN.out]; rfl
  exact ⟨fun _ => 0, by rw [hf]; rfl, fun h => (by rw [hf] at h; cases h), fun _ _ => rfl, HB.out⟩
end Go.Proofs.Ytnbbbeghgomnoaa.X
namespace Go.Proofs.Ytnbbbeghgomnoaa.X
open Go.RowKit Go.Proofs.YtnbbbeghgomnoaaW.PrintWords Go.Proofs.YtnbbbeghgomnoaaW.PrintLast Go.Proofs.YtnbbbeghgomnoaaW.PrintMore
section
variable {P : Program} {l n : Nat} {Q : Exit → Act → World → Prop}
def noDefer (ops : List Oper) : Bool := ops.all fun o => match o.op with | .defer _ => false | _ => true
theorem noDefer_mem {ops : List Oper} (h : noDefer ops = true) {o : Oper} (ho : o ∈ ops) : ∀ c, o.op ≠ .defer c := by
 intro c hc
 have := List.all_eq_true.1 h o ho
 simp [hc] at this
theorem wideD (l : Nat) : (Fence.wide.inRound l).depth.isSome = true → 1 ≤ n := fun h => by simp [Fence.wide] at h
theorem rowsIn_of {row : String} {args : Array Value} {w : World} {R : Value → World → Prop} (h : Rows P row args w R) : RowsIn (Fence.wide.inRound l) n P row args w R :=
 fun c cs _ => let ⟨v, w', r, s⟩ := h c cs; ⟨v, w', r, stepsIn_wide.2 s⟩
theorem operIn_of {o : Oper} {a : Act} {w : World} {next : Act → World → Prop} (hd : ∀ c, o.op ≠ .defer c) (h : o.wp P a w next Q) : o.wpIn (Fence.wide.inRound l) n P a w next Q := by
 refine ⟨fun _ _ => trivial, ?_⟩
 rw [show (Fence.wide.inRound l).round = some l from rfl, Oper.semAt_some l _ o hd]
 unfold Oper.wp at h
 generalize (execOp a.eval o).run P w = r at *
 cases r with
 | ok x w' =>
  cases x with
  | value v => exact h
  | skip => exact h
  | defer d => exact h
  | enter f args => exact ⟨wideD l, (callsIn_wide.2 h : CallsIn Fence.wide (n - 1) P f args w' _)⟩
  | row row args => exact ⟨wideD l, rowsIn_of h⟩
  | _ => exact h.elim
 | halt x w' => cases x <;> exact h
theorem opIn_of {ops : Array Oper} {i : Nat} {K : Act → World → Prop} {a : Act} {w : World} (hQ : LetsOut Q → False) (hd : noDefer ops.toList = true) (h : wpOp P ops Q i K a w) : wpOpIn (Fence.wide.inRound l) n P ops Q i K a w := by
 unfold wpOp at h
 unfold wpOpIn
 cases ho : ops[i]? with
 | none => rw [ho] at h; exact h
 | some o =>
  rw [ho] at h
  have hm : o ∈ ops.toList := by
   have := Array.mem_of_getElem? ho
   simpa using this
  dsimp only at h ⊢
  by_cases hw : Region.wanted o (yielded ops a.tmps) = true
  ·rw [if_pos hw] at h ⊢
   rcases h with h | ⟨_, h⟩
   ·exact operIn_of (noDefer_mem hd hm) h
   ·exact (hQ h).elim
  ·rw [if_neg hw] at h ⊢
   exact ⟨fun _ _ => trivial, h⟩
theorem anyIn_of {ops : Array Oper} {md : Region.Mode} (hQ : LetsOut Q → False) (hd : noDefer ops.toList = true) : ∀ (fuel : Nat) (listed : Array Bool) (a : Act) (w : World), wpAny P md ops Q fuel listed a w → wpAnyIn (Fence.wide.inRound l) n P md ops Q fuel listed a w := by
 intro fuel
 induction fuel with
 | zero => intro listed a w h; exact h
 | succ fuel ih =>
  intro listed a w h
  exact ⟨h.1, fun i hi => opIn_of hQ hd (wpOp_mono (fun a w => ih _ a w) (h.2 i hi))⟩
theorem listIn_of {ops : Array Oper} (hQ : LetsOut Q → False) : ∀ (rest : List Oper) (_ : noDefer rest = true) (a : Act) (w : World), wpList P ops Q rest a w → wpListIn (Fence.wide.inRound l) n P ops Q rest a w := by
 intro rest
 induction rest with
 | nil => intro _ a w h; exact h
 | cons o rest ih =>
  intro hd a w h
  have hd0 : ∀ c, o.op ≠ .defer c := noDefer_mem hd (by simp)
  have hd1 : noDefer rest = true := by
   unfold noDefer at hd ⊢
   rw [List.all_cons, Bool.and_eq_true] at hd
   exact hd.2
  unfold wpList at h
  unfold wpListIn
  by_cases hw : Region.wanted o (yielded ops a.tmps) = true
  ·rw [if_pos hw] at h ⊢
   rcases h with h | ⟨_, h⟩
   ·exact operIn_of hd0 (Oper.wp_mono (fun a w => ih hd1 a w) h)
   ·exact (hQ h).elim
  ·rw [if_neg hw] at h ⊢
   exact ⟨fun _ _ => trivial, ih hd1 _ _ h⟩
theorem regionIn {id : Nat} {ops : List Oper} {a : Act} {w : World} (hQ : LetsOut Q → False) (hd : noDefer ops = true) (h : wpList P ops.toArray Q ops a w) : (Code.region id ops.toArray false).wpIn (Fence.wide.inRound l) n P Q a w :=
 wpIn_region_lit (listIn_of hQ ops hd a w h)
theorem startIn_ {ops : Array Oper} {S : World → Prop} {ds : List Nat} {id m : Nat} {a : Act} {w : World} (hQ : LetsOut Q → False) (hd : noDefer ops.toList = true) (lst : Array Bool) (hm : P.follows .mixedOrders = true) (hn : ops.size = m) (hl : Array.replicate m false = lst) (hS : S w.drew)
  (h : S w.drew → wpAnyLast P .any ops Q S ds m lst a w.drew) : (Code.region id ops true).wpIn (Fence.wide.inRound l) n P Q a w := by
 subst hn
 subst hl
 exact wpIn_region_any hm (anyIn_of hQ hd _ _ _ _ (wpAny_of_last _ _ _ _ (h hS)))
end
end Go.Proofs.Ytnbbbeghgomnoaa.X
namespace Go.Proofs.Ytnbbbeghgomnoaa.X
open Go.RowKit Go.Proofs.YtnbbbeghgomnoaaW.PrintWords Go.Proofs.YtnbbbeghgomnoaaW.PrintLast Go.Proofs.YtnbbbeghgomnoaaW.PrintMore
structure KpS (S : Nat → Prop) (W W' : World) : Prop where
 os : W'.os = W.os
 tape : W'.tape = W.tape
 output : W'.output = W.output
 size : W.heap.size ≤ W'.heap.size
 block : ∀ k, S k → W'.heap[k]? = W.heap[k]?
theorem KpS.refl (S : Nat → Prop) (W : World) : KpS S W W := ⟨rfl, rfl, rfl, Nat.le_refl _, fun _ _ => rfl⟩
theorem KpS.trans {S : Nat → Prop} {A B C : World} (h : KpS S A B) (k : KpS S B C) : KpS S A C :=
 ⟨k.os.trans h.os, k.tape.trans h.tape, k.output.trans h.output, Nat.le_trans h.size k.size, fun i hi => (k.block i hi).trans (h.block i hi)⟩
theorem KpS.mono {S S' : Nat → Prop} {A B : World} (h : KpS S A B) (hs : ∀ k, S' k → S k) : KpS S' A B := ⟨h.os, h.tape, h.output, h.size, fun k hk => h.block k (hs k hk)⟩
theorem KpS.of_below {S : Nat → Prop} {n : Nat} {A B : World} (h : Below n A B) (hs : ∀ k, S k → k < n) : KpS S A B := ⟨h.os, h.tape, h.output, h.size, fun k hk => h.block k (hs k hk)⟩
theorem KpS.below {S : Nat → Prop} {n : Nat} {A B : World} (h : KpS S A B) (hs : ∀ k, k < n → S k) : Below n A B := ⟨h.os, h.tape, h.output, h.size, fun k hk => h.block k (hs k hk)⟩
theorem KpS.of_grown {S : Nat → Prop} {A B : World} {row : Option Nat} (h : A.grownBy B row) (hs : ∀ k, S k → k < A.heap.size ∧ some k ≠ row) : KpS S A B := ⟨h.os, h.tape, h.output, h.size, fun k hk => h.block k (hs k hk).1 (hs k hk).2⟩
theorem KpS.putObj {S : Nat → Prop} (W : World) (r : Nat) (o : Obj) (hs : ¬ S r) : KpS S W (W.putObj r o) :=
 ⟨rfl, rfl, rfl, by simp, fun k hk => World.putObj_heap_other (fun e => hs (e ▸ hk))⟩
def Safe (B0 : Nat) (X : Nat → Prop) (Bo : Nat) (W : World) (k : Nat) : Prop := k < B0 ∨ k = Bo ∨ (k < W.heap.size ∧ ¬ X k ∧ ∀ cs fr, W.heap[k]? ≠ some (.cells cs 121 fr))
def Kp (B0 : Nat) (X : Nat → Prop) (Bo : Nat) (W W' : World) : Prop := KpS (Safe B0 X Bo W) W W'
theorem Kp.refl (B0 : Nat) (X : Nat → Prop) (Bo : Nat) (W : World) : Kp B0 X Bo W W := KpS.refl _ _
theorem Safe.step {B0 : Nat} {X : Nat → Prop} {Bo : Nat} {A B : World} {k : Nat} (h : Safe B0 X Bo A k) (hs : A.heap.size ≤ B.heap.size) (hb : B.heap[k]? = A.heap[k]?) : Safe B0 X Bo B k := by
 rcases h with h | h | ⟨h1, h2, h3⟩
 ·exact .inl h
 ·exact .inr (.inl h)
 ·exact .inr (.inr ⟨Nat.lt_of_lt_of_le h1 hs, h2, fun cs fr => by rw [hb]; exact h3 cs fr⟩)
theorem Kp.trans {B0 : Nat} {X : Nat → Prop} {Bo : Nat} {A B C : World} (h : Kp B0 X Bo A B) (k : Kp B0 X Bo B C) : Kp B0 X Bo A C :=
 ⟨k.os.trans h.os, k.tape.trans h.tape, k.output.trans h.output, Nat.le_trans h.size k.size, fun i hi => (k.block i (hi.step h.size (h.block i hi))).trans (h.block i hi)⟩
theorem Kp.wider {B0 : Nat} {X X' : Nat → Prop} {Bo : Nat} {A B : World} (h : Kp B0 X Bo A B) (hx : ∀ k, X k → X' k) : Kp B0 X' Bo A B :=
 KpS.mono h fun k hk => by
  rcases hk with hk | hk | ⟨h1, h2, h3⟩
  ·exact .inl hk
  ·exact .inr (.inl hk)
  ·exact .inr (.inr ⟨h1, fun hh => h2 (hx k hh), h3⟩)
theorem Kp.putObj {B0 : Nat} {X : Nat → Prop} {Bo : Nat} (W : World) (r : Nat) (o : Obj) (h0 : B0 ≤ r) (hx : X r) (hb : r ≠ Bo) : Kp B0 X Bo W (W.putObj r o) :=
 KpS.putObj _ _ _ fun h => by
  rcases h with h | h | ⟨_, h, _⟩
  ·omega
  ·exact hb h
  ·exact h hx
theorem Kp.kept {B0 : Nat} {X : Nat → Prop} {Bo k : Nat} {o : Obj} {W W' : World} (h : Kp B0 X Bo W W') (hk : W.heap[k]? = some o) (hx : ¬ X k) (ht : ∀ cs fr, o ≠ .cells cs 121 fr) : W'.heap[k]? = some o :=
 (h.block k (.inr (.inr ⟨(Array.getElem?_eq_some_iff.1 hk).1, hx, fun cs fr e => ht cs fr (by rw [hk] at e; exact Option.some.inj e)⟩))).trans hk
theorem Kp.own {B0 : Nat} {X : Nat → Prop} {Bo : Nat} {o : Obj} {W W' : World} (h : Kp B0 X Bo W W') (hk : W.heap[Bo]? = some o) : W'.heap[Bo]? = some o := (h.block Bo (.inr (.inl rfl))).trans hk
theorem Kp.below {B0 : Nat} {X : Nat → Prop} {Bo : Nat} {W W' : World} (h : Kp B0 X Bo W W') : Below B0 W W' := KpS.below h (fun _ hk => .inl hk)
def Abide {β : Type} (B : Nat) (I : β → World → Prop) : Prop :=
 ∀ s W W' row, I s W → W.grownBy W' row → (∀ r, row = some r → r = B ∨ r = B + 1 ∨ r = B + 3) → I s W'
def ownPostR {α : Type} (R : World → World → Prop) (I : List α → World → Prop) (Ix : Code → List α → World → Prop) (xs : List α) (W : World) : Exit → Act → World → Prop
 | .normal, _, W' => R W W' ∧ I xs W'
 | .ret, _, W' => R W W' ∧ Ix .ret xs W'
 | .exit id, _, W' => R W W' ∧ Ix (.exit id) xs W'
 | .goto t, _, W' => R W W' ∧ Ix (.goto t) xs W'
 | .panic _, _, _ => False
 | .outgrown, _, _ => False
def SeqR {α : Type} (P : Program) (gf : Nat) (lb : Array Value) (enc : α → Value) (ALL : List α) (B0 : Nat) (X : Nat → Prop) (w : World) : Prop :=
 ∀ (l : Nat) (J Jx : List α → World → Prop) (W : World), W.heap.size = w.heap.size + 2 → Below w.heap.size w W →
  (∀ s A B, J s A → A.grownBy B (some (w.heap.size + 3)) → J s B) → (∀ s A B, Jx s A → A.grownBy B (some (w.heap.size + 3)) → Jx s B) →
  (∀ pre x W1, J pre W1 → w.heap.size + 3 < W1.heap.size → (pre ++ [x]) <+: ALL → YieldAt Fence.wide 0 P l #[enc x] W1 fun e W' =>
   (e = .returned (.bool true) ∧ J (pre ++ [x]) W' ∧ Kp B0 X (w.heap.size + 3) W1 W') ∨ (e = .returned (.bool false) ∧ Jx (pre ++ [x]) W')) →
  J [] W →
  CallsIn Fence.wide 0 P gf (#[.func (.yield l) #[] #[]] ++ lb) W fun e W' => (∃ v, e = .returned v) ∧ (J ALL W' ∨ ∃ q, q <+: ALL ∧ Jx q W')
variable {P : Program}
theorem wp_rangeR {α : Type} {g : Operand} {ps : Array Tmp} {assign body : Code} {Q : Exit → Act → World → Prop} {a : Act} {w : World}
  {gf : Nat} {lb : Array Value} (hg : a.eval g = .func (.func gf) #[] lb) (eg : ∀ args w, (callFunc gf args).run P w = .ok (.enter gf args) w)
  {enc : α → Value} {ALL : List α} {B0 : Nat} {X : Nat → Prop} (hB0 : B0 ≤ w.heap.size) (hX : ∀ k, w.heap.size ≤ k → ¬ X k) (hseq : SeqR P gf lb enc ALL B0 (fun k => X k ∨ k = w.heap.size + 1) w) (hps : ps.size = 1)
  (I : List α → World → Prop) (Ix : Code → List α → World → Prop) (hI : Abide w.heap.size I) (hIx : ∀ c, Abide w.heap.size (Ix c)) (h0 : I [] w) (Ax : α → Act → World → Prop) (hAx : ∀ x a', Abide w.heap.size (fun (_ : Unit) W => Ax x a' W))
  (hassign : ∀ (l : Nat) (pre : List α) (x : α) (W : World) (K : Act → World → Prop), I pre W → w.heap.size + 3 < W.heap.size → (∀ a' W', Kp B0 X (w.heap.size + 3) W W' → I pre W' → Ax x a' W' → K a' W') →
   assign.wpIn (Fence.wide.inRound l) 0 P (Exit.then K (fun _ _ _ => False)) { tmps := (ps.zip #[enc x]).foldl (fun t (p, v) => t.setIfInBounds p v) a.tmps, defers := [] } W)
  (hbody : ∀ (l : Nat) (pre : List α) (x : α) (a' : Act) (W : World), I pre W → Ax x a' W → w.heap.size + 3 < W.heap.size → (pre ++ [x]) <+: ALL → body.wpIn (Fence.wide.inRound l) 0 P (ownPostR (Kp B0 X (w.heap.size + 3)) I Ix (pre ++ [x]) W) a' W)
  (hdone : ∀ (W : World), I ALL W → W.heap[w.heap.size]? = some (.deferred (some [])) → Q .normal { a with defers := { target := .collected w.heap.size, args := #[] } :: a.defers } W)
  (hstop : ∀ (c : Code) (pre : List α) (W : World), pre <+: ALL → Ix c pre W → W.heap[w.heap.size]? = some (.deferred (some [])) → c.wp P Q { a with defers := { target := .collected w.heap.size, args := #[] } :: a.defers } W) :
  (Code.rangeFunc g ps assign body).wp P Q a w := by
 refine (wpIn_wide (n := 0)).1 (wpIn_rangeFunc ?_)
 intro fn hfn
 rw [Fence.wide_round]
 obtain ⟨rec, hrec⟩ : ∃ rec : LoopState → Option Code → Loop, rec = fun st pe => { state := st, pending := pe, fn, tmps := a.tmps, params := ps, assign, body, defers := w.heap.size } := ⟨_, rfl⟩
 obtain ⟨W1, hW1⟩ : ∃ W1, (w.alloc (.deferred (some []))).alloc (.loop (rec .ready none)) = W1 := ⟨_, rfl⟩
 have hL1 : W1.heap[w.heap.size + 1]? = some (.loop (rec .ready none)) := by
  rw [← hW1]; have := World.alloc_heap_new (w.alloc (.deferred (some []))) (.loop (rec .ready none)); rwa [World.size_alloc] at this
 have hK1 : W1.heap[w.heap.size]? = some (.deferred (some [])) := by
  rw [← hW1]; exact (Below.heap_alloc _ _ _ (by simp)).trans (World.alloc_heap_new w _)
 have hIa : ∀ {A : World} {s : List α} (o : Obj), I s A → I s (A.alloc o) := fun o h => hI _ _ _ none h (World.grownBy_alloc _ _ none) (fun r e => by cases e)
 have hI1 : I [] W1 := by rw [← hW1]; exact hIa _ (hIa _ h0)
 have hb1 : Below w.heap.size w W1 := by
  rw [← hW1]; exact ((Below.refl _ w).alloc (Nat.le_refl _) _).alloc (by simp) _
 have hz1 : W1.heap.size = w.heap.size + 2 := by rw [← hW1]; simp
 refine ⟨w.heap.size + 1, [{ target := .collected w.heap.size, args := #[] }], W1, { target := .fn (.func gf) lb, args := #[.func (.yield (w.heap.size + 1)) #[] #[]] }, W1, gf,
  #[.func (.yield (w.heap.size + 1)) #[] #[]] ++ lb, W1, ?_, ?_, ?_, ?_, fun h => by simp [Fence.wide] at h, ?_⟩
 ·rw [← hW1, hrec]; exact run_enterLoop_outer _ _ _ _ _
 ·simp only [resolve, hg]
  simp [go_sem]
 ·intro f' _; trivial
 ·simp [invoke, go_sem, eg]
 ·-- THE ITERATOR's CONTRACT, AT THE CALLER's INVARIANT WITH THE TWO FACTS OF BOOK-KEEPING BESIDE IT
  have hab : ∀ {β : Type} {X : β → World → Prop}, Abide w.heap.size X → ∀ s A B, X s A → A.grownBy B (some (w.heap.size + 3)) → X s B := fun hX s A B h hg' => hX s A B _ h hg' (fun r e => by cases e; exact .inr (.inr rfl))
  have hput : ∀ {β : Type} {X : β → World → Prop}, Abide w.heap.size X → ∀ s A o', X s A → X s (A.putObj (w.heap.size + 1) o') := fun hX s A o' h => hX s A _ (some (w.heap.size + 1)) h (grownBy_putObj' A _ o') (fun r e => by cases e; exact .inr (.inl rfl))
  have hkeep : ∀ {A B : World} {k : Nat} {o : Obj}, A.grownBy B (some (w.heap.size + 3)) → A.heap[k]? = some o → k ≠ w.heap.size + 3 → B.heap[k]? = some o := fun hg' h hne => (hg'.block _ (Array.getElem?_eq_some_iff.1 h).1 (fun e => hne (by cases e; rfl))).trans h
  refine (hseq (w.heap.size + 1)
   (fun pre W => I pre W ∧ W.heap[w.heap.size + 1]? = some (.loop (rec .ready none)) ∧ W.heap[w.heap.size]? = some (.deferred (some [])))
   (fun pre W => ∃ c, Ix c pre W ∧ W.heap[w.heap.size + 1]? = some (.loop (rec .done (some c))) ∧ W.heap[w.heap.size]? = some (.deferred (some [])))
   W1 hz1 hb1
   (fun s A B hs hg' => ⟨hab hI s A B hs.1 hg', hkeep hg' hs.2.1 (by omega), hkeep hg' hs.2.2 (by omega)⟩)
   (fun s A B hs hg' => by
    obtain ⟨c, hc, hl, hk⟩ := hs
    exact ⟨c, hab (hIx c) s A B hc hg', hkeep hg' hl (by omega), hkeep hg' hk (by omega)⟩)
   ?_ ⟨hI1, hL1, hK1⟩).mono ?_
  ·-- ONE ROUND
   rintro pre x W ⟨hi, hl, hk⟩ hz3 hpre
   have hlt : w.heap.size + 1 < W.heap.size := (Array.getElem?_eq_some_iff.1 hl).1
   have hy := run_yield (P := P) (args := #[enc x]) hl (by rw [hrec]; exact hps.symm)
   rw [hrec] at hy
   refine ⟨fn, _, assign, body, hy, roundIn_of_wpIn hfn (hassign _ pre x W _ hi hz3 ?_)⟩
   clear hy
   intro a' Wa hkpa hia hax
   replace hl := hkpa.kept hl (hX _ (by omega)) (by intro cs fr e; cases e)
   replace hk := hkpa.kept hk (hX _ (by omega)) (by intro cs fr e; cases e)
   replace hz3 : w.heap.size + 3 < Wa.heap.size := Nat.lt_of_lt_of_le hz3 hkpa.size
   replace hlt : w.heap.size + 1 < Wa.heap.size := (Array.getElem?_eq_some_iff.1 hl).1
   refine ⟨_, run_beginRound hl (by rw [hrec]), ?_⟩
   have hl2 : (Wa.putObj (w.heap.size + 1) (.loop { rec .ready none with state := .busy })).heap[w.heap.size + 1]? = some (.loop { rec .ready none with state := .busy }) := World.putObj_heap_same hlt
   have hk2 : (Wa.putObj (w.heap.size + 1) (.loop { rec .ready none with state := .busy })).heap[w.heap.size]? = some (.deferred (some [])) := (World.putObj_heap_other (by omega)).trans hk
   have hw2 : Kp B0 (fun k => X k ∨ k = w.heap.size + 1) (w.heap.size + 3) Wa (Wa.putObj (w.heap.size + 1) (.loop { rec .ready none with state := .busy })) := Kp.putObj _ _ _ (by omega) (.inr rfl) (by omega)
   refine wpIn_mono (hbody _ pre x a' _ (hput hI _ _ _ hia) (hput (hAx x a') () _ _ hax) (by simp; omega) hpre) ?_
   have fin : ∀ (jump : Option Code) (W3 : World), Kp B0 X (w.heap.size + 3) (Wa.putObj (w.heap.size + 1) (.loop { rec .ready none with state := .busy })) W3 →
     (Instr.endRound (w.heap.size + 1) jump).run P W3 = .ok (.bool jump.isNone) (W3.putObj (w.heap.size + 1) (.loop (rec (if jump.isNone then .ready else .done) jump))) ∧
     (W3.putObj (w.heap.size + 1) (.loop (rec (if jump.isNone then .ready else .done) jump))).heap[w.heap.size + 1]? = some (.loop (rec (if jump.isNone then .ready else .done) jump)) ∧
     (W3.putObj (w.heap.size + 1) (.loop (rec (if jump.isNone then .ready else .done) jump))).heap[w.heap.size]? = some (.deferred (some [])) := fun jump W3 hk3 => by
    have hl3 := hk3.kept hl2 (hX _ (by omega)) (by intro cs fr e; cases e)
    have := run_endRound (P := P) jump hl3
    rw [hrec] at this ⊢
    exact ⟨this, World.putObj_heap_same (Array.getElem?_eq_some_iff.1 hl3).1, (World.putObj_heap_other (by omega)).trans (hk3.kept hk2 (hX _ (by omega)) (by intro cs fr e; cases e))⟩
   have hall : ∀ {W3 : World} (o' : Obj), Kp B0 X (w.heap.size + 3) (Wa.putObj (w.heap.size + 1) (.loop { rec .ready none with state := .busy })) W3 → Kp B0 (fun k => X k ∨ k = w.heap.size + 1) (w.heap.size + 3) W (W3.putObj (w.heap.size + 1) o') := fun o' hk3 =>
    (hkpa.wider (fun k hk => .inl hk)).trans (hw2.trans ((hk3.wider (fun k hk => .inl hk)).trans (Kp.putObj _ _ _ (by omega) (.inr rfl) (by omega))))
   rintro e a3 W3 hp
   cases e with
   | normal =>
    obtain ⟨hk3, hi3⟩ := hp
    obtain ⟨hr, hl4, hk4⟩ := fin none W3 hk3
    exact ⟨_, _, hr, .inl ⟨rfl, ⟨hput hI _ _ _ hi3, hl4, hk4⟩, hall _ hk3⟩⟩
   | ret =>
    obtain ⟨hk3, hi3⟩ := hp
    obtain ⟨hr, hl4, hk4⟩ := fin (some .ret) W3 hk3
    exact ⟨_, _, hr, .inr ⟨rfl, .ret, hput (hIx _) _ _ _ hi3, hl4, hk4⟩⟩
   | exit id =>
    obtain ⟨hk3, hi3⟩ := hp
    obtain ⟨hr, hl4, hk4⟩ := fin (some (.exit id)) W3 hk3
    exact ⟨_, _, hr, .inr ⟨rfl, .exit id, hput (hIx _) _ _ _ hi3, hl4, hk4⟩⟩
   | goto t =>
    obtain ⟨hk3, hi3⟩ := hp
    obtain ⟨hr, hl4, hk4⟩ := fin (some (.goto t)) W3 hk3
    exact ⟨_, _, hr, .inr ⟨rfl, .goto t, hput (hIx _) _ _ _ hi3, hl4, hk4⟩⟩
   | panic ch => exact hp.elim
   | outgrown => exact hp.elim
  ·-- BEHIND THE ITERATOR
   rintro e W2 ⟨⟨v, rfl⟩, (⟨hi, hl, hk⟩ | ⟨pre, hSp, c, hi, hl, hk⟩)⟩
   ·exact ⟨none, _, by have := run_endLoop (P := P) hl (by rw [hrec]; simp); rw [hrec] at this; exact this, hdone _ (hput hI _ _ _ hi) ((World.putObj_heap_other (by omega)).trans hk)⟩
   ·exact ⟨some c, _, by have := run_endLoop (P := P) hl (by rw [hrec]; simp); rw [hrec] at this; exact this, (wpIn_wide (n := 0)).2 (hstop c pre _ hSp (hput (hIx c) _ _ _ hi) ((World.putObj_heap_other (by omega)).trans hk))⟩
end Go.Proofs.Ytnbbbeghgomnoaa.X
namespace Go.Proofs.Ytnbbbeghgomnoaa.X
open Go.RowKit Go.Proofs.YtnbbbeghgomnoaaW.PrintWords Go.Proofs.YtnbbbeghgomnoaaW.PrintLast Go.Proofs.YtnbbbeghgomnoaaW.PrintMore
def prods (opts : Nat → List Int) : Nat → Nat → List (List Int)
 | 0, _ => [[]]
 | d + 1, i => (opts i).flatMap fun v => (prods opts d (i + 1)).map (v :: ·)
def pad (xs : List Int) : Nat → Int := fun i => xs.getD i 0
def optsL (l0 : List S109) (l1 : List S110) (i : Nat) : List Int := ofL l0 (l1.getD i z110).f0
def allL (l0 : List S109) (l1 : List S110) : List (List Int) := prods (optsL l0 l1) l1.length 0
def chooseV (g1 g2 g3 g4 : Nat) : Value := .func (.func 109) #[] #[.pointer (some ⟨g1, 0, none⟩), .pointer (some ⟨g2, 0, none⟩), .pointer (some ⟨g3, 0, none⟩), .pointer (some ⟨g4, 0, none⟩)]
theorem grown_drew (W : World) (row : Option Nat) : W.grownBy W.drew row := ⟨rfl, rfl, rfl, Nat.le_refl _, fun _ _ _ => rfl⟩
theorem grown_set (W : World) (g i : Nat) (u : Value) : W.grownBy (W.setCell ⟨g, i, none⟩ u) (some g) :=
 ⟨rfl, rfl, rfl, by simp [World.setCell], fun k _ hk => Below.heap_setCell W ⟨g, i, none⟩ u k (fun e => hk (by rw [e]))⟩
theorem prods_map (opts : Nat → List Int) (d i : Nat) (pfx : List Int) : (prods opts (d + 1) i).map (pfx ++ ·) = (opts i).flatMap fun v => (prods opts d (i + 1)).map ((pfx ++ [v]) ++ ·) := by
 simp only [prods, List.map_flatMap, List.map_map]
 congr 1
 funext v
 apply List.map_congr_left
 intro x _
 simp
theorem flat_take {α β : Type} (f : α → List β) (l : List α) (m : Nat) (h : m < l.length) : (l.take (m + 1)).flatMap f = (l.take m).flatMap f ++ f l[m] := by
 rw [List.take_succ_eq_append_getElem h, List.flatMap_append]; simp
theorem flat_pre {α β : Type} (f : α → List β) (l : List α) (m : Nat) : (l.take m).flatMap f <+: l.flatMap f := by
 refine ⟨(l.drop m).flatMap f, ?_⟩
 rw [← List.flatMap_append, List.take_append_drop]
def RowI (X : Nat → Prop) (g3 : Nat) (W : World) (A : Option Addr) (xs : List Int) : Prop :=
 xs = [] ∨ ∃ go cl, A = some ⟨go, 0, none⟩ ∧ W.heap[go]? = some (.cells cl 3 (0, 0)) ∧ (∀ j (h : j < xs.length), cl[j]? = some (.int .i64 xs[j])) ∧ go ≠ g3 ∧ ¬ X go
theorem RowI.of_R {X : Nat → Prop} {g3 B : Nat} {W : World} {A : Option Addr} {c : Nat} {xs : List Int} (h : Kd.R (Kd.int .i64) 3 W B (fun _ => True) (.slice A xs.length c) xs) (hB : g3 < B) (hx : ∀ k, g3 ≤ k → ¬ X k) : RowI X g3 W A xs := by
 by_cases he : xs.length = 0
 ·exact .inl (List.length_eq_zero_iff.1 he)
 ·obtain ⟨go, co, eo, gb, gl, cl, HG⟩ := Kd.R_form h (by omega)
  injection eo with e1 e2 e3
  subst e1
  subst e3
  refine .inr ⟨go, cl, rfl, HG, fun j hj => ?_, by omega, hx go (by omega)⟩
  have := (Kd.R_celln 0 h (j : Int) (by omega) (by omega)).1
  rw [blk_cell HG] at this
  simp only [Int.toNat_natCast] at this
  rw [this]
  unfold rdOf
  rw [List.getD_eq_getElem?_getD, Int.toNat_natCast, List.getElem?_eq_getElem hj]; rfl
theorem RowI.kept {X : Nat → Prop} {g3 : Nat} {W W' : World} {A : Option Addr} {xs : List Int} (h : RowI X g3 W A xs) (hk : ∀ k cl, W.heap[k]? = some (.cells cl 3 (0, 0)) → ¬ X k → k ≠ g3 → W'.heap[k]? = some (.cells cl 3 (0, 0))) : RowI X g3 W' A xs := by
 rcases h with h | ⟨go, cl, ha, hg, hc, hn, hx⟩
 ·exact .inl h
 ·exact .inr ⟨go, cl, ha, hk go cl hg hx hn, hc, hn, hx⟩
structure ChInv (w0 : World) (A0 : Option Addr) (c0 n0 : Nat) (A1 : Option Addr) (c1 n1 : Nat) (wg : Int) (l g1 g2 g3 g4 : Nat) (W : World) (o : Nat → Int) : Prop where
 hb : Below w0.heap.size w0 W
 k1 : W.heap[g1]? = some (.cells #[.slice A0 n0 c0, .slice A1 n1 c1, .int .i64 wg] 35 (0, 0))
 k2 : W.heap[g2]? = some (.cells #[.func (.yield l) #[] #[]] 140 (0, 0))
 k3 : W.heap[g3]? = some (.cells (ac o) 121 (0, 0))
 k4 : W.heap[g4]? = some (.cells #[chooseV g1 g2 g3 g4] 138 (0, 0))
 hz : ∀ i, n1 ≤ i → o i = 0
theorem below_then0 {n : Nat} {A B C : World} (h : Below n A B) (k : Below n B C) : Below n A C := h.trans k
def KeptN (X : Nat → Prop) (g3 : Nat) (W W' : World) : Prop := ∀ k o, W.heap[k]? = some o → ¬ X k → k ≠ g3 → (∀ cs fr, o ≠ .cells cs 121 fr) → W'.heap[k]? = some o
theorem KeptN.refl (X : Nat → Prop) (g3 : Nat) (W : World) : KeptN X g3 W W := fun _ _ h _ _ _ => h
theorem KeptN.trans {X : Nat → Prop} {g3 : Nat} {A B C : World} (h : KeptN X g3 A B) (k : KeptN X g3 B C) : KeptN X g3 A C := fun i o hi hx hn ht => k i o (h i o hi hx hn ht) hx hn ht
theorem KeptN.below {X : Nat → Prop} {g3 : Nat} {A B C : World} (h : KeptN X g3 A B) (k : Below B.heap.size B C) : KeptN X g3 A C := fun i o hi hx hn ht => blk_below (h i o hi hx hn ht) k
theorem KeptN.set {X : Nat → Prop} {g3 : Nat} {A B : World} (h : KeptN X g3 A B) (j : Nat) (u : Value) : KeptN X g3 A (B.setCell ⟨g3, j, none⟩ u) := fun i o hi hx hn ht => (Below.heap_setCell B ⟨g3, j, none⟩ u i hn).trans (h i o hi hx hn ht)
theorem KeptN.drew {X : Nat → Prop} {g3 : Nat} {A B : World} (h : KeptN X g3 A B) : KeptN X g3 A B.drew := h
theorem Kp.keptN {B0 : Nat} {X : Nat → Prop} {g3 : Nat} {A B : World} (h : Kp B0 X g3 A B) : KeptN X g3 A B := fun _ _ hi hx _ ht => h.kept hi hx ht
def ChPost (Good : World → Prop) (Bad : World → Prop) (e : Ending) (W : World) : Prop := (e = .returned (.bool true) ∧ Good W) ∨ (e = .returned (.bool false) ∧ Bad W)
set_option maxHeartbeats 4000000 in
set_option maxRecDepth 100000 in
theorem choose_calls (w0 : World) (A0 : Option Addr) (c0 : Nat) (l0 : List S109) (A1 : Option Addr) (c1 : Nat) (l1 : List S110) (wg : Int) (l g1 g2 g3 g4 : Nat) (X : Nat → Prop) (ALL : List (List Int)) (J Jx : List (List Int) → World → Prop)
  (hr0 : Kd.C k109 w0 A0 l0.length l0) (hc0 : l0.length ≤ c0) (hr1 : Kd.C k110 w0 A1 l1.length l1) (hc1 : l1.length ≤ c1)
  (hn0 : l0.length ≤ 30) (hn1 : l1.length ≤ 7) (hms : ∀ p ∈ l1, p.f0.length ≤ 30)
  (hg3 : w0.heap.size ≤ g3) (hx1 : ¬ X g1) (hx2 : ¬ X g2) (hx4 : ¬ X g4) (hxn : ∀ k, g3 ≤ k → ¬ X k)
  (hJ : ∀ s A B, J s A → A.grownBy B (some g3) → J s B) (hJx : ∀ s A B, Jx s A → A.grownBy B (some g3) → Jx s B)
  (hY : ∀ pre x W, J pre W → g3 < W.heap.size → (pre ++ [x]) <+: ALL → YieldAt Fence.wide 0 Try.prog l #[.agg (ac (pad x))] W fun e W' =>
   (e = .returned (.bool true) ∧ J (pre ++ [x]) W' ∧ Kp w0.heap.size X g3 W W') ∨ (e = .returned (.bool false) ∧ Jx (pre ++ [x]) W')) :
  ∀ (d pc : Nat) (pfx : List Int) (o : Nat → Int) (pre : List (List Int)) (W : World), pc + d = l1.length → pfx.length = pc → (∀ i, i < pc → o i = pfx.getD i 0) →
   ChInv w0 A0 c0 l0.length A1 c1 l1.length wg l g1 g2 g3 g4 W o → J pre W → (pre ++ (prods (optsL l0 l1) d pc).map (pfx ++ ·)) <+: ALL →
   Calls Try.prog 109 #[.int .i64 (pc : Int), .pointer (some ⟨g1, 0, none⟩), .pointer (some ⟨g2, 0, none⟩), .pointer (some ⟨g3, 0, none⟩), .pointer (some ⟨g4, 0, none⟩)] W
    (ChPost (fun W' => J (pre ++ (prods (optsL l0 l1) d pc).map (pfx ++ ·)) W' ∧ ∃ o', ChInv w0 A0 c0 l0.length A1 c1 l1.length wg l g1 g2 g3 g4 W' o' ∧ (∀ i, i < pc → o' i = pfx.getD i 0) ∧ KeptN X g3 W W')
     (fun W' => ∃ q, q <+: ALL ∧ Jx q W')) := by
 have hu35 := Try.underlying35
 have hu110 := Try.underlying110
 have hu121 := Try.underlying121
 have HN0 := Aside0.mk hn0
 have HN1 := Aside0.mk hn1
 have HR0 := Aside0.mk hr0
 have HC0 := Aside0.mk hc0
 have HR1 := Aside0.mk hr1
 have HC1 := Aside0.mk hc1
 have HMS := Aside0.mk hms
 have HY := Aside0.mk hY
 have HG3 := Aside0.mk hg3
 have HX := Aside0.mk (And.intro hx1 (And.intro hx2 (And.intro hx4 hxn)))
 clear hr0 hc0 hr1 hc1 hms hY hg3 hx1 hx2 hx4 hxn
 intro d
 induction d with
 | zero =>
  intro pc pfx o pre wr hd hpf hpo hinv hj hall
  obtain rfl : pc = l1.length := by omega
  have ho : o = pad pfx := by
   funext i
   by_cases h : i < l1.length
   ·exact hpo i h
   ·rw [hinv.hz i (by omega)]
    unfold pad
    rw [List.getD_eq_getElem?_getD, List.getElem?_eq_none (by omega)]; rfl
  subst ho
  have HINV := Aside0.mk hinv
  have hcz0 : wr.cell? ⟨g1, 0, none⟩ = some (.slice A0 l0.length c0) := (blk_cell hinv.k1 0).trans rfl
  have hcz1 : wr.cell? ⟨g1, 1, none⟩ = some (.slice A1 l1.length c1) := (blk_cell hinv.k1 1).trans rfl
  have hcz2 : wr.cell? ⟨g1, 2, none⟩ = some (.int .i64 wg) := (blk_cell hinv.k1 2).trans rfl
  have hy0 : wr.cell? ⟨g2, 0, none⟩ = some (.func (.yield l) #[] #[]) := (blk_cell hinv.k2 0).trans rfl
  have ha0 : wr.cell? ⟨g3, 0, none⟩ = some (.int .i64 (pad pfx 0)) := (blk_cell hinv.k3 0).trans rfl
  have ha1 : wr.cell? ⟨g3, 1, none⟩ = some (.int .i64 (pad pfx 1)) := (blk_cell hinv.k3 1).trans rfl
  have ha2 : wr.cell? ⟨g3, 2, none⟩ = some (.int .i64 (pad pfx 2)) := (blk_cell hinv.k3 2).trans rfl
  have ha3 : wr.cell? ⟨g3, 3, none⟩ = some (.int .i64 (pad pfx 3)) := (blk_cell hinv.k3 3).trans rfl
  have ha4 : wr.cell? ⟨g3, 4, none⟩ = some (.int .i64 (pad pfx 4)) := (blk_cell hinv.k3 4).trans rfl
  have ha5 : wr.cell? ⟨g3, 5, none⟩ = some (.int .i64 (pad pfx 5)) := (blk_cell hinv.k3 5).trans rfl
  have ha6 : wr.cell? ⟨g3, 6, none⟩ = some (.int .i64 (pad pfx 6)) := (blk_cell hinv.k3 6).trans rfl
  have hall2 : pre ++ [pfx] <+: ALL := by simpa [prods] using hall
  obtain ⟨fn, tmps, assign, body, hy, hR⟩ := HY.out pre pfx wr hj (blk_lt hinv.k3) hall2
  have HR := Aside0.mk hR
  have HPO := Aside0.mk hpo
  have hgoal : pre ++ (prods (optsL l0 l1) 0 l1.length).map (pfx ++ ·) = pre ++ [pfx] := by simp [prods]
  rw [hgoal]
  clear hgoal hR hpo hj hall hinv
  unfold ac at hy
  have hq : ((l1.length : Int) == (l1.length : Int)) = true := by simp
  go_enter Try.func109, Try.ntmps109
  go_upto_region 2 with (fail)
  refine (wpIn_wide (n := 0)).1 ?_
  gi_wp2
  refine ⟨rfl, HR.out.mono ?_⟩
  rintro e W2 (⟨rfl, hj2, hk⟩ | ⟨rfl, hjx⟩)
  ·have HK := Aside0.mk hk
   clear hk
   gi_wp2
   go_wp2
   go_ret
   have hi := HINV.out
   exact .inl ⟨rfl, hj2, pad pfx, ⟨below_then0 hi.hb HK.out.below, HK.out.kept hi.k1 HX.out.1 (by intro cs fr e; cases e), HK.out.kept hi.k2 HX.out.2.1 (by intro cs fr e; cases e), HK.out.own hi.k3, HK.out.kept hi.k4 HX.out.2.2.1 (by intro cs fr e; cases e), hi.hz⟩, HPO.out, HK.out.keptN⟩
  ·gi_wp2
   go_wp2
   go_ret
   exact .inr ⟨rfl, pre ++ [pfx], hall2, hjx⟩
 | succ d ih =>
  intro pc pfx o pre Ws hd hpf hpo hinv hj hall
  have hlt : pc < l1.length := by omega
  obtain ⟨ad1, A6, c6, e1, hx1_0, hx1_1, hl1, hi1⟩ := at_T110 (Kd.C_below HR1.out hinv.hb) (pc : Int) (by omega) (by omega)
  cases e1
  have hrd : rd_T110 l1 (pc : Int) = l1.getD pc z110 := rfl
  rw [hrd] at hx1_0 hx1_1 hl1 hi1
  have hz30 : (l1.getD pc z110).f0.length ≤ 30 := by
   rw [List.getD_eq_getElem?_getD, List.getElem?_eq_getElem hlt]
   exact HMS.out _ (List.getElem_mem hlt)
  rw [prods_map] at hall ⊢
  have hopt : optsL l0 l1 pc = ofL l0 (l1.getD pc z110).f0 := rfl
  rw [hopt] at hall ⊢
  clear hopt
  clear hrd
  generalize hz : l1.getD pc z110 = z at hx1_0 hx1_1 hl1 hi1 hz30 hall
  simp only [Int.toNat_natCast] at hx1_0 hx1_1
  obtain ⟨kof, hkof⟩ := of_ev l0 l1 wg z.f0 z.f1 HN0.out hz30
  have HKOF := Aside0.mk (hkof kof (Nat.le_refl _))
  have hol : (ofL l0 z.f0).length ≤ 30 := Nat.le_trans (sel_le _ _) HN0.out
  have HL1 := Aside0.mk hl1
  have HI1 := Aside0.mk hi1
  have HB := Aside0.mk hinv.hb
  have BK1 := Aside0.mk hinv.k1
  have BK2 := Aside0.mk hinv.k2
  have BK3 := Aside0.mk hinv.k3
  have BK4 := Aside0.mk hinv.k4
  have HZ3 := Aside0.mk hinv.hz
  have HJ := Aside0.mk hj
  have HPO := Aside0.mk hpo
  have HALL := Aside0.mk hall
  have HIH := Aside0.mk ih
  have HD := Aside0.mk hd
  have HPF := Aside0.mk hpf
  have hg34 : g4 ≠ g3 := fun e_ => by have h_ := BK4.out; have h2_ := BK3.out; rw [e_] at h_; rw [h_] at h2_; cases h2_
  have hg31 : g1 ≠ g3 := fun e_ => by have h_ := BK1.out; have h2_ := BK3.out; rw [e_] at h_; rw [h_] at h2_; cases h2_
  have hg32 : g2 ≠ g3 := fun e_ => by have h_ := BK2.out; have h2_ := BK3.out; rw [e_] at h_; rw [h_] at h2_; cases h2_
  have HNE := Aside0.mk (And.intro hg31 (And.intro hg32 hg34))
  have hcz0 := sc 0 BK1
  have hcz1 := sc 1 BK1
  have hcz2 := sc 2 BK1
  have hq : ((pc : Int) == (l1.length : Int)) = false := beq_eq_false_iff_ne.mpr (by omega)
  have hq2 : (pc == l1.length) = false := beq_eq_false_iff_ne.mpr (by omega)
  have HKN := Aside0.mk (KeptN.refl X g3 Ws)
  clear hz hkof hl1 hi1 hz30 hinv hj hpo hall ih hd hpf hg31 hg32
  go_enter Try.func109, Try.ntmps109
  go_wp2
  refine start_ (n := 9) (S := fun w' => w'.cell? ⟨g1, 0, none⟩ = some (.slice A0 l0.length c0) ∧ w'.cell? ⟨g1, 1, none⟩ = some (.slice (some ad1) l1.length c1) ∧ w'.cell? ⟨g1, 2, none⟩ = some (.int .i64 wg) ∧ w'.cell? (ad1.add (pc * 2)) = some (.slice A6 z.f0.length c6) ∧ w'.cell? ⟨(ad1.add (pc * 2)).block, (ad1.add (pc * 2)).off + 1, none⟩ = some (.int .i64 z.f1)) (ds := []) (lm 9 0) (by kernel_rfl) rfl (by kernel_rfl) ⟨hcz0, hcz1, hcz2, hx1_0, hx1_1⟩ (fun hHeld => ?_)
  replace HB := Aside0.mk (below_drew1 HB.out)
  replace HJ := Aside0.mk (hJ _ _ _ HJ.out (grown_drew _ _))
  replace BK1 := Aside0.mk (blk_drew BK1.out)
  replace BK2 := Aside0.mk (blk_drew BK2.out)
  replace BK3 := Aside0.mk (blk_drew BK3.out)
  replace BK4 := Aside0.mk (blk_drew BK4.out)
  replace HI1 := Aside0.mk (Kd.C_drew HI1.out)
  replace hcz0 := (show Ws.drew.cell? _ = _ from hcz0)
  replace hcz1 := (show Ws.drew.cell? _ = _ from hcz1)
  replace hcz2 := (show Ws.drew.cell? _ = _ from hcz2)
  replace hx1_0 := (show Ws.drew.cell? _ = _ from hx1_0)
  replace hx1_1 := (show Ws.drew.cell? _ = _ from hx1_1)
  replace HKN := Aside0.mk (KeptN.drew HKN.out)
  generalize Ws.drew = W2 at *
  refine sP (i := 1) (N := some 18) (lm 9 2) ?_
  refine sP (i := 3) (N := some 20) (lm 9 10) ?_
  refine sP (i := 8) (N := some 25) (lm 9 266) ?_
  refine take_ (i := 0) (N := some 17) (v := ?_) (a' := ?_) (lm 9 267) rfl rfl (by kernel_rfl) (fun _ _ _ h => h) (Or.inl ⟨by rfl, ?_⟩) hHeld ?_ ?_
  rotate_left
  ·rintro w' ⟨s0, s1, s2, s3, s4⟩
   go_simp
   with_reducible rfl
  rotate_left
  ·simp only [Act.put, List.setIfInBounds_toArray, List.set_cons_zero, List.set_cons_succ, i64_w, i32_w]
   rfl
  refine take_ (i := 2) (N := some 19) (v := ?_) (a' := ?_) (lm 9 271) rfl rfl (by kernel_rfl) (fun _ _ _ h => h) (Or.inl ⟨by rfl, ?_⟩) hHeld ?_ ?_
  rotate_left
  ·rintro w' ⟨s0, s1, s2, s3, s4⟩
   go_simp
   with_reducible rfl
  rotate_left
  ·simp only [Act.put, List.setIfInBounds_toArray, List.set_cons_zero, List.set_cons_succ, i64_w, i32_w]
   rfl
  refine sP (i := 4) (N := some 21) (lm 9 287) ?_
  refine take_ (i := 5) (N := some 22) (v := ?_) (a' := ?_) (lm 9 319) rfl rfl (by kernel_rfl) (fun _ _ _ h => h) (Or.inl ⟨by rfl, ?_⟩) hHeld ?_ ?_
  rotate_left
  ·rintro w' ⟨s0, s1, s2, s3, s4⟩
   go_simp
   with_reducible rfl
  rotate_left
  ·simp only [Act.put, List.setIfInBounds_toArray, List.set_cons_zero, List.set_cons_succ, i64_w, i32_w]
   rfl
  refine one_ (i := 6) (N := some 23) (lm 9 383) rfl rfl (by kernel_rfl) (by decide) (fun K hK => ?_)
  refine goes_ Try.func93 (by kernel_rfl) rfl #[.agg #[.slice A0 l0.length c0, .slice (some ad1) l1.length c1, .int .i64 wg], .agg #[.slice A6 z.f0.length c6, .int .i64 z.f1]] (by rfl) rfl rfl (by simp only [List.map_toArray, List.map_cons, List.map_nil]; rfl) ?_
  with_reducible refine (bundle_Table_of.calls kof A0 c0 l0 (some ad1) c1 l1 wg A6 c6 z.f0 z.f1 (ofL l0 z.f0) _ (Kd.C_below HR0.out HB.out) HC0.out (Kd.C_below HR1.out HB.out) HC1.out HI1.out HL1.out HKOF.out).mono ?_
  rintro e W3 ⟨v23, rfl, ho, hb⟩
  refine ⟨_, rfl, ?_⟩
  have HG3L := Aside0.mk (blk_lt BK3.out)
  replace hcz0 := (hb.cell (World.block_lt_of_cell? _ _ hcz0)).trans hcz0
  replace hcz1 := (hb.cell (World.block_lt_of_cell? _ _ hcz1)).trans hcz1
  replace hcz2 := (hb.cell (World.block_lt_of_cell? _ _ hcz2)).trans hcz2
  replace hx1_0 := (hb.cell (World.block_lt_of_cell? _ _ hx1_0)).trans hx1_0
  replace hx1_1 := (hb.cell (World.block_lt_of_cell? _ _ hx1_1)).trans hx1_1
  replace HKN := Aside0.mk (KeptN.below HKN.out hb)
  have HJ3 := Aside0.mk (hJ _ _ _ HJ.out (grown_of_below hb _))
  clear HJ
  have HJ := HJ3
  clear HJ3
  replace BK1 := Aside0.mk (blk_below BK1.out hb)
  replace BK2 := Aside0.mk (blk_below BK2.out hb)
  replace BK3 := Aside0.mk (blk_below BK3.out hb)
  replace BK4 := Aside0.mk (blk_below BK4.out hb)
  replace HB := Aside0.mk (below_step HB.out hb)
  have HO23 := Aside0.mk ho
  clear ho hb
  obtain ⟨A23, c23, e23⟩ := Kd.R_slice HO23.out
  subst e23
  refine hK.out _ _ ⟨hcz0, hcz1, hcz2, hx1_0, hx1_1⟩ (fun hHeld => ?_)
  clear hK K
  refine sN ?_
  refine sP (i := 7) (N := some 24) (lm 9 511) ?_
  refine done_ (by kernel_rfl) ?_
  go_wp2
  have HRW := Aside0.mk (RowI.of_R (X := X) (g3 := g3) HO23.out HG3L.out HX.out.2.2.2)
  have HINV := Aside0.mk (ChInv.mk (w0 := w0) (l := l) HB.out BK1.out BK2.out BK3.out BK4.out HZ3.out)
  clear HO23 HB BK1 BK2 BK3 BK4 HZ3 hcz0 hcz1 hcz2 hx1_0 hx1_1 HI1 HL1 HKOF hHeld HG3L
  generalize hopt : ofL l0 z.f0 = opts at *
  have HOPT := Aside0.mk hopt
  clear hopt
  have HOL := Aside0.mk hol
  go_loopg [25] opts.length (fun kq v25 w' => ∃ (m : Nat) (o' : Nat → Int), v25 = .int .i64 (m : Int) ∧ Aside0 (m + kq = opts.length) ∧ Aside0 (ChInv w0 A0 c0 l0.length (some ad1) c1 l1.length wg l g1 g2 g3 g4 w' o') ∧ Aside0 (∀ i, i < pc → o' i = pfx.getD i 0) ∧ Aside0 (J (pre ++ (opts.take m).flatMap fun v => (prods (optsL l0 l1) d (pc + 1)).map ((pfx ++ [v]) ++ ·)) w') ∧ Aside0 (RowI X g3 w' A23 opts) ∧ Aside0 (KeptN X g3 Ws w'))
  case atStart => exact ⟨0, o, rfl, ⟨Nat.zero_add _⟩, HINV, HPO, ⟨by simpa using HJ.out⟩, HRW, HKN⟩
  case round =>
   clear HINV HPO HJ HRW HKN
   obtain ⟨m, o', rfl, HM, HINV, HPO, HJ, HRW, HKN⟩ := hrel
   by_cases hm : m < opts.length
   ·cases gk with
    | zero => have := HM.out; omega
    | succ k1 =>
    rcases HRW.out with he | ⟨go, cl, rfl, hgo, hcl, hgn, hgx⟩
    ·rw [he] at hm; exact absurd hm (by simp)
    have hx27 : wr.cell? ⟨go, m, none⟩ = some (.int .i64 opts[m]) := (blk_cell hgo m).trans (hcl m hm)
    have HV := Aside0.mk (show opts[m]? = some opts[m] from List.getElem?_eq_getElem hm)
    have hft := flat_take (fun v => (prods (optsL l0 l1) d (pc + 1)).map ((pfx ++ [v]) ++ ·)) opts m hm
    generalize opts[m] = v at hx27 HV hft
    have HFT := Aside0.mk hft
    have hi := HINV.out
    have hx3 : wr.cell? ⟨g3, pc, none⟩ = some (.int .i64 (o' pc)) := (blk_cell hi.k3 pc).trans (ac_get o' pc (by have := HN1.out; omega))
    have hf3 := blk_frozen hi.k3 pc
    have hx4 : wr.cell? ⟨g4, 0, none⟩ = some (.func (.func 109) #[] #[.pointer (some ⟨g1, 0, none⟩), .pointer (some ⟨g2, 0, none⟩), .pointer (some ⟨g3, 0, none⟩), .pointer (some ⟨g4, 0, none⟩)]) := (blk_cell hi.k4 0).trans rfl
    have HG := Aside0.mk (And.intro hgo (And.intro hgn hgx))
    clear hft hi hgo hcl hgn hgx
    go_wp2_with fail
    have hi := HINV.out
    have hinv2 : ChInv w0 A0 c0 l0.length (some ad1) c1 l1.length wg l g1 g2 g3 g4 (wr.setCell ⟨g3, pc, none⟩ (.int .i64 v)) (upd o' pc v) :=
     ⟨hi.hb.setCell (p := ⟨g3, pc, none⟩) HG3.out _, blk_far hi.k1 HNE.out.1 _, blk_far hi.k2 HNE.out.2.1 _, by rw [← ac_set o' pc v (by have := HN1.out; omega)]; exact blk_set hi.k3 pc _, blk_far hi.k4 HNE.out.2.2 _, fun i h => by unfold upd; rw [if_neg (by omega)]; exact hi.hz i h⟩
    have hpo2 : ∀ i, i < pc + 1 → upd o' pc v i = (pfx ++ [v]).getD i 0 := by
     intro i h
     have hpl := HPF.out
     unfold upd
     by_cases e : i = pc
     ·rw [if_pos e, e, List.getD_eq_getElem?_getD, List.getElem?_append_right (by omega), hpl]; simp
     ·rw [if_neg e, HPO.out i (by omega), List.getD_eq_getElem?_getD, List.getD_eq_getElem?_getD, List.getElem?_append_left (by omega)]
    have hall2 : (pre ++ (opts.take m).flatMap fun v => (prods (optsL l0 l1) d (pc + 1)).map ((pfx ++ [v]) ++ ·)) ++ (prods (optsL l0 l1) d (pc + 1)).map ((pfx ++ [v]) ++ ·) <+: ALL := by
     rw [List.append_assoc, ← HFT.out]
     refine List.IsPrefix.trans ?_ HALL.out
     exact (List.prefix_append_right_inj pre).2 (flat_pre _ _ _)
    have hcall := HIH.out (pc + 1) (pfx ++ [v]) (upd o' pc v) _ (wr.setCell ⟨g3, pc, none⟩ (.int .i64 v)) (by have := HD.out; omega) (by have := HPF.out; simp; omega) hpo2 hinv2 (hJ _ _ _ HJ.out (grown_set wr g3 pc (.int .i64 v))) hall2
    rw [show ((pc + 1 : Nat) : Int) = (pc : Int) + 1 from rfl] at hcall
    have HKN2 := Aside0.mk (KeptN.set HKN.out pc (.int .i64 v))
    have HGO2 := Aside0.mk ((Below.heap_setCell wr ⟨g3, pc, none⟩ (.int .i64 v) go HG.out.2.1).trans HG.out.1)
    have HCALL := Aside0.mk hcall
    clear hcall hall2 hpo2 hinv2 hi
    refine HCALL.out.mono ?_
    rintro e W5 (⟨rfl, hj5, o5, hi5, hp5, hk5⟩ | ⟨rfl, hb5⟩)
    ·have HI5 := Aside0.mk hi5
     have HJ5 := Aside0.mk hj5
     have HP5 := Aside0.mk hp5
     have HK5 := Aside0.mk hk5
     clear hj5 hi5 hp5 hk5
     go_wp2
     go_roundg k1
     case measure => omega
     case rel =>
      refine ⟨m + 1, o5, by go_num, ⟨by have := HM.out; omega⟩, HI5, ⟨fun i h => ?_⟩, ⟨?_⟩, ⟨?_⟩, ⟨HKN2.out.trans HK5.out⟩⟩
      ·have hpl := HPF.out
       rw [HP5.out i (by omega), List.getD_eq_getElem?_getD, List.getD_eq_getElem?_getD, List.getElem?_append_left (by omega)]
      ·have h_ := HJ5.out
       rw [List.append_assoc, ← HFT.out] at h_
       exact h_
      ·rcases HRW.out with he | ⟨go_, cl_, ha_, hg_, hc_, hn_, hx_⟩
       ·exact .inl he
       ·injection ha_ with ha_
        injection ha_ with ha_
        subst ha_
        exact .inr ⟨_, cl_, rfl, HK5.out _ _ ((Below.heap_setCell wr ⟨g3, pc, none⟩ (.int .i64 v) _ hn_).trans hg_) hx_ hn_ (by intro cs fr e; cases e), hc_, hn_, hx_⟩
    ·go_wp2
     go_ret
     exact .inr ⟨rfl, hb5⟩
   ·go_wp2
    go_ret
    obtain rfl : m = opts.length := by have := HM.out; omega
    have h_ := HJ.out
    rw [List.take_length] at h_
    rw [HOPT.out]
    exact .inl ⟨rfl, h_, o', HINV.out, HPO.out, HKN.out⟩
end Go.Proofs.Ytnbbbeghgomnoaa.X
namespace Go.Proofs.Ytnbbbeghgomnoaa.X
open Go.RowKit Go.Proofs.YtnbbbeghgomnoaaW.PrintWords Go.Proofs.YtnbbbeghgomnoaaW.PrintLast Go.Proofs.YtnbbbeghgomnoaaW.PrintMore
set_option maxHeartbeats 1000000 in
set_option maxRecDepth 100000 in
theorem lists_calls (A0 : Option Addr) (c0 n0 : Nat) (A1 : Option Addr) (c1 n1 : Nat) (wg : Int) (w : World) :
  Calls Try.prog 96 #[.agg #[.slice A0 n0 c0, .slice A1 n1 c1, .int .i64 wg]] w fun e w' => e = .returned (.func (.func 108) #[] #[.pointer (some ⟨w.heap.size, 0, none⟩)]) ∧ w'.heap[w.heap.size]? = some (.cells #[.slice A0 n0 c0, .slice A1 n1 c1, .int .i64 wg] 35 (0, 0)) ∧ Below w.heap.size w w' := by
 have hu35 := Try.underlying35
 go_enter Try.func96, Try.ntmps96
 go_wp2
 go_ret
 exact ⟨rfl, World.alloc_heap_new w _, below_alloc (Below.refl _ _) _⟩
set_option maxHeartbeats 1000000 in
set_option maxRecDepth 100000 in
theorem lists1_seq (w0 : World) (A0 : Option Addr) (c0 : Nat) (l0 : List S109) (A1 : Option Addr) (c1 : Nat) (l1 : List S110) (wg : Int) (g1 : Nat) (X : Nat → Prop) (w : World)
  (hr0 : Kd.C k109 w0 A0 l0.length l0) (hc0 : l0.length ≤ c0) (hr1 : Kd.C k110 w0 A1 l1.length l1) (hc1 : l1.length ≤ c1)
  (hn0 : l0.length ≤ 30) (hn1 : l1.length ≤ 7) (hms : ∀ p ∈ l1, p.f0.length ≤ 30)
  (hb0 : Below w0.heap.size w0 w) (hk1 : w.heap[g1]? = some (.cells #[.slice A0 l0.length c0, .slice A1 l1.length c1, .int .i64 wg] 35 (0, 0))) (hx1 : ¬ X g1) (hX : ∀ k, w.heap.size ≤ k → ¬ X k) :
  SeqR Try.prog 108 #[.pointer (some ⟨g1, 0, none⟩)] (fun xs => .agg (ac (pad xs))) (allL l0 l1) w0.heap.size (fun k => X k ∨ k = w.heap.size + 1) w := by
 intro l J Jx W hz hb hJ hJx hY h0
 have hu121 := Try.underlying121
 refine callsIn_wide.2 ?_
 have hlt1 : g1 < w.heap.size := blk_lt hk1
 go_enter Try.func108, Try.ntmps108
 go_wp2_with fail
 obtain ⟨g2, hg2⟩ : ∃ g, g = w.heap.size + 2 := ⟨_, rfl⟩
 rw [← hg2]
 obtain ⟨Wa, hWa⟩ : ∃ Wa, Wa = W.alloc (.cells #[.func (.yield l) #[] #[]] 140) := ⟨_, rfl⟩
 obtain ⟨Wb, hWb⟩ : ∃ Wb, Wb = Wa.alloc (.cells (ac (fun _ => 0)) 121) := ⟨_, rfl⟩
 obtain ⟨Wc, hWc⟩ : ∃ Wc, Wc = Wb.alloc (.cells #[chooseV g1 g2 (g2 + 1) (g2 + 1 + 1)] 138) := ⟨_, rfl⟩
 have hza : Wa.heap.size = g2 + 1 := by rw [hWa, World.size_alloc]; omega
 have hzb : Wb.heap.size = g2 + 2 := by rw [hWb, World.size_alloc]; omega
 have k2a : Wa.heap[g2]? = some (.cells #[.func (.yield l) #[] #[]] 140 (0, 0)) := by
  rw [hWa]; have := World.alloc_heap_new W (.cells #[.func (.yield l) #[] #[]] 140); rwa [hz, ← hg2] at this
 have k3b : Wb.heap[g2 + 1]? = some (.cells (ac (fun _ => 0)) 121 (0, 0)) := by
  rw [hWb]; have := World.alloc_heap_new Wa (.cells (ac (fun _ => 0)) 121); rwa [hza] at this
 have k4c : Wc.heap[g2 + 1 + 1]? = some (.cells #[chooseV g1 g2 (g2 + 1) (g2 + 1 + 1)] 138 (0, 0)) := by
  rw [hWc]; have := World.alloc_heap_new Wb (.cells #[chooseV g1 g2 (g2 + 1) (g2 + 1 + 1)] 138); rwa [hzb] at this
 have hbW : Below W.heap.size W Wc := by
  rw [hWc, hWb, hWa]
  exact ((below_alloc (below_alloc (below_alloc (Below.refl _ _) _) _) _))
 have hinv : ChInv w0 A0 c0 l0.length A1 c1 l1.length wg l g1 g2 (g2 + 1) (g2 + 1 + 1) Wc (fun _ => 0) :=
  ⟨(hb0.trans (hb.mono hb0.size)).trans (hbW.mono (by have := hb0.size; omega)), blk_below (blk_below hk1 hb) hbW, by rw [hWc, hWb]; exact blk_alloc (blk_alloc k2a _) _, by rw [hWc]; exact blk_alloc k3b _, k4c, fun _ _ => rfl⟩
 have hcall := choose_calls w0 A0 c0 l0 A1 c1 l1 wg l g1 g2 (g2 + 1) (g2 + 1 + 1) (fun k => X k ∨ k = w.heap.size + 1) (allL l0 l1) J Jx hr0 hc0 hr1 hc1 hn0 hn1 hms (by have := hb0.size; omega)
  (fun h => h.elim hx1 (fun e => by omega)) (fun h => h.elim (hX _ (by omega)) (fun e => by omega)) (fun h => h.elim (hX _ (by omega)) (fun e => by omega)) (fun k hk h => h.elim (hX _ (by omega)) (fun e => by omega))
  (fun s A B h hg => hJ s A B h (by rw [show w.heap.size + 3 = g2 + 1 from by omega]; exact hg)) (fun s A B h hg => hJx s A B h (by rw [show w.heap.size + 3 = g2 + 1 from by omega]; exact hg))
  (fun pre x W1 h h3 hp => by have := hY pre x W1 h (by omega) hp; rw [show w.heap.size + 3 = g2 + 1 from by omega] at this; exact this)
  l1.length 0 [] (fun _ => 0) [] Wc (by omega) rfl (fun i h => absurd h (by omega)) hinv (hJ _ _ _ h0 (grown_of_below hbW _)) (by simp [allL])
 rw [show ((0 : Nat) : Int) = 0 from rfl] at hcall
 rw [hWc, hWb, hWa] at hcall
 unfold chooseV ac at hcall
 refine hcall.mono ?_
 clear hcall hinv
 rintro e W5 (⟨rfl, hj5, _⟩ | ⟨rfl, q, hq, hb5⟩)
 ·go_wp2
  go_end0
  exact ⟨⟨_, rfl⟩, .inl (by simpa [allL] using hj5)⟩
 ·go_wp2
  go_end0
  exact ⟨⟨_, rfl⟩, .inr ⟨q, hq, hb5⟩⟩
end Go.Proofs.Ytnbbbeghgomnoaa.X
namespace Go.Proofs.Ytnbbbeghgomnoaa.X
open Go.RowKit Go.Proofs.YtnbbbeghgomnoaaW.PrintWords Go.Proofs.YtnbbbeghgomnoaaW.PrintLast Go.Proofs.YtnbbbeghgomnoaaW.PrintMore
theorem sel_mem (p : Nat → Bool) (m : Nat) (x : Int) : x ∈ sel p m ↔ ∃ k : Nat, k < m ∧ p k = true ∧ x = (k : Int) := by
 unfold sel
 simp only [List.mem_map, List.mem_filter, List.mem_range]
 constructor
 ·rintro ⟨k, ⟨h1, h2⟩, rfl⟩; exact ⟨k, h1, h2, rfl⟩
 ·rintro ⟨k, h1, h2, rfl⟩; exact ⟨k, ⟨h1, h2⟩, rfl⟩
theorem sel_nodup (p : Nat → Bool) (m : Nat) : (sel p m).Nodup := by
 unfold sel
 unfold List.Nodup
 rw [List.pairwise_map]
 refine List.Pairwise.imp ?_ (List.Pairwise.filter _ (List.nodup_range (n := m)))
 intro a b h e
 exact h (by omega)
theorem prods_mem (opts : Nat → List Int) : ∀ (d i : Nat) (xs : List Int), xs ∈ prods opts d i ↔ xs.length = d ∧ ∀ j, j < d → xs.getD j 0 ∈ opts (i + j) := by
 intro d
 induction d with
 | zero => intro i xs; simp [prods]
 | succ d ih =>
  intro i xs
  simp only [prods, List.mem_flatMap, List.mem_map]
  constructor
  ·rintro ⟨v, hv, ys, hys, rfl⟩
   obtain ⟨h1, h2⟩ := (ih (i + 1) ys).1 hys
   refine ⟨by simp [h1], fun j hj => ?_⟩
   cases j with
   | zero => simpa using hv
   | succ j =>
    have := h2 j (by omega)
    rw [show i + 1 + j = i + (j + 1) from by omega] at this
    simpa using this
  ·rintro ⟨h1, h2⟩
   cases xs with
   | nil => simp at h1
   | cons v ys =>
    refine ⟨v, by simpa using h2 0 (by omega), ys, (ih (i + 1) ys).2 ⟨by simpa using h1, fun j hj => ?_⟩, rfl⟩
    have := h2 (j + 1) (by omega)
    rw [show i + 1 + j = i + (j + 1) from by omega]
    simpa using this
theorem allL_mem (l0 : List S109) (l1 : List S110) (xs : List Int) : xs ∈ allL l0 l1 ↔ xs.length = l1.length ∧ ∀ j, j < l1.length → xs.getD j 0 ∈ optsL l0 l1 j := by
 unfold allL
 rw [prods_mem]; simp
theorem opts_lt (l0 : List S109) (l1 : List S110) (i : Nat) (x : Int) (h : x ∈ optsL l0 l1 i) : 0 ≤ x ∧ x < l0.length := by
 unfold optsL ofL at h
 obtain ⟨k, h1, _, rfl⟩ := (sel_mem _ _ _).1 h
 omega
theorem allL_owners (l0 : List S109) (l1 : List S110) (xs : List Int) (h : xs ∈ allL l0 l1) : ∀ i, i < l1.length → 0 ≤ pad xs i ∧ pad xs i < l0.length :=
 fun i hi => opts_lt l0 l1 i _ (((allL_mem l0 l1 xs).1 h).2 i hi)
theorem prods_nodup (opts : Nat → List Int) (ho : ∀ i, (opts i).Nodup) : ∀ (d i : Nat), (prods opts d i).Nodup := by
 intro d
 induction d with
 | zero => intro i; simp [prods]
 | succ d ih =>
  intro i
  simp only [prods]
  unfold List.Nodup
  rw [List.pairwise_flatMap]
  refine ⟨fun v _ => ?_, ?_⟩
  ·rw [List.pairwise_map]
   refine List.Pairwise.imp ?_ (ih (i + 1))
   intro a b h e
   injection e with _ e
   exact h e
  ·refine List.Pairwise.imp ?_ (ho i)
   intro a b hab xs h1 ys h2
   obtain ⟨y, _, rfl⟩ := List.mem_map.1 h1
   obtain ⟨z, _, rfl⟩ := List.mem_map.1 h2
   intro e
   injection e with e1 _
   exact hab e1
theorem allL_nodup (l0 : List S109) (l1 : List S110) : (allL l0 l1).Nodup := prods_nodup _ (fun _ => sel_nodup _ _) _ _
theorem pad_inj (xs ys : List Int) (h : xs.length = ys.length) (hp : ∀ i, i < xs.length → pad xs i = pad ys i) : xs = ys := by
 apply List.ext_getElem h
 intro i h1 h2
 have := hp i h1
 unfold pad at this
 rw [List.getD_eq_getElem?_getD, List.getD_eq_getElem?_getD, List.getElem?_eq_getElem h1, List.getElem?_eq_getElem h2] at this
 exact this
end Go.Proofs.Ytnbbbeghgomnoaa.X
namespace Go.Proofs.Ytnbbbeghgomnoaa.X
open Go.RowKit Go.Proofs.YtnbbbeghgomnoaaW.PrintWords Go.Proofs.YtnbbbeghgomnoaaW.PrintLast Go.Proofs.YtnbbbeghgomnoaaW.PrintMore
set_option maxHeartbeats 1000000 in
set_option maxRecDepth 100000 in
theorem allWoman1_calls (z : S109) (b : Bool) (g1 : Nat) (w : World) (hk : w.heap[g1]? = some (.cells #[.func (.func 90) #[] #[]] 128 (0, 0))) (hp : ∀ W', Below w.heap.size w W' → Calls Try.prog 90 #[.agg #[.int .i64 z.f0, .int .i64 z.f1.f0, .int .i64 z.f1.f1]] W' fun e W'' => e = .returned (.bool b) ∧ Below W'.heap.size W' W'') :
  Calls Try.prog 104 #[.agg #[.int .i64 z.f0, .int .i64 z.f1.f0, .int .i64 z.f1.f1], .pointer (some ⟨g1, 0, none⟩)] w fun e w' => e = .returned (.bool (!b)) ∧ Below w.heap.size w w' := by
 obtain ⟨w0, hw0⟩ : ∃ w0 : World, w0 = w := ⟨_, rfl⟩
 have HB := Aside0.mk (show Below w0.heap.size w0 w from by rw [hw0]; exact Below.refl _ _)
 have BKg1 := Aside0.mk hk
 have HP := Aside0.mk hp
 have HW0 := Aside0.mk hw0
 clear hk hp hw0
 have hu109 := Try.underlying109
 go_enter Try.func104, Try.ntmps104
 go_wp2_with (first | ((with_reducible refine gate_dst (N := 2) rfl ?_); refine sbox (N := 2) #[.int .i64 z.f0, .int .i64 z.f1.f0, .int .i64 z.f1.f1] 109 ?_; intro g2 hg W_ hbox hb; have GEg2 := Aside0.mk (by rw [hg]; exact HB.out.size : w0.heap.size ≤ g2); replace BKg1 := Aside0.mk (blk_below BKg1.out hb); replace HB := Aside0.mk (below_step HB.out hb); have BKg2 := Aside0.mk hbox; clear hb hbox hg; have hcf := sc 0 BKg1; have hcz0 := sc 0 BKg2; have hcz1 := sc 1 BKg2; have hcz2 := sc 2 BKg2) | (go_at_call 90; refine (HP.out _ (by have h_ := HB.out; rw [HW0.out] at h_; exact h_)).mono ?_; rintro e W3 ⟨rfl, hb⟩; have HB3 := Aside0.mk (below_step HB.out hb); clear HB; have HB := HB3; clear HB3 hb))
 go_ret
 exact ⟨rfl, by have h_ := HB.out; rw [HW0.out] at h_; exact h_⟩
set_option maxHeartbeats 1000000 in
set_option maxRecDepth 100000 in
theorem indexWoman_calls (A : Option Addr) (c : Nat) (l : List S109) (ok : S109 → Bool) (g1 : Nat) (w : World) (hr : Kd.C k109 w A l.length l) (hl : l.length ≤ 4611686018427387904) (hp : ∀ z ∈ l, ∀ W', Below w.heap.size w W' → Calls Try.prog 104 #[.agg #[.int .i64 z.f0, .int .i64 z.f1.f0, .int .i64 z.f1.f1], .pointer (some ⟨g1, 0, none⟩)] W' fun e W'' => e = .returned (.bool (!ok z)) ∧ Below W'.heap.size W' W'') :
  Calls Try.prog 113 #[.slice A l.length c, .func (.func 104) #[] #[.pointer (some ⟨g1, 0, none⟩)]] w fun e w' => ∃ r : Int, e = .returned (.int .i64 r) ∧ decide (r ≥ 0) = (!l.all ok) ∧ Below w.heap.size w w' := by
 have HR := Aside0.mk hr
 have HP := Aside0.mk hp
 have HL := Aside0.mk hl
 clear hr hp
 have hu109 := Try.underlying109
 go_enter Try.func113, Try.ntmps113
 go_wp2
 go_loopg [8] l.length (fun kq v8 w' => ∃ m : Nat, v8 = .int .i64 (m : Int) ∧ Aside0 (m + kq = l.length) ∧ Aside0 ((l.take m).all ok = true) ∧ Aside0 (Below w.heap.size w w'))
 case atStart => exact ⟨0, rfl, ⟨Nat.zero_add _⟩, ⟨rfl⟩, ⟨Below.refl _ _⟩⟩
 case round =>
  obtain ⟨m, rfl, HM, HOK, HB⟩ := hrel
  by_cases hlt : m < l.length
  ·cases gk with
   | zero => have := HM.out; omega
   | succ k1 =>
   obtain ⟨ad0, e0, hx0_0, hx0_1, hx0_2⟩ := at_T109 (Kd.C_below HR.out HB.out) (m : Int) (by omega) (by omega)
   cases e0
   have hrd : rd_T109 l (m : Int) = l.getD m z109 := rfl
   rw [hrd] at hx0_0 hx0_1 hx0_2
   clear hrd
   have hzm : l.getD m z109 ∈ l := by
    rw [List.getD_eq_getElem?_getD, List.getElem?_eq_getElem hlt]
    exact List.getElem_mem hlt
   have htk : (l.take (m + 1)).all ok = ((l.take m).all ok && ok (l.getD m z109)) := by
    rw [List.take_succ_eq_append_getElem hlt, List.all_append, List.getD_eq_getElem?_getD, List.getElem?_eq_getElem hlt]
    simp
   have hgt : ok (l.getD m z109) = false → l.all ok = false := fun h => List.all_eq_false.2 ⟨_, hzm, by rw [h]; decide⟩
   generalize hz : l.getD m z109 = z at hx0_0 hx0_1 hx0_2 hzm htk hgt
   simp only [Int.toNat_natCast] at hx0_0 hx0_1 hx0_2
   have HC := Aside0.mk (HP.out z hzm wr HB.out)
   have HTK := Aside0.mk htk
   have HGT := Aside0.mk hgt
   clear hzm htk hgt hz
   by_cases hb : ok z = true
   ·rw [hb] at HC
    have HBZ := Aside0.mk hb
    clear hb
    go_wp2_with (go_at_call 104; refine HC.out.mono ?_; rintro e W3 ⟨rfl, hb⟩; have HB3 := Aside0.mk (below_step HB.out hb); clear HB; have HB := HB3; clear HB3 hb HC)
    go_roundg k1
    case measure => omega
    case rel => exact ⟨m + 1, by go_num, ⟨by have := HM.out; omega⟩, ⟨by rw [HTK.out, HOK.out, HBZ.out]; rfl⟩, HB⟩
   ·have hb' : ok z = false := by simpa using hb
    rw [hb'] at HC
    have HBZ := Aside0.mk hb'
    clear hb hb'
    go_wp2_with (go_at_call 104; refine HC.out.mono ?_; rintro e W3 ⟨rfl, hb⟩; have HB3 := Aside0.mk (below_step HB.out hb); clear HB; have HB := HB3; clear HB3 hb HC)
    go_ret
    exact ⟨(m : Int), rfl, by rw [HGT.out HBZ.out]; simp, HB.out⟩
  ·go_wp2
   go_ret
   obtain rfl : m = l.length := by have := HM.out; omega
   have h_ := HOK.out
   rw [List.take_length] at h_
   exact ⟨-1, rfl, by rw [h_]; rfl, HB.out⟩
set_option maxHeartbeats 1000000 in
set_option maxRecDepth 100000 in
theorem containsWoman_calls (A : Option Addr) (c : Nat) (l : List S109) (ok : S109 → Bool) (g1 : Nat) (w : World) (hr : Kd.C k109 w A l.length l) (hl : l.length ≤ 4611686018427387904) (hp : ∀ z ∈ l, ∀ W', Below w.heap.size w W' → Calls Try.prog 104 #[.agg #[.int .i64 z.f0, .int .i64 z.f1.f0, .int .i64 z.f1.f1], .pointer (some ⟨g1, 0, none⟩)] W' fun e W'' => e = .returned (.bool (!ok z)) ∧ Below W'.heap.size W' W'') :
  Calls Try.prog 103 #[.slice A l.length c, .func (.func 104) #[] #[.pointer (some ⟨g1, 0, none⟩)]] w fun e w' => e = .returned (.bool (!l.all ok)) ∧ Below w.heap.size w w' := by
 have HC := Aside0.mk (indexWoman_calls A c l ok g1 w hr hl hp)
 clear hr hp
 go_enter Try.func103, Try.ntmps103
 go_wp2_with (go_at_call 113; refine HC.out.mono ?_; rintro e W3 ⟨r, rfl, hr_, hb⟩; have HR3 := Aside0.mk hr_; have HB := Aside0.mk hb; clear hr_ hb HC)
 go_ret
 exact ⟨by rw [HR3.out]; rfl, HB.out⟩
set_option maxHeartbeats 1000000 in
set_option maxRecDepth 100000 in
theorem allWoman_calls (A : Option Addr) (c : Nat) (l : List S109) (ok : S109 → Bool) (w : World) (hr : Kd.C k109 w A l.length l) (hl : l.length ≤ 4611686018427387904) (hp : ∀ z ∈ l, ∀ W', Below w.heap.size w W' → Calls Try.prog 90 #[.agg #[.int .i64 z.f0, .int .i64 z.f1.f0, .int .i64 z.f1.f1]] W' fun e W'' => e = .returned (.bool (ok z)) ∧ Below W'.heap.size W' W'') :
  Calls Try.prog 89 #[.slice A l.length c, .func (.func 90) #[] #[]] w fun e w' => e = .returned (.bool (l.all ok)) ∧ Below w.heap.size w w' := by
 have HR := Aside0.mk hr
 have HP := Aside0.mk hp
 have HL := Aside0.mk hl
 clear hr hp hl
 have HB := Aside0.mk (Below.refl w.heap.size w)
 go_enter Try.func89, Try.ntmps89
 go_wp2_with (first | ((with_reducible refine gate_dst (N := 3) rfl ?_); refine box_event ?hg (N := 3) ?hd (cs := #[.func (.func 90) #[] #[]]) (t := 128) ?hr ?_; (case hd => rfl); (case hg => rfl); (case hr => first | (go_simp; done) | (go_simp; rfl)); intro g1 hg W_ hbox hb; have GEg1 := Aside0.mk (by rw [hg]; exact HB.out.size : w.heap.size ≤ g1); replace HB := Aside0.mk (below_step HB.out hb); have BKg1 := Aside0.mk hbox; clear hb hbox hg) | (go_at_call 103; refine (containsWoman_calls A c l ok g1 _ (Kd.C_below HR.out HB.out) HL.out (fun z hz W' hb => allWoman1_calls z (ok z) g1 W' (blk_below BKg1.out hb) (fun W'' hb2 => HP.out z hz W'' (below_step HB.out (below_step hb hb2))))).mono ?_; rintro e W3 ⟨rfl, hb⟩; have HB3 := Aside0.mk (below_step HB.out hb); clear HB; have HB := HB3; clear HB3 hb))
 go_ret
 exact ⟨by first | rfl | simp, HB.out⟩
set_option maxHeartbeats 1000000 in
set_option maxRecDepth 100000 in
theorem allPiece1_calls (z : S110) (tv : Value) (A6 : Option Addr) (c6 : Nat) (b : Bool) (g1 : Nat) (w : World) (hk : w.heap[g1]? = some (.cells #[.func (.func 87) #[tv] #[]] 126 (0, 0))) (hp : ∀ W', Below w.heap.size w W' → Calls Try.prog 87 #[tv, .agg #[.slice A6 z.f0.length c6, .int .i64 z.f1]] W' fun e W'' => e = .returned (.bool b) ∧ Below W'.heap.size W' W'') :
  Calls Try.prog 106 #[.agg #[.slice A6 z.f0.length c6, .int .i64 z.f1], .pointer (some ⟨g1, 0, none⟩)] w fun e w' => e = .returned (.bool (!b)) ∧ Below w.heap.size w w' := by
 obtain ⟨w0, hw0⟩ : ∃ w0 : World, w0 = w := ⟨_, rfl⟩
 have HB := Aside0.mk (show Below w0.heap.size w0 w from by rw [hw0]; exact Below.refl _ _)
 have BKg1 := Aside0.mk hk
 have HP := Aside0.mk hp
 have HW0 := Aside0.mk hw0
 clear hk hp hw0
 have hu110 := Try.underlying110
 go_enter Try.func106, Try.ntmps106
 go_wp2_with (first | ((with_reducible refine gate_dst (N := 2) rfl ?_); refine sbox (N := 2) #[.slice A6 z.f0.length c6, .int .i64 z.f1] 110 ?_; intro g2 hg W_ hbox hb; have GEg2 := Aside0.mk (by rw [hg]; exact HB.out.size : w0.heap.size ≤ g2); replace BKg1 := Aside0.mk (blk_below BKg1.out hb); replace HB := Aside0.mk (below_step HB.out hb); have BKg2 := Aside0.mk hbox; clear hb hbox hg; have hcf := sc 0 BKg1; have hcz0 := sc 0 BKg2; have hcz1 := sc 1 BKg2) | (go_at_call 87; refine (HP.out _ (by have h_ := HB.out; rw [HW0.out] at h_; exact h_)).mono ?_; rintro e W3 ⟨rfl, hb⟩; have HB3 := Aside0.mk (below_step HB.out hb); clear HB; have HB := HB3; clear HB3 hb))
 go_ret
 exact ⟨rfl, by have h_ := HB.out; rw [HW0.out] at h_; exact h_⟩
set_option maxHeartbeats 1000000 in
set_option maxRecDepth 100000 in
theorem indexPiece_calls (A : Option Addr) (c : Nat) (l : List S110) (ok : S110 → Bool) (g1 : Nat) (w : World) (hr : Kd.C k110 w A l.length l) (hl : l.length ≤ 4611686018427387904) (hp : ∀ z ∈ l, ∀ (A6 : Option Addr) (c6 : Nat) W', Below w.heap.size w W' → z.f0.length ≤ c6 → (Kd.int .i64).C W' A6 z.f0.length z.f0 → Calls Try.prog 106 #[.agg #[.slice A6 z.f0.length c6, .int .i64 z.f1], .pointer (some ⟨g1, 0, none⟩)] W' fun e W'' => e = .returned (.bool (!ok z)) ∧ Below W'.heap.size W' W'') :
  Calls Try.prog 114 #[.slice A l.length c, .func (.func 106) #[] #[.pointer (some ⟨g1, 0, none⟩)]] w fun e w' => ∃ r : Int, e = .returned (.int .i64 r) ∧ decide (r ≥ 0) = (!l.all ok) ∧ Below w.heap.size w w' := by
 have HR := Aside0.mk hr
 have HP := Aside0.mk hp
 have HL := Aside0.mk hl
 clear hr hp
 have hu110 := Try.underlying110
 go_enter Try.func114, Try.ntmps114
 go_wp2
 go_loopg [8] l.length (fun kq v8 w' => ∃ m : Nat, v8 = .int .i64 (m : Int) ∧ Aside0 (m + kq = l.length) ∧ Aside0 ((l.take m).all ok = true) ∧ Aside0 (Below w.heap.size w w'))
 case atStart => exact ⟨0, rfl, ⟨Nat.zero_add _⟩, ⟨rfl⟩, ⟨Below.refl _ _⟩⟩
 case round =>
  obtain ⟨m, rfl, HM, HOK, HB⟩ := hrel
  by_cases hlt : m < l.length
  ·cases gk with
   | zero => have := HM.out; omega
   | succ k1 =>
   obtain ⟨ad0, A6, c6, e0, hx0_0, hx0_1, hl0, hi0⟩ := at_T110 (Kd.C_below HR.out HB.out) (m : Int) (by omega) (by omega)
   cases e0
   have hrd : rd_T110 l (m : Int) = l.getD m z110 := rfl
   rw [hrd] at hx0_0 hx0_1 hl0 hi0
   clear hrd
   have hzm : l.getD m z110 ∈ l := by
    rw [List.getD_eq_getElem?_getD, List.getElem?_eq_getElem hlt]
    exact List.getElem_mem hlt
   have htk : (l.take (m + 1)).all ok = ((l.take m).all ok && ok (l.getD m z110)) := by
    rw [List.take_succ_eq_append_getElem hlt, List.all_append, List.getD_eq_getElem?_getD, List.getElem?_eq_getElem hlt]
    simp
   have hgt : ok (l.getD m z110) = false → l.all ok = false := fun h => List.all_eq_false.2 ⟨_, hzm, by rw [h]; decide⟩
   generalize hz : l.getD m z110 = z at hx0_0 hx0_1 hl0 hi0 hzm htk hgt
   simp only [Int.toNat_natCast] at hx0_0 hx0_1
   have HC := Aside0.mk (HP.out z hzm A6 c6 wr HB.out hl0 hi0)
   have HTK := Aside0.mk htk
   have HGT := Aside0.mk hgt
   clear hzm htk hgt hz hl0 hi0
   by_cases hb : ok z = true
   ·rw [hb] at HC
    have HBZ := Aside0.mk hb
    clear hb
    go_wp2_with (go_at_call 106; refine HC.out.mono ?_; rintro e W3 ⟨rfl, hb⟩; have HB3 := Aside0.mk (below_step HB.out hb); clear HB; have HB := HB3; clear HB3 hb HC)
    go_roundg k1
    case measure => omega
    case rel => exact ⟨m + 1, by go_num, ⟨by have := HM.out; omega⟩, ⟨by rw [HTK.out, HOK.out, HBZ.out]; rfl⟩, HB⟩
   ·have hb' : ok z = false := by simpa using hb
    rw [hb'] at HC
    have HBZ := Aside0.mk hb'
    clear hb hb'
    go_wp2_with (go_at_call 106; refine HC.out.mono ?_; rintro e W3 ⟨rfl, hb⟩; have HB3 := Aside0.mk (below_step HB.out hb); clear HB; have HB := HB3; clear HB3 hb HC)
    go_ret
    exact ⟨(m : Int), rfl, by rw [HGT.out HBZ.out]; simp, HB.out⟩
  ·go_wp2
   go_ret
   obtain rfl : m = l.length := by have := HM.out; omega
   have h_ := HOK.out
   rw [List.take_length] at h_
   exact ⟨-1, rfl, by rw [h_]; rfl, HB.out⟩
set_option maxHeartbeats 1000000 in
set_option maxRecDepth 100000 in
theorem containsPiece_calls (A : Option Addr) (c : Nat) (l : List S110) (ok : S110 → Bool) (g1 : Nat) (w : World) (hr : Kd.C k110 w A l.length l) (hl : l.length ≤ 4611686018427387904) (hp : ∀ z ∈ l, ∀ (A6 : Option Addr) (c6 : Nat) W', Below w.heap.size w W' → z.f0.length ≤ c6 → (Kd.int .i64).C W' A6 z.f0.length z.f0 → Calls Try.prog 106 #[.agg #[.slice A6 z.f0.length c6, .int .i64 z.f1], .pointer (some ⟨g1, 0, none⟩)] W' fun e W'' => e = .returned (.bool (!ok z)) ∧ Below W'.heap.size W' W'') :
  Calls Try.prog 105 #[.slice A l.length c, .func (.func 106) #[] #[.pointer (some ⟨g1, 0, none⟩)]] w fun e w' => e = .returned (.bool (!l.all ok)) ∧ Below w.heap.size w w' := by
 have HC := Aside0.mk (indexPiece_calls A c l ok g1 w hr hl hp)
 clear hr hp
 go_enter Try.func105, Try.ntmps105
 go_wp2_with (go_at_call 114; refine HC.out.mono ?_; rintro e W3 ⟨r, rfl, hr_, hb⟩; have HR3 := Aside0.mk hr_; have HB := Aside0.mk hb; clear hr_ hb HC)
 go_ret
 exact ⟨by rw [HR3.out]; rfl, HB.out⟩
set_option maxHeartbeats 1000000 in
set_option maxRecDepth 100000 in
theorem allPiece_calls (tv : Value) (A : Option Addr) (c : Nat) (l : List S110) (ok : S110 → Bool) (w : World) (hr : Kd.C k110 w A l.length l) (hl : l.length ≤ 4611686018427387904) (hp : ∀ z ∈ l, ∀ (A6 : Option Addr) (c6 : Nat) W', Below w.heap.size w W' → z.f0.length ≤ c6 → (Kd.int .i64).C W' A6 z.f0.length z.f0 → Calls Try.prog 87 #[tv, .agg #[.slice A6 z.f0.length c6, .int .i64 z.f1]] W' fun e W'' => e = .returned (.bool (ok z)) ∧ Below W'.heap.size W' W'') :
  Calls Try.prog 91 #[.slice A l.length c, .func (.func 87) #[tv] #[]] w fun e w' => e = .returned (.bool (l.all ok)) ∧ Below w.heap.size w w' := by
 have HR := Aside0.mk hr
 have HP := Aside0.mk hp
 have HL := Aside0.mk hl
 clear hr hp hl
 have HB := Aside0.mk (Below.refl w.heap.size w)
 go_enter Try.func91, Try.ntmps91
 go_wp2_with (first | ((with_reducible refine gate_dst (N := 3) rfl ?_); refine box_event ?hg (N := 3) ?hd (cs := #[.func (.func 87) #[tv] #[]]) (t := 126) ?hr ?_; (case hd => rfl); (case hg => rfl); (case hr => first | (go_simp; done) | (go_simp; rfl)); intro g1 hg W_ hbox hb; have GEg1 := Aside0.mk (by rw [hg]; exact HB.out.size : w.heap.size ≤ g1); replace HB := Aside0.mk (below_step HB.out hb); have BKg1 := Aside0.mk hbox; clear hb hbox hg) | (go_at_call 105; refine (containsPiece_calls A c l ok g1 _ (Kd.C_below HR.out HB.out) HL.out (fun z hz A6 c6 W' hb h1 h2 => allPiece1_calls z tv A6 c6 (ok z) g1 W' (blk_below BKg1.out hb) (fun W'' hb2 => HP.out z hz A6 c6 W'' (below_step HB.out (below_step hb hb2)) h1 (Kd.C_below h2 hb2)))).mono ?_; rintro e W3 ⟨rfl, hb⟩; have HB3 := Aside0.mk (below_step HB.out hb); clear HB; have HB := HB3; clear HB3 hb))
 go_ret
 exact ⟨by first | rfl | simp, HB.out⟩
set_option maxHeartbeats 1000000 in
set_option maxRecDepth 100000 in
theorem allInt1_calls (z : Int) (gc : Nat) (b : Bool) (g1 : Nat) (w : World) (hk : w.heap[g1]? = some (.cells #[.func (.func 99) #[] #[.pointer (some ⟨gc, 0, none⟩)]] 138 (0, 0))) (hp : ∀ W', Below w.heap.size w W' → Calls Try.prog 99 #[.int .i64 z, .pointer (some ⟨gc, 0, none⟩)] W' fun e W'' => e = .returned (.bool b) ∧ Below W'.heap.size W' W'') :
  Calls Try.prog 111 #[.int .i64 z, .pointer (some ⟨g1, 0, none⟩)] w fun e w' => e = .returned (.bool (!b)) ∧ Below w.heap.size w w' := by
 obtain ⟨w0, hw0⟩ : ∃ w0 : World, w0 = w := ⟨_, rfl⟩
 have HB := Aside0.mk (show Below w0.heap.size w0 w from by rw [hw0]; exact Below.refl _ _)
 have BKg1 := Aside0.mk hk
 have HP := Aside0.mk hp
 have HW0 := Aside0.mk hw0
 clear hk hp hw0
 have hcf := sc 0 BKg1
 go_enter Try.func111, Try.ntmps111
 go_wp2_with (first | fail | (go_at_call 99; refine (HP.out _ (by have h_ := HB.out; rw [HW0.out] at h_; exact h_)).mono ?_; rintro e W3 ⟨rfl, hb⟩; have HB3 := Aside0.mk (below_step HB.out hb); clear HB; have HB := HB3; clear HB3 hb))
 go_ret
 exact ⟨rfl, by have h_ := HB.out; rw [HW0.out] at h_; exact h_⟩
set_option maxHeartbeats 1000000 in
set_option maxRecDepth 100000 in
theorem indexInt_calls (A : Option Addr) (c : Nat) (l : List Int) (ok : Int → Bool) (g1 : Nat) (w : World) (hr : Kd.C (Kd.int .i64) w A l.length l) (hl : l.length ≤ 4611686018427387904) (hp : ∀ z ∈ l, ∀ W', Below w.heap.size w W' → Calls Try.prog 111 #[.int .i64 z, .pointer (some ⟨g1, 0, none⟩)] W' fun e W'' => e = .returned (.bool (!ok z)) ∧ Below W'.heap.size W' W'') :
  Calls Try.prog 115 #[.slice A l.length c, .func (.func 111) #[] #[.pointer (some ⟨g1, 0, none⟩)]] w fun e w' => ∃ r : Int, e = .returned (.int .i64 r) ∧ decide (r ≥ 0) = (!l.all ok) ∧ Below w.heap.size w w' := by
 have HR := Aside0.mk hr
 have HP := Aside0.mk hp
 have HL := Aside0.mk hl
 clear hr hp
 go_enter Try.func115, Try.ntmps115
 go_wp2
 go_loopg [8] l.length (fun kq v8 w' => ∃ m : Nat, v8 = .int .i64 (m : Int) ∧ Aside0 (m + kq = l.length) ∧ Aside0 ((l.take m).all ok = true) ∧ Aside0 (Below w.heap.size w w'))
 case atStart => exact ⟨0, rfl, ⟨Nat.zero_add _⟩, ⟨rfl⟩, ⟨Below.refl _ _⟩⟩
 case round =>
  obtain ⟨m, rfl, HM, HOK, HB⟩ := hrel
  by_cases hlt : m < l.length
  ·cases gk with
   | zero => have := HM.out; omega
   | succ k1 =>
   obtain ⟨ad0, e0, hx0_0⟩ := Kd.at_int (Kd.C_below HR.out HB.out) (m : Int) (by omega) (by omega)
   cases e0
   have hrd : rd l (m : Int) = l.getD m 0 := rfl
   rw [hrd] at hx0_0
   clear hrd
   have hzm : l.getD m 0 ∈ l := by
    rw [List.getD_eq_getElem?_getD, List.getElem?_eq_getElem hlt]
    exact List.getElem_mem hlt
   have htk : (l.take (m + 1)).all ok = ((l.take m).all ok && ok (l.getD m 0)) := by
    rw [List.take_succ_eq_append_getElem hlt, List.all_append, List.getD_eq_getElem?_getD, List.getElem?_eq_getElem hlt]
    simp
   have hgt : ok (l.getD m 0) = false → l.all ok = false := fun h => List.all_eq_false.2 ⟨_, hzm, by rw [h]; decide⟩
   generalize hz : l.getD m 0 = z at hx0_0 hzm htk hgt
   simp only [Int.toNat_natCast] at hx0_0
   have HC := Aside0.mk (HP.out z hzm wr HB.out)
   have HTK := Aside0.mk htk
   have HGT := Aside0.mk hgt
   clear hzm htk hgt hz
   by_cases hb : ok z = true
   ·rw [hb] at HC
    have HBZ := Aside0.mk hb
    clear hb
    go_wp2_with (go_at_call 111; refine HC.out.mono ?_; rintro e W3 ⟨rfl, hb⟩; have HB3 := Aside0.mk (below_step HB.out hb); clear HB; have HB := HB3; clear HB3 hb HC)
    go_roundg k1
    case measure => omega
    case rel => exact ⟨m + 1, by go_num, ⟨by have := HM.out; omega⟩, ⟨by rw [HTK.out, HOK.out, HBZ.out]; rfl⟩, HB⟩
   ·have hb' : ok z = false := by simpa using hb
    rw [hb'] at HC
    have HBZ := Aside0.mk hb'
    clear hb hb'
    go_wp2_with (go_at_call 111; refine HC.out.mono ?_; rintro e W3 ⟨rfl, hb⟩; have HB3 := Aside0.mk (below_step HB.out hb); clear HB; have HB := HB3; clear HB3 hb HC)
    go_ret
    exact ⟨(m : Int), rfl, by rw [HGT.out HBZ.out]; simp, HB.out⟩
  ·go_wp2
   go_ret
   obtain rfl : m = l.length := by have := HM.out; omega
   have h_ := HOK.out
   rw [List.take_length] at h_
   exact ⟨-1, rfl, by rw [h_]; rfl, HB.out⟩
set_option maxHeartbeats 1000000 in
set_option maxRecDepth 100000 in
theorem containsInt_calls (A : Option Addr) (c : Nat) (l : List Int) (ok : Int → Bool) (g1 : Nat) (w : World) (hr : Kd.C (Kd.int .i64) w A l.length l) (hl : l.length ≤ 4611686018427387904) (hp : ∀ z ∈ l, ∀ W', Below w.heap.size w W' → Calls Try.prog 111 #[.int .i64 z, .pointer (some ⟨g1, 0, none⟩)] W' fun e W'' => e = .returned (.bool (!ok z)) ∧ Below W'.heap.size W' W'') :
  Calls Try.prog 110 #[.slice A l.length c, .func (.func 111) #[] #[.pointer (some ⟨g1, 0, none⟩)]] w fun e w' => e = .returned (.bool (!l.all ok)) ∧ Below w.heap.size w w' := by
 have HC := Aside0.mk (indexInt_calls A c l ok g1 w hr hl hp)
 clear hr hp
 go_enter Try.func110, Try.ntmps110
 go_wp2_with (go_at_call 115; refine HC.out.mono ?_; rintro e W3 ⟨r, rfl, hr_, hb⟩; have HR3 := Aside0.mk hr_; have HB := Aside0.mk hb; clear hr_ hb HC)
 go_ret
 exact ⟨by rw [HR3.out]; rfl, HB.out⟩
set_option maxHeartbeats 1000000 in
set_option maxRecDepth 100000 in
theorem allInt_calls (gc : Nat) (A : Option Addr) (c : Nat) (l : List Int) (ok : Int → Bool) (w : World) (hr : Kd.C (Kd.int .i64) w A l.length l) (hl : l.length ≤ 4611686018427387904) (hp : ∀ z ∈ l, ∀ W', Below w.heap.size w W' → Calls Try.prog 99 #[.int .i64 z, .pointer (some ⟨gc, 0, none⟩)] W' fun e W'' => e = .returned (.bool (ok z)) ∧ Below W'.heap.size W' W'') :
  Calls Try.prog 98 #[.slice A l.length c, .func (.func 99) #[] #[.pointer (some ⟨gc, 0, none⟩)]] w fun e w' => e = .returned (.bool (l.all ok)) ∧ Below w.heap.size w w' := by
 have HR := Aside0.mk hr
 have HP := Aside0.mk hp
 have HL := Aside0.mk hl
 clear hr hp hl
 have HB := Aside0.mk (Below.refl w.heap.size w)
 go_enter Try.func98, Try.ntmps98
 go_wp2_with (first | ((with_reducible refine gate_dst (N := 3) rfl ?_); refine box_event ?hg (N := 3) ?hd (cs := #[.func (.func 99) #[] #[.pointer (some ⟨gc, 0, none⟩)]]) (t := 138) ?hr ?_; (case hd => rfl); (case hg => rfl); (case hr => first | (go_simp; done) | (go_simp; rfl)); intro g1 hg W_ hbox hb; have GEg1 := Aside0.mk (by rw [hg]; exact HB.out.size : w.heap.size ≤ g1); replace HB := Aside0.mk (below_step HB.out hb); have BKg1 := Aside0.mk hbox; clear hb hbox hg) | (go_at_call 110; refine (containsInt_calls A c l ok g1 _ (Kd.C_below HR.out HB.out) HL.out (fun z hz W' hb => allInt1_calls z gc (ok z) g1 W' (blk_below BKg1.out hb) (fun W'' hb2 => HP.out z hz W'' (below_step HB.out (below_step hb hb2))))).mono ?_; rintro e W3 ⟨rfl, hb⟩; have HB3 := Aside0.mk (below_step HB.out hb); clear HB; have HB := HB3; clear HB3 hb))
 go_ret
 exact ⟨by first | rfl | simp, HB.out⟩
end Go.Proofs.Ytnbbbeghgomnoaa.X
namespace Go.Proofs.Ytnbbbeghgomnoaa.X
open Go.RowKit Go.Proofs.YtnbbbeghgomnoaaW.PrintWords Go.Proofs.YtnbbbeghgomnoaaW.PrintLast Go.Proofs.YtnbbbeghgomnoaaW.PrintMore
attribute [local go_sem] Oper.semAt_some
set_option maxHeartbeats 1000000 in
set_option maxRecDepth 100000 in
theorem poss1_calls (x : Int) (gc : Nat) (Ao : Option Addr) (co : Nat) (outl : List Int) (w : World) (hr : Kd.C (Kd.int .i64) w Ao outl.length outl) (hc : outl.length ≤ co) (hl : outl.length ≤ 4611686018427387904)
  (hk : w.heap[gc]? = some (.cells #[.slice Ao outl.length co] 39 (0, 0))) :
  Calls Try.prog 99 #[.int .i64 x, .pointer (some ⟨gc, 0, none⟩)] w fun e w' => e = .returned (.bool (outl.contains x)) ∧ Below w.heap.size w w' := by
 obtain ⟨K, hK⟩ := contains_ev outl x hl
 have HC := Aside0.mk (slices_Contains_int_int.calls K Ao co outl x (outl.contains x) w hr hc (hK K (Nat.le_refl _)))
 have hcf : w.cell? ⟨gc, 0, none⟩ = some (.slice Ao outl.length co) := (blk_cell hk 0).trans rfl
 clear hK hr hc hk
 go_enter Try.func99, Try.ntmps99
 go_wp2_with (go_at_call 100; refine HC.out.mono ?_; rintro e W3 ⟨rfl, ⟨nd, rfl⟩⟩)
 go_ret
 exact ⟨by show Ending.returned (.bool (decide (x ∈ outl))) = _; simp, pw_below_drewN (Below.refl _ _) nd⟩
theorem Safe.lt {B0 : Nat} {X : Nat → Prop} {Bo k : Nat} {W : World} (h : Safe B0 X Bo W k) (h0 : B0 ≤ W.heap.size) (hb : Bo < W.heap.size) : k < W.heap.size := by
 rcases h with h | h | h
 ·omega
 ·omega
 ·exact h.1
theorem Kp.of_below {B0 : Nat} {X : Nat → Prop} {Bo : Nat} {W W' : World} (h : Below W.heap.size W W') (h0 : B0 ≤ W.heap.size) (hb : Bo < W.heap.size) : Kp B0 X Bo W W' := KpS.of_below h (fun _ hk => hk.lt h0 hb)
theorem Kp.set {B0 : Nat} {X : Nat → Prop} {Bo : Nat} {W W' : World} (h : Kp B0 X Bo W W') {g : Nat} (h0 : B0 ≤ g) (hb : g ≠ Bo) (hx : X g) (j : Nat) (u : Value) : Kp B0 X Bo W (W'.setCell ⟨g, j, none⟩ u) :=
 ⟨h.os, h.tape, h.output, Nat.le_trans h.size (by simp [World.setCell]), fun k hk => (Below.heap_setCell W' ⟨g, j, none⟩ u k (fun e => by
  have e' : k = g := e
  subst e'
  rcases hk with hk | hk | hk
  ·omega
  ·exact hb hk
  ·exact hk.2.1 hx)).trans (h.block k hk)⟩
theorem abide_below {n B : Nat} {w W W' : World} {row : Option Nat} (h : Below n w W) (hg : W.grownBy W' row) (hr : ∀ r, row = some r → r = B ∨ r = B + 1 ∨ r = B + 3) (hn : n ≤ B) (hs : n ≤ W.heap.size) : Below n w W' :=
 h.grown hg hs (fun k e => by have := hr k e; omega)
theorem abide_blk {g B : Nat} {o : Obj} {W W' : World} {row : Option Nat} (h : W.heap[g]? = some o) (hg : W.grownBy W' row) (hr : ∀ r, row = some r → r = B ∨ r = B + 1 ∨ r = B + 3) (hn : g < B ∨ B + 3 < g) : W'.heap[g]? = some o :=
 (hg.block g (blk_lt h) (fun e => by have := hr g e.symm; omega)).trans h
theorem below_put0 {n k : Nat} {w W : World} (h : Below n w W) (hk : n ≤ k) (o : Obj) : Below n w (W.putObj k o) :=
 ⟨h.os, h.tape, h.output, Nat.le_trans h.size (by simp [World.putObj]), fun j hj => (World.putObj_heap_other (by omega)).trans (h.block j hj)⟩
def condL (l0 : List S109) (n1 : Nat) (outl : List Int) (xs : List Int) : Bool := (sel (bad l0 n1 (pad xs)) l0.length).all fun v => outl.contains v
def possL (l0 : List S109) (l1 : List S110) (outl : List Int) : Bool := (allL l0 l1).any (condL l0 l1.length outl)
set_option maxHeartbeats 4000000 in
set_option maxRecDepth 100000 in
theorem possible_calls (A0 : Option Addr) (c0 : Nat) (l0 : List S109) (A1 : Option Addr) (c1 : Nat) (l1 : List S110) (wg : Int) (Ao : Option Addr) (co : Nat) (outl : List Int) (w : World)
  (hr0 : Kd.C k109 w A0 l0.length l0) (hc0 : l0.length ≤ c0) (hr1 : Kd.C k110 w A1 l1.length l1) (hc1 : l1.length ≤ c1)
  (hn0 : l0.length ≤ 30) (hn1 : l1.length ≤ 7) (hms : ∀ p ∈ l1, p.f0.length ≤ 30)
  (hro : Kd.C (Kd.int .i64) w Ao outl.length outl) (hco : outl.length ≤ co) (hlo : outl.length ≤ 4611686018427387904) :
  Calls Try.prog 72 #[.agg #[.slice A0 l0.length c0, .slice A1 l1.length c1, .int .i64 wg], .slice Ao outl.length co] w fun e w' => e = .returned (.bool (possL l0 l1 outl)) ∧ Below w.heap.size w w' := by
 have hu35 := Try.underlying35
 have hu121 := Try.underlying121
 have HR0 := Aside0.mk hr0
 have HC0 := Aside0.mk hc0
 have HR1 := Aside0.mk hr1
 have HC1 := Aside0.mk hc1
 have HMS := Aside0.mk hms
 have HRO := Aside0.mk hro
 have HCO := Aside0.mk hco
 clear hr0 hc0 hr1 hc1 hms hro hco
 have HB := Aside0.mk (Below.refl w.heap.size w)
 refine callsIn_wide.1 (callsIn_of_wp_marks (n := 0) Try.func72 rfl trivial ?_ rfl)
 refine wpIn_wide.2 ?_
 simp only [Try.ntmps72, List.size_toArray, List.length_cons, List.length_nil, Nat.reduceAdd, Nat.reduceSub, Array.replicate_succ, Array.replicate_zero, List.push_toArray, List.append_toArray, List.nil_append, List.cons_append]
 go_wp2_with (first | ((with_reducible refine gate_dst (N := 2) rfl ?_); refine sbox (N := 2) #[.slice A0 l0.length c0, .slice A1 l1.length c1, .int .i64 wg] 35 ?_; intro g2 hg W_ hbox hb; have GEg2 := Aside0.mk (by rw [hg]; exact HB.out.size : w.heap.size ≤ g2); replace HB := Aside0.mk (below_step HB.out hb); have BKg2 := Aside0.mk hbox; clear hb hbox hg) | ((with_reducible refine gate_dst (N := 3) rfl ?_); refine sbox (N := 3) #[.slice Ao outl.length co] 39 ?_; intro g3 hg W_ hbox hb; have GEg3 := Aside0.mk (by rw [hg]; exact HB.out.size : w.heap.size ≤ g3); replace BKg2 := Aside0.mk (blk_below BKg2.out hb); replace HB := Aside0.mk (below_step HB.out hb); have BKg3 := Aside0.mk hbox; clear hb hbox hg) | ((with_reducible refine gate_dst (N := 4) rfl ?_); refine sbox (N := 4) #[.bool false] 4 ?_; intro g4 hg W_ hbox hb; have GEg4 := Aside0.mk (by rw [hg]; exact HB.out.size : w.heap.size ≤ g4); replace BKg2 := Aside0.mk (blk_below BKg2.out hb); replace BKg3 := Aside0.mk (blk_below BKg3.out hb); replace HB := Aside0.mk (below_step HB.out hb); have BKg4 := Aside0.mk hbox; clear hb hbox hg; have hczg2_0 := sc 0 BKg2; have hczg2_1 := sc 1 BKg2; have hczg2_2 := sc 2 BKg2) | (go_at_call 96; refine (lists_calls A0 c0 l0.length A1 c1 l1.length wg _).mono ?_; rintro e W5 ⟨rfl, hk, hb⟩; have HG1 := Aside0.mk (show w.heap.size ≤ W_.heap.size from HB.out.size); have HG4L := Aside0.mk (blk_lt BKg4.out); replace BKg2 := Aside0.mk (blk_below BKg2.out hb); replace BKg3 := Aside0.mk (blk_below BKg3.out hb); replace BKg4 := Aside0.mk (blk_below BKg4.out hb); replace HB := Aside0.mk (below_step HB.out hb); have BKl := Aside0.mk hk; clear hk hb))
 have HGL := Aside0.mk (And.intro (blk_lt BKg2.out) (And.intro (blk_lt BKg3.out) (blk_lt BKg4.out)))
 have HL1 := Aside0.mk (blk_lt BKl.out)
 generalize W_.heap.size = g1 at *
 refine wp_rangeR (gf := 108) (lb := #[.pointer (some ⟨g1, 0, none⟩)]) (enc := fun xs => .agg (ac (pad xs))) (ALL := allL l0 l1) (B0 := w.heap.size) (X := fun k => k = g4) rfl (enters_of Try.func108 (by kernel_rfl) rfl) HB.out.size (fun k hk e => by have := HGL.out.2.2; omega)
  (lists1_seq w A0 c0 l0 A1 c1 l1 wg g1 (fun k => k = g4) W5 HR0.out HC0.out HR1.out HC1.out hn0 hn1 HMS.out HB.out BKl.out (fun e => by have := HG4L.out; omega) (fun k hk e => by have := HGL.out.2.2; omega)) rfl
  (fun pre W => Below w.heap.size w W ∧ W.heap[g2]? = some (.cells #[.slice A0 l0.length c0, .slice A1 l1.length c1, .int .i64 wg] 35 (0, 0)) ∧ W.heap[g3]? = some (.cells #[.slice Ao outl.length co] 39 (0, 0)) ∧ W.heap[g4]? = some (.cells #[.bool false] 4 (0, 0)) ∧ ∀ xs ∈ pre, condL l0 l1.length outl xs = false)
  (fun c pre W => c = .ret ∧ Below w.heap.size w W ∧ W.heap[g4]? = some (.cells #[.bool true] 4 (0, 0)) ∧ ∃ xs ∈ pre, condL l0 l1.length outl xs = true)
  (fun s A B row hs hg hr => ⟨abide_below hs.1 hg hr HB.out.size hs.1.size, abide_blk hs.2.1 hg hr (.inl HGL.out.1), abide_blk hs.2.2.1 hg hr (.inl HGL.out.2.1), abide_blk hs.2.2.2.1 hg hr (.inl HGL.out.2.2), hs.2.2.2.2⟩)
  (fun c s A B row hs hg hr => ⟨hs.1, abide_below hs.2.1 hg hr HB.out.size hs.2.1.size, abide_blk hs.2.2.1 hg hr (.inl HGL.out.2.2), hs.2.2.2⟩)
  ⟨HB.out, BKg2.out, BKg3.out, BKg4.out, fun _ h => by cases h⟩
  (fun x a' W => ∃ g6, W5.heap.size + 3 < g6 ∧ W.heap[g6]? = some (.cells (ac (pad x)) 121 (0, 0)) ∧ a' = { tmps := #[.agg #[.slice A0 l0.length c0, .slice A1 l1.length c1, .int .i64 wg], .slice Ao outl.length co, .pointer (some ⟨g2, 0, none⟩), .pointer (some ⟨g3, 0, none⟩), .pointer (some ⟨g4, 0, none⟩), .pointer (some ⟨g6, 0, none⟩), .agg #[.slice A0 l0.length c0, .slice A1 l1.length c1, .int .i64 wg], .func (.func 108) #[] #[.pointer (some ⟨g1, 0, none⟩)], .agg (ac (pad x)), undef, undef, undef, undef, undef], defers := [] })
  (fun x a' s A B row hs hg hr => by
   obtain ⟨g6, h1, h2, h3⟩ := hs
   exact ⟨g6, h1, abide_blk h2 hg hr (.inr h1), h3⟩) ?assign ?body ?done ?stop
 case assign =>
  intro l pre x W K hi hz hK
  unfold ac
  gi_wp2
  exact hK _ _ (Kp.of_below (below_alloc (Below.refl _ _) _) hi.1.size hz) ⟨below_alloc hi.1 _, blk_alloc hi.2.1 _, blk_alloc hi.2.2.1 _, blk_alloc hi.2.2.2.1 _, hi.2.2.2.2⟩ ⟨W.heap.size, hz, heap_alloc_new W _, rfl⟩
 case body =>
  rintro l pre x a' W hi ⟨g6, hg6, hk6, rfl⟩ hz hp
  have HI := Aside0.mk hi
  have HK6 := Aside0.mk hk6
  have hxm : x ∈ allL l0 l1 := hp.subset (by simp)
  have HOW := Aside0.mk (allL_owners l0 l1 x hxm)
  have hcz0 : W.cell? ⟨g2, 0, none⟩ = some (.slice A0 l0.length c0) := (blk_cell hi.2.1 0).trans rfl
  have hcz1 : W.cell? ⟨g2, 1, none⟩ = some (.slice A1 l1.length c1) := (blk_cell hi.2.1 1).trans rfl
  have hcz2 : W.cell? ⟨g2, 2, none⟩ = some (.int .i64 wg) := (blk_cell hi.2.1 2).trans rfl
  have hca0 : W.cell? ⟨g6, 0, none⟩ = some (.int .i64 (pad x 0)) := (blk_cell hk6 0).trans rfl
  have hca1 : W.cell? ⟨g6, 1, none⟩ = some (.int .i64 (pad x 1)) := (blk_cell hk6 1).trans rfl
  have hca2 : W.cell? ⟨g6, 2, none⟩ = some (.int .i64 (pad x 2)) := (blk_cell hk6 2).trans rfl
  have hca3 : W.cell? ⟨g6, 3, none⟩ = some (.int .i64 (pad x 3)) := (blk_cell hk6 3).trans rfl
  have hca4 : W.cell? ⟨g6, 4, none⟩ = some (.int .i64 (pad x 4)) := (blk_cell hk6 4).trans rfl
  have hca5 : W.cell? ⟨g6, 5, none⟩ = some (.int .i64 (pad x 5)) := (blk_cell hk6 5).trans rfl
  have hca6 : W.cell? ⟨g6, 6, none⟩ = some (.int .i64 (pad x 6)) := (blk_cell hk6 6).trans rfl
  have HZ := Aside0.mk hz
  have HSZ := Aside0.mk hi.1.size
  have HCW := Aside0.mk (wrong_calls A0 c0 l0 A1 c1 l1 wg (pad x) W (Kd.C_below HR0.out hi.1) hn0 hn1 HOW.out)
  have HB1 := Aside0.mk (Below.refl W.heap.size W)
  clear hi hk6 hz hxm
  obtain ⟨cb, hcb⟩ : ∃ cb, condL l0 l1.length outl x = cb := ⟨_, rfl⟩
  have HCB := Aside0.mk hcb
  have HALL := Aside0.mk (show (sel (bad l0 l1.length (pad x)) l0.length).all (fun v => outl.contains v) = cb from hcb)
  clear hcb
  apply wpIn_block
  apply wpIn_seq_k
  intro _ _
  refine regionIn (fun ⟨_, _, h⟩ => h) (by rfl) ?_
  unfold ac
  have hk4 : W.cell? ⟨g4, 0, none⟩ = some (.bool false) := (blk_cell HI.out.2.2.2.1 0).trans rfl
  cases cb with
  | true =>
   go_wp2_with (first | (go_at_call 86; refine HCW.out.mono ?_; rintro e W3 ⟨v11, rfl, ho, hb⟩; have HO11 := Aside0.mk ho; have HB2 := Aside0.mk (below_step HB1.out hb); clear HB1 ho hb; have HB1 := HB2; clear HB2; obtain ⟨A11, c11, e11⟩ := Kd.R_slice HO11.out; subst e11) | (go_at_call 98; go_must (refine (allInt_calls g3 A11 c11 _ (fun v => outl.contains v) _ (Kd.R_reads' HO11.out).2.2 (by have h_ := sel_le (bad l0 l1.length (pad x)) l0.length; omega) (fun z _ W' hb' => poss1_calls z g3 Ao co outl W' (Kd.C_below HRO.out (below_then0 HI.out.1 ((below_step HB1.out hb').mono HSZ.out))) HCO.out hlo (blk_below HI.out.2.2.1 (below_step HB1.out hb')))).mono ?_; rintro e W4 ⟨rfl, hb⟩; rw [HALL.out]; have HB2 := Aside0.mk (below_step HB1.out hb); clear HB1 hb; have HB1 := HB2; clear HB2)))
   have hx4 : W4.cell? ⟨g4, 0, none⟩ = some (.bool false) := (blk_cell (blk_below HI.out.2.2.2.1 HB1.out) 0).trans rfl
   have hf4 := blk_frozen (blk_below HI.out.2.2.2.1 HB1.out) 0
   gi_wp2
   exact ⟨Kp.set (X := fun k => k = g4) (Kp.of_below HB1.out HSZ.out HZ.out) GEg4.out (by have := HGL.out.2.2; omega) (by exact rfl) 0 _, rfl, (below_then0 HI.out.1 (HB1.out.mono HSZ.out)).setCell (p := ⟨g4, 0, none⟩) GEg4.out _, blk_set (blk_below HI.out.2.2.2.1 HB1.out) 0 _, x, by simp, HCB.out⟩
  | false =>
   go_wp2_with (first | (go_at_call 86; refine HCW.out.mono ?_; rintro e W3 ⟨v11, rfl, ho, hb⟩; have HO11 := Aside0.mk ho; have HB2 := Aside0.mk (below_step HB1.out hb); clear HB1 ho hb; have HB1 := HB2; clear HB2; obtain ⟨A11, c11, e11⟩ := Kd.R_slice HO11.out; subst e11) | (go_at_call 98; go_must (refine (allInt_calls g3 A11 c11 _ (fun v => outl.contains v) _ (Kd.R_reads' HO11.out).2.2 (by have h_ := sel_le (bad l0 l1.length (pad x)) l0.length; omega) (fun z _ W' hb' => poss1_calls z g3 Ao co outl W' (Kd.C_below HRO.out (below_then0 HI.out.1 ((below_step HB1.out hb').mono HSZ.out))) HCO.out hlo (blk_below HI.out.2.2.1 (below_step HB1.out hb')))).mono ?_; rintro e W4 ⟨rfl, hb⟩; rw [HALL.out]; have HB2 := Aside0.mk (below_step HB1.out hb); clear HB1 hb; have HB1 := HB2; clear HB2)))
   gi_wp2
   exact ⟨Kp.of_below HB1.out HSZ.out HZ.out, below_then0 HI.out.1 (HB1.out.mono HSZ.out), blk_below HI.out.2.1 HB1.out, blk_below HI.out.2.2.1 HB1.out, blk_below HI.out.2.2.2.1 HB1.out, fun xs hxs => by
    rcases List.mem_append.1 hxs with h | h
    ·exact HI.out.2.2.2.2 xs h
    ·rw [List.mem_singleton.1 h]; exact HCB.out⟩
 case done =>
  rintro W ⟨h1, h2, h3, h4, h5⟩ hD
  have hf4 := blk_frozen h4 0
  have hx4 : W.cell? ⟨g4, 0, none⟩ = some (.bool false) := (blk_cell h4 0).trans rfl
  have HH := Aside0.mk (And.intro h1 (And.intro h4 (And.intro h5 hD)))
  clear h1 h2 h3 h4 h5 hD
  have hp : possL l0 l1 outl = false := by
   unfold possL
   exact Bool.eq_false_iff.2 (fun h => by
    obtain ⟨xs, hx, hc⟩ := List.any_eq_true.1 h
    rw [HH.out.2.2.1 xs hx] at hc
    cases hc)
  go_wp2
  have hn4 : W5.heap.size ≠ g4 := by have := HGL.out.2.2; omega
  have hK4 : (W.setCell ⟨g4, 0, none⟩ (.bool false)).heap[W5.heap.size]? = some (.deferred (some [])) := (Below.heap_setCell W ⟨g4, 0, none⟩ _ _ (by show W5.heap.size ≠ g4; exact hn4)).trans HH.out.2.2.2
  refine ⟨by simp, .inl ⟨_, _, rfl, run_takeDeferred hK4, ?_⟩⟩
  have hk5 : ((W.setCell ⟨g4, 0, none⟩ (.bool false)).putObj W5.heap.size (.deferred none)).heap[g4]? = some (.cells #[.bool false] 4 (0, 0)) :=
   (World.putObj_heap_other (fun e => hn4 e.symm)).trans (blk_set HH.out.2.1 0 _)
  have hc5 : ((W.setCell ⟨g4, 0, none⟩ (.bool false)).putObj W5.heap.size (.deferred none)).cell? ⟨g4, 0, none⟩ = some (.bool false) := (blk_cell hk5 0).trans rfl
  refine ⟨.bool false, ?_, by rw [hp], ?_⟩
  ·simp [results, Try.f72, go_sem, hc5]
  ·exact below_put0 ((HH.out.1).setCell (p := ⟨g4, 0, none⟩) GEg4.out _) HB.out.size _
 case stop =>
  rintro c pre W hpre ⟨rfl, h1, h2, xs, hxs, hc⟩ hD
  have HH := Aside0.mk (And.intro h1 (And.intro h2 hD))
  have hp : possL l0 l1 outl = true := by
   unfold possL
   exact List.any_eq_true.2 ⟨xs, hpre.subset hxs, hc⟩
  have HP := Aside0.mk hp
  clear h1 h2 hD hp hpre hxs hc
  go_wp2
  have hn4 : W5.heap.size ≠ g4 := by have := HGL.out.2.2; omega
  refine ⟨by simp, .inl ⟨_, _, rfl, run_takeDeferred HH.out.2.2, ?_⟩⟩
  have hk5 : (W.putObj W5.heap.size (.deferred none)).heap[g4]? = some (.cells #[.bool true] 4 (0, 0)) :=
   (World.putObj_heap_other (fun e => hn4 e.symm)).trans HH.out.2.1
  have hc5 : (W.putObj W5.heap.size (.deferred none)).cell? ⟨g4, 0, none⟩ = some (.bool true) := (blk_cell hk5 0).trans rfl
  refine ⟨.bool true, ?_, by rw [HP.out], ?_⟩
  ·simp [results, Try.f72, go_sem, hc5]
  ·exact below_put0 HH.out.1 HB.out.size _
end Go.Proofs.Ytnbbbeghgomnoaa.X
namespace Go.Proofs.Ytnbbbeghgomnoaa.X
open Go.RowKit Go.Proofs.YtnbbbeghgomnoaaW.PrintWords Go.Proofs.YtnbbbeghgomnoaaW.PrintLast Go.Proofs.YtnbbbeghgomnoaaW.PrintMore
theorem eqA107 (d : Nat) (w : World) (x0 y0 : Int) (x1 y1 : Int) :
  (Op.equalIn (d + 2) 107 (.agg #[.int .i64 x0, .int .i64 x1]) (.agg #[.int .i64 y0, .int .i64 y1])).run Try.prog w = .ok (x0 == y0 && (x1 == y1)) w := by
 refine eqA_of Try.underlying107 (by kernel_rfl) ?_
 refine eqf_cons (by rfl) (by go_simp; rfl) (by go_simp; rfl) (by go_simp) ?_
 exact eqf_last (by rfl) (by go_simp; rfl) (by go_simp; rfl) (by go_simp)
def spv (p : Int × Int) : Value := .agg #[.int .i64 p.1, .int .i64 p.2]
def entsFrom (n : Nat) : List ((Int × Int) × Int) → List MapEntry
 | [] => []
 | e :: r => { key := spv e.1, val := .int .i64 e.2, born := n } :: entsFrom (n + 1) r
theorem entsFrom_append (L M : List ((Int × Int) × Int)) : ∀ n, entsFrom n (L ++ M) = entsFrom n L ++ entsFrom (n + L.length) M := by
 induction L with
 | nil => intro n; rfl
 | cons e r ih => intro n; simp only [List.cons_append, entsFrom, ih, List.length_cons]; rw [show n + 1 + r.length = n + (r.length + 1) from by omega]
theorem entsFrom_get (L : List ((Int × Int) × Int)) : ∀ (n j : Nat), (entsFrom n L)[j]? = (L[j]?).map fun e => { key := spv e.1, val := .int .i64 e.2, born := n + j } := by
 induction L with
 | nil => intro n j; simp [entsFrom]
 | cons e r ih =>
  intro n j
  cases j with
  | zero => simp [entsFrom]
  | succ j => simp only [entsFrom, List.getElem?_cons_succ, ih]; rw [show n + 1 + j = n + (j + 1) from by omega]
def at? (L : List ((Int × Int) × Int)) (p : Int × Int) : Option Nat := L.findIdx? fun e => e.1 == p
def getL (L : List ((Int × Int) × Int)) (p : Int × Int) : Int := ((L.find? fun e => e.1 == p).map (·.2)).getD 0
theorem findAsking_run (w : World) (p : Int × Int) (L : List ((Int × Int) × Int)) : ∀ (n i : Nat),
  (Instr.findAsking 107 (spv p) (entsFrom n L) i).run Try.prog w = .ok ((L.findIdx? fun e => e.1 == p).bind fun j => (L[j]?).map fun e => (i + j, .int .i64 e.2)) w := by
 induction L with
 | nil => intro n i; simp [entsFrom, Instr.findAsking]
 | cons e r ih =>
  intro n i
  have he : (Op.equal 107 (spv p) (spv e.1)).run Try.prog w = .ok (p.1 == e.1.1 && (p.2 == e.1.2)) w := eqA107 9998 w _ _ _ _
  simp only [entsFrom, Instr.findAsking, Sem.run_bind, he, Result.andThen_ok]
  by_cases h : e.1 = p
  ·subst h
   simp [List.findIdx?_cons]
  ·have hb : (p.1 == e.1.1 && (p.2 == e.1.2)) = false := by
    rw [Bool.and_eq_false_iff]
    by_cases h1 : p.1 = e.1.1
    ·right
     simp only [beq_eq_false_iff_ne]
     intro h2
     exact h (Prod.ext h1.symm h2.symm)
    ·left
     simpa using h1
   rw [hb]
   have hb2 : (e.1 == p) = false := by simpa using h
   simp only [Bool.false_eq_true, if_false]
   rw [ih (n + 1) (i + 1), List.findIdx?_cons, hb2]
   refine congrArg (fun x => Result.ok x w) ?_
   cases hf : r.findIdx? fun e => e.1 == p with
   | none => simp
   | some j => simp [show i + 1 + j = i + (j + 1) from by omega]
theorem findKey_run (w : World) (p : Int × Int) (L : List ((Int × Int) × Int)) (n : Nat) :
  (Instr.findKey 107 (spv p) (entsFrom n L)).run Try.prog w = .ok ((at? L p).bind fun j => (L[j]?).map fun e => (j, .int .i64 e.2)) w := by
 have hu := Try.underlying107
 have h := findAsking_run w p L n 0
 simp only [Nat.zero_add] at h
 cases L with
 | nil =>
  simp only [Instr.findKey, Sem.run_bind, run_underlying hu, Result.andThen_ok, entsFrom, Instr.findNow]
  rfl
 | cons e r =>
  simp only [Instr.findKey, Sem.run_bind, run_underlying hu, Result.andThen_ok]
  exact h
def MapL (W : World) (gm : Nat) (L : List ((Int × Int) × Int)) : Prop := W.heap[gm]? = some (.map (entsFrom 0 L).toArray L.length)
theorem getL_at (L : List ((Int × Int) × Int)) (p : Int × Int) : (∃ j e, at? L p = some j ∧ L[j]? = some e ∧ e.1 = p ∧ getL L p = e.2) ∨ (at? L p = none ∧ getL L p = 0 ∧ ∀ e ∈ L, e.1 ≠ p) := by
 induction L with
 | nil => right; exact ⟨rfl, rfl, fun _ h => by cases h⟩
 | cons e r ih =>
  by_cases h : e.1 = p
  ·left
   refine ⟨0, e, ?_, rfl, h, ?_⟩
   ·simp [at?, List.findIdx?_cons, h]
   ·simp [getL, List.find?_cons, h]
  ·have hb : (e.1 == p) = false := by simpa using h
   rcases ih with ⟨j, e', h1, h2, h3, h4⟩ | ⟨h1, h2, h3⟩
   ·left
    refine ⟨j + 1, e', ?_, by simpa using h2, h3, ?_⟩
    ·unfold at? at h1 ⊢; rw [List.findIdx?_cons, hb, h1]; rfl
    ·unfold getL at h4 ⊢; rw [List.find?_cons, hb]; exact h4
   ·right
    refine ⟨?_, ?_, ?_⟩
    ·unfold at? at h1 ⊢; rw [List.findIdx?_cons, hb, h1]; rfl
    ·unfold getL at h2 ⊢; rw [List.find?_cons, hb]; exact h2
    ·intro e' he'
     rcases List.mem_cons.1 he' with rfl | he'
     ·exact h
     ·exact h3 e' he'
theorem checkKey3 (w : World) (em : Bool) (d : Nat) (x : Int) : (Instr.checkKey em (d + 1) 3 (.int .i64 x)).run Try.prog w = .ok () w := by
 have hu3 := Try.underlying3
 simp only [Instr.checkKey, Sem.run_bind, run_underlying hu3, Result.andThen_ok]
 rfl
theorem checkKey_gen (w : World) (em : Bool) (d : Nat) (p : Int × Int) : (Instr.checkKey em (d + 2) 107 (spv p)).run Try.prog w = .ok () w := by
 have hu := Try.underlying107
 rw [show d + 2 = (d + 1) + 1 from rfl, Instr.checkKey]
 simp only [spv, Sem.run_bind, run_underlying hu, Result.andThen_ok]
 simp [checkKey3, go_sem]
theorem checkKey_run (w : World) (em : Bool) (p : Int × Int) : (Instr.checkKey em 10000 107 (spv p)).run Try.prog w = .ok () w := checkKey_gen w em 9998 p
theorem lookup_run (w : World) (gm : Nat) (L : List ((Int × Int) × Int)) (p : Int × Int) (h : MapL w gm L) : (Instr.lookup 103 (.map (some gm)) (spv p) false).run Try.prog w = .ok (.int .i64 (getL L p)) w := by
 have hu := Try.underlying103
 have hk := findKey_run w p L 0
 have hz : (zeroValue 3).run Try.prog w = .ok (.int .i64 0) w := by kernel_rfl
 have hg : (getObj gm).run Try.prog w = .ok (.map (entsFrom 0 L).toArray L.length) w := by
  exact MapKept.run_getObj_map h
 simp only [Instr.lookup, Sem.run_bind, run_underlying hu, Result.andThen_ok, hg, Sem.run_pure, checkKey_run, hk]
 rcases getL_at L p with ⟨j, e, h1, h2, h3, h4⟩ | ⟨h1, h2, h3⟩
 ·rw [h1, h4]; simp [h2]
 ·rw [h1, h2]; simp [hz]
theorem sameBits_gen (d : Nat) (p : Int × Int) : Instr.sameBits (d + 2) (spv p) (spv p) = true := by
 simp [spv, Instr.sameBits]
theorem keyStays_run (w : World) (p : Int × Int) : (Instr.keyThatStays (spv p) (spv p)).run Try.prog w = .ok (spv p) w := by
 have h : Instr.sameBits 10000 (spv p) (spv p) = true := sameBits_gen 9998 p
 unfold Instr.keyThatStays
 rw [if_pos h]
 rfl
theorem run_setObj_put (w : World) (gm : Nat) (es : Array MapEntry) (c : Nat) (o : Obj) (h : w.heap[gm]? = some (.map es c)) : (setObj gm o).run Try.prog w = .ok () (w.putObj gm o) := MapKept.run_setObj_map o h
def touch (L : List ((Int × Int) × Int)) (p : Int × Int) : List ((Int × Int) × Int) := match at? L p with | some _ => L | none => L ++ [(p, 0)]
def place (L : List ((Int × Int) × Int)) (p : Int × Int) : Nat := match at? L p with | some j => j | none => L.length
theorem getL_append (L : List ((Int × Int) × Int)) (p q : Int × Int) : getL (L ++ [(p, 0)]) q = getL L q := by
 induction L with
 | nil => by_cases h : p = q <;> simp [getL, List.find?_cons, h]
 | cons e r ih =>
  unfold getL at ih ⊢
  rw [List.cons_append, List.find?_cons, List.find?_cons]
  cases he : (e.1 == q) with
  | true => rfl
  | false => exact ih
theorem getL_touch (L : List ((Int × Int) × Int)) (p q : Int × Int) : getL (touch L p) q = getL L q := by
 unfold touch
 split
 ·rfl
 ·exact getL_append L p q
theorem at_append (L : List ((Int × Int) × Int)) (p : Int × Int) (v : Int) (h : at? L p = none) : at? (L ++ [(p, v)]) p = some L.length := by
 unfold at? at h ⊢
 rw [List.findIdx?_append, h]
 simp [List.findIdx?_cons]
theorem at_touch (L : List ((Int × Int) × Int)) (p : Int × Int) : at? (touch L p) p = some (place L p) := by
 unfold touch place
 cases h : at? L p with
 | some j => exact h
 | none => exact at_append L p 0 h
theorem getL_set (L : List ((Int × Int) × Int)) (p : Int × Int) (v : Int) : ∀ (j : Nat), at? L p = some j → ∀ q, getL (L.set j (p, v)) q = if q = p then v else getL L q := by
 induction L with
 | nil => intro j h; simp [at?] at h
 | cons e r ih =>
  intro j h q
  unfold at? at h
  rw [List.findIdx?_cons] at h
  by_cases he : e.1 = p
  ·have hb : (e.1 == p) = true := by simpa using he
   rw [hb] at h
   simp only [if_true, Option.some.injEq] at h
   subst h
   by_cases hq : q = p
   ·subst hq; simp [getL, List.find?_cons]
   ·have h1 : (p == q) = false := by simpa using fun h => hq h.symm
    have h2 : (e.1 == q) = false := by rw [he]; exact h1
    simp only [List.set_cons_zero, getL, List.find?_cons, h1, h2, if_neg hq]
  ·have hb : (e.1 == p) = false := by simpa using he
   rw [hb] at h
   simp only [Bool.false_eq_true, if_false] at h
   obtain ⟨j', hj', rfl⟩ := Option.map_eq_some_iff.1 h
   have := ih j' hj' q
   unfold getL at this ⊢
   rw [List.set_cons_succ, List.find?_cons, List.find?_cons]
   cases hq : (e.1 == q) with
   | true =>
    have hne : ¬ q = p := fun e2 => he (by have := beq_iff_eq.1 hq; rw [this, e2])
    rw [if_neg hne]
   | false => exact this
theorem ents_modify_key (L : List ((Int × Int) × Int)) (j : Nat) (e : (Int × Int) × Int) (h : L[j]? = some e) : (entsFrom 0 L).toArray.modify j (fun x => { x with key := spv e.1 }) = (entsFrom 0 L).toArray := by
 apply Array.ext_getElem?
 intro i
 rw [Array.getElem?_modify]
 by_cases hi : j = i
 ·subst hi
  rw [if_pos rfl, List.getElem?_toArray, entsFrom_get, h]; rfl
 ·rw [if_neg hi]
theorem mapEntry_run (w : World) (gm : Nat) (L : List ((Int × Int) × Int)) (p : Int × Int) (h : MapL w gm L) : (Instr.mapEntry 103 (.map (some gm)) (spv p)).run Try.prog w = .ok (.tuple #[.int .i64 (getL L p), .int .i64 (place L p : Nat)]) (w.putObj gm (.map (entsFrom 0 (touch L p)).toArray (touch L p).length)) := by
 have hu := Try.underlying103
 have hk := findKey_run w p L 0
 have hz : (zeroValue 3).run Try.prog w = .ok (.int .i64 0) w := by kernel_rfl
 have hg : (getObj gm).run Try.prog w = .ok (.map (entsFrom 0 L).toArray L.length) w := MapKept.run_getObj_map h
 simp only [Instr.mapEntry, Sem.run_bind, run_underlying hu, Result.andThen_ok, hg, checkKey_run, hk]
 rcases getL_at L p with ⟨j, e, h1, h2, h3, h4⟩ | ⟨h1, h2, h3⟩
 ·have hge : (entsFrom 0 L).toArray[j]? = some { key := spv e.1, val := .int .i64 e.2, born := 0 + j } := by rw [List.getElem?_toArray, entsFrom_get, h2]; rfl
  have ht : touch L p = L := by unfold touch; rw [h1]
  have hpl : place L p = j := by unfold place; rw [h1]
  rw [h1, h4, ht, hpl]
  simp only [Option.bind_some, h2, Option.map_some, hge, Option.getD_some, h3, Sem.run_bind, keyStays_run, Result.andThen_ok, run_setObj_put w gm _ _ _ h, Sem.run_pure]
  rw [← h3, ents_modify_key L j e h2]
  simp [goInt]
 ·have ht : touch L p = L ++ [(p, 0)] := by unfold touch; rw [h1]
  have hpl : place L p = L.length := by unfold place; rw [h1]
  rw [h1, h2, ht, hpl]
  simp only [Option.bind_none, Sem.run_bind, hz, Result.andThen_ok, run_setObj_put w gm _ _ _ h, Sem.run_pure]
  rw [entsFrom_append]
  simp [goInt, entsFrom]
theorem findIdx_ents (L : List ((Int × Int) × Int)) : ∀ (n j : Nat), j < L.length → (entsFrom n L).findIdx? (fun e => (e.born : Int) == ((n + j : Nat) : Int)) = some j := by
 induction L with
 | nil => intro n j h; simp at h
 | cons e r ih =>
  intro n j h
  rw [entsFrom, List.findIdx?_cons]
  cases j with
  | zero => simp
  | succ j =>
   have hb : (((n : Nat) : Int) == ((n + (j + 1) : Nat) : Int)) = false := by simp; omega
   simp only [hb, Bool.false_eq_true, if_false]
   have := ih (n + 1) j (by simpa using h)
   rw [show n + 1 + j = n + (j + 1) from by omega] at this
   rw [this]; rfl
theorem ents_modify_val (L : List ((Int × Int) × Int)) (j : Nat) (p : Int × Int) (n0 v : Int) (h : L[j]? = some (p, n0)) : (entsFrom 0 L).toArray.modify j (fun x => { x with val := .int .i64 v }) = (entsFrom 0 (L.set j (p, v))).toArray := by
 apply Array.ext_getElem?
 intro i
 rw [Array.getElem?_modify, List.getElem?_toArray, List.getElem?_toArray, entsFrom_get, entsFrom_get, List.getElem?_set]
 by_cases hi : j = i
 ·subst hi
  have hlt := (List.getElem?_eq_some_iff.1 h).1
  rw [if_pos rfl, h, if_pos rfl, if_pos hlt]; rfl
 ·rw [if_neg hi, if_neg hi]
theorem entryStore_run (w : World) (gm : Nat) (L : List ((Int × Int) × Int)) (j : Nat) (p : Int × Int) (n0 v : Int) (h : MapL w gm L) (hj : L[j]? = some (p, n0)) : (Instr.entryStore 103 (.map (some gm)) (.int .i64 (j : Nat)) (.int .i64 v)).run Try.prog w = .ok () (w.putObj gm (.map (entsFrom 0 (L.set j (p, v))).toArray (L.set j (p, v)).length)) := by
 have hg : (getObj gm).run Try.prog w = .ok (.map (entsFrom 0 L).toArray L.length) w := MapKept.run_getObj_map h
 have hlt := (List.getElem?_eq_some_iff.1 hj).1
 have hf := findIdx_ents L 0 j hlt
 rw [Nat.zero_add] at hf
 have ha : (asInt (.int .i64 (j : Nat))).run Try.prog w = .ok (j : Int) w := rfl
 simp only [Instr.entryStore, Sem.run_bind, hg, Result.andThen_ok, ha, Sem.run_pure]
 rw [show (entsFrom 0 L).toArray.findIdx? (fun e => (e.born : Int) == ((j : Nat) : Int)) = some j from by rw [List.findIdx?_toArray]; exact hf]
 simp only [run_setObj_put w gm _ _ _ h]
 rw [ents_modify_val L j p n0 v hj, List.length_set]
theorem MapL.put (w : World) (gm : Nat) (L : List ((Int × Int) × Int)) (h : gm < w.heap.size) : MapL (w.putObj gm (.map (entsFrom 0 L).toArray L.length)) gm L := World.putObj_heap_same h
end Go.Proofs.Ytnbbbeghgomnoaa.X
namespace Go.Proofs.Ytnbbbeghgomnoaa.X
open Go.RowKit Go.Proofs.YtnbbbeghgomnoaaW.PrintWords Go.Proofs.YtnbbbeghgomnoaaW.PrintLast Go.Proofs.YtnbbbeghgomnoaaW.PrintMore
attribute [local go_sem] max2_int min2_int max_two min_two
set_option maxHeartbeats 1000000 in
set_option maxRecDepth 100000 in
theorem min_calls (g : Nat) (c : Nat) (a b : Int) (w : World) (h0 : w.cell? ⟨g, 0, none⟩ = some (.int .i64 a)) (h1 : w.cell? ⟨g, 1, none⟩ = some (.int .i64 b)) :
  Calls Try.prog 107 #[.slice (some ⟨g, 0, none⟩) 2 c] w fun e w' => e = .returned (.int .i64 (mn a b)) ∧ w' = w := by
 have H0 := Aside0.mk h0
 have H1 := Aside0.mk h1
 go_enter Try.func107, Try.ntmps107
 go_wp2
 go_loopg [3, 4] 1 (fun kq v3 v4 w' => (Aside0 (kq = 1) ∧ v3 = .int .i64 a ∧ v4 = .int .i64 1 ∧ w' = w) ∨ (Aside0 (kq = 0) ∧ v3 = .int .i64 (mn a b) ∧ v4 = .int .i64 2 ∧ w' = w))
 case atStart => exact .inl ⟨⟨rfl⟩, rfl, rfl, rfl⟩
 case round =>
  rcases hrel with ⟨hk, rfl, rfl, rfl⟩ | ⟨hk, rfl, rfl, rfl⟩
  ·obtain rfl := hk.out
   by_cases hlt : b < a
   ·have e : mn a b = b := by unfold mn; rw [if_pos hlt]
    have HE := Aside0.mk e
    clear e
    go_wp2
    go_roundg 0
    case measure => omega
    case rel => exact .inr ⟨⟨rfl⟩, by rw [HE.out], rfl, rfl⟩
   ·have e : mn a b = a := by unfold mn; rw [if_neg hlt]
    have HE := Aside0.mk e
    clear e
    go_wp2
    go_roundg 0
    case measure => omega
    case rel => exact .inr ⟨⟨rfl⟩, by rw [HE.out], rfl, rfl⟩
  ·go_wp2
   go_ret
   exact ⟨rfl, rfl⟩
set_option maxHeartbeats 1000000 in
set_option maxRecDepth 100000 in
theorem minimum_calls (g : Nat) (c : Nat) (a b : Int) (w : World) (h0 : w.cell? ⟨g, 0, none⟩ = some (.int .i64 a)) (h1 : w.cell? ⟨g, 1, none⟩ = some (.int .i64 b)) :
  Calls Try.prog 92 #[.slice (some ⟨g, 0, none⟩) 2 c] w fun e w' => e = .returned (.int .i64 (mn a b)) ∧ w' = w := by
 have H := Aside0.mk (min_calls g c a b w h0 h1)
 clear h0 h1
 go_enter Try.func92, Try.ntmps92
 go_wp2_with (go_at_call 107; refine H.out.mono ?_; rintro e w' ⟨rfl, rfl⟩)
 go_ret
 exact ⟨rfl, rfl⟩
end Go.Proofs.Ytnbbbeghgomnoaa.X
namespace Go.Proofs.Ytnbbbeghgomnoaa.X
open Go.RowKit Go.Proofs.YtnbbbeghgomnoaaW.PrintWords Go.Proofs.YtnbbbeghgomnoaaW.PrintLast Go.Proofs.YtnbbbeghgomnoaaW.PrintMore
attribute [local go_sem] max2_int min2_int max_two min_two max_three min_three max_four min_four
set_option linter.unusedVariables false
set_option linter.unusedSimpArgs false
def bundle_mark.f (a0 : Int) : Option (Bool) := (bundle_within.f a0 0 9).bind fun t1359 => (some t1359)
set_option maxHeartbeats 8000000 in
set_option maxRecDepth 100000 in
theorem bundle_mark.calls (a0 : Int) (r : Bool) (w : World) (h : bundle_mark.f a0 = some r) :
  Calls Try.prog 102 #[.int .i64 a0] w fun e w' => e = .returned (.bool r) ∧ Drawn0 w w' := by
 have H : ((bundle_within.f a0 0 9).bind fun t1359 => (some t1359)) = some r := h
 clear h
 replace H := Option.bind_eq_some_iff.mp H
 obtain ⟨t1359, A20, H⟩ := H
 replace H : (some t1359) = some r := H
 have A2 := Aside0.mk A20
 clear A20
 obtain rfl := Option.some.inj H
 go_enter Try.func102, Try.ntmps102
 go_wp2_with (first | ((with_reducible refine gate_callee (f := 88) rfl ?_); refine goesL_ (some 4) rfl rfl Try.func88 (by kernel_rfl) rfl #[.int .i64 a0, .int .i64 0, .int .i64 9] rfl (by (try simp only [List.map_toArray, List.map_cons, List.map_nil]); first | done | rfl | (simp only [List.length_drop, List.length_take]; rfl)) ?_; (with_reducible refine (bundle_within.calls a0 0 9 t1359 _ A2.out).mono ?_); rintro e w' ⟨rfl, ⟨nd, rfl⟩⟩; refine ⟨_, rfl, ?_⟩))
 go_ret
 exact ⟨by first | rfl | (simp; done) | (simp [*]; done), by repeat (first | exact Drawn0.refl _ | apply Drawn0.step)⟩
end Go.Proofs.Ytnbbbeghgomnoaa.X
namespace Go.Proofs.Ytnbbbeghgomnoaa.X
open Go.RowKit Go.Proofs.YtnbbbeghgomnoaaW.PrintWords Go.Proofs.YtnbbbeghgomnoaaW.PrintLast Go.Proofs.YtnbbbeghgomnoaaW.PrintMore
attribute [local go_sem] max2_int min2_int max_two min_two max_three min_three max_four min_four
set_option linter.unusedVariables false
set_option linter.unusedSimpArgs false
def bundle_Table_piece.l0 : Nat → List Int → Int → Int → List (S109) → List (S110) → Int → List Int → Int → Option (Bool)
 | 0, _, _, _, _, _, _, _, _ => none
 | k + 1, x8, x9, x10, x1363000, x1363001, x1363002, x1364000, x1364001 => if x10 < x9 then (if 0 ≤ x10 then (if x10 < (x8.length : Int) then ((bundle_mark.f (rd x8 x10)).bind fun t1365 => (if t1365 = true then (if x10 > 0 then (if 0 ≤ (wrap64 (x10 - 1)) then (if (wrap64 (x10 - 1)) < (x1364000.length : Int) then (if (rd x8 x10) ≤ (rd x1364000 (wrap64 (x10 - 1))) then (some false) else (bundle_Table_piece.l0 k x8 x9 (wrap64 (x10 + 1)) x1363000 x1363001 x1363002 x1364000 x1364001)) else (none)) else (none)) else (bundle_Table_piece.l0 k x8 x9 (wrap64 (x10 + 1)) x1363000 x1363001 x1363002 x1364000 x1364001)) else (some false))) else (none)) else (none)) else ((bundle_within.f x1364001 0 (wrap64 ((x1363000.length : Int) - 1))).bind fun t1367 => (if t1367 = true then ((bundle_Table_of.f k x1363000 x1363001 x1363002 x1364000 x1364001).bind fun t1368 => (some (decide ((t1368.length : Int) > 0)))) else (some false)))
def bundle_Table_piece.f (k : Nat) (l0_0 : List (S109)) (l0_1 : List (S110)) (a0_2 : Int) (l1_0 : List Int) (a1_1 : Int) : Option (Bool) := bundle_Table_piece.l0 k l1_0 (l1_0.length : Int) 0 l0_0 l0_1 a0_2 l1_0 a1_1
set_option maxHeartbeats 8000000 in
set_option maxRecDepth 100000 in
theorem bundle_Table_piece.calls (k : Nat) (A0_0 : Option Addr) (c0_0 : Nat) (l0_0 : List (S109)) (A0_1 : Option Addr) (c0_1 : Nat) (l0_1 : List (S110)) (a0_2 : Int) (A1_0 : Option Addr) (c1_0 : Nat) (l1_0 : List Int) (a1_1 : Int) (r : Bool) (w : World) (hr0_0 : Kd.C k109 w A0_0 l0_0.length l0_0) (hc0_0 : l0_0.length ≤ c0_0) (hr0_1 : Kd.C k110 w A0_1 l0_1.length l0_1) (hc0_1 : l0_1.length ≤ c0_1) (hr1_0 : Kd.C (Kd.int .i64) w A1_0 l1_0.length l1_0) (hc1_0 : l1_0.length ≤ c1_0) (h : bundle_Table_piece.f k l0_0 l0_1 a0_2 l1_0 a1_1 = some r) :
  Calls Try.prog 87 #[.agg #[.slice A0_0 l0_0.length c0_0, .slice A0_1 l0_1.length c0_1, .int .i64 a0_2], .agg #[.slice A1_0 l1_0.length c1_0, .int .i64 a1_1]] w fun e w' => e = .returned (.bool r) ∧ Below w.heap.size w w' := by
 have hu35 := Try.underlying35
 have hu110 := Try.underlying110
 have HR0_0 := Aside0.mk hr0_0
 have HC0_0 := Aside0.mk hc0_0
 clear hr0_0 hc0_0
 have HR0_1 := Aside0.mk hr0_1
 have HC0_1 := Aside0.mk hc0_1
 clear hr0_1 hc0_1
 have HR1_0 := Aside0.mk hr1_0
 have HC1_0 := Aside0.mk hc1_0
 clear hr1_0 hc1_0
 have HB := Aside0.mk (Below.refl w.heap.size w)
 have H : (bundle_Table_piece.l0 k l1_0 (l1_0.length : Int) 0 l0_0 l0_1 a0_2 l1_0 a1_1) = some r := h
 clear h
 have H' := Aside0.mk H
 clear H
 go_enter Try.func87, Try.ntmps87
 go_wp2_with (first | ((with_reducible refine gate_dst (N := 2) rfl ?_); (try (refine gate_guard (by rfl) ?_; dsimp only)); refine sbox (N := 2) #[.slice A0_0 l0_0.length c0_0, .slice A0_1 l0_1.length c0_1, .int .i64 a0_2] 35 ?_; intro gb1362 hg w3 hbox hb; have BK1362 := Aside0.mk (hbox); have GW1362 := Aside0.mk (sge hg HB : w.heap.size ≤ gb1362); have GE1362 := Aside0.mk (sge hg HB : w.heap.size ≤ gb1362); replace HB := Aside0.mk (sbs HB hb); clear hb hbox hg) | ((with_reducible refine gate_dst (N := 3) rfl ?_); (try (refine gate_guard (by rfl) ?_; dsimp only)); refine sbox (N := 3) #[.slice A1_0 l1_0.length c1_0, .int .i64 a1_1] 110 ?_; intro gb1363 hg w4 hbox hb; have BK1363 := Aside0.mk (hbox); have GW1363 := Aside0.mk (sge1 hg HB GE1362 : w.heap.size ≤ gb1363); have GE1363 := Aside0.mk (sge1 hg HB GE1362 : w.heap.size ≤ gb1363); have NB1362_1363 := Aside0.mk (snl hg BK1362 : gb1362 ≠ gb1363); have NB1363_1362 := Aside0.mk (snr hg BK1362 : gb1363 ≠ gb1362); replace BK1362 := Aside0.mk (sbb BK1362 hb); replace HB := Aside0.mk (sbs1 HB GE1362 hb); clear hb hbox hg; have hnb5 := NB1363_1362.out; have hnc5 := NB1362_1363.out; have hcz6_0 := sc 0 BK1363; have hcz6_1 := sc 1 BK1363; have hfz6_0 := blk_frozen BK1363.out 0; have hfz6_1 := blk_frozen BK1363.out 1))
 go_loopg [10] k (fun kq v10 w' => ∃ (x10_1 : Int), v10 = .int .i64 x10_1 ∧ Aside0 (bundle_Table_piece.l0 kq l1_0 (l1_0.length : Int) x10_1 l0_0 l0_1 a0_2 l1_0 a1_1 = some r) ∧ Aside0 (kq ≤ k) ∧ Aside0 (w'.heap[gb1362]? = some (.cells #[(.slice A0_0 l0_0.length c0_0), (.slice A0_1 l0_1.length c0_1), .int .i64 a0_2] 35 (0, 0))) ∧ Aside0 (w'.heap[gb1363]? = some (.cells #[(.slice A1_0 l1_0.length c1_0), .int .i64 a1_1] 110 (0, 0))) ∧ Aside0 (Below w.heap.size w w'))
 case atStart => exact ⟨(0), (by first | rfl | (simp; done) | (simp [*]; done)), H', ⟨Nat.le_refl _⟩, ⟨by (with_reducible repeat (first | refine blk_drewN ?_ _ | refine blk_drew ?_ | refine blk_alloc ?_ _)); exact BK1362.out⟩, ⟨by (with_reducible repeat (first | refine blk_drewN ?_ _ | refine blk_drew ?_ | refine blk_alloc ?_ _)); exact BK1363.out⟩, ⟨(sbe2 HB GE1362 GE1363)⟩⟩
 case round =>
  clear H'
  try clear c1
  try clear p2
  try clear c5
  try clear hcz6_0
  try clear hcz6_1
  try clear hfz6_0
  try clear hfz6_1
  obtain ⟨x10_1, rfl, HA, HK1, BK1362, BK1363, HB⟩ := hrel
  cases gk with
  | zero => exact absurd HA.out (by simp [bundle_Table_piece.l0])
  | succ k1 =>
   have H := HA.out
   clear HA
   simp only [bundle_Table_piece.l0] at H
   by_cases c7 : x10_1 < (l1_0.length : Int)
   ·rw [if_pos c7] at H
    have c7b0 : decide (x10_1 < (l1_0.length : Int)) = true := decide_eq_true c7
    clear c7
    by_cases c8 : 0 ≤ x10_1
    ·rw [if_pos c8] at H
     have c8b0 : decide (0 ≤ x10_1) = true := decide_eq_true c8
     clear c8
     by_cases c9 : x10_1 < (l1_0.length : Int)
     ·rw [if_pos c9] at H
      have c9b0 : decide (x10_1 < (l1_0.length : Int)) = true := decide_eq_true c9
      clear c9
      replace H := Option.bind_eq_some_iff.mp H
      obtain ⟨t1365, A100, H⟩ := H
      replace H : (if t1365 = true then (if x10_1 > 0 then (if 0 ≤ (wrap64 (x10_1 - 1)) then (if (wrap64 (x10_1 - 1)) < (l1_0.length : Int) then (if (rd l1_0 x10_1) ≤ (rd l1_0 (wrap64 (x10_1 - 1))) then (some false) else (bundle_Table_piece.l0 k1 l1_0 (l1_0.length : Int) (wrap64 (x10_1 + 1)) l0_0 l0_1 a0_2 l1_0 a1_1)) else (none)) else (none)) else (bundle_Table_piece.l0 k1 l1_0 (l1_0.length : Int) (wrap64 (x10_1 + 1)) l0_0 l0_1 a0_2 l1_0 a1_1)) else (some false)) = some r := H
      have A10 := Aside0.mk A100
      clear A100
      by_cases c11 : t1365 = true
      ·subst c11
       have H1 : (if x10_1 > 0 then (if 0 ≤ (wrap64 (x10_1 - 1)) then (if (wrap64 (x10_1 - 1)) < (l1_0.length : Int) then (if (rd l1_0 x10_1) ≤ (rd l1_0 (wrap64 (x10_1 - 1))) then (some false) else (bundle_Table_piece.l0 k1 l1_0 (l1_0.length : Int) (wrap64 (x10_1 + 1)) l0_0 l0_1 a0_2 l1_0 a1_1)) else (none)) else (none)) else (bundle_Table_piece.l0 k1 l1_0 (l1_0.length : Int) (wrap64 (x10_1 + 1)) l0_0 l0_1 a0_2 l1_0 a1_1)) = some r := by rw [if_pos rfl] at H; exact H
       clear H
       have H := H1
       clear H1
       by_cases c12 : x10_1 > 0
       ·rw [if_pos c12] at H
        have c12b0 : decide (0 < x10_1) = true := decide_eq_true c12
        clear c12
        obtain ⟨ji13, hji13⟩ : ∃ j_ : Int, (wrap64 (x10_1 - 1)) = j_ := ⟨_, rfl⟩
        replace H : (if 0 ≤ (ji13) then (if (ji13) < (l1_0.length : Int) then (if (rd l1_0 x10_1) ≤ (rd l1_0 (ji13)) then (some false) else (bundle_Table_piece.l0 k1 l1_0 (l1_0.length : Int) (wrap64 (x10_1 + 1)) l0_0 l0_1 a0_2 l1_0 a1_1)) else (none)) else (none)) = some r := by first | (rw [hji13] at H; exact H) | (simp only [hji13] at H ⊢; exact H)
        (try rw [hji13] at A10)
        have hji13w : (IntKind.i64.wrap (x10_1 - 1)) = ji13 := (i64_w _).trans hji13
        by_cases c14 : 0 ≤ (ji13)
        ·rw [if_pos c14] at H
         have c14b0 : decide (0 ≤ (ji13)) = true := decide_eq_true c14
         clear c14
         by_cases c15 : (ji13) < (l1_0.length : Int)
         ·rw [if_pos c15] at H
          have c15b0 : decide ((ji13) < (l1_0.length : Int)) = true := decide_eq_true c15
          clear c15
          by_cases c16 : (rd l1_0 x10_1) ≤ (rd l1_0 (ji13))
          ·rw [if_pos c16] at H
           have c16b0 : decide ((rd l1_0 x10_1) ≤ (rd l1_0 (ji13))) = true := decide_eq_true c16
           clear c16
           obtain rfl := Option.some.inj H
           have p1364 : 0 ≤ (x10_1 : Int) := of_decide_eq_true (by first | (with_reducible assumption) | assumption)
           have q1364 : x10_1 < (l1_0.length : Int) := of_decide_eq_true (by first | (with_reducible assumption) | assumption)
           obtain ⟨ad1364, e1364, hx1364_0⟩ := Kd.at_int HR1_0.out x10_1 p1364 q1364
           cases e1364
           replace hx1364_0 := (HB.out.cell (World.block_lt_of_cell? w _ hx1364_0)).trans hx1364_0
           replace p1364 := eq_true p1364
           replace q1364 := eq_true q1364
           go_wp2_with (first | ((with_reducible refine gate_callee (f := 102) rfl ?_); refine goesL_ (some 16) rfl rfl Try.func102 (by kernel_rfl) rfl #[.int .i64 (rd l1_0 x10_1)] rfl (by (try simp only [List.map_toArray, List.map_cons, List.map_nil]); first | done | rfl | (simp only [List.length_drop, List.length_take]; rfl)) ?_; (with_reducible refine (bundle_mark.calls (rd l1_0 x10_1) true _ A10.out).mono ?_); rintro e w' ⟨rfl, ⟨nd, rfl⟩⟩; refine ⟨_, rfl, ?_⟩; have hnb17 := NB1363_1362.out; have hnc17 := NB1362_1363.out; have hcz18_0 := sc 0 BK1363; have hcz18_1 := sc 1 BK1363; have hfz18_0 := blk_frozen BK1363.out 0; have hfz18_1 := blk_frozen BK1363.out 1; have p1366 : 0 ≤ ((ji13) : Int) := of_decide_eq_true (by first | (with_reducible assumption) | assumption); have q1366 : (ji13) < (l1_0.length : Int) := of_decide_eq_true (by first | (with_reducible assumption) | assumption); obtain ⟨ad1366, e1366, hx1366_0⟩ := Kd.at_int HR1_0.out (ji13) p1366 q1366; obtain rfl : ad1364 = ad1366 := (by injection e1366); replace hx1366_0 := (HB.out.cell (World.block_lt_of_cell? w _ hx1366_0)).trans hx1366_0; replace p1366 := eq_true p1366; replace q1366 := eq_true q1366))
           go_ret
           exact ⟨by first | rfl | (simp [errW_none, errW_some] <;> rfl) | (simp only [← hji13]; first | rfl | (simp [errW_none, errW_some] <;> rfl)) | (simp [*, errW_none, errW_some] <;> rfl), (sbe2 HB GE1362 GE1363)⟩
          ·rw [if_neg c16] at H
           have c16b0 : decide ((rd l1_0 x10_1) ≤ (rd l1_0 (ji13))) = false := decide_eq_false c16
           clear c16
           have H' := Aside0.mk H
           clear H
           have p1364 : 0 ≤ (x10_1 : Int) := of_decide_eq_true (by first | (with_reducible assumption) | assumption)
           have q1364 : x10_1 < (l1_0.length : Int) := of_decide_eq_true (by first | (with_reducible assumption) | assumption)
           obtain ⟨ad1364, e1364, hx1364_0⟩ := Kd.at_int HR1_0.out x10_1 p1364 q1364
           cases e1364
           replace hx1364_0 := (HB.out.cell (World.block_lt_of_cell? w _ hx1364_0)).trans hx1364_0
           replace p1364 := eq_true p1364
           replace q1364 := eq_true q1364
           go_wp2_with (first | ((with_reducible refine gate_callee (f := 102) rfl ?_); refine goesL_ (some 16) rfl rfl Try.func102 (by kernel_rfl) rfl #[.int .i64 (rd l1_0 x10_1)] rfl (by (try simp only [List.map_toArray, List.map_cons, List.map_nil]); first | done | rfl | (simp only [List.length_drop, List.length_take]; rfl)) ?_; (with_reducible refine (bundle_mark.calls (rd l1_0 x10_1) true _ A10.out).mono ?_); rintro e w' ⟨rfl, ⟨nd, rfl⟩⟩; refine ⟨_, rfl, ?_⟩; have hnb19 := NB1363_1362.out; have hnc19 := NB1362_1363.out; have hcz20_0 := sc 0 BK1363; have hcz20_1 := sc 1 BK1363; have hfz20_0 := blk_frozen BK1363.out 0; have hfz20_1 := blk_frozen BK1363.out 1; have p1366 : 0 ≤ ((ji13) : Int) := of_decide_eq_true (by first | (with_reducible assumption) | assumption); have q1366 : (ji13) < (l1_0.length : Int) := of_decide_eq_true (by first | (with_reducible assumption) | assumption); obtain ⟨ad1366, e1366, hx1366_0⟩ := Kd.at_int HR1_0.out (ji13) p1366 q1366; obtain rfl : ad1364 = ad1366 := (by injection e1366); replace hx1366_0 := (HB.out.cell (World.block_lt_of_cell? w _ hx1366_0)).trans hx1366_0; replace p1366 := eq_true p1366; replace q1366 := eq_true q1366))
           go_roundg k1
           case measure => have := HK1.out; omega
           case rel => exact ⟨(wrap64 (x10_1 + 1)), (by first | rfl | (simp; done) | (simp [*]; done)), H', ⟨by have := HK1.out; omega⟩, ⟨by (with_reducible repeat (first | refine blk_drewN ?_ _ | refine blk_drew ?_ | refine blk_alloc ?_ _)); exact BK1362.out⟩, ⟨by (with_reducible repeat (first | refine blk_drewN ?_ _ | refine blk_drew ?_ | refine blk_alloc ?_ _)); exact BK1363.out⟩, ⟨(sbe2 HB GE1362 GE1363)⟩⟩
         ·rw [if_neg c15] at H
          exact absurd H (by simp)
        ·rw [if_neg c14] at H
         exact absurd H (by simp)
       ·rw [if_neg c12] at H
        have c12b0 : decide (0 < x10_1) = false := decide_eq_false c12
        clear c12
        have H' := Aside0.mk H
        clear H
        have p1364 : 0 ≤ (x10_1 : Int) := of_decide_eq_true (by first | (with_reducible assumption) | assumption)
        have q1364 : x10_1 < (l1_0.length : Int) := of_decide_eq_true (by first | (with_reducible assumption) | assumption)
        obtain ⟨ad1364, e1364, hx1364_0⟩ := Kd.at_int HR1_0.out x10_1 p1364 q1364
        cases e1364
        replace hx1364_0 := (HB.out.cell (World.block_lt_of_cell? w _ hx1364_0)).trans hx1364_0
        replace p1364 := eq_true p1364
        replace q1364 := eq_true q1364
        go_wp2_with (first | ((with_reducible refine gate_callee (f := 102) rfl ?_); refine goesL_ (some 16) rfl rfl Try.func102 (by kernel_rfl) rfl #[.int .i64 (rd l1_0 x10_1)] rfl (by (try simp only [List.map_toArray, List.map_cons, List.map_nil]); first | done | rfl | (simp only [List.length_drop, List.length_take]; rfl)) ?_; (with_reducible refine (bundle_mark.calls (rd l1_0 x10_1) true _ A10.out).mono ?_); rintro e w' ⟨rfl, ⟨nd, rfl⟩⟩; refine ⟨_, rfl, ?_⟩))
        go_roundg k1
        case measure => have := HK1.out; omega
        case rel => exact ⟨(wrap64 (x10_1 + 1)), (by first | rfl | (simp; done) | (simp [*]; done)), H', ⟨by have := HK1.out; omega⟩, ⟨by (with_reducible repeat (first | refine blk_drewN ?_ _ | refine blk_drew ?_ | refine blk_alloc ?_ _)); exact BK1362.out⟩, ⟨by (with_reducible repeat (first | refine blk_drewN ?_ _ | refine blk_drew ?_ | refine blk_alloc ?_ _)); exact BK1363.out⟩, ⟨(sbe2 HB GE1362 GE1363)⟩⟩
      ·replace c11 := Bool.eq_false_iff.mpr c11
       subst c11
       have H1 : (some false) = some r := by rw [if_neg (show ¬ (false = true) by decide)] at H; exact H
       clear H
       have H := H1
       clear H1
       obtain rfl := Option.some.inj H
       have p1364 : 0 ≤ (x10_1 : Int) := of_decide_eq_true (by first | (with_reducible assumption) | assumption)
       have q1364 : x10_1 < (l1_0.length : Int) := of_decide_eq_true (by first | (with_reducible assumption) | assumption)
       obtain ⟨ad1364, e1364, hx1364_0⟩ := Kd.at_int HR1_0.out x10_1 p1364 q1364
       cases e1364
       replace hx1364_0 := (HB.out.cell (World.block_lt_of_cell? w _ hx1364_0)).trans hx1364_0
       replace p1364 := eq_true p1364
       replace q1364 := eq_true q1364
       go_wp2_with (first | ((with_reducible refine gate_callee (f := 102) rfl ?_); refine goesL_ (some 16) rfl rfl Try.func102 (by kernel_rfl) rfl #[.int .i64 (rd l1_0 x10_1)] rfl (by (try simp only [List.map_toArray, List.map_cons, List.map_nil]); first | done | rfl | (simp only [List.length_drop, List.length_take]; rfl)) ?_; (with_reducible refine (bundle_mark.calls (rd l1_0 x10_1) false _ A10.out).mono ?_); rintro e w' ⟨rfl, ⟨nd, rfl⟩⟩; refine ⟨_, rfl, ?_⟩))
       go_ret
       exact ⟨by first | rfl | (simp [errW_none, errW_some] <;> rfl) | (simp [*, errW_none, errW_some] <;> rfl), (sbe2 HB GE1362 GE1363)⟩
     ·rw [if_neg c9] at H
      exact absurd H (by simp)
    ·rw [if_neg c8] at H
     exact absurd H (by simp)
   ·rw [if_neg c7] at H
    have c7b0 : decide (x10_1 < (l1_0.length : Int)) = false := decide_eq_false c7
    clear c7
    replace H := Option.bind_eq_some_iff.mp H
    obtain ⟨t1367, A210, H⟩ := H
    replace H : (if t1367 = true then ((bundle_Table_of.f k1 l0_0 l0_1 a0_2 l1_0 a1_1).bind fun t1368 => (some (decide ((t1368.length : Int) > 0)))) else (some false)) = some r := H
    have A21 := Aside0.mk A210
    clear A210
    by_cases c22 : t1367 = true
    ·subst c22
     have H1 : ((bundle_Table_of.f k1 l0_0 l0_1 a0_2 l1_0 a1_1).bind fun t1368 => (some (decide ((t1368.length : Int) > 0)))) = some r := by rw [if_pos rfl] at H; exact H
     clear H
     have H := H1
     clear H1
     replace H := Option.bind_eq_some_iff.mp H
     obtain ⟨t1368, A230, H⟩ := H
     replace H : (some (decide ((t1368.length : Int) > 0))) = some r := H
     have A23 := Aside0.mk A230
     clear A230
     obtain rfl := Option.some.inj H
     have hnb24 := NB1363_1362.out
     have hnc24 := NB1362_1363.out
     have hcz25_0 := sc 0 BK1363
     have hcz25_1 := sc 1 BK1363
     have hfz25_0 := blk_frozen BK1363.out 0
     have hfz25_1 := blk_frozen BK1363.out 1
     have hcz26_0 := sc 0 BK1362
     have hcz26_1 := sc 1 BK1362
     have hcz26_2 := sc 2 BK1362
     have hfz26_0 := blk_frozen BK1362.out 0
     have hfz26_1 := blk_frozen BK1362.out 1
     have hfz26_2 := blk_frozen BK1362.out 2
     go_wp2_with (first | ((with_reducible refine gate_callee (f := 88) rfl ?_); refine goesL_ (some 39) rfl rfl Try.func88 (by kernel_rfl) rfl #[.int .i64 a1_1, .int .i64 0, .int .i64 (wrap64 ((l0_0.length : Int) - 1))] rfl (by (try simp only [List.map_toArray, List.map_cons, List.map_nil]); first | done | rfl | (simp only [List.length_drop, List.length_take]; rfl)) ?_; (with_reducible refine (bundle_within.calls a1_1 0 (wrap64 ((l0_0.length : Int) - 1)) true _ A21.out).mono ?_); rintro e w' ⟨rfl, ⟨nd, rfl⟩⟩; refine ⟨_, rfl, ?_⟩) | (go_at_call 93; (with_reducible refine (bundle_Table_of.calls k1 _ _ l0_0 _ _ l0_1 a0_2 _ _ l1_0 a1_1 t1368 _ ?side1 ?side2 ?side3 ?side4 ?side5 ?side6 A23.out).mono ?_); (case side1 => exact sCb2 HR0_0 HB GE1362 GE1363); (case side2 => exact HC0_0.out); (case side3 => exact sCb2 HR0_1 HB GE1362 GE1363); (case side4 => exact HC0_1.out); (case side5 => exact sCb2 HR1_0 HB GE1362 GE1363); (case side6 => exact HC1_0.out); rintro e w27 ⟨v1369, rfl, ho0, hb⟩; have HO1370 := Aside0.mk (Kd.R_lower ho0 (below_size (sbe2 HB GE1362 GE1363))); replace BK1362 := Aside0.mk (sbb BK1362 hb); replace BK1363 := Aside0.mk (sbb BK1363 hb); replace HB := Aside0.mk (sbs2 HB GE1362 GE1363 hb); (try clear hb); (try clear hb2); (try clear hk); (try clear hi); (try clear ho0); obtain ⟨Ao28, co28, eo28⟩ := Kd.R_slice HO1370.out; subst eo28))
     go_ret
     exact ⟨by first | rfl | (simp [errW_none, errW_some] <;> rfl) | (simp [*, errW_none, errW_some] <;> rfl), (sbe2 HB GE1362 GE1363)⟩
    ·replace c22 := Bool.eq_false_iff.mpr c22
     subst c22
     have H1 : (some false) = some r := by rw [if_neg (show ¬ (false = true) by decide)] at H; exact H
     clear H
     have H := H1
     clear H1
     obtain rfl := Option.some.inj H
     have hnb29 := NB1363_1362.out
     have hnc29 := NB1362_1363.out
     have hcz30_0 := sc 0 BK1363
     have hcz30_1 := sc 1 BK1363
     have hfz30_0 := blk_frozen BK1363.out 0
     have hfz30_1 := blk_frozen BK1363.out 1
     have hcz31_0 := sc 0 BK1362
     have hcz31_1 := sc 1 BK1362
     have hcz31_2 := sc 2 BK1362
     have hfz31_0 := blk_frozen BK1362.out 0
     have hfz31_1 := blk_frozen BK1362.out 1
     have hfz31_2 := blk_frozen BK1362.out 2
     go_wp2_with (first | ((with_reducible refine gate_callee (f := 88) rfl ?_); refine goesL_ (some 39) rfl rfl Try.func88 (by kernel_rfl) rfl #[.int .i64 a1_1, .int .i64 0, .int .i64 (wrap64 ((l0_0.length : Int) - 1))] rfl (by (try simp only [List.map_toArray, List.map_cons, List.map_nil]); first | done | rfl | (simp only [List.length_drop, List.length_take]; rfl)) ?_; (with_reducible refine (bundle_within.calls a1_1 0 (wrap64 ((l0_0.length : Int) - 1)) false _ A21.out).mono ?_); rintro e w' ⟨rfl, ⟨nd, rfl⟩⟩; refine ⟨_, rfl, ?_⟩))
     go_ret
     exact ⟨by first | rfl | (simp [errW_none, errW_some] <;> rfl) | (simp [*, errW_none, errW_some] <;> rfl), (sbe2 HB GE1362 GE1363)⟩
end Go.Proofs.Ytnbbbeghgomnoaa.X
namespace Go.Proofs.Ytnbbbeghgomnoaa.X
open Go.RowKit Go.Proofs.YtnbbbeghgomnoaaW.PrintWords Go.Proofs.YtnbbbeghgomnoaaW.PrintLast Go.Proofs.YtnbbbeghgomnoaaW.PrintMore
attribute [local go_sem] max2_int min2_int max_two min_two max_three min_three max_four min_four
set_option linter.unusedVariables false
set_option linter.unusedSimpArgs false
def bundle_Woman_valid.f (a0_0 : Int) (a0_1 : Int) (a0_2 : Int) : Option (Bool) := (bundle_mark.f a0_0).bind fun t1361 => (if t1361 = true then (if 0 ≤ a0_1 then (if a0_1 ≤ a0_2 then (some (decide (a0_2 ≤ 7))) else (some false)) else (some false)) else (some false))
set_option maxHeartbeats 8000000 in
set_option maxRecDepth 100000 in
theorem bundle_Woman_valid.calls (a0_0 : Int) (a0_1 : Int) (a0_2 : Int) (r : Bool) (w : World) (h : bundle_Woman_valid.f a0_0 a0_1 a0_2 = some r) :
  Calls Try.prog 90 #[.agg #[.int .i64 a0_0, .int .i64 a0_1, .int .i64 a0_2]] w fun e w' => e = .returned (.bool r) ∧ Below w.heap.size w w' := by
 have hu109 := Try.underlying109
 have HB := Aside0.mk (Below.refl w.heap.size w)
 have H : ((bundle_mark.f a0_0).bind fun t1361 => (if t1361 = true then (if 0 ≤ a0_1 then (if a0_1 ≤ a0_2 then (some (decide (a0_2 ≤ 7))) else (some false)) else (some false)) else (some false))) = some r := h
 clear h
 replace H := Option.bind_eq_some_iff.mp H
 obtain ⟨t1361, A20, H⟩ := H
 replace H : (if t1361 = true then (if 0 ≤ a0_1 then (if a0_1 ≤ a0_2 then (some (decide (a0_2 ≤ 7))) else (some false)) else (some false)) else (some false)) = some r := H
 have A2 := Aside0.mk A20
 clear A20
 by_cases c3 : t1361 = true
 ·subst c3
  have H1 : (if 0 ≤ a0_1 then (if a0_1 ≤ a0_2 then (some (decide (a0_2 ≤ 7))) else (some false)) else (some false)) = some r := by rw [if_pos rfl] at H; exact H
  clear H
  have H := H1
  clear H1
  by_cases c4 : 0 ≤ a0_1
  ·rw [if_pos c4] at H
   have c4b0 : decide (0 ≤ a0_1) = true := decide_eq_true c4
   clear c4
   by_cases c5 : a0_1 ≤ a0_2
   ·rw [if_pos c5] at H
    have c5b0 : decide (a0_1 ≤ a0_2) = true := decide_eq_true c5
    clear c5
    obtain rfl := Option.some.inj H
    go_enter Try.func90, Try.ntmps90
    go_wp2_with (first | ((with_reducible refine gate_dst (N := 1) rfl ?_); refine sbox (N := 1) #[.int .i64 a0_0, .int .i64 a0_1, .int .i64 a0_2] 109 ?_; intro gb1360 hg w6 hbox hb; have BK1360 := Aside0.mk (hbox); have GW1360 := Aside0.mk (sge hg HB : w.heap.size ≤ gb1360); have GE1360 := Aside0.mk (sge hg HB : w.heap.size ≤ gb1360); replace HB := Aside0.mk (sbs HB hb); clear hb hbox hg; have hcz7_0 := sc 0 BK1360; have hcz7_1 := sc 1 BK1360; have hcz7_2 := sc 2 BK1360; have hfz7_0 := blk_frozen BK1360.out 0; have hfz7_1 := blk_frozen BK1360.out 1; have hfz7_2 := blk_frozen BK1360.out 2) | ((with_reducible refine gate_callee (f := 102) rfl ?_); refine goesL_ (some 5) rfl rfl Try.func102 (by kernel_rfl) rfl #[.int .i64 a0_0] rfl (by (try simp only [List.map_toArray, List.map_cons, List.map_nil]); first | done | rfl | (simp only [List.length_drop, List.length_take]; rfl)) ?_; (with_reducible refine (bundle_mark.calls a0_0 true _ A2.out).mono ?_); rintro e w' ⟨rfl, ⟨nd, rfl⟩⟩; refine ⟨_, rfl, ?_⟩))
    go_ret
    exact ⟨by first | rfl | (simp [errW_none, errW_some] <;> rfl) | (simp [*, errW_none, errW_some] <;> rfl), (sbe1 HB GE1360)⟩
   ·rw [if_neg c5] at H
    have c5b0 : decide (a0_1 ≤ a0_2) = false := decide_eq_false c5
    clear c5
    obtain rfl := Option.some.inj H
    go_enter Try.func90, Try.ntmps90
    go_wp2_with (first | ((with_reducible refine gate_dst (N := 1) rfl ?_); refine sbox (N := 1) #[.int .i64 a0_0, .int .i64 a0_1, .int .i64 a0_2] 109 ?_; intro gb1360 hg w8 hbox hb; have BK1360 := Aside0.mk (hbox); have GW1360 := Aside0.mk (sge hg HB : w.heap.size ≤ gb1360); have GE1360 := Aside0.mk (sge hg HB : w.heap.size ≤ gb1360); replace HB := Aside0.mk (sbs HB hb); clear hb hbox hg; have hcz9_0 := sc 0 BK1360; have hcz9_1 := sc 1 BK1360; have hcz9_2 := sc 2 BK1360; have hfz9_0 := blk_frozen BK1360.out 0; have hfz9_1 := blk_frozen BK1360.out 1; have hfz9_2 := blk_frozen BK1360.out 2) | ((with_reducible refine gate_callee (f := 102) rfl ?_); refine goesL_ (some 5) rfl rfl Try.func102 (by kernel_rfl) rfl #[.int .i64 a0_0] rfl (by (try simp only [List.map_toArray, List.map_cons, List.map_nil]); first | done | rfl | (simp only [List.length_drop, List.length_take]; rfl)) ?_; (with_reducible refine (bundle_mark.calls a0_0 true _ A2.out).mono ?_); rintro e w' ⟨rfl, ⟨nd, rfl⟩⟩; refine ⟨_, rfl, ?_⟩))
    go_ret
    exact ⟨by first | rfl | (simp [errW_none, errW_some] <;> rfl) | (simp [*, errW_none, errW_some] <;> rfl), (sbe1 HB GE1360)⟩
  ·rw [if_neg c4] at H
   have c4b0 : decide (0 ≤ a0_1) = false := decide_eq_false c4
   clear c4
   obtain rfl := Option.some.inj H
   go_enter Try.func90, Try.ntmps90
   go_wp2_with (first | ((with_reducible refine gate_dst (N := 1) rfl ?_); refine sbox (N := 1) #[.int .i64 a0_0, .int .i64 a0_1, .int .i64 a0_2] 109 ?_; intro gb1360 hg w10 hbox hb; have BK1360 := Aside0.mk (hbox); have GW1360 := Aside0.mk (sge hg HB : w.heap.size ≤ gb1360); have GE1360 := Aside0.mk (sge hg HB : w.heap.size ≤ gb1360); replace HB := Aside0.mk (sbs HB hb); clear hb hbox hg; have hcz11_0 := sc 0 BK1360; have hcz11_1 := sc 1 BK1360; have hcz11_2 := sc 2 BK1360; have hfz11_0 := blk_frozen BK1360.out 0; have hfz11_1 := blk_frozen BK1360.out 1; have hfz11_2 := blk_frozen BK1360.out 2) | ((with_reducible refine gate_callee (f := 102) rfl ?_); refine goesL_ (some 5) rfl rfl Try.func102 (by kernel_rfl) rfl #[.int .i64 a0_0] rfl (by (try simp only [List.map_toArray, List.map_cons, List.map_nil]); first | done | rfl | (simp only [List.length_drop, List.length_take]; rfl)) ?_; (with_reducible refine (bundle_mark.calls a0_0 true _ A2.out).mono ?_); rintro e w' ⟨rfl, ⟨nd, rfl⟩⟩; refine ⟨_, rfl, ?_⟩))
   go_ret
   exact ⟨by first | rfl | (simp [errW_none, errW_some] <;> rfl) | (simp [*, errW_none, errW_some] <;> rfl), (sbe1 HB GE1360)⟩
 ·replace c3 := Bool.eq_false_iff.mpr c3
  subst c3
  have H1 : (some false) = some r := by rw [if_neg (show ¬ (false = true) by decide)] at H; exact H
  clear H
  have H := H1
  clear H1
  obtain rfl := Option.some.inj H
  go_enter Try.func90, Try.ntmps90
  go_wp2_with (first | ((with_reducible refine gate_dst (N := 1) rfl ?_); refine sbox (N := 1) #[.int .i64 a0_0, .int .i64 a0_1, .int .i64 a0_2] 109 ?_; intro gb1360 hg w12 hbox hb; have BK1360 := Aside0.mk (hbox); have GW1360 := Aside0.mk (sge hg HB : w.heap.size ≤ gb1360); have GE1360 := Aside0.mk (sge hg HB : w.heap.size ≤ gb1360); replace HB := Aside0.mk (sbs HB hb); clear hb hbox hg; have hcz13_0 := sc 0 BK1360; have hcz13_1 := sc 1 BK1360; have hcz13_2 := sc 2 BK1360; have hfz13_0 := blk_frozen BK1360.out 0; have hfz13_1 := blk_frozen BK1360.out 1; have hfz13_2 := blk_frozen BK1360.out 2) | ((with_reducible refine gate_callee (f := 102) rfl ?_); refine goesL_ (some 5) rfl rfl Try.func102 (by kernel_rfl) rfl #[.int .i64 a0_0] rfl (by (try simp only [List.map_toArray, List.map_cons, List.map_nil]); first | done | rfl | (simp only [List.length_drop, List.length_take]; rfl)) ?_; (with_reducible refine (bundle_mark.calls a0_0 false _ A2.out).mono ?_); rintro e w' ⟨rfl, ⟨nd, rfl⟩⟩; refine ⟨_, rfl, ?_⟩))
  go_ret
  exact ⟨by first | rfl | (simp [errW_none, errW_some] <;> rfl) | (simp [*, errW_none, errW_some] <;> rfl), (sbe1 HB GE1360)⟩
end Go.Proofs.Ytnbbbeghgomnoaa.X
namespace Go.Proofs.Ytnbbbeghgomnoaa.X
open Go.RowKit Go.Proofs.YtnbbbeghgomnoaaW.PrintWords Go.Proofs.YtnbbbeghgomnoaaW.PrintLast Go.Proofs.YtnbbbeghgomnoaaW.PrintMore
def okIn (n a b : Int) : Bool := decide (a ≤ n) && decide (n ≤ b)
theorem within_f (n a b : Int) : bundle_within.f n a b = some (okIn n a b) := by
 unfold bundle_within.f okIn
 by_cases h : a ≤ n <;> simp [h]
theorem mark_f (n : Int) : bundle_mark.f n = some (okIn n 0 9) := by
 unfold bundle_mark.f
 rw [within_f]; rfl
def okW (x : S109) : Bool := okIn x.f0 0 9 && decide (0 ≤ x.f1.f0) && decide (x.f1.f0 ≤ x.f1.f1) && decide (x.f1.f1 ≤ 7)
theorem valid_f (x : S109) : bundle_Woman_valid.f x.f0 x.f1.f0 x.f1.f1 = some (okW x) := by
 unfold bundle_Woman_valid.f okW
 rw [mark_f]
 simp only [Option.bind_some]
 cases okIn x.f0 0 9
 ·simp
 ·by_cases h1 : 0 ≤ x.f1.f0
  ·by_cases h2 : x.f1.f0 ≤ x.f1.f1 <;> simp [h1, h2]
  ·simp [h1]
def okM (ms : List Int) (j : Nat) : Bool := okIn (ms.getD j 0) 0 9 && (j == 0 || decide (ms.getD (j - 1) 0 < ms.getD j 0))
def okP (l0 : List S109) (z : S110) : Bool := (List.range z.f0.length).all (okM z.f0) && okIn z.f1 0 ((l0.length : Int) - 1) && decide (0 < (ofL l0 z.f0).length)
theorem all_range_succ (p : Nat → Bool) (m : Nat) : (List.range (m + 1)).all p = ((List.range m).all p && p m) := by
 rw [List.range_succ, List.all_append]; simp
theorem all_range_false (p : Nat → Bool) (m n : Nat) (h : m < n) (hp : p m = false) : (List.range n).all p = false :=
 List.all_eq_false.2 ⟨m, by simpa using h, by rw [hp]; decide⟩
theorem piece_ev (l0 : List S109) (l1 : List S110) (wg : Int) (z : S110) (hl : l0.length ≤ 30) (hm : z.f0.length ≤ 30) : Evt (fun k => bundle_Table_piece.f k l0 l1 wg z.f0 z.f1) (okP l0 z) := by
 have main : ∀ (d i : Nat), i + d = z.f0.length → (List.range i).all (okM z.f0) = true → Evt (fun k => bundle_Table_piece.l0 k z.f0 (z.f0.length : Int) (i : Int) l0 l1 wg z.f0 z.f1) (okP l0 z) := by
  intro d
  induction d with
  | zero =>
   intro i hi hok
   obtain rfl : i = z.f0.length := by omega
   have hw : wrap64 ((l0.length : Int) - 1) = (l0.length : Int) - 1 := wrap64_id _ (by omega) (by omega)
   obtain ⟨K, hK⟩ := of_ev l0 l1 wg z.f0 z.f1 hl hm
   refine ⟨K + 1, fun k hk => ?_⟩
   obtain ⟨k, rfl⟩ : ∃ m, k = m + 1 := ⟨k - 1, by omega⟩
   show bundle_Table_piece.l0 (k + 1) _ _ _ _ _ _ _ _ = _
   simp only [bundle_Table_piece.l0]
   rw [if_neg (by omega), hw, within_f]
   simp only [Option.bind_some]
   have h_ := hK k (by omega)
   dsimp only at h_
   rw [h_]
   unfold okP
   rw [hok]
   cases okIn z.f1 0 ((l0.length : Int) - 1)
   ·rfl
   ·simp
  | succ d ih =>
   intro i hi hok
   have hlt : i < z.f0.length := by omega
   have hokm : okM z.f0 i = (okIn (z.f0.getD i 0) 0 9 && (i == 0 || decide (z.f0.getD (i - 1) 0 < z.f0.getD i 0))) := rfl
   have hfalse : okM z.f0 i = false → okP l0 z = false := fun h => by
    unfold okP
    rw [all_range_false _ _ _ hlt h]; rfl
   have hw1 : wrap64 ((i : Int) + 1) = ((i + 1 : Nat) : Int) := by rw [wrap64_id _ (by omega) (by omega)]; rfl
   by_cases hmk : okIn (z.f0.getD i 0) 0 9 = true
   ·by_cases hi0 : i = 0
    ·have hokt : okM z.f0 i = true := by rw [hokm, hmk, hi0]; rfl
     obtain ⟨K, hK⟩ := ih (i + 1) (by omega) (by rw [all_range_succ, hok, hokt]; rfl)
     refine ⟨K + 1, fun k hk => ?_⟩
     obtain ⟨k, rfl⟩ : ∃ m, k = m + 1 := ⟨k - 1, by omega⟩
     show bundle_Table_piece.l0 (k + 1) _ _ _ _ _ _ _ _ = _
     simp only [bundle_Table_piece.l0]
     rw [if_pos (by omega), if_pos (by omega), if_pos (by omega), rd_nat, mark_f, hmk]
     simp only [Option.bind_some, if_true]
     rw [if_neg (by omega), hw1]
     exact hK k (by omega)
    ·have hw2 : wrap64 ((i : Int) - 1) = ((i - 1 : Nat) : Int) := by rw [wrap64_id _ (by omega) (by omega)]; omega
     by_cases hinc : z.f0.getD (i - 1) 0 < z.f0.getD i 0
     ·have hokt : okM z.f0 i = true := by rw [hokm, hmk, decide_eq_true hinc]; simp
      obtain ⟨K, hK⟩ := ih (i + 1) (by omega) (by rw [all_range_succ, hok, hokt]; rfl)
      refine ⟨K + 1, fun k hk => ?_⟩
      obtain ⟨k, rfl⟩ : ∃ m, k = m + 1 := ⟨k - 1, by omega⟩
      show bundle_Table_piece.l0 (k + 1) _ _ _ _ _ _ _ _ = _
      simp only [bundle_Table_piece.l0]
      rw [if_pos (by omega), if_pos (by omega), if_pos (by omega), rd_nat, mark_f, hmk]
      simp only [Option.bind_some, if_true]
      rw [if_pos (by omega), hw2, if_pos (by omega), if_pos (by omega), rd_nat, if_neg (by omega), hw1]
      exact hK k (by omega)
     ·have hokf : okM z.f0 i = false := by
       rw [hokm, hmk, decide_eq_false hinc]
       have : (i == 0) = false := by simpa using hi0
       rw [this]; rfl
      refine ⟨1, fun k hk => ?_⟩
      obtain ⟨k, rfl⟩ : ∃ m, k = m + 1 := ⟨k - 1, by omega⟩
      show bundle_Table_piece.l0 (k + 1) _ _ _ _ _ _ _ _ = _
      simp only [bundle_Table_piece.l0]
      rw [if_pos (by omega), if_pos (by omega), if_pos (by omega), rd_nat, mark_f, hmk]
      simp only [Option.bind_some, if_true]
      rw [if_pos (by omega), hw2, if_pos (by omega), if_pos (by omega), rd_nat, if_pos (by omega), hfalse hokf]
   ·have hmk' : okIn (z.f0.getD i 0) 0 9 = false := by simpa using hmk
    have hokf : okM z.f0 i = false := by rw [hokm, hmk']; rfl
    refine ⟨1, fun k hk => ?_⟩
    obtain ⟨k, rfl⟩ : ∃ m, k = m + 1 := ⟨k - 1, by omega⟩
    show bundle_Table_piece.l0 (k + 1) _ _ _ _ _ _ _ _ = _
    simp only [bundle_Table_piece.l0]
    rw [if_pos (by omega), if_pos (by omega), if_pos (by omega), rd_nat, mark_f, hmk']
    simp only [Option.bind_some]
    rw [if_neg (by decide), hfalse hokf]
 exact main z.f0.length 0 (by omega) rfl
def manyT (l0 : List S109) (l1 : List S110) : Int := l1.foldl (fun m p => mn (m * ((ofL l0 p.f0).length : Int)) 2001) 1
def checkT (l0 : List S109) (l1 : List S110) (wg : Int) : Int :=
 if 5 < l0.length ∨ 7 < l1.length then 3
 else if okIn wg 0 5 = false ∨ l0.all okW = false ∨ l1.all (okP l0) = false then 1
 else if 2000 < manyT l0 l1 then 3 else 0
end Go.Proofs.Ytnbbbeghgomnoaa.X
namespace Go.Proofs.Ytnbbbeghgomnoaa.X
open Go.RowKit Go.Proofs.YtnbbbeghgomnoaaW.PrintWords Go.Proofs.YtnbbbeghgomnoaaW.PrintLast Go.Proofs.YtnbbbeghgomnoaaW.PrintMore
theorem many_bound (l0 : List S109) (l : List S110) : 0 ≤ l.foldl (fun m p => mn (m * ((ofL l0 p.f0).length : Int)) 2001) 1 ∧ l.foldl (fun m p => mn (m * ((ofL l0 p.f0).length : Int)) 2001) 1 ≤ 2001 := by
 have main : ∀ (l : List S110) (x : Int), 0 ≤ x ∧ x ≤ 2001 → 0 ≤ l.foldl (fun m p => mn (m * ((ofL l0 p.f0).length : Int)) 2001) x ∧ l.foldl (fun m p => mn (m * ((ofL l0 p.f0).length : Int)) 2001) x ≤ 2001 := by
  intro l
  induction l with
  | nil => intro x h; exact h
  | cons p r ih =>
   intro x h
   refine ih (mn (x * ((ofL l0 p.f0).length : Int)) 2001) ?_
   have := Int.mul_nonneg h.1 (show (0 : Int) ≤ ((ofL l0 p.f0).length : Int) by omega)
   unfold mn
   split <;> omega
 exact main l 1 ⟨by omega, by omega⟩
theorem pieceC (A0 : Option Addr) (c0 : Nat) (l0 : List S109) (A1 : Option Addr) (c1 : Nat) (l1 : List S110) (wg : Int) (z : S110) (A6 : Option Addr) (c6 : Nat) (W : World)
  (hr0 : Kd.C k109 W A0 l0.length l0) (hc0 : l0.length ≤ c0) (hr1 : Kd.C k110 W A1 l1.length l1) (hc1 : l1.length ≤ c1) (hr6 : Kd.C (Kd.int .i64) W A6 z.f0.length z.f0) (hc6 : z.f0.length ≤ c6)
  (hn0 : l0.length ≤ 30) (hm : z.f0.length ≤ 30) :
  Calls Try.prog 87 #[.agg #[.slice A0 l0.length c0, .slice A1 l1.length c1, .int .i64 wg], .agg #[.slice A6 z.f0.length c6, .int .i64 z.f1]] W fun e W' => e = .returned (.bool (okP l0 z)) ∧ Below W.heap.size W W' := by
 obtain ⟨K, hK⟩ := piece_ev l0 l1 wg z hn0 hm
 exact bundle_Table_piece.calls K A0 c0 l0 A1 c1 l1 wg A6 c6 z.f0 z.f1 (okP l0 z) W hr0 hc0 hr1 hc1 hr6 hc6 (hK K (Nat.le_refl _))
set_option maxHeartbeats 4000000 in
set_option maxRecDepth 100000 in
theorem check_women (A0 : Option Addr) (c0 : Nat) (l0 : List S109) (A1 : Option Addr) (c1 : Nat) (l1 : List S110) (wg : Int) (w : World)
  (hr0 : Kd.C k109 w A0 l0.length l0) (hc0 : l0.length ≤ c0) (hr1 : Kd.C k110 w A1 l1.length l1) (hc1 : l1.length ≤ c1)
  (hn0 : l0.length ≤ 30) (hn1 : l1.length ≤ 30) (hms : ∀ p ∈ l1, p.f0.length ≤ 30) (h5 : 5 < l0.length) :
  Calls Try.prog 61 #[.agg #[.slice A0 l0.length c0, .slice A1 l1.length c1, .int .i64 wg]] w fun e w' => e = .returned (.int .i64 3) ∧ Below w.heap.size w w' := by
 have hu35 := Try.underlying35
 have hu110 := Try.underlying110
 have HR0 := Aside0.mk hr0
 have HC0 := Aside0.mk hc0
 have HR1 := Aside0.mk hr1
 have HC1 := Aside0.mk hc1
 have HMS := Aside0.mk hms
 clear hr0 hc0 hr1 hc1 hms
 have HB := Aside0.mk (Below.refl w.heap.size w)
 have hql01 : decide ((5 : Int) < (l0.length : Int)) = true := decide_eq_true (by omega)
 have hql02 : decide (5 < l0.length) = true := decide_eq_true (by omega)
 go_enter Try.func61, Try.ntmps61
 go_wp2_with (first | ((with_reducible refine gate_dst (N := 1) rfl ?_); refine sbox (N := 1) #[.slice A0 l0.length c0, .slice A1 l1.length c1, .int .i64 wg] 35 ?_; intro g1 hg W_ hbox hb; have GEg1 := Aside0.mk (by rw [hg]; exact HB.out.size : w.heap.size ≤ g1); replace HB := Aside0.mk (below_step HB.out hb); have BKg1 := Aside0.mk hbox; clear hb hbox hg; have hczg1_0 : W_.cell? ⟨g1, 0, none⟩ = some (.slice A0 l0.length c0) := (blk_cell BKg1.out 0).trans rfl; have hczg1_1 : W_.cell? ⟨g1, 1, none⟩ = some (.slice A1 l1.length c1) := (blk_cell BKg1.out 1).trans rfl; have hczg1_2 : W_.cell? ⟨g1, 2, none⟩ = some (.int .i64 wg) := (blk_cell BKg1.out 2).trans rfl))
 go_ret
 exact ⟨rfl, HB.out⟩
set_option maxHeartbeats 4000000 in
set_option maxRecDepth 100000 in
theorem check_pieces (A0 : Option Addr) (c0 : Nat) (l0 : List S109) (A1 : Option Addr) (c1 : Nat) (l1 : List S110) (wg : Int) (w : World)
  (hr0 : Kd.C k109 w A0 l0.length l0) (hc0 : l0.length ≤ c0) (hr1 : Kd.C k110 w A1 l1.length l1) (hc1 : l1.length ≤ c1)
  (hn0 : l0.length ≤ 30) (hn1 : l1.length ≤ 30) (hms : ∀ p ∈ l1, p.f0.length ≤ 30) (h5 : ¬ 5 < l0.length) (h7 : 7 < l1.length) :
  Calls Try.prog 61 #[.agg #[.slice A0 l0.length c0, .slice A1 l1.length c1, .int .i64 wg]] w fun e w' => e = .returned (.int .i64 3) ∧ Below w.heap.size w w' := by
 have hu35 := Try.underlying35
 have hu110 := Try.underlying110
 have HR0 := Aside0.mk hr0
 have HC0 := Aside0.mk hc0
 have HR1 := Aside0.mk hr1
 have HC1 := Aside0.mk hc1
 have HMS := Aside0.mk hms
 clear hr0 hc0 hr1 hc1 hms
 have HB := Aside0.mk (Below.refl w.heap.size w)
 have hql01 : decide ((5 : Int) < (l0.length : Int)) = false := decide_eq_false (by omega)
 have hql02 : decide (5 < l0.length) = false := decide_eq_false (by omega)
 have hql11 : decide ((7 : Int) < (l1.length : Int)) = true := decide_eq_true (by omega)
 have hql12 : decide (7 < l1.length) = true := decide_eq_true (by omega)
 go_enter Try.func61, Try.ntmps61
 go_wp2_with (first | ((with_reducible refine gate_dst (N := 1) rfl ?_); refine sbox (N := 1) #[.slice A0 l0.length c0, .slice A1 l1.length c1, .int .i64 wg] 35 ?_; intro g1 hg W_ hbox hb; have GEg1 := Aside0.mk (by rw [hg]; exact HB.out.size : w.heap.size ≤ g1); replace HB := Aside0.mk (below_step HB.out hb); have BKg1 := Aside0.mk hbox; clear hb hbox hg; have hczg1_0 : W_.cell? ⟨g1, 0, none⟩ = some (.slice A0 l0.length c0) := (blk_cell BKg1.out 0).trans rfl; have hczg1_1 : W_.cell? ⟨g1, 1, none⟩ = some (.slice A1 l1.length c1) := (blk_cell BKg1.out 1).trans rfl; have hczg1_2 : W_.cell? ⟨g1, 2, none⟩ = some (.int .i64 wg) := (blk_cell BKg1.out 2).trans rfl))
 go_ret
 exact ⟨rfl, HB.out⟩
set_option maxHeartbeats 4000000 in
set_option maxRecDepth 100000 in
theorem check_wrong (A0 : Option Addr) (c0 : Nat) (l0 : List S109) (A1 : Option Addr) (c1 : Nat) (l1 : List S110) (wg : Int) (w : World)
  (hr0 : Kd.C k109 w A0 l0.length l0) (hc0 : l0.length ≤ c0) (hr1 : Kd.C k110 w A1 l1.length l1) (hc1 : l1.length ≤ c1)
  (hn0 : l0.length ≤ 30) (hn1 : l1.length ≤ 30) (hms : ∀ p ∈ l1, p.f0.length ≤ 30) (h5 : ¬ 5 < l0.length) (h7 : ¬ 7 < l1.length) (hw : okIn wg 0 5 = false) :
  Calls Try.prog 61 #[.agg #[.slice A0 l0.length c0, .slice A1 l1.length c1, .int .i64 wg]] w fun e w' => e = .returned (.int .i64 1) ∧ Below w.heap.size w w' := by
 have hu35 := Try.underlying35
 have hu110 := Try.underlying110
 have HR0 := Aside0.mk hr0
 have HC0 := Aside0.mk hc0
 have HR1 := Aside0.mk hr1
 have HC1 := Aside0.mk hc1
 have HMS := Aside0.mk hms
 clear hr0 hc0 hr1 hc1 hms
 have HB := Aside0.mk (Below.refl w.heap.size w)
 have hql01 : decide ((5 : Int) < (l0.length : Int)) = false := decide_eq_false (by omega)
 have hql02 : decide (5 < l0.length) = false := decide_eq_false (by omega)
 have hql11 : decide ((7 : Int) < (l1.length : Int)) = false := decide_eq_false (by omega)
 have hql12 : decide (7 < l1.length) = false := decide_eq_false (by omega)
 have HW := Aside0.mk (within_f wg 0 5)
 rw [hw] at HW
 clear hw
 go_enter Try.func61, Try.ntmps61
 go_wp2_with (first | ((with_reducible refine gate_dst (N := 1) rfl ?_); refine sbox (N := 1) #[.slice A0 l0.length c0, .slice A1 l1.length c1, .int .i64 wg] 35 ?_; intro g1 hg W_ hbox hb; have GEg1 := Aside0.mk (by rw [hg]; exact HB.out.size : w.heap.size ≤ g1); replace HB := Aside0.mk (below_step HB.out hb); have BKg1 := Aside0.mk hbox; clear hb hbox hg; have hczg1_0 : W_.cell? ⟨g1, 0, none⟩ = some (.slice A0 l0.length c0) := (blk_cell BKg1.out 0).trans rfl; have hczg1_1 : W_.cell? ⟨g1, 1, none⟩ = some (.slice A1 l1.length c1) := (blk_cell BKg1.out 1).trans rfl; have hczg1_2 : W_.cell? ⟨g1, 2, none⟩ = some (.int .i64 wg) := (blk_cell BKg1.out 2).trans rfl) | (go_at_call 88; refine (bundle_within.calls wg 0 5 false _ HW.out).mono ?_; rintro e W3 ⟨rfl, ⟨nd, rfl⟩⟩; have n0_ := Aside0.mk (pw_below_drewN HB.out nd); have n1_ := Aside0.mk (blk_drewN BKg1.out nd); clear HB BKg1; have HB := n0_; have BKg1 := n1_; clear n0_ n1_; have hcy0 : (W_.drewN nd).cell? ⟨g1, 0, none⟩ = some (.slice A0 l0.length c0) := (blk_cell BKg1.out 0).trans rfl; have hcy1 : (W_.drewN nd).cell? ⟨g1, 1, none⟩ = some (.slice A1 l1.length c1) := (blk_cell BKg1.out 1).trans rfl; have hcy2 : (W_.drewN nd).cell? ⟨g1, 2, none⟩ = some (.int .i64 wg) := (blk_cell BKg1.out 2).trans rfl))
 go_ret
 exact ⟨rfl, HB.out⟩
set_option maxHeartbeats 4000000 in
set_option maxRecDepth 100000 in
theorem check_woman (A0 : Option Addr) (c0 : Nat) (l0 : List S109) (A1 : Option Addr) (c1 : Nat) (l1 : List S110) (wg : Int) (w : World)
  (hr0 : Kd.C k109 w A0 l0.length l0) (hc0 : l0.length ≤ c0) (hr1 : Kd.C k110 w A1 l1.length l1) (hc1 : l1.length ≤ c1)
  (hn0 : l0.length ≤ 30) (hn1 : l1.length ≤ 30) (hms : ∀ p ∈ l1, p.f0.length ≤ 30) (h5 : ¬ 5 < l0.length) (h7 : ¬ 7 < l1.length) (hw : okIn wg 0 5 = true) (ha : l0.all okW = false) :
  Calls Try.prog 61 #[.agg #[.slice A0 l0.length c0, .slice A1 l1.length c1, .int .i64 wg]] w fun e w' => e = .returned (.int .i64 1) ∧ Below w.heap.size w w' := by
 have hu35 := Try.underlying35
 have hu110 := Try.underlying110
 have HR0 := Aside0.mk hr0
 have HC0 := Aside0.mk hc0
 have HR1 := Aside0.mk hr1
 have HC1 := Aside0.mk hc1
 have HMS := Aside0.mk hms
 clear hr0 hc0 hr1 hc1 hms
 have HB := Aside0.mk (Below.refl w.heap.size w)
 have hql01 : decide ((5 : Int) < (l0.length : Int)) = false := decide_eq_false (by omega)
 have hql02 : decide (5 < l0.length) = false := decide_eq_false (by omega)
 have hql11 : decide ((7 : Int) < (l1.length : Int)) = false := decide_eq_false (by omega)
 have hql12 : decide (7 < l1.length) = false := decide_eq_false (by omega)
 have HW := Aside0.mk (within_f wg 0 5)
 rw [hw] at HW
 clear hw
 go_enter Try.func61, Try.ntmps61
 go_wp2_with (first | ((with_reducible refine gate_dst (N := 1) rfl ?_); refine sbox (N := 1) #[.slice A0 l0.length c0, .slice A1 l1.length c1, .int .i64 wg] 35 ?_; intro g1 hg W_ hbox hb; have GEg1 := Aside0.mk (by rw [hg]; exact HB.out.size : w.heap.size ≤ g1); replace HB := Aside0.mk (below_step HB.out hb); have BKg1 := Aside0.mk hbox; clear hb hbox hg; have hczg1_0 : W_.cell? ⟨g1, 0, none⟩ = some (.slice A0 l0.length c0) := (blk_cell BKg1.out 0).trans rfl; have hczg1_1 : W_.cell? ⟨g1, 1, none⟩ = some (.slice A1 l1.length c1) := (blk_cell BKg1.out 1).trans rfl; have hczg1_2 : W_.cell? ⟨g1, 2, none⟩ = some (.int .i64 wg) := (blk_cell BKg1.out 2).trans rfl) | (go_at_call 88; refine (bundle_within.calls wg 0 5 true _ HW.out).mono ?_; rintro e W3 ⟨rfl, ⟨nd, rfl⟩⟩; have n0_ := Aside0.mk (pw_below_drewN HB.out nd); have n1_ := Aside0.mk (blk_drewN BKg1.out nd); clear HB BKg1; have HB := n0_; have BKg1 := n1_; clear n0_ n1_; have hcy0 : (W_.drewN nd).cell? ⟨g1, 0, none⟩ = some (.slice A0 l0.length c0) := (blk_cell BKg1.out 0).trans rfl; have hcy1 : (W_.drewN nd).cell? ⟨g1, 1, none⟩ = some (.slice A1 l1.length c1) := (blk_cell BKg1.out 1).trans rfl; have hcy2 : (W_.drewN nd).cell? ⟨g1, 2, none⟩ = some (.int .i64 wg) := (blk_cell BKg1.out 2).trans rfl) | (go_at_call 89; refine (allWoman_calls A0 c0 l0 okW _ (Kd.C_below HR0.out HB.out) (by omega) (fun z _ W' _ => (bundle_Woman_valid.calls z.f0 z.f1.f0 z.f1.f1 (okW z) W' (valid_f z)).mono (fun e W'' h => h))).mono ?_; rintro e W4 ⟨rfl, hb⟩; replace BKg1 := Aside0.mk (blk_below BKg1.out hb); replace HB := Aside0.mk (below_step HB.out hb); have hcx0 : W4.cell? ⟨g1, 0, none⟩ = some (.slice A0 l0.length c0) := (blk_cell BKg1.out 0).trans rfl; have hcx1 : W4.cell? ⟨g1, 1, none⟩ = some (.slice A1 l1.length c1) := (blk_cell BKg1.out 1).trans rfl; have hcx2 : W4.cell? ⟨g1, 2, none⟩ = some (.int .i64 wg) := (blk_cell BKg1.out 2).trans rfl; clear hb))
 go_ret
 exact ⟨rfl, HB.out⟩
set_option maxHeartbeats 4000000 in
set_option maxRecDepth 100000 in
theorem check_piece (A0 : Option Addr) (c0 : Nat) (l0 : List S109) (A1 : Option Addr) (c1 : Nat) (l1 : List S110) (wg : Int) (w : World)
  (hr0 : Kd.C k109 w A0 l0.length l0) (hc0 : l0.length ≤ c0) (hr1 : Kd.C k110 w A1 l1.length l1) (hc1 : l1.length ≤ c1)
  (hn0 : l0.length ≤ 30) (hn1 : l1.length ≤ 30) (hms : ∀ p ∈ l1, p.f0.length ≤ 30) (h5 : ¬ 5 < l0.length) (h7 : ¬ 7 < l1.length) (hw : okIn wg 0 5 = true) (ha : l0.all okW = true) (hp : l1.all (okP l0) = false) :
  Calls Try.prog 61 #[.agg #[.slice A0 l0.length c0, .slice A1 l1.length c1, .int .i64 wg]] w fun e w' => e = .returned (.int .i64 1) ∧ Below w.heap.size w w' := by
 have hu35 := Try.underlying35
 have hu110 := Try.underlying110
 have HR0 := Aside0.mk hr0
 have HC0 := Aside0.mk hc0
 have HR1 := Aside0.mk hr1
 have HC1 := Aside0.mk hc1
 have HMS := Aside0.mk hms
 clear hr0 hc0 hr1 hc1 hms
 have HB := Aside0.mk (Below.refl w.heap.size w)
 have hql01 : decide ((5 : Int) < (l0.length : Int)) = false := decide_eq_false (by omega)
 have hql02 : decide (5 < l0.length) = false := decide_eq_false (by omega)
 have hql11 : decide ((7 : Int) < (l1.length : Int)) = false := decide_eq_false (by omega)
 have hql12 : decide (7 < l1.length) = false := decide_eq_false (by omega)
 have HW := Aside0.mk (within_f wg 0 5)
 rw [hw] at HW
 clear hw
 go_enter Try.func61, Try.ntmps61
 go_wp2_with (first | ((with_reducible refine gate_dst (N := 1) rfl ?_); refine sbox (N := 1) #[.slice A0 l0.length c0, .slice A1 l1.length c1, .int .i64 wg] 35 ?_; intro g1 hg W_ hbox hb; have GEg1 := Aside0.mk (by rw [hg]; exact HB.out.size : w.heap.size ≤ g1); replace HB := Aside0.mk (below_step HB.out hb); have BKg1 := Aside0.mk hbox; clear hb hbox hg; have hczg1_0 : W_.cell? ⟨g1, 0, none⟩ = some (.slice A0 l0.length c0) := (blk_cell BKg1.out 0).trans rfl; have hczg1_1 : W_.cell? ⟨g1, 1, none⟩ = some (.slice A1 l1.length c1) := (blk_cell BKg1.out 1).trans rfl; have hczg1_2 : W_.cell? ⟨g1, 2, none⟩ = some (.int .i64 wg) := (blk_cell BKg1.out 2).trans rfl) | (go_at_call 88; refine (bundle_within.calls wg 0 5 true _ HW.out).mono ?_; rintro e W3 ⟨rfl, ⟨nd, rfl⟩⟩; have n0_ := Aside0.mk (pw_below_drewN HB.out nd); have n1_ := Aside0.mk (blk_drewN BKg1.out nd); clear HB BKg1; have HB := n0_; have BKg1 := n1_; clear n0_ n1_; have hcy0 : (W_.drewN nd).cell? ⟨g1, 0, none⟩ = some (.slice A0 l0.length c0) := (blk_cell BKg1.out 0).trans rfl; have hcy1 : (W_.drewN nd).cell? ⟨g1, 1, none⟩ = some (.slice A1 l1.length c1) := (blk_cell BKg1.out 1).trans rfl; have hcy2 : (W_.drewN nd).cell? ⟨g1, 2, none⟩ = some (.int .i64 wg) := (blk_cell BKg1.out 2).trans rfl) | (go_at_call 89; refine (allWoman_calls A0 c0 l0 okW _ (Kd.C_below HR0.out HB.out) (by omega) (fun z _ W' _ => (bundle_Woman_valid.calls z.f0 z.f1.f0 z.f1.f1 (okW z) W' (valid_f z)).mono (fun e W'' h => h))).mono ?_; rintro e W4 ⟨rfl, hb⟩; replace BKg1 := Aside0.mk (blk_below BKg1.out hb); replace HB := Aside0.mk (below_step HB.out hb); have hcx0 : W4.cell? ⟨g1, 0, none⟩ = some (.slice A0 l0.length c0) := (blk_cell BKg1.out 0).trans rfl; have hcx1 : W4.cell? ⟨g1, 1, none⟩ = some (.slice A1 l1.length c1) := (blk_cell BKg1.out 1).trans rfl; have hcx2 : W4.cell? ⟨g1, 2, none⟩ = some (.int .i64 wg) := (blk_cell BKg1.out 2).trans rfl; clear hb) | (go_at_call 91; refine (allPiece_calls (.agg #[.slice A0 l0.length c0, .slice A1 l1.length c1, .int .i64 wg]) A1 c1 l1 (okP l0) _ (Kd.C_below HR1.out HB.out) (by omega) (fun z hz A6 c6 W' hb' h1 h2 => pieceC A0 c0 l0 A1 c1 l1 wg z A6 c6 W' (Kd.C_below HR0.out (below_step HB.out hb')) HC0.out (Kd.C_below HR1.out (below_step HB.out hb')) HC1.out h2 h1 hn0 (HMS.out z hz))).mono ?_; rintro e W5 ⟨rfl, hb⟩; replace BKg1 := Aside0.mk (blk_below BKg1.out hb); replace HB := Aside0.mk (below_step HB.out hb); have hcw0 : W5.cell? ⟨g1, 0, none⟩ = some (.slice A0 l0.length c0) := (blk_cell BKg1.out 0).trans rfl; have hcw1 : W5.cell? ⟨g1, 1, none⟩ = some (.slice A1 l1.length c1) := (blk_cell BKg1.out 1).trans rfl; have hcw2 : W5.cell? ⟨g1, 2, none⟩ = some (.int .i64 wg) := (blk_cell BKg1.out 2).trans rfl; clear hb))
 go_ret
 exact ⟨rfl, HB.out⟩
set_option maxHeartbeats 4000000 in
set_option maxRecDepth 100000 in
theorem check_many (A0 : Option Addr) (c0 : Nat) (l0 : List S109) (A1 : Option Addr) (c1 : Nat) (l1 : List S110) (wg : Int) (w : World)
  (hr0 : Kd.C k109 w A0 l0.length l0) (hc0 : l0.length ≤ c0) (hr1 : Kd.C k110 w A1 l1.length l1) (hc1 : l1.length ≤ c1)
  (hn0 : l0.length ≤ 30) (hn1 : l1.length ≤ 30) (hms : ∀ p ∈ l1, p.f0.length ≤ 30) (h5 : ¬ 5 < l0.length) (h7 : ¬ 7 < l1.length) (hw : okIn wg 0 5 = true) (ha : l0.all okW = true) (hp : l1.all (okP l0) = true) :
  Calls Try.prog 61 #[.agg #[.slice A0 l0.length c0, .slice A1 l1.length c1, .int .i64 wg]] w fun e w' => e = .returned (.int .i64 (if 2000 < manyT l0 l1 then 3 else 0)) ∧ Below w.heap.size w w' := by
 have hu35 := Try.underlying35
 have hu110 := Try.underlying110
 have HR0 := Aside0.mk hr0
 have HC0 := Aside0.mk hc0
 have HR1 := Aside0.mk hr1
 have HC1 := Aside0.mk hc1
 have HMS := Aside0.mk hms
 clear hr0 hc0 hr1 hc1 hms
 have HB := Aside0.mk (Below.refl w.heap.size w)
 have hql01 : decide ((5 : Int) < (l0.length : Int)) = false := decide_eq_false (by omega)
 have hql02 : decide (5 < l0.length) = false := decide_eq_false (by omega)
 have hql11 : decide ((7 : Int) < (l1.length : Int)) = false := decide_eq_false (by omega)
 have hql12 : decide (7 < l1.length) = false := decide_eq_false (by omega)
 have HW := Aside0.mk (within_f wg 0 5)
 rw [hw] at HW
 clear hw
 go_enter Try.func61, Try.ntmps61
 go_wp2_with (first | ((with_reducible refine gate_dst (N := 1) rfl ?_); refine sbox (N := 1) #[.slice A0 l0.length c0, .slice A1 l1.length c1, .int .i64 wg] 35 ?_; intro g1 hg W_ hbox hb; have GEg1 := Aside0.mk (by rw [hg]; exact HB.out.size : w.heap.size ≤ g1); replace HB := Aside0.mk (below_step HB.out hb); have BKg1 := Aside0.mk hbox; clear hb hbox hg; have hczg1_0 : W_.cell? ⟨g1, 0, none⟩ = some (.slice A0 l0.length c0) := (blk_cell BKg1.out 0).trans rfl; have hczg1_1 : W_.cell? ⟨g1, 1, none⟩ = some (.slice A1 l1.length c1) := (blk_cell BKg1.out 1).trans rfl; have hczg1_2 : W_.cell? ⟨g1, 2, none⟩ = some (.int .i64 wg) := (blk_cell BKg1.out 2).trans rfl) | (go_at_call 88; refine (bundle_within.calls wg 0 5 true _ HW.out).mono ?_; rintro e W3 ⟨rfl, ⟨nd, rfl⟩⟩; have n0_ := Aside0.mk (pw_below_drewN HB.out nd); have n1_ := Aside0.mk (blk_drewN BKg1.out nd); clear HB BKg1; have HB := n0_; have BKg1 := n1_; clear n0_ n1_; have hcy0 : (W_.drewN nd).cell? ⟨g1, 0, none⟩ = some (.slice A0 l0.length c0) := (blk_cell BKg1.out 0).trans rfl; have hcy1 : (W_.drewN nd).cell? ⟨g1, 1, none⟩ = some (.slice A1 l1.length c1) := (blk_cell BKg1.out 1).trans rfl; have hcy2 : (W_.drewN nd).cell? ⟨g1, 2, none⟩ = some (.int .i64 wg) := (blk_cell BKg1.out 2).trans rfl) | (go_at_call 89; refine (allWoman_calls A0 c0 l0 okW _ (Kd.C_below HR0.out HB.out) (by omega) (fun z _ W' _ => (bundle_Woman_valid.calls z.f0 z.f1.f0 z.f1.f1 (okW z) W' (valid_f z)).mono (fun e W'' h => h))).mono ?_; rintro e W4 ⟨rfl, hb⟩; replace BKg1 := Aside0.mk (blk_below BKg1.out hb); replace HB := Aside0.mk (below_step HB.out hb); have hcx0 : W4.cell? ⟨g1, 0, none⟩ = some (.slice A0 l0.length c0) := (blk_cell BKg1.out 0).trans rfl; have hcx1 : W4.cell? ⟨g1, 1, none⟩ = some (.slice A1 l1.length c1) := (blk_cell BKg1.out 1).trans rfl; have hcx2 : W4.cell? ⟨g1, 2, none⟩ = some (.int .i64 wg) := (blk_cell BKg1.out 2).trans rfl; clear hb) | (go_at_call 91; refine (allPiece_calls (.agg #[.slice A0 l0.length c0, .slice A1 l1.length c1, .int .i64 wg]) A1 c1 l1 (okP l0) _ (Kd.C_below HR1.out HB.out) (by omega) (fun z hz A6 c6 W' hb' h1 h2 => pieceC A0 c0 l0 A1 c1 l1 wg z A6 c6 W' (Kd.C_below HR0.out (below_step HB.out hb')) HC0.out (Kd.C_below HR1.out (below_step HB.out hb')) HC1.out h2 h1 hn0 (HMS.out z hz))).mono ?_; rintro e W5 ⟨rfl, hb⟩; replace BKg1 := Aside0.mk (blk_below BKg1.out hb); replace HB := Aside0.mk (below_step HB.out hb); have hcw0 : W5.cell? ⟨g1, 0, none⟩ = some (.slice A0 l0.length c0) := (blk_cell BKg1.out 0).trans rfl; have hcw1 : W5.cell? ⟨g1, 1, none⟩ = some (.slice A1 l1.length c1) := (blk_cell BKg1.out 1).trans rfl; have hcw2 : W5.cell? ⟨g1, 2, none⟩ = some (.int .i64 wg) := (blk_cell BKg1.out 2).trans rfl; clear hb))
 obtain ⟨W1, hW1⟩ : ∃ W1 : World, W1 = W5 := ⟨_, rfl⟩
 subst hW1
 go_loopg [4, 41] l1.length (fun kq v4 v41 w' => ∃ m : Nat, v41 = .int .i64 (m : Int) ∧ v4 = .int .i64 ((l1.take m).foldl (fun m p => mn (m * ((ofL l0 p.f0).length : Int)) 2001) 1) ∧ Aside0 (m + kq = l1.length) ∧ Aside0 (Below W1.heap.size W1 w'))
 case atStart => exact ⟨0, rfl, rfl, ⟨Nat.zero_add _⟩, ⟨Below.refl _ _⟩⟩
 case round =>
  obtain ⟨m, rfl, rfl, HM, HB1⟩ := hrel
  by_cases hlt : m < l1.length
  ·cases gk with
   | zero => have := HM.out; omega
   | succ k1 =>
   obtain ⟨ad1, A6, c6, e1, hx1_0, hx1_1, hl1, hi1⟩ := at_T110 (Kd.C_below HR1.out (below_step HB.out HB1.out)) (m : Int) (by omega) (by omega)
   cases e1
   have hrd : rd_T110 l1 (m : Int) = l1.getD m z110 := rfl
   rw [hrd] at hx1_0 hx1_1 hl1 hi1
   clear hrd
   have hz30 : (l1.getD m z110).f0.length ≤ 30 := by
    rw [List.getD_eq_getElem?_getD, List.getElem?_eq_getElem hlt]
    exact HMS.out _ (List.getElem_mem hlt)
   have hft : (l1.take (m + 1)).foldl (fun m p => mn (m * ((ofL l0 p.f0).length : Int)) 2001) 1 = mn ((l1.take m).foldl (fun m p => mn (m * ((ofL l0 p.f0).length : Int)) 2001) 1 * ((ofL l0 (l1.getD m z110).f0).length : Int)) 2001 := by
    rw [List.take_succ_eq_append_getElem hlt, List.foldl_append, List.getD_eq_getElem?_getD, List.getElem?_eq_getElem hlt]; rfl
   have hbd := many_bound l0 (l1.take m)
   generalize hz : l1.getD m z110 = z at hx1_0 hx1_1 hl1 hi1 hz30 hft
   generalize (l1.take m).foldl (fun m p => mn (m * ((ofL l0 p.f0).length : Int)) 2001) 1 = x at hft hbd ⊢
   simp only [Int.toNat_natCast] at hx1_0 hx1_1
   obtain ⟨kof, hkof⟩ := of_ev l0 l1 wg z.f0 z.f1 hn0 hz30
   have HKOF := Aside0.mk (hkof kof (Nat.le_refl _))
   have hol : (ofL l0 z.f0).length ≤ 30 := Nat.le_trans (sel_le _ _) hn0
   obtain ⟨nl, hnl⟩ : ∃ nl, (ofL l0 z.f0).length = nl := ⟨_, rfl⟩
   have HLN := Aside0.mk hnl
   rw [hnl] at hft hol
   have hmul0 : 0 ≤ x * (nl : Int) := Int.mul_nonneg hbd.1 (by omega)
   have hmul1 : x * (nl : Int) ≤ 2001 * 30 := Int.mul_le_mul hbd.2 (by omega) (by omega) (by omega)
   have hmul : wrap64 (x * (nl : Int)) = x * (nl : Int) := wrap64_id _ (by omega) (by omega)
   have HFT := Aside0.mk hft
   have HL1 := Aside0.mk hl1
   clear hz hkof hl1 hz30 hft hbd hnl hmul0 hmul1
   go_upto_region 10 with (first | ((with_reducible refine gate_dst (N := 6) rfl ?_); refine sbox (N := 6) #[.slice none 0 0, .int .i64 0] 110 ?_; intro g6 hg W_ hbox hb; have HBR := Aside0.mk hb; have HGR := Aside0.mk (by rw [hg]; exact Nat.le_refl _ : wr.heap.size ≤ g6); have GEg6 := Aside0.mk (by rw [hg]; exact HB1.out.size : W1.heap.size ≤ g6); replace HB1 := Aside0.mk (below_step HB1.out hb); have BKg6 := Aside0.mk hbox; clear hb hbox hg; have hcg6_0 : W_.cell? ⟨g6, 0, none⟩ = some (.slice none 0 0) := (blk_cell BKg6.out 0).trans rfl; have hcg6_1 : W_.cell? ⟨g6, 1, none⟩ = some (.int .i64 0) := (blk_cell BKg6.out 1).trans rfl; have hfg6_0 := blk_frozen BKg6.out 0; have hfg6_1 := blk_frozen BKg6.out 1))
   have BK6 := Aside0.mk (blk_put (blk_put BKg6.out 0 (.slice A6 z.f0.length c6) rfl) 1 (.int .i64 z.f1) rfl)
   have HB6 := Aside0.mk ((HB1.out.setCell (p := ⟨g6, 0, none⟩) GEg6.out (.slice A6 z.f0.length c6)).setCell (p := ⟨g6, 1, none⟩) GEg6.out (.int .i64 z.f1))
   clear HB1 BKg6 hcg6_0 hcg6_1 hfg6_0 hfg6_1
   have hwr : Below wr.heap.size wr ((W_.setCell ⟨g6, 0, none⟩ (.slice A6 z.f0.length c6)).setCell ⟨g6, 1, none⟩ (.int .i64 z.f1)) := by
    exact (HBR.out.setCell (p := ⟨g6, 0, none⟩) HGR.out _).setCell (p := ⟨g6, 1, none⟩) HGR.out _
   have HI1 := Aside0.mk (Kd.C_below hi1 hwr)
   clear hwr hi1
   generalize (W_.setCell ⟨g6, 0, none⟩ (.slice A6 z.f0.length c6)).setCell ⟨g6, 1, none⟩ (.int .i64 z.f1) = W2 at *
   have HB1 := HB6
   clear HB6
   have hx6 : W2.cell? ⟨g6, 0, none⟩ = some (.slice A6 z.f0.length c6) := (blk_cell BK6.out 0).trans rfl
   have hx7 : W2.cell? ⟨g6, 1, none⟩ = some (.int .i64 z.f1) := (blk_cell BK6.out 1).trans rfl
   have hg0 : W2.cell? ⟨g1, 0, none⟩ = some (.slice A0 l0.length c0) := (blk_cell (blk_below BKg1.out HB1.out) 0).trans rfl
   have hg1 : W2.cell? ⟨g1, 1, none⟩ = some (.slice (some ad1) l1.length c1) := (blk_cell (blk_below BKg1.out HB1.out) 1).trans rfl
   have hg2 : W2.cell? ⟨g1, 2, none⟩ = some (.int .i64 wg) := (blk_cell (blk_below BKg1.out HB1.out) 2).trans rfl
   go_wp2_with (first | (go_at_call 93; refine (bundle_Table_of.calls kof A0 c0 l0 _ c1 l1 wg A6 c6 z.f0 z.f1 (ofL l0 z.f0) _ (Kd.C_below HR0.out (below_step HB.out HB1.out)) HC0.out (Kd.C_below HR1.out (below_step HB.out HB1.out)) HC1.out HI1.out HL1.out HKOF.out).mono ?_; rintro e W3 ⟨v48, rfl, ho, hb⟩; have HB3 := Aside0.mk (below_step HB1.out hb); clear HB1; have HB1 := HB3; clear HB3; have HO48 := Aside0.mk ho; clear ho hb; obtain ⟨A48, c48, e48⟩ := Kd.R_slice HO48.out; rw [HLN.out] at e48; subst e48) | (go_at_call 92; go_must (refine (minimum_calls W3.heap.size 2 (x * (nl : Int)) 2001 _ ((blk_cell (heap_alloc_new W3 _) 0).trans rfl) ((blk_cell (heap_alloc_new W3 _) 1).trans rfl)).mono ?_; rintro e W4 ⟨rfl, rfl⟩)))
   go_roundg k1
   case measure => omega
   case rel => exact ⟨m + 1, by go_num, by rw [HFT.out], ⟨by have := HM.out; omega⟩, ⟨below_alloc HB1.out _⟩⟩
  ·obtain rfl : m = l1.length := by have := HM.out; omega
   have hmt : (l1.take l1.length).foldl (fun m p => mn (m * ((ofL l0 p.f0).length : Int)) 2001) 1 = manyT l0 l1 := by rw [List.take_length]; rfl
   rw [hmt]
   have HBW := Aside0.mk (below_step HB.out HB1.out)
   by_cases hx : 2000 < manyT l0 l1
   ·go_wp2
    go_ret
    exact ⟨rfl, HBW.out⟩
   ·go_wp2
    go_ret
    exact ⟨rfl, HBW.out⟩
end Go.Proofs.Ytnbbbeghgomnoaa.X
namespace Go.Proofs.Ytnbbbeghgomnoaa.X
open Go.RowKit Go.Proofs.YtnbbbeghgomnoaaW.PrintWords Go.Proofs.YtnbbbeghgomnoaaW.PrintLast Go.Proofs.YtnbbbeghgomnoaaW.PrintMore
structure Tab (A0 : Option Addr) (c0 : Nat) (l0 : List S109) (A1 : Option Addr) (c1 : Nat) (l1 : List S110) (w : World) : Prop where
 r0 : Kd.C k109 w A0 l0.length l0
 h0 : l0.length ≤ c0
 r1 : Kd.C k110 w A1 l1.length l1
 h1 : l1.length ≤ c1
 n0 : l0.length ≤ 30
 n1 : l1.length ≤ 30
 ms : ∀ p ∈ l1, p.f0.length ≤ 30
theorem Tab.below {A0 : Option Addr} {c0 : Nat} {l0 : List S109} {A1 : Option Addr} {c1 : Nat} {l1 : List S110} {w w' : World} (h : Tab A0 c0 l0 A1 c1 l1 w) (hb : Below w.heap.size w w') : Tab A0 c0 l0 A1 c1 l1 w' :=
 ⟨Kd.C_below h.r0 hb, h.h0, Kd.C_below h.r1 hb, h.h1, h.n0, h.n1, h.ms⟩
theorem check_calls {A0 : Option Addr} {c0 : Nat} {l0 : List S109} {A1 : Option Addr} {c1 : Nat} {l1 : List S110} (wg : Int) {w : World} (ht : Tab A0 c0 l0 A1 c1 l1 w) :
  Calls Try.prog 61 #[.agg #[.slice A0 l0.length c0, .slice A1 l1.length c1, .int .i64 wg]] w fun e w' => e = .returned (.int .i64 (checkT l0 l1 wg)) ∧ Below w.heap.size w w' := by
 obtain ⟨r0, h0, r1, h1, n0, n1, ms⟩ := ht
 unfold checkT
 by_cases h5 : 5 < l0.length
 ·rw [if_pos (.inl h5)]
  exact check_women A0 c0 l0 A1 c1 l1 wg w r0 h0 r1 h1 n0 n1 ms h5
 ·by_cases h7 : 7 < l1.length
  ·rw [if_pos (.inr h7)]
   exact check_pieces A0 c0 l0 A1 c1 l1 wg w r0 h0 r1 h1 n0 n1 ms h5 h7
  ·rw [if_neg (by omega)]
   by_cases hw : okIn wg 0 5 = true
   ·by_cases ha : l0.all okW = true
    ·by_cases hp : l1.all (okP l0) = true
     ·rw [if_neg (by rw [hw, ha, hp]; decide)]
      exact check_many A0 c0 l0 A1 c1 l1 wg w r0 h0 r1 h1 n0 n1 ms h5 h7 hw ha hp
     ·have hp' : l1.all (okP l0) = false := Bool.eq_false_iff.2 hp
      rw [if_pos (.inr (.inr hp'))]
      exact check_piece A0 c0 l0 A1 c1 l1 wg w r0 h0 r1 h1 n0 n1 ms h5 h7 hw ha hp'
    ·have ha' : l0.all okW = false := Bool.eq_false_iff.2 ha
     rw [if_pos (.inr (.inl ha'))]
     exact check_woman A0 c0 l0 A1 c1 l1 wg w r0 h0 r1 h1 n0 n1 ms h5 h7 hw ha'
   ·have hw' : okIn wg 0 5 = false := Bool.eq_false_iff.2 hw
    rw [if_pos (.inl hw')]
    exact check_wrong A0 c0 l0 A1 c1 l1 wg w r0 h0 r1 h1 n0 n1 ms h5 h7 hw'
structure Val (l0 : List S109) (l1 : List S110) (wg : Int) : Prop where
 n0 : l0.length ≤ 5
 n1 : l1.length ≤ 7
 wg0 : 0 ≤ wg
 wg1 : wg ≤ 5
 ws : l0.all okW = true
 ps : l1.all (okP l0) = true
 mn : manyT l0 l1 ≤ 2000
theorem checkT_zero {l0 : List S109} {l1 : List S110} {wg : Int} (h : checkT l0 l1 wg = 0) : Val l0 l1 wg := by
 unfold checkT at h
 split at h
 ·exact absurd h (by decide)
 ·rename_i h1
  split at h
  ·exact absurd h (by decide)
  ·rename_i h2
   split at h
   ·exact absurd h (by decide)
   ·rename_i h3
    have hw : okIn wg 0 5 = true := by
     cases hh : okIn wg 0 5
     ·exact absurd (.inl hh) h2
     ·rfl
    unfold okIn at hw
    rw [Bool.and_eq_true, decide_eq_true_eq, decide_eq_true_eq] at hw
    refine ⟨by omega, by omega, hw.1, hw.2, ?_, ?_, by omega⟩
    ·cases hh : l0.all okW
     ·exact absurd (.inr (.inl hh)) h2
     ·rfl
    ·cases hh : l1.all (okP l0)
     ·exact absurd (.inr (.inr hh)) h2
     ·rfl
end Go.Proofs.Ytnbbbeghgomnoaa.X
namespace Go.Proofs.Ytnbbbeghgomnoaa.X
open Go.RowKit Go.Proofs.YtnbbbeghgomnoaaW.PrintWords Go.Proofs.YtnbbbeghgomnoaaW.PrintLast Go.Proofs.YtnbbbeghgomnoaaW.PrintMore
def k121 : Kd (List Int) where
 sz := 7
 E := []
 K _ x cs := cs = (ac (pad x)).toList
 M _ _ _ x cs := cs = (ac (pad x)).toList
 K_len h := by rw [h]; rfl
 K_one h := by
  intro u hu
  rw [h] at hu
  simp only [ac, List.mem_cons, List.not_mem_nil, or_false] at hu
  rcases hu with rfl | rfl | rfl | rfl | rfl | rfl | rfl <;> rfl
 K_below _ h := h
 K_of_M h := h
 M_mono _ h := h
 M_bound h := h
 M_move _ h := h
 M_lower _ h := h
def isT (l0 : List S109) (n1 : Nat) (wg : Int) (xs : List Int) : Bool := decide (((sel (bad l0 n1 (pad xs)) l0.length).length : Int) ≤ wg)
def truthsL (l0 : List S109) (l1 : List S110) (wg : Int) : List (List Int) := (allL l0 l1).filter (isT l0 l1.length wg)
def manyS (n1 : Nat) (ts : List (List Int)) (i k : Int) : Int := if 0 ≤ i ∧ i < n1 then ((ts.filter fun xs => pad xs i.toNat == k).length : Int) else 0
theorem manyS_append (n1 : Nat) (ts : List (List Int)) (x : List Int) (i k : Int) : manyS n1 (ts ++ [x]) i k = manyS n1 ts i k + if 0 ≤ i ∧ i < n1 ∧ pad x i.toNat = k then 1 else 0 := by
 unfold manyS
 by_cases h : 0 ≤ i ∧ i < n1
 ·rw [if_pos h, if_pos h, List.filter_append, List.length_append]
  by_cases hk : pad x i.toNat = k
  ·rw [if_pos ⟨h.1, h.2, hk⟩]
   simp [hk]
  ·rw [if_neg (fun h' => hk h'.2.2)]
   simp [hk]
 ·rw [if_neg h, if_neg h, if_neg (fun h' => h ⟨h'.1, h'.2.1⟩)]
  rfl
def wcs (A0 : Option Addr) (n0 c0 : Nat) (A1 : Option Addr) (n1 c1 : Nat) (wg : Int) (vt : Value) (gm : Nat) : Array Value := #[.slice A0 n0 c0, .slice A1 n1 c1, .int .i64 wg, vt, .map (some gm)]
structure AskI (w : World) (A0 : Option Addr) (n0 c0 : Nat) (A1 : Option Addr) (n1 c1 : Nat) (wg : Int) (g1 g5 gw gm B : Nat) (W : World) (vt : Value) (ts : List (List Int)) (f : Int → Int → Int) : Prop where
 hb : Below w.heap.size w W
 k1 : W.heap[g1]? = some (.cells #[.slice A0 n0 c0, .slice A1 n1 c1, .int .i64 wg] 35 (0, 0))
 k5 : W.heap[g5]? = some (.cells #[.pointer (some ⟨gw, 0, none⟩)] 99 (0, 0))
 kw : W.heap[gw]? = some (.cells (wcs A0 n0 c0 A1 n1 c1 wg vt gm) 105 (0, 0))
 row : Kd.R k121 121 W (B + 4) (fun _ => True) vt ts
 mp : ∃ L, MapL W gm L ∧ ∀ i k, getL L (i, k) = f i k
theorem AskI.below {w : World} {A0 : Option Addr} {n0 c0 : Nat} {A1 : Option Addr} {n1 c1 : Nat} {wg : Int} {g1 g5 gw gm B : Nat} {W W' : World} {vt : Value} {ts : List (List Int)} {f : Int → Int → Int} (h : AskI w A0 n0 c0 A1 n1 c1 wg g1 g5 gw gm B W vt ts f) (hb : Below W.heap.size W W') :
  AskI w A0 n0 c0 A1 n1 c1 wg g1 g5 gw gm B W' vt ts f :=
 ⟨h.hb.trans (hb.mono h.hb.size), blk_below h.k1 hb, blk_below h.k5 hb, blk_below h.kw hb, Kd.R_below h.row hb, by obtain ⟨L, h1, h2⟩ := h.mp; exact ⟨L, blk_below h1 hb, h2⟩⟩
theorem AskI.grown {w : World} {A0 : Option Addr} {n0 c0 : Nat} {A1 : Option Addr} {n1 c1 : Nat} {wg : Int} {g1 g5 gw gm B : Nat} {W W' : World} {vt : Value} {ts : List (List Int)} {f : Int → Int → Int} (h : AskI w A0 n0 c0 A1 n1 c1 wg g1 g5 gw gm B W vt ts f) {row : Option Nat} (hg : W.grownBy W' row) (hr : ∀ r, row = some r → r = B ∨ r = B + 1 ∨ r = B + 3)
  (hn : w.heap.size ≤ B) (h1 : g1 < B) (h5 : g5 < B) (hw : gw < B) (hm : gm < B) : AskI w A0 n0 c0 A1 n1 c1 wg g1 g5 gw gm B W' vt ts f :=
 ⟨abide_below h.hb hg hr hn h.hb.size, abide_blk h.k1 hg hr (.inl h1), abide_blk h.k5 hg hr (.inl h5), abide_blk h.kw hg hr (.inl hw),
  Kd.R_mono (Kd.R_grown (Kd.R_bound h.row) hg (fun k hk e => by have := hr k e.symm; omega)) (fun _ _ => trivial),
  by obtain ⟨L, m1, m2⟩ := h.mp; exact ⟨L, abide_blk m1 hg hr (.inl hm), m2⟩⟩
theorem eq121g (d : Nat) (w : World) (o p : Nat → Int) : (Op.equalIn (d + 2) 121 (.agg (ac o)) (.agg (ac p))).run Try.prog w = .ok ((List.range 7).all fun i => o i == p i) w := by
 obtain ⟨ti, hi⟩ := info_of_underlying Try.underlying3
 have hc : Try.prog.cellsOf 3 = 1 := by kernel_rfl
 rw [run_equalIn_array w (d + 1) (ac o) (ac p) Try.underlying121 hi, hc]
 have hpart : ∀ (q : Nat → Int) (i : Nat), i < 7 → (part 3 (ac q) (i * 1)).run Try.prog w = .ok (.int .i64 (q i)) w := by
  intro q i hi
  rcases (show i = 0 ∨ i = 1 ∨ i = 2 ∨ i = 3 ∨ i = 4 ∨ i = 5 ∨ i = 6 from by omega) with rfl | rfl | rfl | rfl | rfl | rfl | rfl <;> (simp only [part]; go_simp; first | done | rfl)
 have heq : ∀ x y : Int, (Op.equalIn (d + 1) 3 (.int .i64 x) (.int .i64 y)).run Try.prog w = .ok (x == y) w := by
  intro x y
  go_simp
 have main : ∀ is : List Nat, (∀ i ∈ is, i < 7) → (Op.eqItems (d + 1) 3 1 (ac o) (ac p) is).run Try.prog w = .ok (is.all fun i => o i == p i) w := by
  intro is
  induction is with
  | nil => intro _; rfl
  | cons i r ih =>
   intro hi
   have hi0 : i < 7 := hi i (by simp)
   simp only [Op.eqItems, Sem.run_bind, hpart o i hi0, hpart p i hi0, heq, Result.andThen_ok]
   cases hb : (o i == p i) with
   | false => simp [hb]
   | true => simp [hb, ih (fun j hj => hi j (by simp [hj]))]
 rw [main _ (fun i hi => by simpa using hi)]
end Go.Proofs.Ytnbbbeghgomnoaa.X
namespace Go.Proofs.Ytnbbbeghgomnoaa.X
open Go.RowKit Go.Proofs.YtnbbbeghgomnoaaW.PrintWords Go.Proofs.YtnbbbeghgomnoaaW.PrintLast Go.Proofs.YtnbbbeghgomnoaaW.PrintMore
theorem at_T121 {w : World} {A : Option Addr} {n : Nat} {xs : List (List Int)} (h : Kd.C k121 w A n xs) (i : Nat) (h1 : i < n) : ∃ ad, A = some ad ∧ w.cell? (ad.add (i * 7)) = some (.int .i64 (pad (xs.getD i []) 0)) ∧
  w.cell? ⟨(ad.add (i * 7)).block, (ad.add (i * 7)).off + 1, none⟩ = some (.int .i64 (pad (xs.getD i []) 1)) ∧ w.cell? ⟨(ad.add (i * 7)).block, (ad.add (i * 7)).off + 2, none⟩ = some (.int .i64 (pad (xs.getD i []) 2)) ∧
  w.cell? ⟨(ad.add (i * 7)).block, (ad.add (i * 7)).off + 3, none⟩ = some (.int .i64 (pad (xs.getD i []) 3)) ∧ w.cell? ⟨(ad.add (i * 7)).block, (ad.add (i * 7)).off + 4, none⟩ = some (.int .i64 (pad (xs.getD i []) 4)) ∧
  w.cell? ⟨(ad.add (i * 7)).block, (ad.add (i * 7)).off + 5, none⟩ = some (.int .i64 (pad (xs.getD i []) 5)) ∧ w.cell? ⟨(ad.add (i * 7)).block, (ad.add (i * 7)).off + 6, none⟩ = some (.int .i64 (pad (xs.getD i []) 6)) := by
 obtain ⟨ad, c, e, _, hK, hc0⟩ := Kd.C_get h [] (i : Int) (by omega) (by omega)
 rw [Int.toNat_natCast] at hK hc0
 have hc : ∀ j u, c[j]? = some u → w.cell? (ad.add (i * 7 + j)) = some u := hc0
 have hK' : c = (ac (pad (xs.getD i []))).toList := hK
 subst hK'
 have hs : ∀ j, 0 < j → j < 7 → w.cell? ⟨(ad.add (i * 7)).block, (ad.add (i * 7)).off + j, none⟩ = some (.int .i64 (pad (xs.getD i []) j)) := by
  intro j h0 hj
  rw [← add_field _ _ j h0]
  refine hc j _ ?_
  have := ac_get (pad (xs.getD i [])) j hj
  simpa using this
 exact ⟨ad, e, hc 0 _ rfl, hs 1 (by omega) (by omega), hs 2 (by omega) (by omega), hs 3 (by omega) (by omega), hs 4 (by omega) (by omega), hs 5 (by omega) (by omega), hs 6 (by omega) (by omega)⟩
theorem row_ne {α : Type} {d : Kd α} {e base : Nat} {W : World} {ok : Nat → Prop} {v : Value} {xs : List α} (h : d.R e W base ok v xs) {g : Nat} (hg : g < base) : some g ≠ v.ownBlock := fun he => by
 have := ((Kd.R_bound h).1 g he.symm).2.1
 omega
theorem Kp.row {B0 : Nat} {X : Nat → Prop} {Bo : Nat} {A C : World} {v : Value} {ts : List (List Int)} (h : Kd.R k121 121 A (Bo + 1) (fun _ => True) v ts) (hg : A.grownBy C v.ownBlock) (h0 : B0 ≤ Bo) (hb : Bo < A.heap.size) : Kp B0 X Bo A C :=
 KpS.of_grown hg fun k hk => by
  rcases hk with hk | hk | ⟨h1, h2, h3⟩
  ·exact ⟨by omega, row_ne h (by omega)⟩
  ·exact ⟨by omega, row_ne h (by omega)⟩
  ·refine ⟨h1, fun he => ?_⟩
   obtain ⟨_, _, _, q, hq, cells, hc⟩ := (Kd.R_bound h).1 k he.symm
   simp only [k121, List.mem_cons, List.not_mem_nil, or_false] at hq
   subst hq
   exact h3 _ _ hc
theorem prods_len (opts : Nat → List Int) (n : Nat) (h : ∀ i, (opts i).length ≤ n) : ∀ (d i : Nat), (prods opts d i).length ≤ n ^ d := by
 intro d
 induction d with
 | zero => intro i; simp [prods]
 | succ d ih =>
  intro i
  simp only [prods, List.length_flatMap, List.length_map]
  have hs : ∀ l : List Int, (l.map fun _ => (prods opts d (i + 1)).length).sum ≤ l.length * n ^ d := by
   intro l
   induction l with
   | nil => simp
   | cons a r ihr =>
    simp only [List.map_cons, List.sum_cons, List.length_cons]
    have := ih (i + 1)
    rw [Nat.add_mul, Nat.one_mul]
    omega
  have h1 := hs (opts i)
  have h2 := Nat.mul_le_mul_right (n ^ d) (h i)
  rw [Nat.pow_succ, Nat.mul_comm (n ^ d) n]
  exact Nat.le_trans h1 h2
theorem ofL_le (l0 : List S109) (ms : List Int) : (ofL l0 ms).length ≤ l0.length := sel_le _ _
theorem allL_len {l0 : List S109} {l1 : List S110} (h0 : l0.length ≤ 5) (h1 : l1.length ≤ 7) : (allL l0 l1).length ≤ 78125 := by
 refine Nat.le_trans (prods_len _ 5 (fun i => Nat.le_trans (ofL_le _ _) h0) _ _) ?_
 exact Nat.le_trans (Nat.pow_le_pow_right (by omega) h1) (by decide)
theorem touch_get (L : List ((Int × Int) × Int)) (p : Int × Int) : ∃ n0, (touch L p)[place L p]? = some (p, n0) := by
 have h := at_touch L p
 rcases getL_at (touch L p) p with ⟨j, e, h1, h2, h3, _⟩ | ⟨h1, _, _⟩
 ·rw [h] at h1
  obtain rfl := Option.some.inj h1
  exact ⟨e.2, by rw [h2]; exact congrArg some (Prod.ext h3 rfl)⟩
 ·rw [h] at h1; cases h1
theorem info121 : (Try.prog.info? 121).map (fun i => (i.zero, i.size, i.bytes)) = some (some (.agg (ac fun _ => 0)), 7, 56) := by kernel_rfl
theorem info121' : (Try.prog.info? 121).map (fun i => (i.zero, i.size, i.bytes)) = some (some (.agg (ac fun _ => 0)), k121.sz, 56) := info121
theorem manyS_bound (n1 : Nat) (ts : List (List Int)) (i k : Int) : 0 ≤ manyS n1 ts i k ∧ manyS n1 ts i k ≤ ts.length := by
 unfold manyS
 split
 ·have := List.length_filter_le (fun xs => pad xs i.toNat == k) ts
  omega
 ·omega
def midS (n1 : Nat) (ts : List (List Int)) (x : List Int) (m : Nat) : Int → Int → Int := fun i k => manyS n1 ts i k + if 0 ≤ i ∧ i < m ∧ pad x i.toNat = k then 1 else 0
theorem midS_zero (n1 : Nat) (ts : List (List Int)) (x : List Int) : midS n1 ts x 0 = manyS n1 ts := by
 funext i k
 unfold midS
 rw [if_neg (by omega)]
 omega
theorem midS_end (n1 : Nat) (ts : List (List Int)) (x : List Int) : midS n1 ts x n1 = manyS n1 (ts ++ [x]) := by
 funext i k
 unfold midS
 rw [manyS_append]
theorem midS_succ (n1 : Nat) (ts : List (List Int)) (x : List Int) (m : Nat) (i k : Int) : midS n1 ts x (m + 1) i k = if (i, k) = ((m : Int), pad x m) then midS n1 ts x m m (pad x m) + 1 else midS n1 ts x m i k := by
 unfold midS
 by_cases h : (i, k) = ((m : Int), pad x m)
 ·rw [if_pos h]
  injection h with h1 h2
  subst h1 h2
  rw [if_pos ⟨by omega, by omega, by rw [Int.toNat_natCast]⟩, if_neg (by omega)]
  omega
 ·rw [if_neg h]
  have : (0 ≤ i ∧ i < ((m + 1 : Nat) : Int) ∧ pad x i.toNat = k) ↔ (0 ≤ i ∧ i < (m : Int) ∧ pad x i.toNat = k) := by
   constructor
   ·rintro ⟨h1, h2, h3⟩
    refine ⟨h1, ?_, h3⟩
    by_cases hi : i = m
    ·subst hi
     rw [Int.toNat_natCast] at h3
     exact absurd (by rw [h3]) h
    ·omega
   ·rintro ⟨h1, h2, h3⟩
    exact ⟨h1, by omega, h3⟩
  simp only [this]
theorem midS_bound (n1 : Nat) (ts : List (List Int)) (x : List Int) (m : Nat) (i k : Int) : 0 ≤ midS n1 ts x m i k ∧ midS n1 ts x m i k ≤ ts.length + 1 := by
 unfold midS
 have := manyS_bound n1 ts i k
 split <;> omega
def eq7 (a0 a1 a2 a3 a4 a5 a6 b0 b1 b2 b3 b4 b5 b6 : Int) : Bool := [a0, a1, a2, a3, a4, a5, a6] == [b0, b1, b2, b3, b4, b5, b6]
theorem eq121r (d : Nat) (w : World) (a0 a1 a2 a3 a4 a5 a6 b0 b1 b2 b3 b4 b5 b6 : Int) : (Op.equalIn (d + 2) 121 (.agg #[.int .i64 a0, .int .i64 a1, .int .i64 a2, .int .i64 a3, .int .i64 a4, .int .i64 a5, .int .i64 a6]) (.agg #[.int .i64 b0, .int .i64 b1, .int .i64 b2, .int .i64 b3, .int .i64 b4, .int .i64 b5, .int .i64 b6])).run Try.prog w = .ok (eq7 a0 a1 a2 a3 a4 a5 a6 b0 b1 b2 b3 b4 b5 b6) w := by
 obtain ⟨o, ho⟩ : ∃ o : Nat → Int, o = fun i => [a0, a1, a2, a3, a4, a5, a6].getD i 0 := ⟨_, rfl⟩
 obtain ⟨p, hp⟩ : ∃ o : Nat → Int, o = fun i => [b0, b1, b2, b3, b4, b5, b6].getD i 0 := ⟨_, rfl⟩
 have h1 : (#[.int .i64 a0, .int .i64 a1, .int .i64 a2, .int .i64 a3, .int .i64 a4, .int .i64 a5, .int .i64 a6] : Array Value) = ac o := by subst ho; rfl
 have h2 : (#[.int .i64 b0, .int .i64 b1, .int .i64 b2, .int .i64 b3, .int .i64 b4, .int .i64 b5, .int .i64 b6] : Array Value) = ac p := by subst hp; rfl
 rw [h1, h2, eq121g]
 refine congrArg (fun b => Result.ok b w) ?_
 subst ho hp
 simp [eq7, List.range, List.range.loop]
theorem eq7_false (o p : Nat → Int) (h : ∃ i, i < 7 ∧ o i ≠ p i) : eq7 (o 0) (o 1) (o 2) (o 3) (o 4) (o 5) (o 6) (p 0) (p 1) (p 2) (p 3) (p 4) (p 5) (p 6) = false := by
 obtain ⟨i, hi, hne⟩ := h
 unfold eq7
 rw [beq_eq_false_iff_ne]
 intro he
 simp only [List.cons.injEq, and_true] at he
 obtain ⟨h0, h1, h2, h3, h4, h5, h6⟩ := he
 rcases (show i = 0 ∨ i = 1 ∨ i = 2 ∨ i = 3 ∨ i = 4 ∨ i = 5 ∨ i = 6 from by omega) with rfl | rfl | rfl | rfl | rfl | rfl | rfl <;> exact hne (by assumption)
end Go.Proofs.Ytnbbbeghgomnoaa.X
