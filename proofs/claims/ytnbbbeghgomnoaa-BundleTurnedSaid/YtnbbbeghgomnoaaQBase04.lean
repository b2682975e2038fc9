/-
  Words and walks of the wash-house's bundles, part 4 of 5: what all these proofs lean on.
-/
import Derived.Test.YtnbbbeghgomnoaaQBase03
set_option linter.unusedVariables false
set_option linter.unusedSimpArgs false
namespace Go.Proofs.Ytnbbbeghgomnoaa.X
open Go.RowKit Go.Proofs.YtnbbbeghgomnoaaW.PrintWords Go.Proofs.YtnbbbeghgomnoaaW.PrintLast Go.Proofs.YtnbbbeghgomnoaaW.PrintMore
theorem clone_n {A : Option Addr} {c n : Nat} {l : List Int} {w : World} (hn : l.length = n) (hr : Kd.C (Kd.int .i64) w A n l) (hl : n ≤ 1000000) :
  Calls Try.prog 74 #[.slice A n c] w fun e w' => ∃ v, e = .returned v ∧ Kd.R (Kd.int .i64) 3 w' w.heap.size (fun _ => True) v l ∧ Below w.heap.size w w' := by
 subst hn
 exact clone_calls A c l w hr hl
theorem reads_ac {W : World} {g : Nat} {x : List Int} (h : W.heap[g]? = some (.cells (ac (pad x)) 121 (0, 0))) (hx : x.length ≤ 7) : Kd.C (Kd.int .i64) W (some ⟨g, 0, none⟩) x.length x := by
 refine ⟨rfl, by omega, fun _ => ⟨_, rfl, fun j p hj => ⟨[.int .i64 p], rfl, rfl, fun i u hu => ?_⟩⟩⟩
 have hjl := (List.getElem?_eq_some_iff.1 hj).1
 have hi : i = 0 := by
  have := (List.getElem?_eq_some_iff.1 hu).1
  simp at this; exact this
 subst hi
 have hu' : Value.int .i64 p = u := by simpa using hu
 subst hu'
 have hp : pad x j = p := by unfold pad; rw [List.getD_eq_getElem?_getD, hj]; rfl
 have := (blk_cell h j).trans (ac_get (pad x) j (by omega))
 rw [hp] at this
 show W.cell? (Addr.add ⟨g, 0, none⟩ (j * 1 + 0)) = _
 rw [Nat.mul_one, Nat.add_zero]
 have ha : Addr.add ⟨g, 0, none⟩ j = ⟨g, j, none⟩ := by
  cases j with
  | zero => rfl
  | succ j => simp [Addr.add]
 rw [ha]
 exact this
theorem slice121 (n : Nat) (h : n ≤ 7) (w : World) (g : Nat) : (Instr.sliceAt 121 (.pointer (some ⟨g, 0, none⟩)) none (some (.int .i64 (n : Int))) none).run Try.prog w = .ok (.slice (some ⟨g, 0, none⟩) n 7) w := by
 have hl : Try.prog.arrayLen 121 = 7 := by kernel_rfl
 have he : Try.prog.elem 121 = 3 := by kernel_rfl
 have ht : Try.prog.underlying 121 = some (.array (Try.prog.arrayLen 121) (Try.prog.elem 121)) := by rw [hl, he]; exact Try.underlying121
 rw [run_sliceAt_array_h w 121 ⟨g, 0, none⟩ ht .i64 (n : Int) (by omega) (by rw [hl]; omega), hl, he]
 obtain ⟨i, hi, _⟩ := Option.map_eq_some_iff.1 info3
 rw [run_sizeOf w hi]
 simp only [Result.andThen_ok, slicedAt]
 simp
 rfl
theorem best_mem (l1 : List S110) (ts : List (List Int)) (h : ts ≠ []) : bestL l1 ts ∈ ts := by
 have main : ∀ (l : List (List Int)) (b : List Int), b ∈ ts → (∀ x ∈ l, x ∈ ts) → l.foldl (fun b x => if lostN l1 (pad x) < lostN l1 (pad b) then x else b) b ∈ ts := by
  intro l
  induction l with
  | nil => intro b hb _; exact hb
  | cons x r ih =>
   intro b hb hl
   rw [List.foldl_cons]
   refine ih _ ?_ (fun y hy => hl y (by simp [hy]))
   split
   ·exact hl x (by simp)
   ·exact hb
 refine main ts _ ?_ (fun x hx => hx)
 cases ts with
 | nil => exact absurd rfl h
 | cons a r => simp
theorem best_len {l0 : List S109} {l1 : List S110} {wg : Int} (h : truthsL l0 l1 wg ≠ []) : (bestL l1 (truthsL l0 l1 wg)).length = l1.length :=
 ((allL_mem l0 l1 _).1 (truths_mem (best_mem l1 _ h))).1
set_option maxHeartbeats 4000000 in
set_option maxRecDepth 100000 in
theorem Fewest_ok {A0 : Option Addr} {c0 : Nat} {l0 : List S109} {A1 : Option Addr} {c1 : Nat} {l1 : List S110} (wg : Int) {w : World} (ht : Tab A0 c0 l0 A1 c1 l1 w) (he : askE l0 l1 wg = 0) :
  Calls Try.prog 38 #[.agg #[.slice A0 l0.length c0, .slice A1 l1.length c1, .int .i64 wg]] w fun e w' => ∃ v, e = .returned (.tuple #[v, .int .i64 0]) ∧ Kd.R (Kd.int .i64) 3 w' w.heap.size (fun _ => True) v (bestL l1 (truthsL l0 l1 wg)) ∧ Below w.heap.size w w' := by
 have hu35 := Try.underlying35
 have hu55 := Try.underlying55
 have HT := Aside0.mk ht
 have HE := Aside0.mk he
 clear ht he
 obtain ⟨hck, htn⟩ := askE_zero HE.out
 have HTN := Aside0.mk htn
 have HN0 := Aside0.mk (checkT_zero hck).n0
 have HN1 := Aside0.mk (checkT_zero hck).n1
 have HTL := Aside0.mk (truths_len wg (checkT_zero hck).n0 (checkT_zero hck).n1)
 have HBL := Aside0.mk (best_len htn)
 clear hck htn
 have hu121 := Try.underlying121
 have hn1 := HN1.out
 have HB := Aside0.mk (Below.refl w.heap.size w)
 go_enter Try.func38, Try.ntmps38
 go_wp2_with (first | ((with_reducible refine gate_dst (N := 1) rfl ?_); refine sbox (N := 1) #[.slice A0 l0.length c0, .slice A1 l1.length c1, .int .i64 wg] 35 ?_; intro g1 hg W_ hbox hb; have GEg1 := Aside0.mk (by rw [hg]; exact HB.out.size : w.heap.size ≤ g1); replace HB := Aside0.mk (below_step HB.out hb); have BKg1 := Aside0.mk hbox; clear hb hbox hg; have hcz0 := sc 0 BKg1; have hcz1 := sc 1 BKg1; have hcz2 := sc 2 BKg1) | (go_at_call 68; go_must (refine (asked_ok wg (HT.out.below HB.out) HE.out).mono ?_; rintro e W_ ⟨gw, gm, At, ct, rfl, hwk, hb⟩; replace BKg1 := Aside0.mk (blk_below BKg1.out hb); replace HB := Aside0.mk (below_step HB.out hb); try (clear hcz0 hcz1 hcz2); have HK := Aside0.mk hwk; clear hb hwk; have hcz0 := sc 0 BKg1; have hcz1 := sc 1 BKg1; have hcz2 := sc 2 BKg1)) | (go_at_call 81; go_must (refine (best_calls HK.out (HT.out.below HB.out).r1 HN1.out HTN.out HTL.out).mono ?_; rintro e W_ ⟨rfl, hb⟩; replace BKg1 := Aside0.mk (blk_below BKg1.out hb); replace HB := Aside0.mk (below_step HB.out hb); clear hb hcz0 hcz1 hcz2; generalize hbx : bestL l1 (truthsL l0 l1 wg) = bx at *; unfold ac; have hcy1 : ∀ o, (W_.alloc o).cell? ⟨g1, 1, none⟩ = some (.slice A1 l1.length c1) := fun o => (blk_cell (blk_alloc BKg1.out o) 1).trans rfl; have hsl := slice121 l1.length HN1.out)) | (go_at_call 74; go_must (have hbk := heap_alloc_new W_ (.cells (ac (pad bx)) 121); refine (clone_n (l := bx) HBL.out (by rw [← HBL.out]; exact reads_ac hbk (by rw [HBL.out]; exact HN1.out)) (by omega)).mono ?_; rintro e W3 ⟨v, rfl, ho, hb⟩; have HO := Aside0.mk ho; have HB3 := Aside0.mk (below_step (below_alloc HB.out _) hb); clear ho hb)))
 go_ret2
 exact ⟨_, rfl, by rw [hbx]; exact Kd.R_lower HO.out (below_alloc HB.out _).size, HB3.out⟩
end Go.Proofs.Ytnbbbeghgomnoaa.X
namespace Go.Proofs.Ytnbbbeghgomnoaa.X
open Go.RowKit Go.Proofs.YtnbbbeghgomnoaaW.PrintWords Go.Proofs.YtnbbbeghgomnoaaW.PrintLast Go.Proofs.YtnbbbeghgomnoaaW.PrintMore
def moveL (l1 : List S110) (x : List Int) (i : Int) : S69 := ⟨i, (l1.getD i.toNat z110).f1, pad x i.toNat⟩
def movesL (l1 : List S110) (x : List Int) : List S69 := (sel (off l1 (pad x)) l1.length).map (moveL l1 x)
set_option maxHeartbeats 4000000 in
set_option maxRecDepth 100000 in
theorem Moves_ok {A0 : Option Addr} {c0 : Nat} {l0 : List S109} {A1 : Option Addr} {c1 : Nat} {l1 : List S110} (wg : Int) {w : World} (ht : Tab A0 c0 l0 A1 c1 l1 w) (he : askE l0 l1 wg = 0) :
  Calls Try.prog 39 #[.agg #[.slice A0 l0.length c0, .slice A1 l1.length c1, .int .i64 wg]] w fun e w' => ∃ v, e = .returned (.tuple #[v, .int .i64 0]) ∧ Kd.R k69 69 w' w.heap.size (fun _ => True) v (movesL l1 (bestL l1 (truthsL l0 l1 wg))) ∧ Below w.heap.size w w' := by
 have hu35 := Try.underlying35
 have hu55 := Try.underlying55
 have HT := Aside0.mk ht
 have HE := Aside0.mk he
 clear ht he
 obtain ⟨hck, htn⟩ := askE_zero HE.out
 have HTN := Aside0.mk htn
 have HN0 := Aside0.mk (checkT_zero hck).n0
 have HN1 := Aside0.mk (checkT_zero hck).n1
 have HTL := Aside0.mk (truths_len wg (checkT_zero hck).n0 (checkT_zero hck).n1)
 clear hck htn
 have hu121 := Try.underlying121
 have hu105 := Try.underlying105
 have hu110 := Try.underlying110
 have hn1 := HN1.out
 have HB := Aside0.mk (Below.refl w.heap.size w)
 go_enter Try.func39, Try.ntmps39
 go_wp2_with (first | ((with_reducible refine gate_dst (N := 1) rfl ?_); refine sbox (N := 1) #[.slice A0 l0.length c0, .slice A1 l1.length c1, .int .i64 wg] 35 ?_; intro g1 hg W_ hbox hb; have GEg1 := Aside0.mk (by rw [hg]; exact HB.out.size : w.heap.size ≤ g1); replace HB := Aside0.mk (below_step HB.out hb); have BKg1 := Aside0.mk hbox; clear hb hbox hg; have hcz0 := sc 0 BKg1; have hcz1 := sc 1 BKg1; have hcz2 := sc 2 BKg1) | (go_at_call 68; go_must (refine (asked_ok wg (HT.out.below HB.out) HE.out).mono ?_; rintro e W_ ⟨gw, gm, At, ct, rfl, hwk, hb⟩; replace BKg1 := Aside0.mk (blk_below BKg1.out hb); replace HB := Aside0.mk (below_step HB.out hb); try (clear hcz0 hcz1 hcz2); have HK := Aside0.mk hwk; clear hb hwk; have hcz0 := sc 0 BKg1; have hcz1 := sc 1 BKg1; have hcz2 := sc 2 BKg1)) | (go_at_call 81; go_must (refine (best_calls HK.out (HT.out.below HB.out).r1 HN1.out HTN.out HTL.out).mono ?_; rintro e W_ ⟨rfl, hb⟩; replace BKg1 := Aside0.mk (blk_below BKg1.out hb); replace HB := Aside0.mk (below_step HB.out hb); have HK2 := Aside0.mk (HK.out.below hb); clear HK; have HK := HK2; clear HK2; clear hb hcz0 hcz1 hcz2; generalize hbx : bestL l1 (truthsL l0 l1 wg) = bx at *; unfold ac)))
 have BKg6 := Aside0.mk (show (W_.alloc (.cells #[.int .i64 (pad bx 0), .int .i64 (pad bx 1), .int .i64 (pad bx 2), .int .i64 (pad bx 3), .int .i64 (pad bx 4), .int .i64 (pad bx 5), .int .i64 (pad bx 6)] 121)).heap[W_.heap.size]? = some (.cells #[.int .i64 (pad bx 0), .int .i64 (pad bx 1), .int .i64 (pad bx 2), .int .i64 (pad bx 3), .int .i64 (pad bx 4), .int .i64 (pad bx 5), .int .i64 (pad bx 6)] 121 (0, 0)) from heap_alloc_new W_ _)
 have hb := below_alloc (Below.refl W_.heap.size W_) (.cells #[.int .i64 (pad bx 0), .int .i64 (pad bx 1), .int .i64 (pad bx 2), .int .i64 (pad bx 3), .int .i64 (pad bx 4), .int .i64 (pad bx 5), .int .i64 (pad bx 6)] 121)
 have HBX := HB
 replace BKg1 := Aside0.mk (blk_below BKg1.out hb)
 replace HK := Aside0.mk (HK.out.below hb)
 replace HB := Aside0.mk (below_step HB.out hb)
 have GE6 := Aside0.mk (show w.heap.size ≤ W_.heap.size from HBX.out.size)
 clear hb HBX
 generalize W_.alloc (.cells #[.int .i64 (pad bx 0), .int .i64 (pad bx 1), .int .i64 (pad bx 2), .int .i64 (pad bx 3), .int .i64 (pad bx 4), .int .i64 (pad bx 5), .int .i64 (pad bx 6)] 121) = W5 at *
 generalize W_.heap.size = g6 at *
 have hcw0 : W5.cell? ⟨gw, 0, none⟩ = some (.slice A0 l0.length c0) := (blk_cell HK.out.kw 0).trans rfl
 have hcw1 : W5.cell? ⟨gw, 1, none⟩ = some (.slice A1 l1.length c1) := (blk_cell HK.out.kw 1).trans rfl
 have hcw2 : W5.cell? ⟨gw, 2, none⟩ = some (.int .i64 wg) := (blk_cell HK.out.kw 2).trans rfl
 have hca0 := sc 0 BKg6
 have hca1 := sc 1 BKg6
 have hca2 := sc 2 BKg6
 have hca3 := sc 3 BKg6
 have hca4 := sc 4 BKg6
 have hca5 := sc 5 BKg6
 have hca6 := sc 6 BKg6
 refine start_ (n := 8) (S := fun w' => w'.cell? ⟨gw, 0, none⟩ = some (.slice A0 l0.length c0) ∧ w'.cell? ⟨gw, 1, none⟩ = some (.slice A1 l1.length c1) ∧ w'.cell? ⟨gw, 2, none⟩ = some (.int .i64 wg) ∧ w'.cell? ⟨g6, 0, none⟩ = some (.int .i64 (pad bx 0)) ∧ w'.cell? ⟨g6, 1, none⟩ = some (.int .i64 (pad bx 1)) ∧ w'.cell? ⟨g6, 2, none⟩ = some (.int .i64 (pad bx 2)) ∧ w'.cell? ⟨g6, 3, none⟩ = some (.int .i64 (pad bx 3)) ∧ w'.cell? ⟨g6, 4, none⟩ = some (.int .i64 (pad bx 4)) ∧ w'.cell? ⟨g6, 5, none⟩ = some (.int .i64 (pad bx 5)) ∧ w'.cell? ⟨g6, 6, none⟩ = some (.int .i64 (pad bx 6))) (ds := []) (lm 8 0) (by kernel_rfl) rfl (by kernel_rfl) ⟨hcw0, hcw1, hcw2, hca0, hca1, hca2, hca3, hca4, hca5, hca6⟩ (fun hHeld => ?_)
 have hb := below_drew1 (Below.refl W5.heap.size W5)
 replace BKg1 := Aside0.mk (blk_below BKg1.out hb)
 replace HK := Aside0.mk (HK.out.below hb)
 replace BKg6 := Aside0.mk (blk_below BKg6.out hb)
 replace HB := Aside0.mk (below_step HB.out hb)
 replace hcw0 := (hb.cell (World.block_lt_of_cell? _ _ hcw0)).trans hcw0
 replace hcw1 := (hb.cell (World.block_lt_of_cell? _ _ hcw1)).trans hcw1
 replace hcw2 := (hb.cell (World.block_lt_of_cell? _ _ hcw2)).trans hcw2
 replace hca0 := (hb.cell (World.block_lt_of_cell? _ _ hca0)).trans hca0
 replace hca1 := (hb.cell (World.block_lt_of_cell? _ _ hca1)).trans hca1
 replace hca2 := (hb.cell (World.block_lt_of_cell? _ _ hca2)).trans hca2
 replace hca3 := (hb.cell (World.block_lt_of_cell? _ _ hca3)).trans hca3
 replace hca4 := (hb.cell (World.block_lt_of_cell? _ _ hca4)).trans hca4
 replace hca5 := (hb.cell (World.block_lt_of_cell? _ _ hca5)).trans hca5
 replace hca6 := (hb.cell (World.block_lt_of_cell? _ _ hca6)).trans hca6
 generalize W5.drew = W6 at *
 clear hb
 refine sP (i := 0) (N := some 20) (lm 8 1) ?_
 refine sP (i := 1) (N := some 21) (lm 8 3) ?_
 refine sP (i := 2) (N := some 22) (lm 8 7) ?_
 refine sP (i := 7) (N := some 27) (lm 8 135) ?_
 refine take_ (i := 3) (N := some 23) (v := ?_) (a' := ?_) (lm 8 143) rfl rfl (by kernel_rfl) (fun _ _ _ h => h) (Or.inl ⟨by rfl, ?_⟩) hHeld ?_ ?_
 rotate_left
 ·rintro w' ⟨s0, s1, s2, s3, s4, s5, s6, s7, s8, s9⟩
  go_simp
  with_reducible rfl
 rotate_left
 ·simp only [Act.put, List.setIfInBounds_toArray, List.set_cons_zero, List.set_cons_succ, i64_w, i32_w]
  rfl
 refine take_ (i := 4) (N := some 24) (v := ?_) (a' := ?_) (lm 8 159) rfl rfl (by kernel_rfl) (fun _ _ _ h => h) (Or.inl ⟨by rfl, ?_⟩) hHeld ?_ ?_
 rotate_left
 ·rintro w' ⟨s0, s1, s2, s3, s4, s5, s6, s7, s8, s9⟩
  go_simp
  with_reducible rfl
 rotate_left
 ·simp only [Act.put, List.setIfInBounds_toArray, List.set_cons_zero, List.set_cons_succ, i64_w, i32_w]
  rfl
 refine one_ (i := 5) (N := some 25) (lm 8 191) rfl rfl (by kernel_rfl) (by decide) (fun K hK => ?_)
 refine goes_ Try.func82 (by kernel_rfl) rfl #[.agg #[.slice A0 l0.length c0, .slice A1 l1.length c1, .int .i64 wg], .agg #[.int .i64 (pad bx 0), .int .i64 (pad bx 1), .int .i64 (pad bx 2), .int .i64 (pad bx 3), .int .i64 (pad bx 4), .int .i64 (pad bx 5), .int .i64 (pad bx 6)]] (by rfl) rfl rfl (by simp only [List.map_toArray, List.map_cons, List.map_nil]; rfl) ?_
 with_reducible refine (astray_calls A0 c0 l0 A1 c1 l1 wg (pad bx) W6 (HT.out.below HB.out).r1 HN1.out).mono ?_
 rintro e W3 ⟨v25, rfl, ho, hb⟩
 refine ⟨_, rfl, ?_⟩
 replace hcw0 := (hb.cell (World.block_lt_of_cell? _ _ hcw0)).trans hcw0
 replace hcw1 := (hb.cell (World.block_lt_of_cell? _ _ hcw1)).trans hcw1
 replace hcw2 := (hb.cell (World.block_lt_of_cell? _ _ hcw2)).trans hcw2
 replace hca0 := (hb.cell (World.block_lt_of_cell? _ _ hca0)).trans hca0
 replace hca1 := (hb.cell (World.block_lt_of_cell? _ _ hca1)).trans hca1
 replace hca2 := (hb.cell (World.block_lt_of_cell? _ _ hca2)).trans hca2
 replace hca3 := (hb.cell (World.block_lt_of_cell? _ _ hca3)).trans hca3
 replace hca4 := (hb.cell (World.block_lt_of_cell? _ _ hca4)).trans hca4
 replace hca5 := (hb.cell (World.block_lt_of_cell? _ _ hca5)).trans hca5
 replace hca6 := (hb.cell (World.block_lt_of_cell? _ _ hca6)).trans hca6
 replace BKg1 := Aside0.mk (blk_below BKg1.out hb)
 replace HK := Aside0.mk (HK.out.below hb)
 replace BKg6 := Aside0.mk (blk_below BKg6.out hb)
 replace HB := Aside0.mk (below_step HB.out hb)
 have HO := Aside0.mk ho
 clear ho
 obtain ⟨Ao, co, eo_⟩ := Kd.R_slice HO.out
 subst eo_
 clear hb
 refine hK.out _ _ ⟨hcw0, hcw1, hcw2, hca0, hca1, hca2, hca3, hca4, hca5, hca6⟩ (fun hHeld => ?_)
 clear hK K
 refine sN ?_
 refine sP (i := 6) (N := some 26) (lm 8 255) ?_
 refine done_ (by kernel_rfl) ?_
 clear hcw0 hcw1 hcw2 hca0 hca1 hca2 hca3 hca4 hca5 hca6
 obtain ⟨nn, hnn⟩ : ∃ nn : Nat, (sel (off l1 (pad bx)) l1.length).length = nn := ⟨_, rfl⟩
 have HNN := Aside0.mk hnn
 have hnl : nn ≤ 7 := by rw [← hnn]; exact Nat.le_trans (sel_le _ _) HN1.out
 rw [hnn]
 clear hnn
 obtain ⟨W1, hW1⟩ : ∃ W1 : World, W1 = W3 := ⟨_, rfl⟩
 subst hW1
 have HLG := Aside0.mk (And.intro (blk_lt BKg1.out) (blk_lt BKg6.out))
 go_wp2
 go_loopg [7, 27] nn (fun kq v7 v27 w' => ∃ m : Nat, v27 = .int .i64 (m : Int) ∧ Aside0 (m + kq = nn) ∧ Aside0 (Kd.R k69 69 w' W1.heap.size (fun _ => True) v7 (((sel (off l1 (pad bx)) l1.length).take m).map (moveL l1 bx))) ∧ Aside0 (Below W1.heap.size W1 w'))
 case atStart => exact ⟨0, rfl, ⟨Nat.zero_add _⟩, ⟨Kd.R_nil _ _ _ _ _⟩, ⟨Below.refl _ _⟩⟩
 case round =>
  obtain ⟨m, rfl, HM, HO7, HB1⟩ := hrel
  by_cases hlt : m < nn
  ·cases gk with
   | zero => have := HM.out; omega
   | succ k1 =>
   obtain ⟨ado, eo, hxo⟩ := Kd.at_int (Kd.C_below (Kd.R_reads' HO.out).2.2 HB1.out) (m : Int) (by omega) (by have := HNN.out; omega)
   subst eo
   have hlm : m < (sel (off l1 (pad bx)) l1.length).length := by have := HNN.out; omega
   obtain ⟨i, hi, hil⟩ : ∃ i : Nat, (sel (off l1 (pad bx)) l1.length)[m] = (i : Int) ∧ i < l1.length := by
    obtain ⟨k, hk, _, hx⟩ := (sel_mem (off l1 (pad bx)) l1.length _).1 (List.getElem_mem hlm)
    exact ⟨k, hx, hk⟩
   have hrd : rd (sel (off l1 (pad bx)) l1.length) (m : Int) = (i : Int) := by
    unfold rd
    rw [Int.toNat_natCast, List.getD_eq_getElem?_getD, List.getElem?_eq_getElem hlm]
    exact hi
   rw [hrd] at hxo
   simp only [Int.toNat_natCast] at hxo
   have htk : (sel (off l1 (pad bx)) l1.length).take (m + 1) = (sel (off l1 (pad bx)) l1.length).take m ++ [(i : Int)] := by
    rw [List.take_succ_eq_append_getElem hlm, hi]
   have HTK := Aside0.mk htk
   have HML := Aside0.mk (show (((sel (off l1 (pad bx)) l1.length).take m).map (moveL l1 bx)).length ≤ 7 from by rw [List.length_map, List.length_take]; omega)
   clear htk hi hlm hrd
   obtain ⟨ad1, A6, c6, e1, _, hcb0, _, _⟩ := at_T110 (HT.out.below HB.out).r1 (i : Int) (by omega) (by omega)
   subst e1
   have hr1 : rd_T110 l1 (i : Int) = l1.getD i z110 := rfl
   rw [hr1] at hcb0
   simp only [Int.toNat_natCast] at hcb0
   have HMV := Aside0.mk (show moveL l1 bx (i : Int) = ⟨(i : Int), (l1.getD i z110).f1, pad bx i⟩ from by unfold moveL; rw [Int.toNat_natCast])
   clear hr1
   generalize (l1.getD i z110).f1 = bu at *
   obtain ⟨ow, how⟩ : ∃ ow, pad bx i = ow := ⟨_, rfl⟩
   have hco0 : W1.cell? ⟨g6, i, none⟩ = some (.int .i64 ow) := (blk_cell BKg6.out i).trans (by rw [← how]; exact ac_get (pad bx) i (by omega))
   rw [how] at HMV
   have hc10 := sc 1 BKg1
   have HL1 := Aside0.mk (And.intro HLG.out.1 (And.intro (World.block_lt_of_cell? _ _ hcb0) HLG.out.2))
   have hc1 := (HB1.out.cell (World.block_lt_of_cell? _ _ hc10)).trans hc10
   have hcb := (HB1.out.cell (World.block_lt_of_cell? _ _ hcb0)).trans hcb0
   have hco := (HB1.out.cell (World.block_lt_of_cell? _ _ hco0)).trans hco0
   clear hc10 hcb0 hco0 how
   have hil7 : (i : Int) < 7 := by omega
   have hiln : (i : Int) < (l1.length : Int) := by omega
   go_wp2_with fail
   refine start_ (n := 15) (S := fun w' => w'.cell? ⟨g1, 1, none⟩ = some (.slice (some ad1) l1.length c1) ∧ w'.cell? ⟨(ad1.add (i * 2)).block, (ad1.add (i * 2)).off + 1, none⟩ = some (.int .i64 bu) ∧ w'.cell? ⟨g6, i, none⟩ = some (.int .i64 ow)) (ds := []) (lm 15 0) (by kernel_rfl) rfl (by kernel_rfl) ⟨hc1, hcb, hco⟩ (fun hHeld => ?_)
   have hb := below_drew1 (Below.refl wr.heap.size wr)
   replace HB1 := Aside0.mk (below_step HB1.out hb)
   replace HO7 := Aside0.mk (Kd.R_below HO7.out hb)
   replace hc1 := (hb.cell (World.block_lt_of_cell? _ _ hc1)).trans hc1
   replace hcb := (hb.cell (World.block_lt_of_cell? _ _ hcb)).trans hcb
   replace hco := (hb.cell (World.block_lt_of_cell? _ _ hco)).trans hco
   generalize wr.drew = W7 at *
   clear hb
   refine sP (i := 0) (N := some 31) (lm 15 1) ?_
   refine sP (i := 1) (N := some 32) (lm 15 3) ?_
   refine sP (i := 2) (N := some 33) (lm 15 7) ?_
   refine sP (i := 4) (N := some 35) (lm 15 23) ?_
   refine sP (i := 8) (N := some 39) (lm 15 279) ?_
   refine sP (i := 9) (N := some 40) (lm 15 791) ?_
   refine take_ (i := 3) (N := some 34) (v := ?_) (a' := ?_) (lm 15 799) rfl rfl (by kernel_rfl) (fun _ _ _ h => h) (Or.inl ⟨by rfl, ?_⟩) hHeld ?_ ?_
   rotate_left
   ·rintro w' ⟨s0, s1, s2⟩
    go_simp
    with_reducible rfl
   rotate_left
   ·simp only [Act.put, List.setIfInBounds_toArray, List.set_cons_zero, List.set_cons_succ, i64_w, i32_w]
    rfl
   refine sP (i := 5) (N := some 36) (lm 15 831) ?_
   refine sP (i := 6) (N := some 37) (lm 15 895) ?_
   refine take_ (i := 7) (N := some 38) (v := ?_) (a' := ?_) (lm 15 1023) rfl rfl (by kernel_rfl) (fun _ _ _ h => h) (Or.inl ⟨by rfl, ?_⟩) hHeld ?_ ?_
   rotate_left
   ·rintro w' ⟨s0, s1, s2⟩
    go_simp
    with_reducible rfl
   rotate_left
   ·simp only [Act.put, List.setIfInBounds_toArray, List.set_cons_zero, List.set_cons_succ, i64_w, i32_w]
    rfl
   refine take_ (i := 10) (N := some 41) (v := ?_) (a' := ?_) (lm 15 2047) rfl rfl (by kernel_rfl) (fun _ _ _ h => h) (Or.inl ⟨by rfl, ?_⟩) hHeld ?_ ?_
   rotate_left
   ·rintro w' ⟨s0, s1, s2⟩
    go_simp
    with_reducible rfl
   rotate_left
   ·simp only [Act.put, List.setIfInBounds_toArray, List.set_cons_zero, List.set_cons_succ, i64_w, i32_w]
    rfl
   refine sP (i := 11) (N := some 42) (lm 15 4095) ?_
   refine one_ (i := 12) (N := some 43) (lm 15 8191) rfl rfl (by kernel_rfl) (by decide) (fun K hK => ?_)
   refine value_ (w1 := ?_) (v := ?_) (by rfl) rfl ?_ ?_
   rotate_left 2
   ·go_simp
    constructor
    ·rfl
    ·rfl
   refine hK.out _ _ ⟨((below_alloc (Below.refl _ _) _).cell (World.block_lt_of_cell? _ _ hc1)).trans hc1, ((below_alloc (Below.refl _ _) _).cell (World.block_lt_of_cell? _ _ hcb)).trans hcb, ((below_alloc (Below.refl _ _) _).cell (World.block_lt_of_cell? _ _ hco)).trans hco⟩ (fun hHeld => ?_)
   clear hK K
   refine sN ?_
   refine one_ (i := 13) (N := some 44) (lm 15 16383) rfl rfl (by kernel_rfl) (by decide) (fun K hK => ?_)
   refine Kd.R_append_step k69 (w0 := W1) W1.heap.size (by rfl) (.tmp 31) (.tmp 43) 58 69 (.agg #[.int .i64 0, .int .i64 0, .int .i64 0]) 24 rfl Try.underlying58 info69 rfl (by decide) (by omega) u7 (((sel (off l1 (pad bx)) l1.length).take m).map (moveL l1 bx)) ⟨(i : Int), bu, ow⟩ [.int .i64 (i : Int), .int .i64 bu, .int .i64 ow] (fun _ => True) (fun _ => False) rfl rfl ?aP (fun _ hk => hk.elim) ?aF ?aO ?aB ?aS ?aL ?_
   (case aP => exact k69_mkM _ _ _ _)
   (case aB => exact HB1.out)
   (case aF => exact fun _ _ => trivial)
   (case aO => exact HO7.out)
   (case aS => exact HB1.out.size)
   (case aL => have := HML.out; omega)
   intro v44 W4 ho hb hg hat
   have hkp : ∀ a v, a.block < W1.heap.size → W7.cell? a = some v → W4.cell? a = some v := fun a v ha hc => by
    have h1 := hg.block a.block (World.block_lt_of_cell? _ _ hc) (row_ne HO7.out ha)
    exact (World.cell?_of_block h1).trans hc
   have HO8 := Aside0.mk ho
   have HB8 := Aside0.mk hb
   have hc1' := hkp ⟨g1, 1, none⟩ _ HL1.out.1 hc1
   have hcb' := hkp ⟨(ad1.add (i * 2)).block, (ad1.add (i * 2)).off + 1, none⟩ _ HL1.out.2.1 hcb
   have hco' := hkp ⟨g6, i, none⟩ _ HL1.out.2.2 hco
   clear ho hb hg hat hkp HO7 HB1
   have HO7 := HO8
   have HB1 := HB8
   clear HO8 HB8
   refine hK.out _ _ ⟨hc1', hcb', hco'⟩ (fun hHeld => ?_)
   clear hK K
   refine sN ?_
   refine sP (i := 14) (N := some 7) (lm 15 32767) ?_
   refine done_ (by kernel_rfl) ?_
   go_wp2
   go_roundg k1
   case measure => omega
   case rel => exact ⟨m + 1, by go_num, ⟨by have := HM.out; omega⟩, ⟨by rw [HTK.out, List.map_append, List.map_cons, List.map_nil, HMV.out]; exact HO7.out⟩, HB1⟩
  ·obtain rfl : m = nn := by have := HM.out; omega
   go_wp2
   go_ret2
   refine ⟨_, rfl, ?_, below_step HB.out HB1.out⟩
   rw [hbx]
   have h_ := Kd.R_lower HO7.out HB.out.size
   rw [List.take_of_length_le (by rw [HNN.out]; exact Nat.le_refl _)] at h_
   exact h_
end Go.Proofs.Ytnbbbeghgomnoaa.X
namespace Go.Proofs.Ytnbbbeghgomnoaa.X
open Go.RowKit Go.Proofs.YtnbbbeghgomnoaaW.PrintWords Go.Proofs.YtnbbbeghgomnoaaW.PrintLast Go.Proofs.YtnbbbeghgomnoaaW.PrintMore
def aft (n : Nat) : List Int := (List.range n).map fun (k : Nat) => (k : Int)
theorem aft_len (n : Nat) : (aft n).length = n := by simp [aft]
theorem aft_succ (n : Nat) : aft (n + 1) = aft n ++ [(n : Int)] := by unfold aft; rw [List.range_succ, List.map_append]; rfl
def firstP (l0 : List S109) (l1 : List S110) (w : Nat) : Bool := !possL l0 l1 ((aft l0.length).drop (w + 1))
def firstL (l0 : List S109) (l1 : List S110) : Int × Int := match (List.range l0.length).find? (firstP l0 l1) with | some w => ((w : Int), 0) | none => (0, 7)
theorem find_range (p : Nat → Bool) (n m : Nat) (hm : m < n) (h : ∀ k, k < m → p k = false) (hp : p m = true) : (List.range n).find? p = some m := by
 rw [List.find?_range_eq_some]
 exact ⟨hp, by simpa using hm, fun j hj => by simpa using h j hj⟩
theorem cut39 {A : Option Addr} {c : Nat} {xs : List Int} {w : World} (h : Kd.C (Kd.int .i64) w A xs.length xs) (hc : xs.length ≤ c) (j : Nat) (hj : j ≤ xs.length) :
  ∃ A', (∀ W : World, (Instr.slice 39 (.slice A xs.length c) (some (.int .i64 (j : Int))) none none).run Try.prog W = .ok (.slice A' (xs.length - j) (c - j)) W) ∧ Kd.C (Kd.int .i64) w A' (xs.length - j) (xs.drop j) ∧ xs.length - j ≤ c - j := by
 obtain ⟨i, hi, hs⟩ := Option.map_eq_some_iff.1 info3
 simp only [Prod.mk.injEq] at hs
 have h1 := cut_from 39 3 .i64 Try.underlying39 hi 1 hs.2.1 A xs.length c (j : Int) (by omega) (by omega)
 have h2 := Kd.C_drop h hj hc
 rw [List.length_drop] at h2
 exact ⟨_, fun W => by rw [h1 W, Int.toNat_natCast]; rfl, h2, by omega⟩
theorem poss_n {A0 : Option Addr} {c0 : Nat} {l0 : List S109} {A1 : Option Addr} {c1 : Nat} {l1 : List S110} (wg : Int) {Ao : Option Addr} {co n : Nat} {outl : List Int} {w : World} (ht : Tab A0 c0 l0 A1 c1 l1 w) (hn1 : l1.length ≤ 7) (hn : outl.length = n) (hro : Kd.C (Kd.int .i64) w Ao n outl) (hco : n ≤ co) (hlo : n ≤ 1000000) :
  Calls Try.prog 72 #[.agg #[.slice A0 l0.length c0, .slice A1 l1.length c1, .int .i64 wg], .slice Ao n co] w fun e w' => e = .returned (.bool (possL l0 l1 outl)) ∧ Below w.heap.size w w' := by
 subst hn
 exact possible_calls A0 c0 l0 A1 c1 l1 wg Ao co outl w ht.r0 ht.h0 ht.r1 ht.h1 ht.n0 hn1 ht.ms hro hco (by omega)
set_option maxHeartbeats 4000000 in
set_option maxRecDepth 100000 in
theorem First_ok {A0 : Option Addr} {c0 : Nat} {l0 : List S109} {A1 : Option Addr} {c1 : Nat} {l1 : List S110} (wg : Int) {w : World} (ht : Tab A0 c0 l0 A1 c1 l1 w) (he : checkT l0 l1 wg = 0) :
  Calls Try.prog 31 #[.agg #[.slice A0 l0.length c0, .slice A1 l1.length c1, .int .i64 wg]] w fun e w' => e = .returned (.tuple #[.int .i64 (firstL l0 l1).1, .int .i64 (firstL l0 l1).2]) ∧ Below w.heap.size w w' := by
 have hu35 := Try.underlying35
 have hu55 := Try.underlying55
 have HT := Aside0.mk ht
 have HE := Aside0.mk he
 have HN0 := Aside0.mk (checkT_zero he).n0
 have HN1 := Aside0.mk (checkT_zero he).n1
 have hn0 := HN0.out
 clear ht he
 have HB := Aside0.mk (Below.refl w.heap.size w)
 go_enter Try.func31, Try.ntmps31
 go_wp2_with (first | ((with_reducible refine gate_dst (N := 1) rfl ?_); refine sbox (N := 1) #[.slice A0 l0.length c0, .slice A1 l1.length c1, .int .i64 wg] 35 ?_; intro g1 hg W_ hbox hb; have GEg1 := Aside0.mk (by rw [hg]; exact HB.out.size : w.heap.size ≤ g1); replace HB := Aside0.mk (below_step HB.out hb); have BKg1 := Aside0.mk hbox; clear hb hbox hg; have hcz0 := sc 0 BKg1; have hcz1 := sc 1 BKg1; have hcz2 := sc 2 BKg1) | (go_at_call 61; go_must (refine (check_calls wg (HT.out.below HB.out)).mono ?_; rintro e W_ ⟨rfl, hb⟩; replace BKg1 := Aside0.mk (blk_below BKg1.out hb); replace HB := Aside0.mk (below_step HB.out hb); clear hb; rw [HE.out]; clear hcz0 hcz1 hcz2; have hcz0 := sc 0 BKg1; have hcz1 := sc 1 BKg1; have hcz2 := sc 2 BKg1)))
 obtain ⟨W1, hW1⟩ : ∃ W1 : World, W1 = W_ := ⟨_, rfl⟩
 subst hW1
 go_loopg [5, 16] l0.length (fun kq v5 v16 w' => ∃ m : Nat, v16 = .int .i64 (m : Int) ∧ Aside0 (m + kq = l0.length) ∧ Aside0 (Kd.R (Kd.int .i64) 3 w' W1.heap.size (fun _ => True) v5 (aft m)) ∧ Aside0 (Below W1.heap.size W1 w'))
 case atStart => exact ⟨0, rfl, ⟨Nat.zero_add _⟩, ⟨Kd.R_nil _ _ _ _ _⟩, ⟨Below.refl _ _⟩⟩
 case round =>
  clear hcz0 hcz1 hcz2
  obtain ⟨m, rfl, HM, HO, HB1⟩ := hrel
  by_cases hlt : m < l0.length
  ·cases gk with
   | zero => have := HM.out; omega
   | succ k1 =>
   go_wp2_with (first | ((with_reducible refine gate_builtin (b := .append) (xs := #[.tmp 19, .tmp 21]) rfl ?_); go_must (at_builtin; refine Kd.R_append (Kd.int .i64) (w0 := W1) W1.heap.size rfl (.tmp 19) (.tmp 21) 39 3 (.int .i64 0) 8 rfl Try.underlying39 info3 rfl (by decide) (by omega) u5 (aft m) (m : Int) [.int .i64 (m : Int)] (fun _ => True) (fun _ => False) rfl rfl ?aP (fun _ hk => hk.elim) ?aF ?aO ?aB ?aS ?aL ?_; (case aP => exact rfl); (case aB => exact (by repeat (first | exact HB1.out | apply below_alloc | apply pw_below_drewN | apply below_drew1))); (case aF => exact (fun _ _ => trivial)); (case aO => exact (sR HO)); (case aS => exact (by repeat (first | exact HB1.out | apply below_alloc | apply pw_below_drewN | apply below_drew1) : Below W1.heap.size W1 _).size); (case aL => exact (by rw [aft_len]; omega)); intro v22 W_ ho hb hg hat; have HO_ := Aside0.mk ho; have HB_ := Aside0.mk hb; clear ho hb hg hat HO HB1; have HO := HO_; have HB1 := HB_; clear HO_ HB_)))
   go_roundg k1
   case measure => omega
   case rel => exact ⟨m + 1, by go_num, ⟨by have := HM.out; omega⟩, ⟨by rw [aft_succ]; exact HO.out⟩, HB1⟩
  ·obtain rfl : m = l0.length := by have := HM.out; omega
   obtain ⟨Aa, ca, ea⟩ := Kd.R_slice HO.out
   rw [aft_len] at ea
   subst ea
   have HC := Aside0.mk (Kd.R_reads' HO.out)
   have hcz0 : wr.cell? ⟨g1, 0, none⟩ = some (.slice A0 l0.length c0) := (blk_cell (blk_below BKg1.out HB1.out) 0).trans rfl
   obtain ⟨W2, hW2⟩ : ∃ W2 : World, W2 = wr := ⟨_, rfl⟩
   subst hW2
   have HBN := Aside0.mk (below_step HB.out HB1.out)
   have BKN := Aside0.mk (blk_below BKg1.out HB1.out)
   clear HB BKg1 HO
   have HB := HBN
   have BKg1 := BKN
   clear HBN BKN HM hlt
   go_wp2
   go_loopg [27] l0.length (fun kq v27 w' => ∃ m : Nat, v27 = .int .i64 (m : Int) ∧ Aside0 (m + kq = l0.length) ∧ Aside0 (∀ k, k < m → firstP l0 l1 k = false) ∧ Aside0 (Below W2.heap.size W2 w'))
   case atStart => exact ⟨0, rfl, ⟨Nat.zero_add _⟩, ⟨fun k hk => absurd hk (by omega)⟩, ⟨Below.refl _ _⟩⟩
   case round =>
    clear hcz0
    obtain ⟨m, rfl, HM, HP, HB2⟩ := hrel
    by_cases hlt : m < l0.length
    ·cases gk with
     | zero => have := HM.out; omega
     | succ k1 =>
     obtain ⟨Ad, hcut, hcd, hld⟩ := cut39 (xs := aft l0.length) (by rw [aft_len]; have h_ := HC.out.2.2; rw [aft_len] at h_; exact h_) (by rw [aft_len]; exact HC.out.2.1) (m + 1) (by rw [aft_len]; omega)
     rw [aft_len] at hcut hcd hld
     have HCD := Aside0.mk hcd
     have HLD := Aside0.mk hld
     clear hcd hld
     have hcut2 : ∀ W : World, (Instr.slice 39 (.slice Aa l0.length ca) (some (.int .i64 ((m : Int) + 1))) none none).run Try.prog W = .ok (.slice Ad (l0.length - (m + 1)) (ca - (m + 1))) W := hcut
     clear hcut
     have hcz0 : wr.cell? ⟨g1, 0, none⟩ = some (.slice A0 l0.length c0) := (blk_cell (blk_below BKg1.out HB2.out) 0).trans rfl
     have hcz1 : wr.cell? ⟨g1, 1, none⟩ = some (.slice A1 l1.length c1) := (blk_cell (blk_below BKg1.out HB2.out) 1).trans rfl
     have hcz2 : wr.cell? ⟨g1, 2, none⟩ = some (.int .i64 wg) := (blk_cell (blk_below BKg1.out HB2.out) 2).trans rfl
     have hwm : wrap64 ((m : Int) + 1) = (m : Int) + 1 := wrap64_id _ (by omega) (by omega)
     have HLT := Aside0.mk hlt
     go_wp2_with fail
     refine start_ (n := 7) (S := fun w' => w'.cell? ⟨g1, 0, none⟩ = some (.slice A0 l0.length c0) ∧ w'.cell? ⟨g1, 1, none⟩ = some (.slice A1 l1.length c1) ∧ w'.cell? ⟨g1, 2, none⟩ = some (.int .i64 wg)) (ds := []) #[false, false, false, false, false, false, false] (by kernel_rfl) rfl rfl ⟨hcz0, hcz1, hcz2⟩ (fun hHeld => ?_)
     have hb := below_drew1 (Below.refl wr.heap.size wr)
     replace HB2 := Aside0.mk (below_step HB2.out hb)
     replace hcz0 := (hb.cell (World.block_lt_of_cell? _ _ hcz0)).trans hcz0
     replace hcz1 := (hb.cell (World.block_lt_of_cell? _ _ hcz1)).trans hcz1
     replace hcz2 := (hb.cell (World.block_lt_of_cell? _ _ hcz2)).trans hcz2
     generalize wr.drew = W4 at *
     clear hb
     refine sP (i := 1) (N := some 31) #[false, true, false, false, false, false, false] ?_
     refine sP (i := 2) (N := some 32) #[false, true, true, false, false, false, false] ?_
     refine sP (i := 3) (N := some 33) #[false, true, true, true, false, false, false] ?_
     refine sP (i := 4) (N := some 34) #[false, true, true, true, true, false, false] ?_
     refine take_ (i := 0) (N := some 30) (v := ?_) (a' := ?_) #[true, true, true, true, true, false, false] rfl rfl (by kernel_rfl) (fun _ _ _ h => h) (Or.inl ⟨by rfl, ?_⟩) hHeld ?_ ?_
     rotate_left
     ·rintro w' ⟨s0, s1, s2⟩
      go_simp
      with_reducible rfl
     rotate_left
     ·simp only [Act.put, List.setIfInBounds_toArray, List.set_cons_zero, List.set_cons_succ, i64_w, i32_w]
      rfl
     refine one_ (i := 5) (N := some 35) #[true, true, true, true, true, true, false] rfl rfl (by kernel_rfl) (by decide) (fun K hK => ?_)
     refine goes_ Try.func72 (by kernel_rfl) rfl #[.agg #[.slice A0 l0.length c0, .slice A1 l1.length c1, .int .i64 wg], .slice Ad (l0.length - (m + 1)) (ca - (m + 1))] (by rfl) rfl rfl (by simp only [List.map_toArray, List.map_cons, List.map_nil]; rfl) ?_
     with_reducible refine (poss_n wg (HT.out.below (below_step HB.out HB2.out)) HN1.out (by rw [List.length_drop, aft_len]) (Kd.C_below HCD.out HB2.out) HLD.out (by omega)).mono ?_
     rintro e W5 ⟨rfl, hb⟩
     refine ⟨_, rfl, ?_⟩
     replace hcz0 := (hb.cell (World.block_lt_of_cell? _ _ hcz0)).trans hcz0
     replace hcz1 := (hb.cell (World.block_lt_of_cell? _ _ hcz1)).trans hcz1
     replace hcz2 := (hb.cell (World.block_lt_of_cell? _ _ hcz2)).trans hcz2
     replace HB2 := Aside0.mk (below_step HB2.out hb)
     clear hb
     refine hK.out _ _ ⟨hcz0, hcz1, hcz2⟩ (fun hHeld => ?_)
     clear hK K
     refine sN ?_
     refine sP (i := 6) (N := some 36) #[true, true, true, true, true, true, true] ?_
     refine done_ (by kernel_rfl) ?_
     have HFP := Aside0.mk (show firstP l0 l1 m = !possL l0 l1 ((aft l0.length).drop (m + 1)) from rfl)
     generalize possL l0 l1 ((aft l0.length).drop (m + 1)) = pb at *
     cases pb with
     | true =>
      go_wp2
      go_roundg k1
      case measure => omega
      case rel => exact ⟨m + 1, by go_num, ⟨by have := HM.out; omega⟩, ⟨fun k hk => by
       by_cases he : k = m
       ·subst he; exact HFP.out
       ·exact HP.out k (by omega)⟩, HB2⟩
     | false =>
      go_wp2
      go_ret2
      refine ⟨?_, below_step HB.out HB2.out⟩
      unfold firstL
      rw [find_range _ _ m HLT.out HP.out HFP.out]
      rfl
    ·obtain rfl : m = l0.length := by have := HM.out; omega
     go_wp2
     go_ret2
     refine ⟨?_, below_step HB.out HB2.out⟩
     unfold firstL
     rw [List.find?_eq_none.2 (fun k hk => by rw [HP.out k (by simpa using hk)]; decide)]
     rfl
end Go.Proofs.Ytnbbbeghgomnoaa.X
namespace Go.Proofs.Ytnbbbeghgomnoaa.X
open Go.RowKit Go.Proofs.YtnbbbeghgomnoaaW.PrintWords Go.Proofs.YtnbbbeghgomnoaaW.PrintLast Go.Proofs.YtnbbbeghgomnoaaW.PrintMore
section
variable {P : Program} {ops : Array Oper} {Q : Exit → Act → World → Prop}
theorem goesC_ {oi : Oper} {N : Option Tmp} {a : Act} {w : World} {K : Act → World → Prop} {f : FuncId} {fn : Func} {c : Operand} {ao : Array Operand} {ts : Array TypeId} {lb : Array Value} (hf : P.funcs[f]? = some fn) (hname : (fn.name == "runtime.NumGoroutine") = false) (hb : fn.body.isSome = true) (args : Array Value)
  (hw : Region.wanted oi (yielded ops a.tmps) = true) (hN : oi.dst = N) (hop : oi.op = .call { callee := .value c, args := ao, argTypes := ts }) (hc : a.eval c = .func (.func f) #[] lb) (hargs : ao.map a.eval ++ lb = args)
  (h : Calls P f args w fun e w' => ∃ v, e = .returned v ∧ K (a.put N v) w') : if Region.wanted oi (yielded ops a.tmps) = true then Oper.wp P oi a w K Q else K (a.put N undef) w := by
 refine call_ f args hw hN ?_ h
 have he := enters_ hf hname hb args w
 unfold execOp
 simp [hop, resolve, hc, Deferred.ofValue, invoke, hargs, he]
end
def combs (n : Nat) : Nat → Nat → List (List Int)
 | 0, _ => [[]]
 | k + 1, frm => (List.range (n - k - frm)).flatMap fun j => (combs n k (frm + j + 1)).map (((frm + j : Nat) : Int) :: ·)
def leaveS (l0 : List S109) (l1 : List S110) (k frm : Nat) (out : List Int) : Option (List Int) := ((combs l0.length k frm).map (out ++ ·)).find? (possL l0 l1)
def Kg (g : Nat) (A B : World) : Prop := KpS (fun k => k < A.heap.size ∧ k ≠ g) A B
theorem Kg.trans {g : Nat} {A B C : World} (h : Kg g A B) (k : Kg g B C) : Kg g A C :=
 ⟨k.os.trans h.os, k.tape.trans h.tape, k.output.trans h.output, Nat.le_trans h.size k.size, fun i hi => (k.block i ⟨Nat.lt_of_lt_of_le hi.1 h.size, hi.2⟩).trans (h.block i hi)⟩
theorem Kg.of_below {g : Nat} {A B : World} (h : Below A.heap.size A B) : Kg g A B := KpS.of_below h fun _ hk => hk.1
theorem Kg.set {g : Nat} {A B : World} (h : Kg g A B) (j : Nat) (u : Value) : Kg g A (B.setCell ⟨g, j, none⟩ u) :=
 ⟨h.os, h.tape, h.output, Nat.le_trans h.size (by simp [World.setCell]), fun k hk => (Below.heap_setCell B ⟨g, j, none⟩ u k hk.2).trans (h.block k hk)⟩
theorem Kg.blk {g k : Nat} {o : Obj} {A B : World} (h : Kg g A B) (hk : A.heap[k]? = some o) (hne : k ≠ g) : B.heap[k]? = some o := (h.block k ⟨blk_lt hk, hne⟩).trans hk
theorem Kg.below {g n : Nat} {A B : World} (h : Kg g A B) (hn : n ≤ A.heap.size) (hg : n ≤ g) : Below n A B := KpS.below h fun k hk => ⟨by omega, by omega⟩
theorem Kg.row {g e base t : Nat} {A B : World} {v : Value} {xs : List Int} {cs : Array Value} (h : Kg g A B) (hr : Kd.R (Kd.int .i64) e A base (fun _ => True) v xs) (hk : A.heap[g]? = some (.cells cs t (0, 0))) (ht : t ≠ e) : Kd.R (Kd.int .i64) e B base (fun _ => True) v xs :=
 Kd.R_mono (Kd.R_move (Kd.R_bound hr) (fun k hb => by
  obtain ⟨_, _, hlt, q, hq, cells, hc⟩ := hb
  refine h.block k ⟨hlt, fun e => ?_⟩
  subst e
  rw [hk] at hc
  simp only [Kd.int, Kd.scalar, List.mem_cons, List.not_mem_nil, or_false] at hq
  subst hq
  injection hc with hc
  injection hc with _ hc
  exact ht hc)) (fun _ _ => trivial)
structure Lv (w0 : World) (A0 : Option Addr) (n0 c0 : Nat) (A1 : Option Addr) (n1 c1 : Nat) (wg : Int) (g1 g5 g6 : Nat) (W : World) : Prop where
 hb : Below w0.heap.size w0 W
 k1 : W.heap[g1]? = some (.cells #[.slice A0 n0 c0, .slice A1 n1 c1, .int .i64 wg] 35 (0, 0))
 k5 : ∃ vf, W.heap[g5]? = some (.cells #[vf] 39 (0, 0)) ∧ ∃ A n c, vf = .slice A n c
 k6 : W.heap[g6]? = some (.cells #[.func (.func 73) #[] #[.pointer (some ⟨g5, 0, none⟩), .pointer (some ⟨g1, 0, none⟩), .pointer (some ⟨g6, 0, none⟩)]] 118 (0, 0))
theorem Lv.step {w0 : World} {A0 : Option Addr} {n0 c0 : Nat} {A1 : Option Addr} {n1 c1 : Nat} {wg : Int} {g1 g5 g6 : Nat} {W W' : World} (h : Lv w0 A0 n0 c0 A1 n1 c1 wg g1 g5 g6 W) (hb : Below W.heap.size W W') : Lv w0 A0 n0 c0 A1 n1 c1 wg g1 g5 g6 W' := by
 obtain ⟨vf, h5, hs⟩ := h.k5
 exact ⟨h.hb.trans (hb.mono h.hb.size), blk_below h.k1 hb, ⟨vf, blk_below h5 hb, hs⟩, blk_below h.k6 hb⟩
end Go.Proofs.Ytnbbbeghgomnoaa.X
namespace Go.Proofs.Ytnbbbeghgomnoaa.X
open Go.RowKit Go.Proofs.YtnbbbeghgomnoaaW.PrintWords Go.Proofs.YtnbbbeghgomnoaaW.PrintLast Go.Proofs.YtnbbbeghgomnoaaW.PrintMore
theorem one_row {W : World} {g : Nat} {x : Int} (h : W.heap[g]? = some (.cells #[.int .i64 x] 3 (0, 0))) : ReadsRow (fun (y : Int) cs => cs = [Value.int .i64 y]) 1 W (some ⟨g, 0, none⟩) 1 [x] := by
 refine ⟨rfl, by decide, fun _ => ⟨_, rfl, fun j p hj => ?_⟩⟩
 have hj0 : j = 0 := by
  have := (List.getElem?_eq_some_iff.1 hj).1
  simp at this; exact this
 subst hj0
 have hp : x = p := by simpa using hj
 subst hp
 refine ⟨[.int .i64 x], rfl, rfl, fun i u hu => ?_⟩
 have hi : i = 0 := by
  have := (List.getElem?_eq_some_iff.1 hu).1
  simp at this; exact this
 subst hi
 have hu' : Value.int .i64 x = u := by simpa using hu
 subst hu'
 exact (blk_cell h 0).trans rfl
def LvPost (w0 : World) (A0 : Option Addr) (c0 : Nat) (l0 : List S109) (A1 : Option Addr) (c1 : Nat) (l1 : List S110) (wg : Int) (g1 g5 g6 : Nat) (r : Option (List Int)) (W : World) (e : Ending) (W' : World) : Prop :=
 Lv w0 A0 l0.length c0 A1 l1.length c1 wg g1 g5 g6 W' ∧ Kg g5 W W' ∧ ((e = .returned (.bool true) ∧ ∃ s A c, r = some s ∧ W'.heap[g5]? = some (.cells #[.slice A s.length c] 39 (0, 0)) ∧ Kd.R (Kd.int .i64) 3 W' w0.heap.size (fun _ => True) (.slice A s.length c) s) ∨ (e = .returned (.bool false) ∧ r = none))
def preS (l0 : List S109) (l1 : List S110) (k frm : Nat) (out : List Int) (j : Nat) : Option (List Int) := (((List.range j).flatMap fun j => (combs l0.length k (frm + j + 1)).map (((frm + j : Nat) : Int) :: ·)).map (out ++ ·)).find? (possL l0 l1)
theorem leaveS_pre (l0 : List S109) (l1 : List S110) (k frm : Nat) (out : List Int) : leaveS l0 l1 (k + 1) frm out = preS l0 l1 k frm out (l0.length - k - frm) := rfl
theorem preS_succ (l0 : List S109) (l1 : List S110) (k frm : Nat) (out : List Int) (j : Nat) : preS l0 l1 k frm out (j + 1) = (preS l0 l1 k frm out j).or (leaveS l0 l1 k (frm + j + 1) (out ++ [((frm + j : Nat) : Int)])) := by
 unfold preS leaveS
 rw [List.range_succ, List.flatMap_append, List.map_append, List.find?_append]
 congr 1
 simp only [List.flatMap_cons, List.flatMap_nil, List.append_nil, List.map_map]
 congr 1
 apply List.map_congr_left
 intro x _
 simp
theorem preS_mono (l0 : List S109) (l1 : List S110) (k frm : Nat) (out : List Int) (j : Nat) (s : List Int) (h : preS l0 l1 k frm out j = some s) : ∀ N, j ≤ N → preS l0 l1 k frm out N = some s := by
 intro N hN
 obtain ⟨d, rfl⟩ : ∃ d, N = j + d := ⟨N - j, by omega⟩
 clear hN
 induction d with
 | zero => exact h
 | succ d ih => rw [show j + (d + 1) = (j + d) + 1 from rfl, preS_succ, ih]; rfl
set_option maxHeartbeats 4000000 in
set_option maxRecDepth 100000 in
theorem leave1_calls (w0 : World) (A0 : Option Addr) (c0 : Nat) (l0 : List S109) (A1 : Option Addr) (c1 : Nat) (l1 : List S110) (wg : Int) (g1 g5 g6 : Nat) (ht : Tab A0 c0 l0 A1 c1 l1 w0) (hn0 : l0.length ≤ 5) (hn1 : l1.length ≤ 7) (hg5 : w0.heap.size ≤ g5) (h51 : g5 ≠ g1) (h56 : g5 ≠ g6) :
  ∀ (k : Nat) (out : List Int) (n : Nat) (Ao : Option Addr) (co : Nat) (frm : Nat) (W : World), out.length = n → n + k ≤ l0.length → frm + k ≤ l0.length + 1 → Lv w0 A0 l0.length c0 A1 l1.length c1 wg g1 g5 g6 W → Kd.R (Kd.int .i64) 3 W w0.heap.size (fun _ => True) (.slice Ao n co) out →
  Calls Try.prog 73 #[.slice Ao n co, .int .i64 (frm : Int), .int .i64 (k : Int), .pointer (some ⟨g5, 0, none⟩), .pointer (some ⟨g1, 0, none⟩), .pointer (some ⟨g6, 0, none⟩)] W (LvPost w0 A0 c0 l0 A1 c1 l1 wg g1 g5 g6 (leaveS l0 l1 k frm out) W) := by
 have hu35 := Try.underlying35
 have HT := Aside0.mk ht
 have HN0 := Aside0.mk hn0
 have HN1 := Aside0.mk hn1
 have HG := Aside0.mk (And.intro hg5 (And.intro h51 h56))
 clear ht hn1 hg5 h51 h56
 intro k
 induction k with
 | zero =>
  intro out n Ao co frm W hol hnl hfl hlv hro
  have HOL := Aside0.mk hol
  have HLV := Aside0.mk hlv
  have HRO := Aside0.mk hro
  obtain ⟨vf, hk5, Af, nf, cf, rfl⟩ := hlv.k5
  have HK5 := Aside0.mk hk5
  have hf5 := blk_frozen hk5 0
  have hx5 : W.cell? ⟨g5, 0, none⟩ = some (.slice Af nf cf) := (blk_cell hk5 0).trans rfl
  have hb5 : Below w0.heap.size w0 (W.setCell ⟨g5, 0, none⟩ (.slice Ao n co)) := hlv.hb.setCell (p := ⟨g5, 0, none⟩) HG.out.1 _
  have HB5 := Aside0.mk hb5
  have hk1 : (W.setCell ⟨g5, 0, none⟩ (.slice Ao n co)).heap[g1]? = some (.cells #[.slice A0 l0.length c0, .slice A1 l1.length c1, .int .i64 wg] 35 (0, 0)) := blk_far hlv.k1 (Ne.symm HG.out.2.1) _
  have HK1 := Aside0.mk hk1
  have hcz0 : (W.setCell ⟨g5, 0, none⟩ (.slice Ao n co)).cell? ⟨g1, 0, none⟩ = some (.slice A0 l0.length c0) := (blk_cell hk1 0).trans rfl
  have hcz1 : (W.setCell ⟨g5, 0, none⟩ (.slice Ao n co)).cell? ⟨g1, 1, none⟩ = some (.slice A1 l1.length c1) := (blk_cell hk1 1).trans rfl
  have hcz2 : (W.setCell ⟨g5, 0, none⟩ (.slice Ao n co)).cell? ⟨g1, 2, none⟩ = some (.int .i64 wg) := (blk_cell hk1 2).trans rfl
  have hkg : Kg g5 W (W.setCell ⟨g5, 0, none⟩ (.slice Ao n co)) := Kg.set (Kg.of_below (Below.refl _ _)) 0 _
  have HKG := Aside0.mk hkg
  have HR5 := Aside0.mk (hkg.row hro hk5 (by decide))
  have HK55 := Aside0.mk (blk_put hk5 0 (.slice Ao n co) rfl)
  have HK6 := Aside0.mk (hkg.blk hlv.k6 (Ne.symm HG.out.2.2))
  clear hol hlv hro hk5 hk1 hb5 hkg hfl
  go_enter Try.func73, Try.ntmps73
  go_wp2_with (go_at_call 72; go_must (refine (poss_n wg (HT.out.below HB5.out) HN1.out HOL.out (by have h_ := (Kd.R_reads' HR5.out); rw [← h_.1] at h_; exact h_.2.2) (Kd.R_reads' HR5.out).2.1 (by omega)).mono ?_; rintro e W3 ⟨rfl, hb⟩; have HB3 := Aside0.mk hb; clear hb))
  go_ret
  have hkg3 : Kg g5 W W3 := Kg.trans HKG.out (Kg.of_below HB3.out)
  have hls : leaveS l0 l1 0 frm out = if possL l0 l1 out = true then some out else none := by
   unfold leaveS combs
   cases hp : possL l0 l1 out <;> simp [List.find?, hp]
  refine ⟨⟨HB5.out.trans (HB3.out.mono HB5.out.size), blk_below HK1.out HB3.out, ⟨_, blk_below HK55.out HB3.out, _, _, _, rfl⟩, blk_below HK6.out HB3.out⟩, hkg3, ?_⟩
  cases hp : possL l0 l1 out with
  | true => exact .inl ⟨by rw [← hp]; rfl, out, Ao, co, by rw [hls, hp]; rfl, by rw [HOL.out]; exact blk_below HK55.out HB3.out, by rw [HOL.out]; exact Kd.R_below HR5.out HB3.out⟩
  | false => exact .inr ⟨by rw [← hp]; rfl, by rw [hls, hp]; rfl⟩
 | succ k ih =>
  intro out n Ao co frm W hol hnl hfl hlv hro
  have HOL := Aside0.mk hol
  have HLV0 := Aside0.mk hlv
  have HRO := Aside0.mk hro
  have HIH := Aside0.mk ih
  have HNL := Aside0.mk (show n ≤ 5 from by omega)
  have HNK := Aside0.mk hnl
  have HKG0 := Aside0.mk (show Kg g5 W W from Kg.of_below (Below.refl _ _))
  have hkz : (((k + 1 : Nat) : Int) == 0) = false := by simp; omega
  have hwn : wrap64 ((l0.length : Int) - ((k : Int) + 1)) = (l0.length : Int) - ((k : Int) + 1) := wrap64_id _ (by omega) (by omega)
  have hwk : wrap64 (((k : Int) + 1) - 1) = (k : Int) := by rw [show ((k : Int) + 1) - 1 = (k : Int) from by omega]; exact wrap64_id _ (by omega) (by omega)
  have hwk2 : wrap64 (k : Int) = (k : Int) := wrap64_id _ (by omega) (by omega)
  clear hol hlv hro ih
  go_enter Try.func73, Try.ntmps73
  go_wp2
  go_loopg [10] (l0.length - k - frm) (fun kq v10 w' => ∃ i : Nat, v10 = .int .i64 (i : Int) ∧ Aside0 (frm ≤ i ∧ kq + i + k = l0.length) ∧ Aside0 (preS l0 l1 k frm out (i - frm) = none) ∧ Aside0 (Lv w0 A0 l0.length c0 A1 l1.length c1 wg g1 g5 g6 w') ∧ Aside0 (Kg g5 W w'))
  case atStart => exact ⟨frm, rfl, ⟨Nat.le_refl _, by omega⟩, ⟨by rw [Nat.sub_self]; rfl⟩, HLV0, HKG0⟩
  case round =>
   clear HKG0
   obtain ⟨i, rfl, HM, HPN, HLV, HKG⟩ := hrel
   have hm := HM.out
   have hcz0 : wr.cell? ⟨g1, 0, none⟩ = some (.slice A0 l0.length c0) := (blk_cell HLV.out.k1 0).trans rfl
   by_cases hlt : i + k < l0.length
   ·cases gk with
    | zero => omega
    | succ k1 =>
    have hlez : (i : Int) ≤ (l0.length : Int) - ((k : Int) + 1) := by omega
    have hwi : wrap64 ((i : Int) + 1) = (i : Int) + 1 := wrap64_id _ (by omega) (by omega)
    have hc6 : wr.cell? ⟨g6, 0, none⟩ = some (.func (.func 73) #[] #[.pointer (some ⟨g5, 0, none⟩), .pointer (some ⟨g1, 0, none⟩), .pointer (some ⟨g6, 0, none⟩)]) := (blk_cell HLV.out.k6 0).trans rfl
    obtain ⟨vf, hk5, _, _, _, hvf⟩ := HLV0.out.k5
    have HR5 := Aside0.mk (HKG.out.row HRO.out hk5 (by decide))
    have HCO := Aside0.mk (show Kd.C (Kd.int .i64) wr Ao n out from by have h_ := (Kd.R_reads' HR5.out); rw [← h_.1] at h_; exact h_.2.2)
    clear hk5 hvf hcz0
    have hcz0 : wr.cell? ⟨g1, 0, none⟩ = some (.slice A0 l0.length c0) := (blk_cell HLV.out.k1 0).trans rfl
    have HLT := Aside0.mk hlt
    go_wp2_with fail
    refine start_ (n := 11) (S := fun w' => w'.cell? ⟨g6, 0, none⟩ = some (.func (.func 73) #[] #[.pointer (some ⟨g5, 0, none⟩), .pointer (some ⟨g1, 0, none⟩), .pointer (some ⟨g6, 0, none⟩)])) (ds := [10]) (lm 11 0) (by kernel_rfl) rfl (by kernel_rfl) (hc6) (fun hHeld => ?_)
    have hb := below_drew1 (Below.refl wr.heap.size wr)
    replace HLV := Aside0.mk (HLV.out.step hb)
    replace HCO := Aside0.mk (Kd.C_below HCO.out hb)
    replace HKG := Aside0.mk (HKG.out.trans (Kg.of_below hb))
    replace hc6 := (hb.cell (World.block_lt_of_cell? _ _ hc6)).trans hc6
    generalize wr.drew = W7 at *
    clear hb
    refine sP (i := 1) (N := some 28) (lm 11 2) ?_
    refine sP (i := 3) (N := some 30) (lm 11 10) ?_
    refine sP (i := 6) (N := some 33) (lm 11 74) ?_
    refine sP (i := 7) (N := some 34) (lm 11 202) ?_
    refine sP (i := 8) (N := some 35) (lm 11 458) ?_
    refine sP (i := 9) (N := some 36) (lm 11 970) ?_
    refine take_ (i := 0) (N := some 27) (v := ?_) (a' := ?_) (lm 11 971) rfl rfl (by kernel_rfl) (fun _ _ _ h => h) (Or.inl ⟨by rfl, ?_⟩) hHeld ?_ ?_
    rotate_left
    ·intro w' s0
     go_simp
     with_reducible rfl
    rotate_left
    ·simp only [Act.put, List.setIfInBounds_toArray, List.set_cons_zero, List.set_cons_succ, i64_w, i32_w]
     rfl
    refine join_ (σ := Option Addr × Nat × Nat) 2 (lm 11 991) (fun s => [(29, .slice s.1 n s.2.1), (31, .slice (some ⟨s.2.2, 0, none⟩) 1 1)]) (fun s w' => w'.cell? ⟨g6, 0, none⟩ = some (.func (.func 73) #[] #[.pointer (some ⟨g5, 0, none⟩), .pointer (some ⟨g1, 0, none⟩), .pointer (some ⟨g6, 0, none⟩)]) ∧ Below W7.heap.size W7 w' ∧ Kd.R (Kd.int .i64) 3 w' W7.heap.size (fun _ => True) (.slice s.1 n s.2.1) out ∧ w'.heap[s.2.2]? = some (.cells #[.int .i64 (i : Int)] 3 (0, 0)) ∧ W7.heap.size ≤ s.2.2) ?_ ?_
    rotate_left
    ·intro hCont
     refine two_ (i := 2) (j := 4) (Ni := some 29) (Nj := some 31) (lm 11 975) (lm 11 987) rfl rfl rfl rfl (by kernel_rfl) (by decide) (by decide) (fun K hK => ?_) (fun K hK => ?_)
     ·skip
      refine goes_ Try.func74 (by kernel_rfl) rfl #[.slice Ao n co] (by rfl) rfl rfl (by simp only [List.map_toArray, List.map_cons, List.map_nil]; rfl) ?_
      with_reducible refine (clone_n HOL.out (Kd.C_below HCO.out (Below.refl _ _)) (by have := HNL.out; omega)).mono ?_
      rintro e W8 ⟨v29, rfl, ho, hb⟩
      refine ⟨_, rfl, ?_⟩
      obtain ⟨A29, c29, e29⟩ := Kd.R_slice ho
      rw [HOL.out] at e29
      subst e29
      refine hK.out _ _ ((hb.cell (World.block_lt_of_cell? _ _ hc6)).trans hc6) (fun hHeld => ?_)
      clear hK K
      refine sN ?_
      refine one_ (i := 4) (N := some 31) (lm 11 991) rfl rfl (by kernel_rfl) (by decide) (fun K hK => ?_)
      refine value_ (w1 := ?_) (v := ?_) (by rfl) rfl ?_ ?_
      rotate_left 2
      ·go_simp
       constructor
       ·rfl
       ·rfl
      refine hK.out _ _ (((below_alloc (Below.refl W8.heap.size W8) _).cell (World.block_lt_of_cell? _ _ ((hb.cell (World.block_lt_of_cell? _ _ hc6)).trans hc6))).trans ((hb.cell (World.block_lt_of_cell? _ _ hc6)).trans hc6)) (fun hHeld => ?_)
      clear hK K
      refine sN ?_
      exact norm_ (by simp only [putAll, Act.put, List.setIfInBounds_toArray, List.set_cons_zero, List.set_cons_succ]) (hCont (A29, c29, W8.heap.size) _ ⟨hHeld, below_alloc hb _, Kd.R_alloc ho _, blk_new W8 _, hb.size⟩)
     ·skip
      refine value_ (w1 := ?_) (v := ?_) (by rfl) rfl ?_ ?_
      rotate_left 2
      ·go_simp
       constructor
       ·rfl
       ·rfl
      refine hK.out _ _ (((below_alloc (Below.refl W7.heap.size W7) _).cell (World.block_lt_of_cell? _ _ hc6)).trans hc6) (fun hHeld => ?_)
      clear hK K
      refine sN ?_
      refine one_ (i := 2) (N := some 29) (lm 11 991) rfl rfl (by kernel_rfl) (by decide) (fun K hK => ?_)
      refine goes_ Try.func74 (by kernel_rfl) rfl #[.slice Ao n co] (by rfl) rfl rfl (by simp only [List.map_toArray, List.map_cons, List.map_nil]; rfl) ?_
      with_reducible refine (clone_n HOL.out (Kd.C_below HCO.out (below_alloc (Below.refl _ _) _)) (by have := HNL.out; omega)).mono ?_
      rintro e W8 ⟨v29, rfl, ho, hb⟩
      refine ⟨_, rfl, ?_⟩
      obtain ⟨A29, c29, e29⟩ := Kd.R_slice ho
      rw [HOL.out] at e29
      subst e29
      refine hK.out _ _ ((hb.cell (World.block_lt_of_cell? _ _ (show (W7.alloc (.cells #[.int .i64 (i : Int)] 3)).cell? ⟨g6, 0, none⟩ = _ from ((below_alloc (Below.refl W7.heap.size W7) _).cell (World.block_lt_of_cell? _ _ hc6)).trans hc6))).trans (((below_alloc (Below.refl W7.heap.size W7) _).cell (World.block_lt_of_cell? _ _ hc6)).trans hc6)) (fun hHeld => ?_)
      clear hK K
      refine sN ?_
      exact norm_ (by simp only [putAll, Act.put, List.setIfInBounds_toArray, List.set_cons_zero, List.set_cons_succ]) (hCont (A29, c29, W7.heap.size) _ ⟨hHeld, below_then0 (below_alloc (Below.refl W7.heap.size W7) _) (hb.mono (by simp)), Kd.R_lower ho (by simp), blk_below (blk_new W7 _) hb, Nat.le_refl _⟩)
    rintro ⟨A29, c29, gb⟩ W8 ⟨hc68, hb8, ho8, hbk8, hge8⟩
    have hHeld : W8.cell? ⟨g6, 0, none⟩ = some (.func (.func 73) #[] #[.pointer (some ⟨g5, 0, none⟩), .pointer (some ⟨g1, 0, none⟩), .pointer (some ⟨g6, 0, none⟩)]) := hc68
    refine norm_ (a' := ?_) ?_ ?_
    rotate_left
    ·simp only [putAll, Act.put, List.setIfInBounds_toArray, List.set_cons_zero, List.set_cons_succ]
     rfl
    refine one_ (i := 5) (N := some 32) (lm 11 1023) rfl rfl (by kernel_rfl) (by decide) (fun K hK => ?_)
    refine Kd.R_append_rows_step (Kd.int .i64) (w0 := W7) W7.heap.size (by rfl) (.tmp 29) (.tmp 31) 39 3 (.int .i64 0) 8 rfl Try.underlying39 info3 rfl (by decide) (by omega) (.slice A29 n c29) out [(i : Int)] (some ⟨gb, 0, none⟩) 1 1 (fun _ => True) (fun _ => False) rfl rfl ho8 (one_row hbk8) (fun x cs h => h) (fun _ h => h.elim) (fun _ _ => trivial) hb8 hb8.size (by have := HNL.out; have := HOL.out; omega) ?_
    intro v32 W9 ho hb hg hat
    obtain ⟨Av, cv, ev⟩ := Kd.R_slice ho
    rw [List.length_append, HOL.out, List.length_singleton] at ev
    subst ev
    have hc69 : W9.cell? ⟨g6, 0, none⟩ = some (.func (.func 73) #[] #[.pointer (some ⟨g5, 0, none⟩), .pointer (some ⟨g1, 0, none⟩), .pointer (some ⟨g6, 0, none⟩)]) := (hb.cell (World.block_lt_of_cell? _ _ hc6)).trans hc6
    refine hK.out _ _ (hc69) (fun hHeld => ?_)
    clear hK K
    refine sN ?_
    refine last_ (i := 10) (N := some 37) (lm 11 2047) rfl rfl (by kernel_rfl) (by decide) (fun K hK => ?_)
    refine goesC_ Try.func73 (by kernel_rfl) rfl #[.slice Av (n + 1) cv, .int .i64 (wrap64 ((i : Int) + 1)), .int .i64 (wrap64 (k : Int)), .pointer (some ⟨g5, 0, none⟩), .pointer (some ⟨g1, 0, none⟩), .pointer (some ⟨g6, 0, none⟩)] (by rfl) rfl rfl (by rfl) (by simp only [List.map_toArray, List.map_cons, List.map_nil, List.append_toArray, List.cons_append, List.nil_append]; rfl) ?_
    rw [hwi, hwk2]
    have hih := HIH.out (out ++ [(i : Int)]) (n + 1) Av cv (i + 1) W9 (by rw [List.length_append, HOL.out]; rfl) (by omega) (by omega) (HLV.out.step hb) (Kd.R_lower ho (by have h1 := HLV.out.hb.size; exact h1))
    refine hih.mono ?_
    rintro e W10 hpost
    obtain ⟨hlv, hkg, hres⟩ := hpost
    have hkg2 := Kg.trans (Kg.of_below hb) hkg
    have he_ : ∃ bb, e = .returned (.bool bb) := by rcases hres with ⟨h, _⟩ | ⟨h, _⟩ <;> exact ⟨_, h⟩
    obtain ⟨bb, rfl⟩ := he_
    refine ⟨_, rfl, ?_⟩
    refine hK.out _ _ ?_
    clear hK K
    refine sN ?_
    refine done_ (by kernel_rfl) ?_
    have HLV1 := Aside0.mk hlv
    have HKG1 := Aside0.mk (Kg.trans HKG.out hkg2)
    have HPS := Aside0.mk (preS_succ l0 l1 k frm out (i - frm))
    rw [show frm + (i - frm) = i from by omega] at HPS
    cases bb with
    | true =>
     have HRES := Aside0.mk (show ∃ s A c, leaveS l0 l1 k (i + 1) (out ++ [(i : Int)]) = some s ∧ W10.heap[g5]? = some (.cells #[.slice A s.length c] 39 (0, 0)) ∧ Kd.R (Kd.int .i64) 3 W10 w0.heap.size (fun _ => True) (.slice A s.length c) s from by
      rcases hres with ⟨_, h⟩ | ⟨h, _⟩
      ·exact h
      ·cases h)
     clear hres hlv hkg hkg2
     go_wp2
     go_ret
     obtain ⟨s, A, c, h1, h2, h3⟩ := HRES.out
     refine ⟨HLV1.out, HKG1.out, .inl ⟨rfl, s, A, c, ?_, h2, h3⟩⟩
     have hp := HPS.out
     rw [HPN.out, h1] at hp
     rw [leaveS_pre]
     exact preS_mono l0 l1 k frm out (i - frm + 1) s hp _ (by have h_ := HM.out; have h__ := HLT.out; omega)
    | false =>
     have HRES := Aside0.mk (show leaveS l0 l1 k (i + 1) (out ++ [(i : Int)]) = none from by
      rcases hres with ⟨h, _⟩ | ⟨_, h⟩
      ·cases h
      ·exact h)
     clear hres hlv hkg hkg2
     go_wp2
     go_roundg k1
     case measure => omega
     case rel => exact ⟨i + 1, by go_num, ⟨by omega, by omega⟩, ⟨by
      have hp := HPS.out
      rw [HPN.out, HRES.out] at hp
      rw [show i + 1 - frm = i - frm + 1 from by have h_ := HM.out; omega]
      exact hp⟩, HLV1, HKG1⟩
   ·have hlez : ¬ (i : Int) ≤ (l0.length : Int) - ((k : Int) + 1) := by omega
    have HLT := Aside0.mk hlt
    go_wp2
    go_ret
    refine ⟨HLV.out, HKG.out, .inr ⟨rfl, ?_⟩⟩
    rw [leaveS_pre, show l0.length - k - frm = i - frm from by have h_ := HM.out; have h__ := HLT.out; omega]
    exact HPN.out
end Go.Proofs.Ytnbbbeghgomnoaa.X
namespace Go.Proofs.Ytnbbbeghgomnoaa.X
open Go.RowKit Go.Proofs.YtnbbbeghgomnoaaW.PrintWords Go.Proofs.YtnbbbeghgomnoaaW.PrintLast Go.Proofs.YtnbbbeghgomnoaaW.PrintMore
theorem combs_full (n : Nat) : ∀ (k frm : Nat), frm + k = n → (List.range' frm k).map (fun (x : Nat) => (x : Int)) ∈ combs n k frm := by
 intro k
 induction k with
 | zero => intro frm _; simp [combs]
 | succ k ih =>
  intro frm h
  have hh := ih (frm + 1) (by omega)
  unfold combs
  rw [show n - k - frm = 1 from by omega]
  simp only [List.range_one, List.flatMap_cons, List.flatMap_nil, List.append_nil, List.range'_succ, List.map_cons]
  exact List.mem_map.2 ⟨_, hh, rfl⟩
theorem allL_ne {l0 : List S109} {l1 : List S110} (h : l1.all (okP l0) = true) : allL l0 l1 ≠ [] := by
 have hp : ∀ i, i < l1.length → optsL l0 l1 i ≠ [] := by
  intro i hi
  have hm : l1.getD i z110 ∈ l1 := by
   rw [List.getD_eq_getElem?_getD, List.getElem?_eq_getElem hi]
   exact List.getElem_mem hi
  have := List.all_eq_true.1 h _ hm
  unfold okP at this
  rw [Bool.and_eq_true, Bool.and_eq_true, decide_eq_true_eq] at this
  intro he
  unfold optsL at he
  rw [he] at this
  exact absurd this.2 (by simp)
 have main : ∀ (d i : Nat), i + d = l1.length → prods (optsL l0 l1) d i ≠ [] := by
  intro d
  induction d with
  | zero => intro i _; simp [prods]
  | succ d ih =>
   intro i hi he
   obtain ⟨a, r, har⟩ := List.exists_cons_of_ne_nil (hp i (by omega))
   obtain ⟨b, s, hbs⟩ := List.exists_cons_of_ne_nil (ih (i + 1) (by omega))
   simp [prods, har, hbs] at he
 exact main l1.length 0 (by omega)
theorem poss_all {l0 : List S109} {l1 : List S110} {outl : List Int} (h : l1.all (okP l0) = true) (ho : ∀ k, k < l0.length → (k : Int) ∈ outl) : possL l0 l1 outl = true := by
 obtain ⟨a, r, har⟩ := List.exists_cons_of_ne_nil (allL_ne h)
 unfold possL
 refine List.any_eq_true.2 ⟨a, by rw [har]; simp, ?_⟩
 unfold condL
 refine List.all_eq_true.2 fun v hv => ?_
 obtain ⟨k, hk, _, rfl⟩ := (sel_mem _ _ _).1 hv
 exact List.contains_iff_mem.2 (ho k hk)
theorem leave_full {l0 : List S109} {l1 : List S110} (h : l1.all (okP l0) = true) : leaveS l0 l1 l0.length 0 [] ≠ none := by
 intro he
 unfold leaveS at he
 have := List.find?_eq_none.1 he ((List.range' 0 l0.length).map fun (x : Nat) => (x : Int)) (List.mem_map.2 ⟨_, combs_full l0.length l0.length 0 (by omega), by simp⟩)
 exact this (poss_all h (fun k hk => List.mem_map.2 ⟨k, by simp [List.mem_range'_1]; exact hk, rfl⟩))
def leaveL (l0 : List S109) (l1 : List S110) : List Int := ((List.range (l0.length + 1)).findSome? fun k => leaveS l0 l1 k 0 []).getD []
theorem leaveL_at {l0 : List S109} {l1 : List S110} (m : Nat) (hm : m ≤ l0.length) (h : ∀ k, k < m → leaveS l0 l1 k 0 [] = none) {s : List Int} (hs : leaveS l0 l1 m 0 [] = some s) : leaveL l0 l1 = s := by
 unfold leaveL
 have main : ∀ (n : Nat), m < n → (List.range n).findSome? (fun k => leaveS l0 l1 k 0 []) = some s := by
  intro n
  induction n with
  | zero => intro h; omega
  | succ n ih =>
   intro hn
   rw [List.range_succ, List.findSome?_append]
   by_cases he : m = n
   ·subst he
    rw [List.findSome?_eq_none_iff.2 (fun k hk => h k (by simpa using hk))]
    simp [hs]
   ·rw [ih (by omega)]; rfl
 rw [main _ (by omega)]; rfl
set_option maxHeartbeats 4000000 in
set_option maxRecDepth 100000 in
theorem Leave_ok {A0 : Option Addr} {c0 : Nat} {l0 : List S109} {A1 : Option Addr} {c1 : Nat} {l1 : List S110} (wg : Int) {w : World} (ht : Tab A0 c0 l0 A1 c1 l1 w) (he : checkT l0 l1 wg = 0) :
  Calls Try.prog 32 #[.agg #[.slice A0 l0.length c0, .slice A1 l1.length c1, .int .i64 wg]] w fun e w' => ∃ v, e = .returned (.tuple #[v, .int .i64 0]) ∧ Kd.R (Kd.int .i64) 3 w' w.heap.size (fun _ => True) v (leaveL l0 l1) ∧ Below w.heap.size w w' := by
 have hu35 := Try.underlying35
 have hu55 := Try.underlying55
 have HT := Aside0.mk ht
 have HE := Aside0.mk he
 have HN0 := Aside0.mk (checkT_zero he).n0
 have HN1 := Aside0.mk (checkT_zero he).n1
 have HPS := Aside0.mk (checkT_zero he).ps
 have hn0 := HN0.out
 clear ht he
 have HB := Aside0.mk (Below.refl w.heap.size w)
 go_enter Try.func32, Try.ntmps32
 go_wp2_with (first | ((with_reducible refine gate_dst (N := 1) rfl ?_); refine sbox (N := 1) #[.slice A0 l0.length c0, .slice A1 l1.length c1, .int .i64 wg] 35 ?_; intro g1 hg W_ hbox hb; have GEg1 := Aside0.mk (by rw [hg]; exact HB.out.size : w.heap.size ≤ g1); replace HB := Aside0.mk (below_step HB.out hb); have BKg1 := Aside0.mk hbox; clear hb hbox hg; have hcz0 := sc 0 BKg1; have hcz1 := sc 1 BKg1; have hcz2 := sc 2 BKg1))
 refine wp_scope_straight ?_
 go_wp2_with (first | (go_at_call 61; go_must (refine (check_calls wg (HT.out.below HB.out)).mono ?_; rintro e W_ ⟨rfl, hb⟩; replace BKg1 := Aside0.mk (blk_below BKg1.out hb); replace HB := Aside0.mk (below_step HB.out hb); clear hb; rw [HE.out]; clear hcz0 hcz1 hcz2)) | ((with_reducible refine gate_dst (N := 5) rfl ?_); refine sbox (N := 5) #[.slice none 0 0] 39 ?_; intro g5 hg W_ hbox hb; have LTg5_g1 := Aside0.mk (by rw [hg]; exact blk_lt BKg1.out : g1 < g5); have GEg5 := Aside0.mk (by rw [hg]; exact HB.out.size : w.heap.size ≤ g5); replace BKg1 := Aside0.mk (blk_below BKg1.out hb); replace HB := Aside0.mk (below_step HB.out hb); have BKg5 := Aside0.mk hbox; clear hb hbox hg) | ((with_reducible refine gate_dst (N := 6) rfl ?_); refine sbox (N := 6) #[.nilFunc] 118 ?_; intro g6 hg W_ hbox hb; have LTg6_g1 := Aside0.mk (by rw [hg]; exact blk_lt BKg1.out : g1 < g6); have LTg6_g5 := Aside0.mk (by rw [hg]; exact blk_lt BKg5.out : g5 < g6); have GEg6 := Aside0.mk (by rw [hg]; exact HB.out.size : w.heap.size ≤ g6); replace BKg1 := Aside0.mk (blk_below BKg1.out hb); replace BKg5 := Aside0.mk (blk_below BKg5.out hb); replace HB := Aside0.mk (below_step HB.out hb); have BKg6 := Aside0.mk hbox; clear hb hbox hg; have hf6 := blk_frozen BKg6.out 0; have hx6 := sc 0 BKg6; have hcz0 : ∀ u, (W_.setCell ⟨g6, 0, none⟩ u).cell? ⟨g1, 0, none⟩ = some (.slice A0 l0.length c0) := fun u => (blk_cell (blk_far (p := ⟨g6, 0, none⟩) BKg1.out (show g1 ≠ g6 by have := LTg6_g1.out; omega) u) 0).trans rfl))
 apply wp_label
 have hlv : Lv w A0 l0.length c0 A1 l1.length c1 wg g1 g5 g6 (W_.setCell ⟨g6, 0, none⟩ (.func (.func 73) #[] #[.pointer (some ⟨g5, 0, none⟩), .pointer (some ⟨g1, 0, none⟩), .pointer (some ⟨g6, 0, none⟩)])) := ⟨HB.out.setCell (p := ⟨g6, 0, none⟩) GEg6.out _, blk_far BKg1.out (show g1 ≠ g6 by have := LTg6_g1.out; omega) _, ⟨_, blk_far BKg5.out (show g5 ≠ g6 by have := LTg6_g5.out; omega) _, none, 0, 0, rfl⟩, blk_put BKg6.out 0 _ rfl⟩
 have HLV := Aside0.mk hlv
 have HNE := Aside0.mk (show w.heap.size ≤ g5 ∧ g5 ≠ g1 ∧ g5 ≠ g6 from ⟨GEg5.out, by have := LTg5_g1.out; omega, by have := LTg6_g5.out; omega⟩)
 have hwn1 : wrap64 ((l0.length : Int) + 1) = (l0.length : Int) + 1 := wrap64_id _ (by omega) (by omega)
 clear hlv hx6 hf6
 go_wp2
 go_loopg [18] (l0.length + 1) (fun kq v18 w' => ∃ m : Nat, v18 = .int .i64 (m : Int) ∧ Aside0 (m + kq = l0.length + 1) ∧ Aside0 (∀ k, k < m → leaveS l0 l1 k 0 [] = none) ∧ Aside0 (Lv w A0 l0.length c0 A1 l1.length c1 wg g1 g5 g6 w'))
 case atStart => exact ⟨0, rfl, ⟨Nat.zero_add _⟩, ⟨fun k hk => absurd hk (by omega)⟩, HLV⟩
 case round =>
  clear HLV hcz0
  obtain ⟨m, rfl, HM, HP, HLV⟩ := hrel
  by_cases hlt : m < l0.length + 1
  ·cases gk with
   | zero => have := HM.out; omega
   | succ k1 =>
   have hltz : (m : Int) < (l0.length : Int) + 1 := by omega
   have hc6 : wr.cell? ⟨g6, 0, none⟩ = some (.func (.func 73) #[] #[.pointer (some ⟨g5, 0, none⟩), .pointer (some ⟨g1, 0, none⟩), .pointer (some ⟨g6, 0, none⟩)]) := (blk_cell HLV.out.k6 0).trans rfl
   have HC := Aside0.mk (leave1_calls w A0 c0 l0 A1 c1 l1 wg g1 g5 g6 HT.out HN0.out HN1.out HNE.out.1 HNE.out.2.1 HNE.out.2.2 m [] 0 none 0 0 wr rfl (by omega) (by omega) HLV.out (Kd.R_nil _ _ _ _ _))
   have HLT := Aside0.mk hlt
   cases hls : leaveS l0 l1 m 0 [] with
   | none =>
    have HLS := Aside0.mk hls
    go_wp2_with (go_at_call 73; go_must (refine HC.out.mono ?_; rintro e W10 ⟨hlv, hkg, hres⟩; have he_ : e = .returned (.bool false) := (by rcases hres with ⟨_, s, _, _, h, _⟩ | ⟨h, _⟩; (rw [HLS.out] at h; cases h); exact h); subst he_; have HLV1 := Aside0.mk hlv; clear hlv hkg hres))
    go_roundg k1
    case measure => omega
    case rel => exact ⟨m + 1, by go_num, ⟨by have := HM.out; omega⟩, ⟨fun k hk => by
     by_cases he : k = m
     ·subst he; exact HLS.out
     ·exact HP.out k (by omega)⟩, HLV1⟩
   | some s =>
    have HLS := Aside0.mk hls
    go_wp2_with (go_at_call 73; go_must (refine HC.out.mono ?_; rintro e W10 ⟨hlv, hkg, hres⟩; have he_ : e = .returned (.bool true) ∧ ∃ A c, W10.heap[g5]? = some (.cells #[.slice A s.length c] 39 (0, 0)) ∧ Kd.R (Kd.int .i64) 3 W10 w.heap.size (fun _ => True) (.slice A s.length c) s := (by rcases hres with ⟨h, s', A, c, h1, h2, h3⟩ | ⟨_, h⟩; (rw [HLS.out] at h1; cases h1; exact ⟨h, A, c, h2, h3⟩); (rw [HLS.out] at h; cases h)); obtain ⟨he2_, A5, c5, hk5, hr5⟩ := he_; subst he2_; have HLV1 := Aside0.mk hlv; have HR5 := Aside0.mk hr5; have hx5 : W10.cell? ⟨g5, 0, none⟩ = some (.slice A5 s.length c5) := (blk_cell hk5 0).trans rfl; clear hlv hkg hres hk5 hr5))
    simp only [Exit.noGoto]
    go_ret2
    exact ⟨_, rfl, by rw [leaveL_at m (by have h_ := HLT.out; omega) HP.out HLS.out]; exact HR5.out, HLV1.out.hb⟩
  ·exfalso
   exact leave_full HPS.out (HP.out l0.length (by have := HM.out; omega))
end Go.Proofs.Ytnbbbeghgomnoaa.X
namespace Go.Proofs.Ytnbbbeghgomnoaa.X
open Go.RowKit Go.Proofs.YtnbbbeghgomnoaaW.PrintWords Go.Proofs.YtnbbbeghgomnoaaW.PrintLast Go.Proofs.YtnbbbeghgomnoaaW.PrintMore
theorem areB_mem {l0 : List S109} {l1 : List S110} {l : List Int} : areB l0 l1 l = true ↔ l ∈ allL l0 l1 := by
 unfold areB ownB
 rw [allL_mem, Bool.and_eq_true, decide_eq_true_eq, List.all_eq_true]
 constructor
 ·rintro ⟨h1, h2⟩
  exact ⟨h1, fun j hj => List.contains_iff_mem.1 (h2 j (by simpa [h1] using hj))⟩
 ·rintro ⟨h1, h2⟩
  exact ⟨h1, fun j hj => List.contains_iff_mem.2 (h2 j (by have := List.mem_range.1 hj; omega))⟩
theorem pad_of {o : Nat → Int} {l : List Int} (h1 : ∀ i, i < l.length → o i = l.getD i 0) (h2 : ∀ i, l.length ≤ i → o i = 0) : o = pad l := by
 funext i
 by_cases h : i < l.length
 ·exact h1 i h
 ·rw [h2 i (by omega)]
  unfold pad
  rw [List.getD_eq_getElem?_getD, List.getElem?_eq_none (by omega)]; rfl
set_option maxHeartbeats 4000000 in
set_option maxRecDepth 100000 in
theorem Play_e {A0 : Option Addr} {c0 : Nat} {l0 : List S109} {A1 : Option Addr} {c1 : Nat} {l1 : List S110} (wg : Int) {Al : Option Addr} {cl : Nat} {l : List Int} {w : World} (ht : Tab A0 c0 l0 A1 c1 l1 w) (hrl : Kd.C (Kd.int .i64) w Al l.length l) (hcl : l.length ≤ cl) (hll : l.length ≤ 1000000) (he : checkT l0 l1 wg ≠ 0) :
  Calls Try.prog 50 #[.agg #[.slice A0 l0.length c0, .slice A1 l1.length c1, .int .i64 wg], .slice Al l.length cl] w fun e w' => e = .returned (.tuple #[.slice none 0 0, .slice none 0 0, .int .i64 (checkT l0 l1 wg)]) ∧ Below w.heap.size w w' := by
 have hu35 := Try.underlying35
 have hu121 := Try.underlying121
 have HT := Aside0.mk ht
 have HRL := Aside0.mk hrl
 have HCL := Aside0.mk hcl
 have HLL := Aside0.mk hll
 clear ht hrl hcl hll
 have HB := Aside0.mk (Below.refl w.heap.size w)
 have HE := Aside0.mk he
 clear he
 go_enter Try.func50, Try.ntmps50
 go_wp2_with (first | ((with_reducible refine gate_dst (N := 2) rfl ?_); refine sbox (N := 2) #[.slice A0 l0.length c0, .slice A1 l1.length c1, .int .i64 wg] 35 ?_; intro g2 hg W_ hbox hb; have GEg2 := Aside0.mk (by rw [hg]; exact HB.out.size : w.heap.size ≤ g2); replace HB := Aside0.mk (below_step HB.out hb); have BKg2 := Aside0.mk hbox; clear hb hbox hg; have hcz0 := sc 0 BKg2; have hcz1 := sc 1 BKg2; have hcz2 := sc 2 BKg2) | (go_at_call 61; go_must (refine (check_calls wg (HT.out.below HB.out)).mono ?_; rintro e W_ ⟨rfl, hb⟩; replace BKg2 := Aside0.mk (blk_below BKg2.out hb); replace HB := Aside0.mk (below_step HB.out hb); try (clear hcz0 hcz1 hcz2); clear hb; have he := HE.out; generalize hec : checkT l0 l1 wg = ec at *; have hne : (ec == (0 : Int)) = false := (by simpa using he))))
 go_ret3
 exact ⟨by rw [hec]; rfl, HB.out⟩
set_option maxHeartbeats 4000000 in
set_option maxRecDepth 100000 in
theorem Play_no {A0 : Option Addr} {c0 : Nat} {l0 : List S109} {A1 : Option Addr} {c1 : Nat} {l1 : List S110} (wg : Int) {Al : Option Addr} {cl : Nat} {l : List Int} {w : World} (ht : Tab A0 c0 l0 A1 c1 l1 w) (hrl : Kd.C (Kd.int .i64) w Al l.length l) (hcl : l.length ≤ cl) (hll : l.length ≤ 1000000) (he : checkT l0 l1 wg = 0) (ha : areB l0 l1 l = false) :
  Calls Try.prog 50 #[.agg #[.slice A0 l0.length c0, .slice A1 l1.length c1, .int .i64 wg], .slice Al l.length cl] w fun e w' => e = .returned (.tuple #[.slice none 0 0, .slice none 0 0, .int .i64 2]) ∧ Below w.heap.size w w' := by
 have hu35 := Try.underlying35
 have hu121 := Try.underlying121
 have HT := Aside0.mk ht
 have HRL := Aside0.mk hrl
 have HCL := Aside0.mk hcl
 have HLL := Aside0.mk hll
 clear ht hrl hcl hll
 have HB := Aside0.mk (Below.refl w.heap.size w)
 have HE := Aside0.mk he
 have HN0 := Aside0.mk (checkT_zero he).n0
 have HN1 := Aside0.mk (checkT_zero he).n1
 have HAB := Aside0.mk ha
 clear he ha
 go_enter Try.func50, Try.ntmps50
 go_wp2_with (first | ((with_reducible refine gate_dst (N := 2) rfl ?_); refine sbox (N := 2) #[.slice A0 l0.length c0, .slice A1 l1.length c1, .int .i64 wg] 35 ?_; intro g2 hg W_ hbox hb; have GEg2 := Aside0.mk (by rw [hg]; exact HB.out.size : w.heap.size ≤ g2); replace HB := Aside0.mk (below_step HB.out hb); have BKg2 := Aside0.mk hbox; clear hb hbox hg; have hcz0 := sc 0 BKg2; have hcz1 := sc 1 BKg2; have hcz2 := sc 2 BKg2) | (go_at_call 61; go_must (refine (check_calls wg (HT.out.below HB.out)).mono ?_; rintro e W_ ⟨rfl, hb⟩; replace BKg2 := Aside0.mk (blk_below BKg2.out hb); replace HB := Aside0.mk (below_step HB.out hb); clear hb hcz0 hcz1 hcz2; rw [HE.out]; have hcz0 := sc 0 BKg2; have hcz1 := sc 1 BKg2; have hcz2 := sc 2 BKg2)) | (go_at_call 83; go_must (refine (listed_calls A0 c0 l0 A1 c1 l1 wg Al cl l _ (HT.out.below HB.out).r0 HT.out.h0 (HT.out.below HB.out).r1 HT.out.h1 (Kd.C_below HRL.out HB.out) HCL.out HT.out.n0 HN1.out HT.out.ms (by have := HLL.out; omega)).mono ?_; rintro e W_ ⟨o, rfl, ho1, ho2, hb⟩; replace BKg2 := Aside0.mk (blk_below BKg2.out hb); replace HB := Aside0.mk (below_step HB.out hb); clear hb hcz0 hcz1 hcz2; have HO1 := Aside0.mk ho1; have HO2 := Aside0.mk ho2; clear ho1 ho2; unfold ac; rw [HAB.out])))
 go_ret3
 exact ⟨rfl, below_alloc HB.out _⟩
set_option maxHeartbeats 4000000 in
set_option maxRecDepth 100000 in
theorem Play_ok {A0 : Option Addr} {c0 : Nat} {l0 : List S109} {A1 : Option Addr} {c1 : Nat} {l1 : List S110} (wg : Int) {Al : Option Addr} {cl : Nat} {l : List Int} {w : World} (ht : Tab A0 c0 l0 A1 c1 l1 w) (hrl : Kd.C (Kd.int .i64) w Al l.length l) (hcl : l.length ≤ cl) (hll : l.length ≤ 1000000) (he : checkT l0 l1 wg = 0) (ha : areB l0 l1 l = true) :
  Calls Try.prog 50 #[.agg #[.slice A0 l0.length c0, .slice A1 l1.length c1, .int .i64 wg], .slice Al l.length cl] w fun e w' => ∃ v1 v2, e = .returned (.tuple #[v1, v2, .int .i64 0]) ∧ Kd.R (Kd.int .i64) 3 w' w.heap.size (fun _ => True) v1 (ownL l0.length l1.length (pad l)) ∧ Kd.R (Kd.int .i64) 3 w' w.heap.size (fun _ => True) v2 (sel (off l1 (pad l)) l1.length) ∧ (∀ k, v1.ownBlock = some k → some k ≠ v2.ownBlock) ∧ Below w.heap.size w w' := by
 have hu35 := Try.underlying35
 have hu121 := Try.underlying121
 have HT := Aside0.mk ht
 have HRL := Aside0.mk hrl
 have HCL := Aside0.mk hcl
 have HLL := Aside0.mk hll
 clear ht hrl hcl hll
 have HB := Aside0.mk (Below.refl w.heap.size w)
 have HE := Aside0.mk he
 have HN0 := Aside0.mk (checkT_zero he).n0
 have HN1 := Aside0.mk (checkT_zero he).n1
 have HAB := Aside0.mk ha
 have HOW := Aside0.mk (allL_owners l0 l1 l (areB_mem.1 ha))
 clear he ha
 go_enter Try.func50, Try.ntmps50
 go_wp2_with (first | ((with_reducible refine gate_dst (N := 2) rfl ?_); refine sbox (N := 2) #[.slice A0 l0.length c0, .slice A1 l1.length c1, .int .i64 wg] 35 ?_; intro g2 hg W_ hbox hb; have GEg2 := Aside0.mk (by rw [hg]; exact HB.out.size : w.heap.size ≤ g2); replace HB := Aside0.mk (below_step HB.out hb); have BKg2 := Aside0.mk hbox; clear hb hbox hg; have hcz0 := sc 0 BKg2; have hcz1 := sc 1 BKg2; have hcz2 := sc 2 BKg2) | (go_at_call 61; go_must (refine (check_calls wg (HT.out.below HB.out)).mono ?_; rintro e W_ ⟨rfl, hb⟩; replace BKg2 := Aside0.mk (blk_below BKg2.out hb); replace HB := Aside0.mk (below_step HB.out hb); clear hb hcz0 hcz1 hcz2; rw [HE.out]; have hcz0 := sc 0 BKg2; have hcz1 := sc 1 BKg2; have hcz2 := sc 2 BKg2)) | (go_at_call 83; go_must (refine (listed_calls A0 c0 l0 A1 c1 l1 wg Al cl l _ (HT.out.below HB.out).r0 HT.out.h0 (HT.out.below HB.out).r1 HT.out.h1 (Kd.C_below HRL.out HB.out) HCL.out HT.out.n0 HN1.out HT.out.ms (by have := HLL.out; omega)).mono ?_; rintro e W_ ⟨o, rfl, ho1, ho2, hb⟩; replace BKg2 := Aside0.mk (blk_below BKg2.out hb); replace HB := Aside0.mk (below_step HB.out hb); clear hb hcz0 hcz1 hcz2; have HO1 := Aside0.mk ho1; have HO2 := Aside0.mk ho2; clear ho1 ho2; have ho_ : o = pad l := pad_of (HO1.out HAB.out) HO2.out; subst ho_; unfold ac; rw [HAB.out])))
 have hb := below_alloc (Below.refl W_.heap.size W_) (.cells #[.int .i64 (pad l 0), .int .i64 (pad l 1), .int .i64 (pad l 2), .int .i64 (pad l 3), .int .i64 (pad l 4), .int .i64 (pad l 5), .int .i64 (pad l 6)] 121)
 have BKg8 := Aside0.mk (heap_alloc_new W_ (.cells #[.int .i64 (pad l 0), .int .i64 (pad l 1), .int .i64 (pad l 2), .int .i64 (pad l 3), .int .i64 (pad l 4), .int .i64 (pad l 5), .int .i64 (pad l 6)] 121))
 replace BKg2 := Aside0.mk (blk_below BKg2.out hb)
 replace HB := Aside0.mk (below_step HB.out hb)
 clear hb
 try (clear hcz0 hcz1 hcz2)
 generalize W_.alloc (.cells #[.int .i64 (pad l 0), .int .i64 (pad l 1), .int .i64 (pad l 2), .int .i64 (pad l 3), .int .i64 (pad l 4), .int .i64 (pad l 5), .int .i64 (pad l 6)] 121) = W5 at *
 generalize W_.heap.size = g8 at *
 have hcz0 := sc 0 BKg2
 have hcz1 := sc 1 BKg2
 have hcz2 := sc 2 BKg2
 have hca0 := sc 0 BKg8
 have hca1 := sc 1 BKg8
 have hca2 := sc 2 BKg8
 have hca3 := sc 3 BKg8
 have hca4 := sc 4 BKg8
 have hca5 := sc 5 BKg8
 have hca6 := sc 6 BKg8
 refine start_ (n := 9) (S := fun w' => w'.cell? ⟨g2, 0, none⟩ = some (.slice A0 l0.length c0) ∧ w'.cell? ⟨g2, 1, none⟩ = some (.slice A1 l1.length c1) ∧ w'.cell? ⟨g2, 2, none⟩ = some (.int .i64 wg) ∧ w'.cell? ⟨g8, 0, none⟩ = some (.int .i64 (pad l 0)) ∧ w'.cell? ⟨g8, 1, none⟩ = some (.int .i64 (pad l 1)) ∧ w'.cell? ⟨g8, 2, none⟩ = some (.int .i64 (pad l 2)) ∧ w'.cell? ⟨g8, 3, none⟩ = some (.int .i64 (pad l 3)) ∧ w'.cell? ⟨g8, 4, none⟩ = some (.int .i64 (pad l 4)) ∧ w'.cell? ⟨g8, 5, none⟩ = some (.int .i64 (pad l 5)) ∧ w'.cell? ⟨g8, 6, none⟩ = some (.int .i64 (pad l 6))) (ds := []) (lm 9 0) (by kernel_rfl) rfl (by kernel_rfl) ⟨hcz0, hcz1, hcz2, hca0, hca1, hca2, hca3, hca4, hca5, hca6⟩ (fun hHeld => ?_)
 have hb := below_drew1 (Below.refl W5.heap.size W5)
 replace BKg2 := Aside0.mk (blk_below BKg2.out hb)
 replace BKg8 := Aside0.mk (blk_below BKg8.out hb)
 replace HB := Aside0.mk (below_step HB.out hb)
 replace hcz0 := (hb.cell (World.block_lt_of_cell? _ _ hcz0)).trans hcz0
 replace hcz1 := (hb.cell (World.block_lt_of_cell? _ _ hcz1)).trans hcz1
 replace hcz2 := (hb.cell (World.block_lt_of_cell? _ _ hcz2)).trans hcz2
 replace hca0 := (hb.cell (World.block_lt_of_cell? _ _ hca0)).trans hca0
 replace hca1 := (hb.cell (World.block_lt_of_cell? _ _ hca1)).trans hca1
 replace hca2 := (hb.cell (World.block_lt_of_cell? _ _ hca2)).trans hca2
 replace hca3 := (hb.cell (World.block_lt_of_cell? _ _ hca3)).trans hca3
 replace hca4 := (hb.cell (World.block_lt_of_cell? _ _ hca4)).trans hca4
 replace hca5 := (hb.cell (World.block_lt_of_cell? _ _ hca5)).trans hca5
 replace hca6 := (hb.cell (World.block_lt_of_cell? _ _ hca6)).trans hca6
 generalize W5.drew = W6 at *
 clear hb
 have HZ6 := Aside0.mk HB.out.size
 refine take_ (i := 0) (N := some 23) (v := ?_) (a' := ?_) (lm 9 1) rfl rfl (by kernel_rfl) (fun _ _ _ h => h) (Or.inl ⟨by rfl, ?_⟩) hHeld ?_ ?_
 rotate_left
 ·rintro w' ⟨s0, s1, s2, s3, s4, s5, s6, s7, s8, s9⟩
  go_simp
  with_reducible rfl
 rotate_left
 ·simp only [Act.put, List.setIfInBounds_toArray, List.set_cons_zero, List.set_cons_succ, i64_w, i32_w]
  rfl
 refine take_ (i := 1) (N := some 24) (v := ?_) (a' := ?_) (lm 9 3) rfl rfl (by kernel_rfl) (fun _ _ _ h => h) (Or.inl ⟨by rfl, ?_⟩) hHeld ?_ ?_
 rotate_left
 ·rintro w' ⟨s0, s1, s2, s3, s4, s5, s6, s7, s8, s9⟩
  go_simp
  with_reducible rfl
 rotate_left
 ·simp only [Act.put, List.setIfInBounds_toArray, List.set_cons_zero, List.set_cons_succ, i64_w, i32_w]
  rfl
 refine take_ (i := 3) (N := some 26) (v := ?_) (a' := ?_) (lm 9 11) rfl rfl (by kernel_rfl) (fun _ _ _ h => h) (Or.inl ⟨by rfl, ?_⟩) hHeld ?_ ?_
 rotate_left
 ·rintro w' ⟨s0, s1, s2, s3, s4, s5, s6, s7, s8, s9⟩
  go_simp
  with_reducible rfl
 rotate_left
 ·simp only [Act.put, List.setIfInBounds_toArray, List.set_cons_zero, List.set_cons_succ, i64_w, i32_w]
  rfl
 refine take_ (i := 4) (N := some 27) (v := ?_) (a' := ?_) (lm 9 27) rfl rfl (by kernel_rfl) (fun _ _ _ h => h) (Or.inl ⟨by rfl, ?_⟩) hHeld ?_ ?_
 rotate_left
 ·rintro w' ⟨s0, s1, s2, s3, s4, s5, s6, s7, s8, s9⟩
  go_simp
  with_reducible rfl
 rotate_left
 ·simp only [Act.put, List.setIfInBounds_toArray, List.set_cons_zero, List.set_cons_succ, i64_w, i32_w]
  rfl
 refine one_ (i := 2) (N := some 25) (lm 9 31) rfl rfl (by kernel_rfl) (by decide) (fun K hK => ?_)
 refine goes_ Try.func84 (by kernel_rfl) rfl #[.agg #[.slice A0 l0.length c0, .slice A1 l1.length c1, .int .i64 wg], .agg #[.int .i64 (pad l 0), .int .i64 (pad l 1), .int .i64 (pad l 2), .int .i64 (pad l 3), .int .i64 (pad l 4), .int .i64 (pad l 5), .int .i64 (pad l 6)]] (by rfl) rfl rfl (by simp only [List.map_toArray, List.map_cons, List.map_nil]; rfl) ?_
 with_reducible refine (own_calls A0 c0 l0.length A1 c1 l1.length wg (pad l) W6 HT.out.n0 HN1.out HOW.out).mono ?_
 rintro e W7 ⟨v25, rfl, ho, hb⟩
 refine ⟨_, rfl, ?_⟩
 replace hcz0 := (hb.cell (World.block_lt_of_cell? _ _ hcz0)).trans hcz0
 replace hcz1 := (hb.cell (World.block_lt_of_cell? _ _ hcz1)).trans hcz1
 replace hcz2 := (hb.cell (World.block_lt_of_cell? _ _ hcz2)).trans hcz2
 replace hca0 := (hb.cell (World.block_lt_of_cell? _ _ hca0)).trans hca0
 replace hca1 := (hb.cell (World.block_lt_of_cell? _ _ hca1)).trans hca1
 replace hca2 := (hb.cell (World.block_lt_of_cell? _ _ hca2)).trans hca2
 replace hca3 := (hb.cell (World.block_lt_of_cell? _ _ hca3)).trans hca3
 replace hca4 := (hb.cell (World.block_lt_of_cell? _ _ hca4)).trans hca4
 replace hca5 := (hb.cell (World.block_lt_of_cell? _ _ hca5)).trans hca5
 replace hca6 := (hb.cell (World.block_lt_of_cell? _ _ hca6)).trans hca6
 replace BKg2 := Aside0.mk (blk_below BKg2.out hb)
 replace BKg8 := Aside0.mk (blk_below BKg8.out hb)
 replace HB := Aside0.mk (below_step HB.out hb)
 have HO4 := Aside0.mk ho
 have HZ7 := Aside0.mk HB.out.size
 have HZ7b := Aside0.mk (Kd.R_lt ho)
 clear ho
 clear hb
 refine hK.out _ _ ⟨hcz0, hcz1, hcz2, hca0, hca1, hca2, hca3, hca4, hca5, hca6⟩ (fun hHeld => ?_)
 clear hK K
 refine sN ?_
 refine one_ (i := 5) (N := some 28) (lm 9 63) rfl rfl (by kernel_rfl) (by decide) (fun K hK => ?_)
 refine goes_ Try.func82 (by kernel_rfl) rfl #[.agg #[.slice A0 l0.length c0, .slice A1 l1.length c1, .int .i64 wg], .agg #[.int .i64 (pad l 0), .int .i64 (pad l 1), .int .i64 (pad l 2), .int .i64 (pad l 3), .int .i64 (pad l 4), .int .i64 (pad l 5), .int .i64 (pad l 6)]] (by rfl) rfl rfl (by simp only [List.map_toArray, List.map_cons, List.map_nil]; rfl) ?_
 with_reducible refine (astray_calls A0 c0 l0 A1 c1 l1 wg (pad l) W7 (HT.out.below HB.out).r1 HN1.out).mono ?_
 rintro e W8 ⟨v28, rfl, ho, hb⟩
 refine ⟨_, rfl, ?_⟩
 replace hcz0 := (hb.cell (World.block_lt_of_cell? _ _ hcz0)).trans hcz0
 replace hcz1 := (hb.cell (World.block_lt_of_cell? _ _ hcz1)).trans hcz1
 replace hcz2 := (hb.cell (World.block_lt_of_cell? _ _ hcz2)).trans hcz2
 replace hca0 := (hb.cell (World.block_lt_of_cell? _ _ hca0)).trans hca0
 replace hca1 := (hb.cell (World.block_lt_of_cell? _ _ hca1)).trans hca1
 replace hca2 := (hb.cell (World.block_lt_of_cell? _ _ hca2)).trans hca2
 replace hca3 := (hb.cell (World.block_lt_of_cell? _ _ hca3)).trans hca3
 replace hca4 := (hb.cell (World.block_lt_of_cell? _ _ hca4)).trans hca4
 replace hca5 := (hb.cell (World.block_lt_of_cell? _ _ hca5)).trans hca5
 replace hca6 := (hb.cell (World.block_lt_of_cell? _ _ hca6)).trans hca6
 replace BKg2 := Aside0.mk (blk_below BKg2.out hb)
 replace BKg8 := Aside0.mk (blk_below BKg8.out hb)
 replace HO4 := Aside0.mk (Kd.R_below HO4.out hb)
 replace HB := Aside0.mk (below_step HB.out hb)
 have HO5 := Aside0.mk ho
 clear ho
 clear hb
 refine hK.out _ _ ⟨hcz0, hcz1, hcz2, hca0, hca1, hca2, hca3, hca4, hca5, hca6⟩ (fun hHeld => ?_)
 clear hK K
 refine sN ?_
 refine sP (i := 6) (N := some 4) (lm 9 127) ?_
 refine sP (i := 7) (N := some 5) (lm 9 255) ?_
 refine sP (i := 8) (N := some 6) (lm 9 511) ?_
 refine done_ (by kernel_rfl) ?_
 go_wp2
 go_ret3
 exact ⟨_, _, rfl, Kd.R_lower HO4.out HZ6.out, Kd.R_lower HO5.out HZ7.out, fun k h1 h2 => by
  have h3 := HZ7b.out k h1
  have h4 := ((Kd.R_bound HO5.out).1 k h2.symm).2.1
  omega, HB.out⟩
end Go.Proofs.Ytnbbbeghgomnoaa.X
namespace Go.Proofs.Ytnbbbeghgomnoaa.X
open Go.RowKit Go.Proofs.YtnbbbeghgomnoaaW.PrintWords Go.Proofs.YtnbbbeghgomnoaaW.PrintLast Go.Proofs.YtnbbbeghgomnoaaW.PrintMore
def cvW (x : S85) : S109 := ⟨x.f0, ⟨x.f1.f0, x.f1.f1⟩⟩
def cvP (x : S71) : S110 := ⟨x.f0, x.f1⟩
structure RTab (A0 : Option Addr) (c0 : Nat) (l0 : List S85) (A1 : Option Addr) (c1 : Nat) (l1 : List S71) (w : World) : Prop where
 r0 : Kd.C k85 w A0 l0.length l0
 h0 : l0.length ≤ c0
 r1 : Kd.C k71 w A1 l1.length l1
 h1 : l1.length ≤ c1
 n0 : l0.length ≤ 30
 n1 : l1.length ≤ 30
 ms : ∀ p ∈ l1, p.f0.length ≤ 30
theorem RTab.below {A0 : Option Addr} {c0 : Nat} {l0 : List S85} {A1 : Option Addr} {c1 : Nat} {l1 : List S71} {w w' : World} (h : RTab A0 c0 l0 A1 c1 l1 w) (hb : Below w.heap.size w w') : RTab A0 c0 l0 A1 c1 l1 w' :=
 ⟨Kd.C_below h.r0 hb, h.h0, Kd.C_below h.r1 hb, h.h1, h.n0, h.n1, h.ms⟩
theorem row_set {α : Type} {d : Kd α} {e base t : Nat} {W : World} {v : Value} {xs : List α} {g j : Nat} {cs : Array Value} (h : d.R e W base (fun _ => True) v xs) (hk : W.heap[g]? = some (.cells cs t (0, 0))) (ht : ∀ q ∈ e :: d.E, q ≠ t) (u : Value) : d.R e (W.setCell ⟨g, j, none⟩ u) base (fun _ => True) v xs :=
 Kd.R_mono (Kd.R_far (p := ⟨g, j, none⟩) (Kd.R_bound h) (fun k hb he => by
  obtain ⟨_, _, _, q, hq, cells, hc⟩ := hb
  have he' : k = g := he
  subst he'
  rw [hk] at hc
  injection hc with hc
  injection hc with _ hc
  exact ht q hq hc.symm) u) (fun _ _ => trivial)
theorem row_setRow {α : Type} {d : Kd α} {e base t : Nat} {W : World} {v : Value} {xs : List α} {g : Nat} {cs : Array Value} (h : d.R e W base (fun _ => True) v xs) (hk : W.heap[g]? = some (.cells cs t (0, 0))) (ht : ∀ q ∈ e :: d.E, q ≠ t) (us : Array Value) : d.R e (W.setRow g us) base (fun _ => True) v xs :=
 Kd.R_mono (Kd.R_move (Kd.R_bound h) (fun k hb => by
  obtain ⟨_, _, _, q, hq, cells, hc⟩ := hb
  refine setRow_other W g k us (fun he => ?_)
  subst he
  rw [hk] at hc
  injection hc with hc
  injection hc with _ hc
  exact ht q hq hc.symm)) (fun _ _ => trivial)
theorem e109b : ∀ q ∈ 109 :: k109.E, q ≠ 110 := by decide
theorem e109 : ∀ q ∈ 109 :: k109.E, q ≠ 35 := by decide
theorem e110 : ∀ q ∈ 110 :: k110.E, q ≠ 35 := by decide
theorem cvW_take (l : List S85) (m : Nat) (h : m < l.length) : ((l.take (m + 1)).map cvW) = (l.take m).map cvW ++ [cvW (l.getD m z85)] := by
 rw [List.take_succ_eq_append_getElem h, List.map_append, List.getD_eq_getElem?_getD, List.getElem?_eq_getElem h]; rfl
theorem cvP_take (l : List S71) (m : Nat) (h : m < l.length) : ((l.take (m + 1)).map cvP) = (l.take m).map cvP ++ [cvP (l.getD m z71)] := by
 rw [List.take_succ_eq_append_getElem h, List.map_append, List.getD_eq_getElem?_getD, List.getElem?_eq_getElem h]; rfl
set_option maxHeartbeats 4000000 in
set_option maxRecDepth 100000 in
theorem Table_calls {A0 : Option Addr} {c0 : Nat} {l0 : List S85} {A1 : Option Addr} {c1 : Nat} {l1 : List S71} (wg : Int) {w : World} (ht : RTab A0 c0 l0 A1 c1 l1 w) :
  Calls Try.prog 23 #[.agg #[.slice A0 l0.length c0, .slice A1 l1.length c1, .int .i64 wg]] w fun e w' => ∃ B0 d0 B1 d1, e = .returned (.agg #[.slice B0 l0.length d0, .slice B1 l1.length d1, .int .i64 wg]) ∧ Tab B0 d0 (l0.map cvW) B1 d1 (l1.map cvP) w' ∧ Kd.R k109 109 w' w.heap.size (fun _ => True) (.slice B0 l0.length d0) (l0.map cvW) ∧ Kd.R k110 110 w' w.heap.size (fun _ => True) (.slice B1 l1.length d1) (l1.map cvP) ∧ Below w.heap.size w w' := by
 have hu25 := Try.underlying25
 have hu35 := Try.underlying35
 have hu85 := Try.underlying85
 have hu65 := Try.underlying65
 have hu55 := Try.underlying55
 have hu109 := Try.underlying109
 have hu110 := Try.underlying110
 have hu71 := Try.underlying71
 have HT := Aside0.mk ht
 have hn0 := ht.n0
 have hn1 := ht.n1
 clear ht
 have HB := Aside0.mk (Below.refl w.heap.size w)
 go_enter Try.func23, Try.ntmps23
 go_wp2_with (first | ((with_reducible refine gate_dst (N := 1) rfl ?_); refine sbox (N := 1) #[.slice A0 l0.length c0, .slice A1 l1.length c1, .int .i64 wg] 25 ?_; intro g1 hg W_ hbox hb; have GEg1 := Aside0.mk (by rw [hg]; exact HB.out.size : w.heap.size ≤ g1); replace HB := Aside0.mk (below_step HB.out hb); have BKg1 := Aside0.mk hbox; clear hb hbox hg; have hcz0 := sc 0 BKg1; have hcz1 := sc 1 BKg1; have hcz2 := sc 2 BKg1) | ((with_reducible refine gate_dst (N := 2) rfl ?_); refine sbox (N := 2) #[.slice none 0 0, .slice none 0 0, .int .i64 0] 35 ?_; intro g2 hg W_ hbox hb; have GEg2 := Aside0.mk (by rw [hg]; exact HB.out.size : w.heap.size ≤ g2); replace BKg1 := Aside0.mk (blk_below BKg1.out hb); replace HB := Aside0.mk (below_step HB.out hb); have BKg2 := Aside0.mk hbox; clear hb hbox hg; clear hcz0 hcz1 hcz2; have hcz0 := sc 0 BKg1; have hcz1 := sc 1 BKg1; have hcz2 := sc 2 BKg1))
 have hb := below_alloc (Below.refl W_.heap.size W_) (.cells #[.slice none 0 0, .slice none 0 0, .int .i64 wg] 35)
 have BKg3 := Aside0.mk (heap_alloc_new W_ (.cells #[.slice none 0 0, .slice none 0 0, .int .i64 wg] 35))
 have LT3 := Aside0.mk (And.intro (blk_lt BKg1.out) (blk_lt BKg2.out))
 have GE3 := Aside0.mk HB.out.size
 have GE2 := GEg2
 replace BKg1 := Aside0.mk (blk_below BKg1.out hb)
 replace BKg2 := Aside0.mk (blk_below BKg2.out hb)
 replace HB := Aside0.mk (below_step HB.out hb)
 clear hb hcz0 hcz1 hcz2
 generalize W_.alloc (.cells #[.slice none 0 0, .slice none 0 0, .int .i64 wg] 35) = W1 at *
 generalize W_.heap.size = g3 at *
 go_loopg [4] l0.length (fun kq v4 w' => ∃ (m : Nat) (v0 : Value), v4 = .int .i64 (m : Int) ∧ Aside0 (m + kq = l0.length) ∧ Aside0 (Below w.heap.size w w') ∧ Aside0 (w'.heap[g1]? = some (.cells #[.slice A0 l0.length c0, .slice A1 l1.length c1, .int .i64 wg] 25 (0, 0))) ∧ Aside0 (w'.heap[g2]? = some (.cells #[.slice none 0 0, .slice none 0 0, .int .i64 0] 35 (0, 0))) ∧ Aside0 (w'.heap[g3]? = some (.cells #[v0, .slice none 0 0, .int .i64 wg] 35 (0, 0))) ∧ Aside0 (Kd.R k109 109 w' w.heap.size (fun _ => True) v0 ((l0.take m).map cvW)))
 case atStart => exact ⟨0, .slice none 0 0, rfl, ⟨Nat.zero_add _⟩, HB, BKg1, BKg2, BKg3, ⟨Kd.R_nil _ _ _ _ _⟩⟩
 case round =>
  clear HB BKg1 BKg2 BKg3
  obtain ⟨m, v0, rfl, HM, HB, BKg1, BKg2, BKg3, HO⟩ := hrel
  obtain ⟨Av, cv, ev⟩ := Kd.R_slice HO.out
  have hlm : ((l0.take m).map cvW).length = m := by have := HM.out; simp; omega
  rw [hlm] at ev
  subst ev
  have HLM := Aside0.mk hlm
  clear hlm
  have hcz0 := sc 0 BKg1
  by_cases hlt : m < l0.length
  ·cases gk with
   | zero => have := HM.out; omega
   | succ k1 =>
   obtain ⟨ad0, e0, hx0_0, hx0_1, hx0_2⟩ := at_T85 (HT.out.below HB.out).r0 (m : Int) (by omega) (by omega)
   subst e0
   have hrd : rd_T85 l0 (m : Int) = l0.getD m z85 := rfl
   rw [hrd] at hx0_0 hx0_1 hx0_2
   simp only [Int.toNat_natCast] at hx0_0 hx0_1 hx0_2
   have HTK := Aside0.mk (cvW_take l0 m hlt)
   clear hrd
   generalize l0.getD m z85 = z at *
   have hltz : (m : Int) < (l0.length : Int) := by omega
   have hq0 : ∀ o, (wr.alloc o).cell? ⟨g3, 0, none⟩ = some (.slice Av m cv) := fun o => (blk_cell (blk_alloc BKg3.out o) 0).trans rfl
   have HLT := Aside0.mk hlt
   go_wp2_with (first | ((with_reducible refine gate_builtin (b := .append) (xs := #[.tmp 23, .tmp 34]) rfl ?_); go_must (at_builtin; refine Kd.R_append k109 (w0 := w) w.heap.size rfl (.tmp 23) (.tmp 34) 32 109 (.agg #[(.int .i64 0), (.int .i64 0), (.int .i64 0)]) 24 rfl Try.underlying32 info109 rfl (by decide) (by omega) (.slice Av m cv) ((l0.take m).map cvW) (cvW z) [.int .i64 z.f0, .int .i64 z.f1.f0, .int .i64 z.f1.f1] (fun _ => True) (fun _ => False) rfl (congrArg (fun n => Value.slice (some ⟨n, 0, none⟩) 1 1) (World.size_alloc _ _).symm) ?aP (fun _ hk => hk.elim) ?aF ?aO ?aB ?aS ?aL ?_; (case aP => exact k109_mkM _ _ _ (cvW z)); (case aB => exact (by repeat (first | exact HB.out | apply below_alloc | apply pw_below_drewN | apply below_drew1))); (case aF => exact (fun _ _ => trivial)); (case aO => exact (sR HO)); (case aS => exact (by repeat (first | exact HB.out | apply below_alloc | apply pw_below_drewN | apply below_drew1) : Below w.heap.size w _).size); (case aL => exact (by rw [HLM.out]; omega)); intro v35 W_ ho hb hg hat; have BK3_ := blk_grown (blk_alloc BKg3.out _) hg (Kd.R_ne HO.out BKg3.out (by decide)); have BK1_ := blk_grown (blk_alloc BKg1.out _) hg (Kd.R_ne HO.out BKg1.out (by decide)); have BK2_ := blk_grown (blk_alloc BKg2.out _) hg (Kd.R_ne HO.out BKg2.out (by decide)); obtain ⟨Aw, cw, ew⟩ := Kd.R_slice ho; have hf3 := blk_frozen BK3_ 0; have hx3 : W_.cell? ⟨g3, 0, none⟩ = some (.slice Av m cv) := (blk_cell BK3_ 0).trans rfl; have HBS := Aside0.mk (hb.setCell (p := ⟨g3, 0, none⟩) GE3.out v35); have BK3S := Aside0.mk (blk_put BK3_ 0 v35 rfl); have BK1S := Aside0.mk (blk_far BK1_ (p := ⟨g3, 0, none⟩) (by have := LT3.out; show g1 ≠ g3; omega) v35); have BK2S := Aside0.mk (blk_far BK2_ (p := ⟨g3, 0, none⟩) (by have := LT3.out; show g2 ≠ g3; omega) v35); have HOS := Aside0.mk (row_set (g := g3) (j := 0) ho BK3_ e109 v35); rw [List.length_append, List.length_singleton, HLM.out] at ew; subst ew; clear ho hb hg hat BK3_ BK1_ BK2_)))
   go_wp2
   go_roundg k1
   case measure => omega
   case rel => exact ⟨m + 1, _, by go_num, ⟨by have := HM.out; omega⟩, HBS, BK1S, BK2S, BK3S, ⟨by rw [HTK.out]; exact HOS.out⟩⟩
  ·obtain rfl : m = l0.length := by have := HM.out; omega
   have HOW := Aside0.mk (show Kd.R k109 109 wr w.heap.size (fun _ => True) (.slice Av l0.length cv) (l0.map cvW) from by have h_ := HO.out; rw [List.take_length] at h_; exact h_)
   have HKW := Aside0.mk (And.intro BKg1.out BKg3.out)
   have hcz1 := sc 1 BKg1
   go_wp2
   clear HO HKW hcz0 hcz1 HLM HM hlt
   go_loopg [6] l1.length (fun kq v6 w' => ∃ (m : Nat) (v1 : Value), v6 = .int .i64 (m : Int) ∧ Aside0 (m + kq = l1.length) ∧ Aside0 (Below w.heap.size w w') ∧ Aside0 (w'.heap[g1]? = some (.cells #[.slice A0 l0.length c0, .slice A1 l1.length c1, .int .i64 wg] 25 (0, 0))) ∧ Aside0 (w'.heap[g2]? = some (.cells #[.slice none 0 0, .slice none 0 0, .int .i64 0] 35 (0, 0))) ∧ Aside0 (w'.heap[g3]? = some (.cells #[.slice Av l0.length cv, v1, .int .i64 wg] 35 (0, 0))) ∧ Aside0 (Kd.R k109 109 w' w.heap.size (fun _ => True) (.slice Av l0.length cv) (l0.map cvW)) ∧ Aside0 (Kd.R k110 110 w' w.heap.size (fun _ => True) v1 ((l1.take m).map cvP)))
   case atStart => exact ⟨0, .slice none 0 0, rfl, ⟨Nat.zero_add _⟩, HB, BKg1, BKg2, BKg3, HOW, ⟨Kd.R_nil _ _ _ _ _⟩⟩
   case round =>
    clear HB BKg1 BKg2 BKg3 HOW
    obtain ⟨m, v1, rfl, HM, HB, BKg1, BKg2, BKg3, HOW, HOP⟩ := hrel
    obtain ⟨Ap, cp, ep⟩ := Kd.R_slice HOP.out
    have hlm : ((l1.take m).map cvP).length = m := by have := HM.out; simp; omega
    rw [hlm] at ep
    subst ep
    have HLM := Aside0.mk hlm
    clear hlm
    by_cases hlt : m < l1.length
    ·cases gk with
     | zero => have := HM.out; omega
     | succ k1 =>
     obtain ⟨ad1, A6, c6, e1, hy0, hy1, hl1, hi1⟩ := at_T71 HT.out.r1 (m : Int) (by omega) (by omega)
     have hrd : rd_T71 l1 (m : Int) = l1.getD m z71 := rfl
     rw [hrd] at hy0 hy1 hl1 hi1
     simp only [Int.toNat_natCast] at hy0 hy1
     have hzm : (l1.getD m z71).f0.length ≤ 30 := HT.out.ms _ (by
      rw [List.getD_eq_getElem?_getD, List.getElem?_eq_getElem hlt]
      exact List.getElem_mem hlt)
     have HTK := Aside0.mk (cvP_take l1 m hlt)
     clear hrd
     generalize l1.getD m z71 = z at *
     subst e1
     have HX := Aside0.mk (And.intro hy0 (And.intro hy1 hi1))
     have HZM := Aside0.mk (And.intro hzm hl1)
     clear hy0 hy1 hl1 hi1 hzm
     have hltz : (m : Int) < (l1.length : Int) := by omega
     have hc31 := sc 1 BKg3
     have hc11 := sc 1 BKg1
     have hcx0 := (HB.out.cell (World.block_lt_of_cell? _ _ HX.out.1)).trans HX.out.1
     have hcx1 := (HB.out.cell (World.block_lt_of_cell? _ _ HX.out.2.1)).trans HX.out.2.1
     have HLT := Aside0.mk hlt
     go_wp2_with fail
     refine start_ (n := 20) (S := fun w' => w'.cell? ⟨g3, 1, none⟩ = some (.slice Ap m cp) ∧ w'.cell? ⟨g1, 1, none⟩ = some (.slice (some ad1) l1.length c1) ∧ w'.cell? (ad1.add (m * 2)) = some (.slice A6 z.f0.length c6) ∧ w'.cell? ⟨(ad1.add (m * 2)).block, (ad1.add (m * 2)).off + 1, none⟩ = some (.int .i64 z.f1)) (ds := [19]) (lm 20 0) (by kernel_rfl) rfl (by kernel_rfl) ⟨hc31, hc11, hcx0, hcx1⟩ (fun hHeld => ?_)
     have hb := below_drew1 (Below.refl wr.heap.size wr)
     replace BKg1 := Aside0.mk (blk_below BKg1.out hb)
     replace BKg2 := Aside0.mk (blk_below BKg2.out hb)
     replace BKg3 := Aside0.mk (blk_below BKg3.out hb)
     replace HOW := Aside0.mk (Kd.R_below HOW.out hb)
     replace HOP := Aside0.mk (Kd.R_below HOP.out hb)
     replace HB := Aside0.mk (below_step HB.out hb)
     replace hc31 := (hb.cell (World.block_lt_of_cell? _ _ hc31)).trans hc31
     replace hc11 := (hb.cell (World.block_lt_of_cell? _ _ hc11)).trans hc11
     replace hcx0 := (hb.cell (World.block_lt_of_cell? _ _ hcx0)).trans hcx0
     replace hcx1 := (hb.cell (World.block_lt_of_cell? _ _ hcx1)).trans hcx1
     generalize wr.drew = W7 at *
     clear hb
     have HZ7 := Aside0.mk HB.out.size
     have HL7 := Aside0.mk (Kd.R_lt HOP.out)
     refine sP (i := 0) (N := some 44) (lm 20 1) ?_
     refine sP (i := 2) (N := some 46) (lm 20 5) ?_
     refine sP (i := 4) (N := some 48) (lm 20 21) ?_
     refine sP (i := 9) (N := some 53) (lm 20 533) ?_
     refine sP (i := 11) (N := some 55) (lm 20 2581) ?_
     refine take_ (i := 1) (N := some 45) (v := ?_) (a' := ?_) (lm 20 2583) rfl rfl (by kernel_rfl) (fun _ _ _ h => h) (Or.inl ⟨by rfl, ?_⟩) hHeld ?_ ?_
     rotate_left
     ·rintro w' ⟨s0, s1, s2, s3⟩
      go_simp
      with_reducible rfl
     rotate_left
     ·simp only [Act.put, List.setIfInBounds_toArray, List.set_cons_zero, List.set_cons_succ, i64_w, i32_w]
      rfl
     refine take_ (i := 3) (N := some 47) (v := ?_) (a' := ?_) (lm 20 2591) rfl rfl (by kernel_rfl) (fun _ _ _ h => h) (Or.inl ⟨by rfl, ?_⟩) hHeld ?_ ?_
     rotate_left
     ·rintro w' ⟨s0, s1, s2, s3⟩
      go_simp
      with_reducible rfl
     rotate_left
     ·simp only [Act.put, List.setIfInBounds_toArray, List.set_cons_zero, List.set_cons_succ, i64_w, i32_w]
      rfl
     refine sP (i := 5) (N := some 49) (lm 20 2623) ?_
     refine sP (i := 6) (N := some 50) (lm 20 2687) ?_
     refine take_ (i := 7) (N := some 51) (v := ?_) (a' := ?_) (lm 20 2815) rfl rfl (by kernel_rfl) (fun _ _ _ h => h) (Or.inl ⟨by rfl, ?_⟩) hHeld ?_ ?_
     rotate_left
     ·rintro w' ⟨s0, s1, s2, s3⟩
      go_simp
      with_reducible rfl
     rotate_left
     ·simp only [Act.put, List.setIfInBounds_toArray, List.set_cons_zero, List.set_cons_succ, i64_w, i32_w]
      rfl
     refine take_ (i := 10) (N := some 54) (v := ?_) (a' := ?_) (lm 20 3839) rfl rfl (by kernel_rfl) (fun _ _ _ h => h) (Or.inl ⟨by rfl, ?_⟩) hHeld ?_ ?_
     rotate_left
     ·rintro w' ⟨s0, s1, s2, s3⟩
      go_simp
      with_reducible rfl
     rotate_left
     ·simp only [Act.put, List.setIfInBounds_toArray, List.set_cons_zero, List.set_cons_succ, i64_w, i32_w]
      rfl
     refine sP (i := 12) (N := some 56) (lm 20 7935) ?_
     refine sP (i := 13) (N := some 57) (lm 20 16127) ?_
     refine take_ (i := 14) (N := some 58) (v := ?_) (a' := ?_) (lm 20 32511) rfl rfl (by kernel_rfl) (fun _ _ _ h => h) (Or.inl ⟨by rfl, ?_⟩) hHeld ?_ ?_
     rotate_left
     ·rintro w' ⟨s0, s1, s2, s3⟩
      go_simp
      with_reducible rfl
     rotate_left
     ·simp only [Act.put, List.setIfInBounds_toArray, List.set_cons_zero, List.set_cons_succ, i64_w, i32_w]
      rfl
     refine one_ (i := 8) (N := some 52) (lm 20 32767) rfl rfl (by kernel_rfl) (by decide) (fun K hK => ?_)
     refine goes_ Try.func41 (by kernel_rfl) rfl #[.slice A6 z.f0.length c6] (by rfl) rfl rfl (by simp only [List.map_toArray, List.map_cons, List.map_nil]; rfl) ?_
     with_reducible refine (list_calls A6 c6 z.f0 W7 (Kd.C_below HX.out.2.2 HB.out) (by have := HZM.out.1; omega)).mono ?_
     rintro e W8 ⟨v52, rfl, ho, hb⟩
     refine ⟨_, rfl, ?_⟩
     replace hc31 := (hb.cell (World.block_lt_of_cell? _ _ hc31)).trans hc31
     replace hc11 := (hb.cell (World.block_lt_of_cell? _ _ hc11)).trans hc11
     replace hcx0 := (hb.cell (World.block_lt_of_cell? _ _ hcx0)).trans hcx0
     replace hcx1 := (hb.cell (World.block_lt_of_cell? _ _ hcx1)).trans hcx1
     replace BKg1 := Aside0.mk (blk_below BKg1.out hb)
     replace BKg2 := Aside0.mk (blk_below BKg2.out hb)
     replace BKg3 := Aside0.mk (blk_below BKg3.out hb)
     replace HOW := Aside0.mk (Kd.R_below HOW.out hb)
     replace HOP := Aside0.mk (Kd.R_below HOP.out hb)
     replace HB := Aside0.mk (below_step HB.out hb)
     have HOL := Aside0.mk ho
     obtain ⟨Al, cl, el⟩ := Kd.R_slice HOL.out
     subst el
     clear ho
     clear hb
     refine hK.out _ _ ⟨hc31, hc11, hcx0, hcx1⟩ (fun hHeld => ?_)
     clear hK K
     refine sN ?_
     refine sP (i := 15) (N := some 59) (lm 20 65535) ?_
     refine one_ (i := 16) (N := some 60) (lm 20 131071) rfl rfl (by kernel_rfl) (by decide) (fun K hK => ?_)
     refine value_ (w1 := ?_) (v := ?_) (by rfl) rfl ?_ ?_
     rotate_left 2
     ·go_simp
      constructor
      ·rfl
      ·rfl
     refine hK.out _ _ ⟨((below_alloc (Below.refl _ _) _).cell (World.block_lt_of_cell? _ _ hc31)).trans hc31, ((below_alloc (Below.refl _ _) _).cell (World.block_lt_of_cell? _ _ hc11)).trans hc11, ((below_alloc (Below.refl _ _) _).cell (World.block_lt_of_cell? _ _ hcx0)).trans hcx0, ((below_alloc (Below.refl _ _) _).cell (World.block_lt_of_cell? _ _ hcx1)).trans hcx1⟩ (fun hHeld => ?_)
     clear hK K
     refine sN ?_
     refine one_ (i := 17) (N := some 61) (lm 20 262143) rfl rfl (by kernel_rfl) (by decide) (fun K hK => ?_)
     refine Kd.R_append_step k110 (w0 := w) w.heap.size (by rfl) (.tmp 45) (.tmp 60) 33 110 (.agg #[(.slice none 0 0), (.int .i64 0)]) 32 rfl Try.underlying33 info110 rfl (by decide) (by omega) (.slice Ap m cp) ((l1.take m).map cvP) (cvP z) [.slice Al z.f0.length cl, .int .i64 z.f1] (fun _ => True) (fun k => W7.heap.size ≤ k) rfl rfl ?aP ?aK ?aF ?aO ?aB ?aS ?aL ?_
     (case aP => exact k110_mkM _ _ _ (cvP z) (Kd.R_lower (Kd.R_mono (Kd.R_bound HOL.out) (fun k hk => hk.2.1)) HZ7.out))
     (case aK => exact fun k hk => ⟨trivial, fun he => by have := HL7.out k he.symm; omega⟩)
     (case aF => exact fun _ _ => trivial)
     (case aO => exact HOP.out)
     (case aB => exact HB.out)
     (case aS => exact HB.out.size)
     (case aL => rw [HLM.out]; omega)
     intro v61 W4 ho hb hg hat
     obtain ⟨Aw, cw, ew⟩ := Kd.R_slice ho
     have BK3_ := Aside0.mk (blk_grown BKg3.out hg (Kd.R_ne HOP.out BKg3.out (by decide)))
     have BK1_ := Aside0.mk (blk_grown BKg1.out hg (Kd.R_ne HOP.out BKg1.out (by decide)))
     have BK2_ := Aside0.mk (blk_grown BKg2.out hg (Kd.R_ne HOP.out BKg2.out (by decide)))
     have HOW_ := Aside0.mk (show Kd.R k109 109 W4 w.heap.size (fun _ => True) (.slice Av l0.length cv) (l0.map cvW) from Kd.R_mono (Kd.R_grown (Kd.R_bound HOW.out) hg (fun k hk he => by obtain ⟨_, _, _, q, hq, cells, hc⟩ := hk; obtain ⟨inner, hown⟩ := Kd.R_own HOP.out; obtain ⟨cells2, hc2⟩ := own_typed hown k he.symm; rw [hc] at hc2; injection hc2 with hc2; injection hc2 with _ hc2; exact (e109b q hq) hc2)) (fun _ _ => trivial))
     have HOS_ := Aside0.mk ho
     have HBS_ := Aside0.mk hb
     rw [List.length_append, List.length_singleton, HLM.out] at ew
     subst ew
     clear ho hb hg hat
     refine hK.out _ _ ⟨(blk_cell BK3_.out 1).trans rfl, (blk_cell BK1_.out 1).trans rfl, (HBS_.out.cell (World.block_lt_of_cell? _ _ HX.out.1)).trans HX.out.1, (HBS_.out.cell (World.block_lt_of_cell? _ _ HX.out.2.1)).trans HX.out.2.1⟩ (fun hHeld => ?_)
     clear hK K
     refine sN ?_
     refine sP (i := 18) (N := some 62) (lm 20 524287) ?_
     refine last_ (i := 19) (N := none) (lm 20 1048575) rfl rfl (by kernel_rfl) (by decide) (fun K hK => ?_)
     have hf3 := blk_frozen BK3_.out 1
     have hx3 := sc 1 BK3_
     refine skip_ (w1 := ?_) (by rfl) rfl ?_ ?_
     rotate_left
     ·go_simp
      rfl
     have HBS := Aside0.mk (HBS_.out.setCell (p := ⟨g3, 1, none⟩) GE3.out (.slice Aw (m + 1) cw))
     have BK3S := Aside0.mk (blk_put BK3_.out 1 (.slice Aw (m + 1) cw) rfl)
     have BK1S := Aside0.mk (blk_far BK1_.out (p := ⟨g3, 1, none⟩) (by have := LT3.out; show g1 ≠ g3; omega) (.slice Aw (m + 1) cw))
     have BK2S := Aside0.mk (blk_far BK2_.out (p := ⟨g3, 1, none⟩) (by have := LT3.out; show g2 ≠ g3; omega) (.slice Aw (m + 1) cw))
     have HOS := Aside0.mk (row_set (g := g3) (j := 1) HOS_.out BK3_.out e110 (.slice Aw (m + 1) cw))
     have HOWS := Aside0.mk (row_set (g := g3) (j := 1) HOW_.out BK3_.out e109 (.slice Aw (m + 1) cw))
     refine hK.out _ _ ?_
     clear hK K
     refine done_ (by kernel_rfl) ?_
     go_wp2
     go_roundg k1
     case measure => omega
     case rel => exact ⟨m + 1, _, by go_num, ⟨by have := HM.out; omega⟩, HBS, BK1S, BK2S, BK3S, HOWS, ⟨by rw [HTK.out]; exact HOS.out⟩⟩
    ·obtain rfl : m = l1.length := by have := HM.out; omega
     have hc1 := sc 1 BKg1
     have hd0 := sc 0 BKg3
     have hd1 := sc 1 BKg3
     have hd2 := sc 2 BKg3
     go_wp2_with (first | ((with_reducible refine gate_store (t := 35) (p := 2) rfl ?_); go_must (refine wpList_store_row rfl 35 _ _ rfl g2 #[.slice Av l0.length cv, .slice Ap l1.length cp, .int .i64 wg] rfl rfl 35 (#[.slice none 0 0, .slice none 0 0, .int .i64 0]) BKg2.out rfl rfl (by simp [Value.oneCell']) ?_; have HB9 := Aside0.mk (below_setRow HB.out GE2.out (#[.slice Av l0.length cv, .slice Ap l1.length cp, .int .i64 wg])); have BK9 := Aside0.mk (setRow_heap wr g2 _ (#[.slice Av l0.length cv, .slice Ap l1.length cp, .int .i64 wg]) _ _ BKg2.out); have HOW9 := Aside0.mk (row_setRow HOW.out BKg2.out e109 (#[.slice Av l0.length cv, .slice Ap l1.length cp, .int .i64 wg])); have HOP9 := Aside0.mk (row_setRow HOP.out BKg2.out e110 (#[.slice Av l0.length cv, .slice Ap l1.length cp, .int .i64 wg])); generalize wr.setRow g2 (#[.slice Av l0.length cv, .slice Ap l1.length cp, .int .i64 wg]) = W9 at *)))
     refine bodyPost_ret (results_cell_row rfl _ _ g2 35 #[.slice Av l0.length cv, .slice Ap l1.length cp, .int .i64 wg] (0, 0) _ rfl BK9.out Try.underlying35 rfl (by kernel_rfl)) rfl ?_
     have HOP10 : Kd.R k110 110 W9 w.heap.size (fun _ => True) (.slice Ap l1.length cp) (l1.map cvP) := by have h_ := HOP9.out; rw [List.take_length] at h_; exact h_
     have hw0 : Kd.C k109 W9 Av l0.length (l0.map cvW) := by have h_ := (Kd.R_reads' HOW9.out).2.2; rw [List.length_map] at h_; exact h_
     have hw1 : Kd.C k110 W9 Ap l1.length (l1.map cvP) := by have h_ := HOP9.out; rw [List.take_length] at h_; have h2_ := (Kd.R_reads' h_).2.2; rw [List.length_map] at h2_; exact h2_
     refine ⟨Av, cv, Ap, cp, rfl, ⟨by rw [List.length_map]; exact hw0, by rw [List.length_map]; exact (Kd.R_reads' HOW9.out).2.1, by rw [List.length_map]; exact hw1, by rw [List.length_map]; exact (Kd.R_reads' HOP9.out).2.1, by rw [List.length_map]; exact HT.out.n0, by rw [List.length_map]; exact HT.out.n1, fun p hp => ?_⟩, HOW9.out, HOP10, HB9.out⟩
     obtain ⟨x, hx, rfl⟩ := List.mem_map.1 hp
     exact HT.out.ms x hx
end Go.Proofs.Ytnbbbeghgomnoaa.X
namespace Go.Proofs.Ytnbbbeghgomnoaa.X
open Go.RowKit
def t3w (a c : Int) : List S109 := [⟨1, ⟨a, a⟩⟩, ⟨1, ⟨1, 2⟩⟩, ⟨2, ⟨c, c⟩⟩]
def t3p : List S110 := [⟨[1], 0⟩, ⟨[1, 2], 0⟩, ⟨[1], 1⟩, ⟨[2], 1⟩]
theorem t_check1 : checkT (t3w 2 1) t3p 0 = 0 := by decide
theorem t_check2 : checkT (t3w 2 0) t3p 0 = 0 := by decide
theorem t_check3 : checkT (t3w 4 0) t3p 0 = 0 := by decide
theorem t_ask : askE (t3w 2 1) t3p 0 = 0 := by decide
theorem t_are : areB (t3w 2 1) t3p [0, 0, 1, 2] = true := by decide
theorem t_own : ownL (t3w 2 1).length t3p.length (pad [0, 0, 1, 2]) = [2, 1, 1] := by decide
theorem t_off : sel (off t3p (pad [0, 0, 1, 2])) t3p.length = [3] := by decide
theorem t_truths : truthsL (t3w 2 1) t3p 0 = [[0, 0, 1, 2], [0, 1, 0, 2], [1, 0, 0, 2]] := by decide
theorem t_whose : whoseL (t3w 2 1).length t3p.length (truthsL (t3w 2 1) t3p 0) = [[0, 1], [0, 1], [0, 1], [2]] := by rw [t_truths]; decide
theorem t_bounds : boundsL (fun x => lostN t3p (pad x)) (truthsL (t3w 2 1) t3p 0) = (1, 3) := by rw [t_truths]; decide
theorem t_best : bestL t3p (truthsL (t3w 2 1) t3p 0) = [0, 0, 1, 2] := by rw [t_truths]; decide
theorem t_moves : movesL t3p [0, 0, 1, 2] = [⟨3, 1, 2⟩] := by
 unfold movesL
 rw [t_off]
 rfl
theorem t_miss : missL t3p (truthsL (t3w 2 1) t3p 0) (t3w 2 1).length = [3, 3, 1] := by rw [t_truths]; decide
theorem t_look : lookL (t3w 2 1).length t3p.length (truthsL (t3w 2 1) t3p 0) t3p.length = (0, 2) := by rw [t_truths]; decide
theorem t_first : firstL (t3w 2 0) t3p = (2, 0) := by decide
theorem t_leave : leaveL (t3w 4 0) t3p = [0, 2] := by decide
end Go.Proofs.Ytnbbbeghgomnoaa.X
namespace Go.Proofs.Ytnbbbeghgomnoaa.X
open Go.RowKit Go.Proofs.YtnbbbeghgomnoaaW.PrintWords Go.Proofs.YtnbbbeghgomnoaaW.PrintLast Go.Proofs.YtnbbbeghgomnoaaW.PrintMore
attribute [local go_sem] max2_int min2_int max_two min_two max_three min_three max_four min_four
set_option linter.unusedVariables false
set_option linter.unusedSimpArgs false
def posserlaw03_between.f (a0 : Int) (a1 : Int) : Option (Int × Int) := some (a0, a1)
set_option maxHeartbeats 8000000 in
set_option maxRecDepth 100000 in
theorem posserlaw03_between.calls (a0 : Int) (a1 : Int) (r1 : Int) (r2 : Int) (w : World) (h : posserlaw03_between.f a0 a1 = some (r1, r2)) :
  Calls Try.prog 46 #[.int .i64 a0, .int .i64 a1] w fun e w' => e = .returned (.agg #[.int .i64 r1, .int .i64 r2]) ∧ Below w.heap.size w w' := by
 have hu55 := Try.underlying55
 have HB := Aside0.mk (Below.refl w.heap.size w)
 have H : (some (a0, a1)) = some (r1, r2) := h
 clear h
 simp only [Option.some.injEq, Prod.mk.injEq] at H
 obtain ⟨rfl, rfl⟩ := H
 go_enter Try.func46, Try.ntmps46
 go_wp2_with (first | ((with_reducible refine gate_dst (N := 4) rfl ?_); refine sbox (N := 4) #[.int .i64 0, .int .i64 0] 55 ?_; intro gb358 hg w3 hbox hb; have BK358 := Aside0.mk (hbox); have GW358 := Aside0.mk (sge hg HB : w.heap.size ≤ gb358); have GE358 := Aside0.mk (sge hg HB : w.heap.size ≤ gb358); replace HB := Aside0.mk (sbs HB hb); clear hb hbox hg; have hcz4_0 := sc 0 BK358; have hcz4_1 := sc 1 BK358; have hfz4_0 := blk_frozen BK358.out 0; have hfz4_1 := blk_frozen BK358.out 1))
 refine bodyPost_ret (results_cell_row rfl _ _ gb358 55 #[.int .i64 a0, .int .i64 a1] (0, 0) _ rfl (by (with_reducible repeat (first | refine blk_drewN ?_ _ | refine blk_drew ?_ | refine blk_alloc ?_ _)); refine blk_put (cs := #[.int .i64 a0, .int .i64 0]) ?_ 1 _ rfl; (with_reducible repeat (first | refine blk_drewN ?_ _ | refine blk_drew ?_ | refine blk_alloc ?_ _)); refine blk_put (cs := #[.int .i64 0, .int .i64 0]) ?_ 0 _ rfl; (with_reducible repeat (first | refine blk_drewN ?_ _ | refine blk_drew ?_ | refine blk_alloc ?_ _)); exact BK358.out) Try.underlying55 rfl (by kernel_rfl)) rfl ?_
 exact ⟨by first | rfl | (simp [errW_none, errW_some] <;> rfl) | (simp [*, errW_none, errW_some] <;> rfl), (sbe1 HB GE358)⟩
end Go.Proofs.Ytnbbbeghgomnoaa.X
namespace Go.Proofs.Ytnbbbeghgomnoaa.X
open Go.RowKit Go.Proofs.YtnbbbeghgomnoaaW.PrintWords Go.Proofs.YtnbbbeghgomnoaaW.PrintLast Go.Proofs.YtnbbbeghgomnoaaW.PrintMore
attribute [local go_sem] max2_int min2_int max_two min_two max_three min_three max_four min_four
set_option linter.unusedVariables false
set_option linter.unusedSimpArgs false
def posserlaw03_three.f (a0 : Int) (a1 : Int) (a2 : Int) : Option ((List (S109)) × (List (S110)) × Int) := (posserlaw03_between.f a0 a0).bind fun bt1372 => ((posserlaw03_between.f 1 2).bind fun bt1374 => ((posserlaw03_between.f a1 a1).bind fun bt1376 => (some ((([(⟨1, (⟨bt1372.1, bt1372.2⟩ : S55)⟩ : S109), (⟨1, (⟨bt1374.1, bt1374.2⟩ : S55)⟩ : S109), (⟨2, (⟨bt1376.1, bt1376.2⟩ : S55)⟩ : S109)] : List (S109))), (([(⟨(([1] : List Int)), 0⟩ : S110), (⟨(([1, 2] : List Int)), 0⟩ : S110), (⟨(([1] : List Int)), 1⟩ : S110), (⟨(([2] : List Int)), 1⟩ : S110)] : List (S110))), a2))))
set_option maxHeartbeats 8000000 in
set_option maxRecDepth 100000 in
theorem posserlaw03_three.calls (a0 : Int) (a1 : Int) (a2 : Int) (r1 : List (S109)) (r2 : List (S110)) (r3 : Int) (w : World) (h : posserlaw03_three.f a0 a1 a2 = some (r1, r2, r3)) :
  Calls Try.prog 66 #[.int .i64 a0, .int .i64 a1, .int .i64 a2] w fun e w' => ∃ v0_ v1_ : Value, e = .returned (.agg #[v0_, v1_, .int .i64 r3]) ∧ Kd.R k109 109 w' w.heap.size (fun k_ => (w.heap.size ≤ k_)) v0_ r1 ∧ Kd.N k110 110 w' w.heap.size (fun k_ => (w.heap.size ≤ k_) ∧ some k_ ≠ (v0_ : Value).ownBlock) v1_ r2 ∧ Below w.heap.size w w' := by
 have hu35 := Try.underlying35
 have hu109 := Try.underlying109
 have hu110 := Try.underlying110
 have HB := Aside0.mk (Below.refl w.heap.size w)
 have H : ((posserlaw03_between.f a0 a0).bind fun bt1372 => ((posserlaw03_between.f 1 2).bind fun bt1374 => ((posserlaw03_between.f a1 a1).bind fun bt1376 => (some ((([(⟨1, (⟨bt1372.1, bt1372.2⟩ : S55)⟩ : S109), (⟨1, (⟨bt1374.1, bt1374.2⟩ : S55)⟩ : S109), (⟨2, (⟨bt1376.1, bt1376.2⟩ : S55)⟩ : S109)] : List (S109))), (([(⟨(([1] : List Int)), 0⟩ : S110), (⟨(([1, 2] : List Int)), 0⟩ : S110), (⟨(([1] : List Int)), 1⟩ : S110), (⟨(([2] : List Int)), 1⟩ : S110)] : List (S110))), a2))))) = some (r1, r2, r3) := h
 clear h
 replace H := Option.bind_eq_some_iff.mp H
 obtain ⟨⟨t1372, t1373⟩, A40, H⟩ := H
 replace H : ((posserlaw03_between.f 1 2).bind fun bt1374 => ((posserlaw03_between.f a1 a1).bind fun bt1376 => (some ((([(⟨1, (⟨t1372, t1373⟩ : S55)⟩ : S109), (⟨1, (⟨bt1374.1, bt1374.2⟩ : S55)⟩ : S109), (⟨2, (⟨bt1376.1, bt1376.2⟩ : S55)⟩ : S109)] : List (S109))), (([(⟨(([1] : List Int)), 0⟩ : S110), (⟨(([1, 2] : List Int)), 0⟩ : S110), (⟨(([1] : List Int)), 1⟩ : S110), (⟨(([2] : List Int)), 1⟩ : S110)] : List (S110))), a2)))) = some (r1, r2, r3) := H
 have A4 := Aside0.mk A40
 clear A40
 replace H := Option.bind_eq_some_iff.mp H
 obtain ⟨⟨t1374, t1375⟩, A50, H⟩ := H
 replace H : ((posserlaw03_between.f a1 a1).bind fun bt1376 => (some ((([(⟨1, (⟨t1372, t1373⟩ : S55)⟩ : S109), (⟨1, (⟨t1374, t1375⟩ : S55)⟩ : S109), (⟨2, (⟨bt1376.1, bt1376.2⟩ : S55)⟩ : S109)] : List (S109))), (([(⟨(([1] : List Int)), 0⟩ : S110), (⟨(([1, 2] : List Int)), 0⟩ : S110), (⟨(([1] : List Int)), 1⟩ : S110), (⟨(([2] : List Int)), 1⟩ : S110)] : List (S110))), a2))) = some (r1, r2, r3) := H
 have A5 := Aside0.mk A50
 clear A50
 replace H := Option.bind_eq_some_iff.mp H
 obtain ⟨⟨t1376, t1377⟩, A60, H⟩ := H
 replace H : (some ((([(⟨1, (⟨t1372, t1373⟩ : S55)⟩ : S109), (⟨1, (⟨t1374, t1375⟩ : S55)⟩ : S109), (⟨2, (⟨t1376, t1377⟩ : S55)⟩ : S109)] : List (S109))), (([(⟨(([1] : List Int)), 0⟩ : S110), (⟨(([1, 2] : List Int)), 0⟩ : S110), (⟨(([1] : List Int)), 1⟩ : S110), (⟨(([2] : List Int)), 1⟩ : S110)] : List (S110))), a2)) = some (r1, r2, r3) := H
 have A6 := Aside0.mk A60
 clear A60
 obtain ⟨y1378, hy1378⟩ : ∃ y_ : List (S109), y_ = (([(⟨1, (⟨t1372, t1373⟩ : S55)⟩ : S109), (⟨1, (⟨t1374, t1375⟩ : S55)⟩ : S109), (⟨2, (⟨t1376, t1377⟩ : S55)⟩ : S109)] : List (S109))) := ⟨_, rfl⟩
 replace H : (some (y1378, (([(⟨(([1] : List Int)), 0⟩ : S110), (⟨(([1, 2] : List Int)), 0⟩ : S110), (⟨(([1] : List Int)), 1⟩ : S110), (⟨(([2] : List Int)), 1⟩ : S110)] : List (S110))), a2)) = some (r1, r2, r3) := by first | (rw [hy1378]; with_reducible exact H) | (have H2_ := (Option.bind_some _ _).symm.trans H; rw [hy1378]; with_reducible exact H2_) | (have H2_ := (Option.bind_some _ _).symm.trans H; with_reducible exact H2_) | with_reducible exact H | (rw [hy1378]; exact H) | exact H
 have Ny1378 := Aside0.mk hy1378
 clear hy1378
 obtain ⟨y1381, hy1381⟩ : ∃ y_ : List Int, y_ = (([1] : List Int)) := ⟨_, rfl⟩
 replace H : (some (y1378, (([(⟨y1381, 0⟩ : S110), (⟨(([1, 2] : List Int)), 0⟩ : S110), (⟨(([1] : List Int)), 1⟩ : S110), (⟨(([2] : List Int)), 1⟩ : S110)] : List (S110))), a2)) = some (r1, r2, r3) := by first | (rw [hy1381]; with_reducible exact H) | (have H2_ := (Option.bind_some _ _).symm.trans H; rw [hy1381]; with_reducible exact H2_) | (have H2_ := (Option.bind_some _ _).symm.trans H; with_reducible exact H2_) | with_reducible exact H | (rw [hy1381]; exact H) | exact H
 have Ny1381 := Aside0.mk hy1381
 clear hy1381
 obtain ⟨y1384, hy1384⟩ : ∃ y_ : List Int, y_ = (([1, 2] : List Int)) := ⟨_, rfl⟩
 replace H : (some (y1378, (([(⟨y1381, 0⟩ : S110), (⟨y1384, 0⟩ : S110), (⟨(([1] : List Int)), 1⟩ : S110), (⟨(([2] : List Int)), 1⟩ : S110)] : List (S110))), a2)) = some (r1, r2, r3) := by first | (rw [hy1384]; with_reducible exact H) | (have H2_ := (Option.bind_some _ _).symm.trans H; rw [hy1384]; with_reducible exact H2_) | (have H2_ := (Option.bind_some _ _).symm.trans H; with_reducible exact H2_) | with_reducible exact H | (rw [hy1384]; exact H) | exact H
 have Ny1384 := Aside0.mk hy1384
 clear hy1384
 obtain ⟨y1387, hy1387⟩ : ∃ y_ : List Int, y_ = (([1] : List Int)) := ⟨_, rfl⟩
 replace H : (some (y1378, (([(⟨y1381, 0⟩ : S110), (⟨y1384, 0⟩ : S110), (⟨y1387, 1⟩ : S110), (⟨(([2] : List Int)), 1⟩ : S110)] : List (S110))), a2)) = some (r1, r2, r3) := by first | (rw [hy1387]; with_reducible exact H) | (have H2_ := (Option.bind_some _ _).symm.trans H; rw [hy1387]; with_reducible exact H2_) | (have H2_ := (Option.bind_some _ _).symm.trans H; with_reducible exact H2_) | with_reducible exact H | (rw [hy1387]; exact H) | exact H
 have Ny1387 := Aside0.mk hy1387
 clear hy1387
 obtain ⟨y1390, hy1390⟩ : ∃ y_ : List Int, y_ = (([2] : List Int)) := ⟨_, rfl⟩
 replace H : (some (y1378, (([(⟨y1381, 0⟩ : S110), (⟨y1384, 0⟩ : S110), (⟨y1387, 1⟩ : S110), (⟨y1390, 1⟩ : S110)] : List (S110))), a2)) = some (r1, r2, r3) := by first | (rw [hy1390]; with_reducible exact H) | (have H2_ := (Option.bind_some _ _).symm.trans H; rw [hy1390]; with_reducible exact H2_) | (have H2_ := (Option.bind_some _ _).symm.trans H; with_reducible exact H2_) | with_reducible exact H | (rw [hy1390]; exact H) | exact H
 have Ny1390 := Aside0.mk hy1390
 clear hy1390
 obtain ⟨y1393, hy1393⟩ : ∃ y_ : List (S110), y_ = (([(⟨y1381, 0⟩ : S110), (⟨y1384, 0⟩ : S110), (⟨y1387, 1⟩ : S110), (⟨y1390, 1⟩ : S110)] : List (S110))) := ⟨_, rfl⟩
 replace H : (some (y1378, y1393, a2)) = some (r1, r2, r3) := by first | (rw [hy1393]; with_reducible exact H) | (have H2_ := (Option.bind_some _ _).symm.trans H; rw [hy1393]; with_reducible exact H2_) | (have H2_ := (Option.bind_some _ _).symm.trans H; with_reducible exact H2_) | with_reducible exact H | (rw [hy1393]; exact H) | exact H
 have Ny1393 := Aside0.mk hy1393
 clear hy1393
 simp only [Option.some.injEq, Prod.mk.injEq] at H
 obtain ⟨rfl, rfl, rfl⟩ := H
 go_enter Try.func66, Try.ntmps66
 go_wp2_with (first | ((with_reducible refine gate_dst (N := 6) rfl ?_); refine sbox (N := 6) #[.slice none 0 0, .slice none 0 0, .int .i64 0] 35 ?_; intro gb1371 hg w7 hbox hb; have BK1371 := Aside0.mk (hbox); have GW1371 := Aside0.mk (sge hg HB : w.heap.size ≤ gb1371); have GE1371 := Aside0.mk (sge hg HB : w.heap.size ≤ gb1371); replace HB := Aside0.mk (sbs HB hb); clear hb hbox hg) | ((with_reducible refine gate_callee (f := 46) rfl ?_); refine goesL_ (some 9) rfl rfl Try.func46 (by kernel_rfl) rfl #[.int .i64 a0, .int .i64 a0] rfl (by (try simp only [List.map_toArray, List.map_cons, List.map_nil]); first | done | rfl | (simp only [List.length_drop, List.length_take]; rfl)) ?_; (with_reducible refine (posserlaw03_between.calls a0 a0 t1372 t1373 _ A4.out).mono ?_); rintro e w8 ⟨rfl, hb⟩; refine ⟨_, rfl, ?_⟩; replace BK1371 := Aside0.mk (sbb BK1371 hb); replace HB := Aside0.mk (sbs1 HB GE1371 hb); (try clear hb); (try clear hb2); (try clear hk); (try clear hi)) | ((with_reducible refine gate_callee (f := 46) rfl ?_); refine goesL_ (some 11) rfl rfl Try.func46 (by kernel_rfl) rfl #[.int .i64 1, .int .i64 2] rfl (by (try simp only [List.map_toArray, List.map_cons, List.map_nil]); first | done | rfl | (simp only [List.length_drop, List.length_take]; rfl)) ?_; (with_reducible refine (posserlaw03_between.calls 1 2 t1374 t1375 _ A5.out).mono ?_); rintro e w9 ⟨rfl, hb⟩; refine ⟨_, rfl, ?_⟩; replace BK1371 := Aside0.mk (sbb BK1371 hb); replace HB := Aside0.mk (sbs1 HB GE1371 hb); (try clear hb); (try clear hb2); (try clear hk); (try clear hi)) | ((with_reducible refine gate_callee (f := 46) rfl ?_); refine goesL_ (some 15) rfl rfl Try.func46 (by kernel_rfl) rfl #[.int .i64 a1, .int .i64 a1] rfl (by (try simp only [List.map_toArray, List.map_cons, List.map_nil]); first | done | rfl | (simp only [List.length_drop, List.length_take]; rfl)) ?_; (with_reducible refine (posserlaw03_between.calls a1 a1 t1376 t1377 _ A6.out).mono ?_); rintro e w10 ⟨rfl, hb⟩; refine ⟨_, rfl, ?_⟩; replace BK1371 := Aside0.mk (sbb BK1371 hb); replace HB := Aside0.mk (sbs1 HB GE1371 hb); (try clear hb); (try clear hb2); (try clear hk); (try clear hi)) | ((with_reducible refine gate_dst (N := 17) rfl ?_); refine Kd.R_lit k109 _ 109 ?hg (N := 17) ?hd (xs := ([(⟨1, (⟨t1372, t1373⟩ : S55)⟩ : S109), (⟨1, (⟨t1374, t1375⟩ : S55)⟩ : S109), (⟨2, (⟨t1376, t1377⟩ : S55)⟩ : S109)] : List (S109))) (inner := [.int .i64 1, .int .i64 t1372, .int .i64 t1373, .int .i64 1, .int .i64 t1374, .int .i64 t1375, .int .i64 2, .int .i64 t1376, .int .i64 t1377]) (ok := fun _ => True) (okp := fun _ => True) ?hr ?hp (fun _ hk => hk) trivial (Below.refl _ _) (Nat.le_refl _) (by simp) ?_; (case hd => rfl); (case hg => rfl); (case hr => first | (go_simp; done) | (go_simp; rfl)); (case hp => exact (Reps.c3 (show Kd.M k109 _ _ _ (⟨1, (⟨t1372, t1373⟩ : S55)⟩ : S109) [.int .i64 1, .int .i64 t1372, .int .i64 t1373] from (k109_mkM _ _ _ (⟨1, (⟨t1372, t1373⟩ : S55)⟩ : S109) )) (Reps.c3 (show Kd.M k109 _ _ _ (⟨1, (⟨t1374, t1375⟩ : S55)⟩ : S109) [.int .i64 1, .int .i64 t1374, .int .i64 t1375] from (k109_mkM _ _ _ (⟨1, (⟨t1374, t1375⟩ : S55)⟩ : S109) )) (Reps.c3 (show Kd.M k109 _ _ _ (⟨2, (⟨t1376, t1377⟩ : S55)⟩ : S109) [.int .i64 2, .int .i64 t1376, .int .i64 t1377] from (k109_mkM _ _ _ (⟨2, (⟨t1376, t1377⟩ : S55)⟩ : S109) )) (Reps.none _ _))))); intro v1379 w11 ho12 hb hg_ hnew_; clear hg_ hnew_; (first | rw [← Ny1378.out] at ho12 | (simp only [Int.reduceToNat] at ho12; rw [← Ny1378.out] at ho12)); have HO1380 := Aside0.mk (Kd.R_lower (Kd.R_newM (M := fun k_ => (w.heap.size ≤ k_)) ho12 (below_size (sbe1 HB GE1371)) (fun k_ h_ => h_)) (below_size (sbe1 HB GE1371))); replace BK1371 := Aside0.mk (sbb BK1371 hb); replace HB := Aside0.mk (sbs1 HB GE1371 hb); clear hb ho12) | ((with_reducible refine gate_dst (N := 18) rfl ?_); refine Kd.R_lit (Kd.int .i64) _ 3 ?hg (N := 18) ?hd (xs := ([1] : List Int)) (inner := [.int .i64 1]) (ok := fun _ => True) (okp := fun _ => True) ?hr ?hp (fun _ hk => hk) trivial (Below.refl _ _) (Nat.le_refl _) (by simp) ?_; (case hd => rfl); (case hg => rfl); (case hr => first | (go_simp; done) | (go_simp; rfl)); (case hp => exact (Reps.one (show Kd.M (Kd.int .i64) _ _ _ 1 [.int .i64 1] from rfl) (Reps.none _ _))); intro v1382 w13 ho14 hb hg_ hnew_; clear hg_ hnew_; (first | rw [← Ny1381.out] at ho14 | (simp only [Int.reduceToNat] at ho14; rw [← Ny1381.out] at ho14)); have HO1383 := Aside0.mk (Kd.R_lower (Kd.R_newM (M := fun k_ => (w.heap.size ≤ k_)) ho14 (below_size (sbe1 HB GE1371)) (fun k_ h_ => h_)) (below_size (sbe1 HB GE1371))); replace HO1380 := Aside0.mk (Kd.R_below (sR HO1380) hb); replace BK1371 := Aside0.mk (sbb BK1371 hb); replace HB := Aside0.mk (sbs1 HB GE1371 hb); clear hb ho14; obtain ⟨Ao15, co15, eo15⟩ := Kd.R_slice HO1383.out; subst eo15) | ((with_reducible refine gate_dst (N := 20) rfl ?_); refine Kd.R_lit (Kd.int .i64) _ 3 ?hg (N := 20) ?hd (xs := ([1, 2] : List Int)) (inner := [.int .i64 1, .int .i64 2]) (ok := fun _ => True) (okp := fun _ => True) ?hr ?hp (fun _ hk => hk) trivial (Below.refl _ _) (Nat.le_refl _) (by simp) ?_; (case hd => rfl); (case hg => rfl); (case hr => first | (go_simp; done) | (go_simp; rfl)); (case hp => exact (Reps.one (show Kd.M (Kd.int .i64) _ _ _ 1 [.int .i64 1] from rfl) (Reps.one (show Kd.M (Kd.int .i64) _ _ _ 2 [.int .i64 2] from rfl) (Reps.none _ _)))); intro v1385 w16 ho17 hb hg_ hnew_; clear hg_ hnew_; (first | rw [← Ny1384.out] at ho17 | (simp only [Int.reduceToNat] at ho17; rw [← Ny1384.out] at ho17)); have HO1386 := Aside0.mk (Kd.R_lower (Kd.R_new' (Kd.R_newM (M := fun k_ => (w.heap.size ≤ k_)) ho17 (below_size (sbe1 HB GE1371)) (fun k_ h_ => h_)) (Kd.R_lt (sR HO1383))) (below_size (sbe1 HB GE1371))); replace HO1380 := Aside0.mk (Kd.R_below (sR HO1380) hb); replace HO1383 := Aside0.mk (Kd.R_elder' (sR HO1383) (Kd.R_base ho17) hb); replace BK1371 := Aside0.mk (sbb BK1371 hb); replace HB := Aside0.mk (sbs1 HB GE1371 hb); clear hb ho17; obtain ⟨Ao18, co18, eo18⟩ := Kd.R_slice HO1386.out; subst eo18) | ((with_reducible refine gate_dst (N := 22) rfl ?_); refine Kd.R_lit (Kd.int .i64) _ 3 ?hg (N := 22) ?hd (xs := ([1] : List Int)) (inner := [.int .i64 1]) (ok := fun _ => True) (okp := fun _ => True) ?hr ?hp (fun _ hk => hk) trivial (Below.refl _ _) (Nat.le_refl _) (by simp) ?_; (case hd => rfl); (case hg => rfl); (case hr => first | (go_simp; done) | (go_simp; rfl)); (case hp => exact (Reps.one (show Kd.M (Kd.int .i64) _ _ _ 1 [.int .i64 1] from rfl) (Reps.none _ _))); intro v1388 w19 ho20 hb hg_ hnew_; clear hg_ hnew_; (first | rw [← Ny1387.out] at ho20 | (simp only [Int.reduceToNat] at ho20; rw [← Ny1387.out] at ho20)); have HO1389 := Aside0.mk (Kd.R_lower (Kd.R_new' (Kd.R_new' (Kd.R_newM (M := fun k_ => (w.heap.size ≤ k_)) ho20 (below_size (sbe1 HB GE1371)) (fun k_ h_ => h_)) (Kd.R_lt (sR HO1383))) (Kd.R_lt (sR HO1386))) (below_size (sbe1 HB GE1371))); replace HO1380 := Aside0.mk (Kd.R_below (sR HO1380) hb); replace HO1383 := Aside0.mk (Kd.R_elder' (sR HO1383) (Kd.R_base ho20) hb); replace HO1386 := Aside0.mk (Kd.R_elder' (sR HO1386) (Kd.R_base ho20) hb); replace BK1371 := Aside0.mk (sbb BK1371 hb); replace HB := Aside0.mk (sbs1 HB GE1371 hb); clear hb ho20; obtain ⟨Ao21, co21, eo21⟩ := Kd.R_slice HO1389.out; subst eo21) | ((with_reducible refine gate_dst (N := 24) rfl ?_); refine Kd.R_lit (Kd.int .i64) _ 3 ?hg (N := 24) ?hd (xs := ([2] : List Int)) (inner := [.int .i64 2]) (ok := fun _ => True) (okp := fun _ => True) ?hr ?hp (fun _ hk => hk) trivial (Below.refl _ _) (Nat.le_refl _) (by simp) ?_; (case hd => rfl); (case hg => rfl); (case hr => first | (go_simp; done) | (go_simp; rfl)); (case hp => exact (Reps.one (show Kd.M (Kd.int .i64) _ _ _ 2 [.int .i64 2] from rfl) (Reps.none _ _))); intro v1391 w22 ho23 hb hg_ hnew_; clear hg_ hnew_; (first | rw [← Ny1390.out] at ho23 | (simp only [Int.reduceToNat] at ho23; rw [← Ny1390.out] at ho23)); have HO1392 := Aside0.mk (Kd.R_lower (Kd.R_new' (Kd.R_new' (Kd.R_new' (Kd.R_newM (M := fun k_ => (w.heap.size ≤ k_)) ho23 (below_size (sbe1 HB GE1371)) (fun k_ h_ => h_)) (Kd.R_lt (sR HO1383))) (Kd.R_lt (sR HO1386))) (Kd.R_lt (sR HO1389))) (below_size (sbe1 HB GE1371))); replace HO1380 := Aside0.mk (Kd.R_below (sR HO1380) hb); replace HO1383 := Aside0.mk (Kd.R_elder' (sR HO1383) (Kd.R_base ho23) hb); replace HO1386 := Aside0.mk (Kd.R_elder' (sR HO1386) (Kd.R_base ho23) hb); replace HO1389 := Aside0.mk (Kd.R_elder' (sR HO1389) (Kd.R_base ho23) hb); replace BK1371 := Aside0.mk (sbb BK1371 hb); replace HB := Aside0.mk (sbs1 HB GE1371 hb); clear hb ho23; obtain ⟨Ao24, co24, eo24⟩ := Kd.R_slice HO1392.out; subst eo24) | ((with_reducible refine gate_dst (N := 26) rfl ?_); refine Kd.N_lit k110 _ 110 ?hg (N' := 26) ?hd (xs := ([(⟨y1381, 0⟩ : S110), (⟨y1384, 0⟩ : S110), (⟨y1387, 1⟩ : S110), (⟨y1390, 1⟩ : S110)] : List (S110))) (inner := [.slice Ao15 y1381.length co15, .int .i64 0, .slice Ao18 y1384.length co18, .int .i64 0, .slice Ao21 y1387.length co21, .int .i64 1, .slice Ao24 y1390.length co24, .int .i64 1]) (ok := (fun k_ => (w.heap.size ≤ k_) ∧ some k_ ≠ (v1379 : Value).ownBlock ∧ k_ ≠ gb1371)) (okp := (fun k_ => (w.heap.size ≤ k_) ∧ some k_ ≠ (v1379 : Value).ownBlock ∧ k_ ≠ gb1371)) ?hr ?hp (fun _ hk => hk) ((show ∀ k_, w22.heap.size ≤ k_ → (fun k_ => (w.heap.size ≤ k_) ∧ some k_ ≠ (v1379 : Value).ownBlock ∧ k_ ≠ gb1371) k_ from fun k_ hk => ⟨(Nat.le_trans (below_size (sbe1 HB GE1371)) hk), Kd.fresh' (Kd.R_lt (sR HO1380)) k_ hk, Kd.freshB (g := gb1371) (o := .cells #[.slice none 0 0, .slice none 0 0, .int .i64 0] 35 (0, 0)) (sbk BK1371) k_ hk⟩) _ (Nat.le_refl _)) (Below.refl _ _) (Nat.le_refl _) (by simp) ?_; (case hd => rfl); (case hg => rfl); (case hr => first | (go_simp; done) | (go_simp; rfl)); (case hp => exact (Reps.c2 (show Kd.FK k110 _ _ (⟨y1381, 0⟩ : S110) [.slice Ao15 y1381.length co15, .int .i64 0] from (k110_mkF _ _ (⟨y1381, 0⟩ : S110) (Kd.R_reads' (Kd.R_mono (ok' := (fun k_ => (w.heap.size ≤ k_) ∧ some k_ ≠ (v1379 : Value).ownBlock ∧ k_ ≠ gb1371)) (Kd.R_types (Kd.R_apart' (HO1383.out) (Kd.R_typed HO1380.out) (by decide)) BK1371.out (by decide)) (fun k_ hk => ⟨hk.1.1.1.1.1.1, ⟨hk.1.2, hk.2⟩⟩))).2.1 (Kd.R_F (Kd.R_mono (ok' := (fun k_ => (w.heap.size ≤ k_) ∧ some k_ ≠ (v1379 : Value).ownBlock ∧ k_ ≠ gb1371)) (Kd.R_types (Kd.R_apart' (HO1383.out) (Kd.R_typed HO1380.out) (by decide)) BK1371.out (by decide)) (fun k_ hk => ⟨hk.1.1.1.1.1.1, ⟨hk.1.2, hk.2⟩⟩))))) (Reps.c2 (show Kd.FK k110 _ _ (⟨y1384, 0⟩ : S110) [.slice Ao18 y1384.length co18, .int .i64 0] from (k110_mkF _ _ (⟨y1384, 0⟩ : S110) (Kd.R_reads' (Kd.R_mono (ok' := (fun k_ => (w.heap.size ≤ k_) ∧ some k_ ≠ (v1379 : Value).ownBlock ∧ k_ ≠ gb1371)) (Kd.R_types (Kd.R_apart' (HO1386.out) (Kd.R_typed HO1380.out) (by decide)) BK1371.out (by decide)) (fun k_ hk => ⟨hk.1.1.1.1.1.1, ⟨hk.1.2, hk.2⟩⟩))).2.1 (Kd.R_F (Kd.R_mono (ok' := (fun k_ => (w.heap.size ≤ k_) ∧ some k_ ≠ (v1379 : Value).ownBlock ∧ k_ ≠ gb1371)) (Kd.R_types (Kd.R_apart' (HO1386.out) (Kd.R_typed HO1380.out) (by decide)) BK1371.out (by decide)) (fun k_ hk => ⟨hk.1.1.1.1.1.1, ⟨hk.1.2, hk.2⟩⟩))))) (Reps.c2 (show Kd.FK k110 _ _ (⟨y1387, 1⟩ : S110) [.slice Ao21 y1387.length co21, .int .i64 1] from (k110_mkF _ _ (⟨y1387, 1⟩ : S110) (Kd.R_reads' (Kd.R_mono (ok' := (fun k_ => (w.heap.size ≤ k_) ∧ some k_ ≠ (v1379 : Value).ownBlock ∧ k_ ≠ gb1371)) (Kd.R_types (Kd.R_apart' (HO1389.out) (Kd.R_typed HO1380.out) (by decide)) BK1371.out (by decide)) (fun k_ hk => ⟨hk.1.1.1.1.1.1, ⟨hk.1.2, hk.2⟩⟩))).2.1 (Kd.R_F (Kd.R_mono (ok' := (fun k_ => (w.heap.size ≤ k_) ∧ some k_ ≠ (v1379 : Value).ownBlock ∧ k_ ≠ gb1371)) (Kd.R_types (Kd.R_apart' (HO1389.out) (Kd.R_typed HO1380.out) (by decide)) BK1371.out (by decide)) (fun k_ hk => ⟨hk.1.1.1.1.1.1, ⟨hk.1.2, hk.2⟩⟩))))) (Reps.c2 (show Kd.FK k110 _ _ (⟨y1390, 1⟩ : S110) [.slice Ao24 y1390.length co24, .int .i64 1] from (k110_mkF _ _ (⟨y1390, 1⟩ : S110) (Kd.R_reads' (Kd.R_mono (ok' := (fun k_ => (w.heap.size ≤ k_) ∧ some k_ ≠ (v1379 : Value).ownBlock ∧ k_ ≠ gb1371)) (Kd.R_types (Kd.R_apart' (HO1392.out) (Kd.R_typed HO1380.out) (by decide)) BK1371.out (by decide)) (fun k_ hk => ⟨hk.1.1.1.1.1.1, ⟨hk.1.2, hk.2⟩⟩))).2.1 (Kd.R_F (Kd.R_mono (ok' := (fun k_ => (w.heap.size ≤ k_) ∧ some k_ ≠ (v1379 : Value).ownBlock ∧ k_ ≠ gb1371)) (Kd.R_types (Kd.R_apart' (HO1392.out) (Kd.R_typed HO1380.out) (by decide)) BK1371.out (by decide)) (fun k_ hk => ⟨hk.1.1.1.1.1.1, ⟨hk.1.2, hk.2⟩⟩))))) (Reps.none _ _)))))); intro v1394 w25 ho26 hb hg_ hnew_; clear hg_ hnew_; (first | rw [← Ny1393.out] at ho26 | (simp only [Int.reduceToNat] at ho26; rw [← Ny1393.out] at ho26)); have n0_ := Aside0.mk (Kd.R_below (sR HO1380) hb); have n1_ := Aside0.mk (Kd.N_lower ho26 (below_size (sbe1 HB GE1371))); have n2_ := Aside0.mk (sbb BK1371 hb); have n3_ := Aside0.mk (sbs1 HB GE1371 hb); clear HO1380; clear BK1371; clear HB; clear HO1383; clear HO1386; clear HO1389; clear HO1392; have HO1380 := n0_; have HO1395 := n1_; have BK1371 := n2_; have HB := n3_; clear n0_ n1_ n2_ n3_; clear hb ho26; obtain ⟨Ao27, co27, eo27⟩ := Kd.N_slice HO1395.out; subst eo27; obtain ⟨Ao28, co28, eo28⟩ := Kd.R_slice HO1380.out; subst eo28; have hcz29_0 := sc 0 BK1371; have hcz29_1 := sc 1 BK1371; have hcz29_2 := sc 2 BK1371; have hfz29_0 := blk_frozen BK1371.out 0; have hfz29_1 := blk_frozen BK1371.out 1; have hfz29_2 := blk_frozen BK1371.out 2))
 refine bodyPost_ret (results_cell_row rfl _ _ gb1371 35 #[.slice Ao28 y1378.length co28, .slice Ao27 y1393.length co27, .int .i64 a2] (0, 0) _ rfl (by (with_reducible repeat (first | refine blk_drewN ?_ _ | refine blk_drew ?_ | refine blk_alloc ?_ _)); refine blk_put (cs := #[.slice Ao28 y1378.length co28, .slice Ao27 y1393.length co27, .int .i64 0]) ?_ 2 _ rfl; (with_reducible repeat (first | refine blk_drewN ?_ _ | refine blk_drew ?_ | refine blk_alloc ?_ _)); refine blk_put (cs := #[.slice Ao28 y1378.length co28, .slice none 0 0, .int .i64 0]) ?_ 1 _ rfl; (with_reducible repeat (first | refine blk_drewN ?_ _ | refine blk_drew ?_ | refine blk_alloc ?_ _)); refine blk_put (cs := #[.slice none 0 0, .slice none 0 0, .int .i64 0]) ?_ 0 _ rfl; (with_reducible repeat (first | refine blk_drewN ?_ _ | refine blk_drew ?_ | refine blk_alloc ?_ _)); exact BK1371.out) Try.underlying35 rfl (by kernel_rfl)) rfl ?_
 exact ⟨_, _, by first | rfl | (simp [errW_none, errW_some] <;> rfl) | (simp [*, errW_none, errW_some] <;> rfl), by (with_reducible repeat (first | apply Kd.R_alloc | apply Kd.R_drewN | apply Kd.R_drew)); exact Kd.R_mono (Kd.R_far (p := ⟨gb1371, 2, none⟩) (Kd.R_far (p := ⟨gb1371, 1, none⟩) (Kd.R_far (p := ⟨gb1371, 0, none⟩) (Kd.R_types HO1380.out BK1371.out (by decide)) (fun _ hk => hk.2) (.slice Ao28 y1378.length co28)) (fun _ hk => hk.2) (.slice Ao27 y1393.length co27)) (fun _ hk => hk.2) (.int .i64 a2)) (fun _ hk => hk.1.1), by (with_reducible repeat (first | apply Kd.N_alloc | apply Kd.N_drewN | apply Kd.N_drew)); exact Kd.N_mono (Kd.N_far (p := ⟨gb1371, 2, none⟩) (Kd.N_far (p := ⟨gb1371, 1, none⟩) (Kd.N_far (p := ⟨gb1371, 0, none⟩) (Kd.N_mono HO1395.out (fun k_ hk => (⟨hk, hk.2.2⟩ : _ ∧ k_ ≠ gb1371))) (fun _ hk => hk.2) (.slice Ao28 y1378.length co28)) (fun _ hk => hk.2) (.slice Ao27 y1393.length co27)) (fun _ hk => hk.2) (.int .i64 a2)) (fun _ hk => ⟨hk.1.1, hk.1.2.1⟩), (sbe1 HB GE1371)⟩
end Go.Proofs.Ytnbbbeghgomnoaa.X
namespace Go.Proofs.Ytnbbbeghgomnoaa.X
open Go.RowKit Go.Proofs.YtnbbbeghgomnoaaW.PrintWords Go.Proofs.YtnbbbeghgomnoaaW.PrintLast Go.Proofs.YtnbbbeghgomnoaaW.PrintMore
attribute [local go_sem] max2_int min2_int max_two min_two max_three min_three max_four min_four
set_option linter.unusedVariables false
set_option linter.unusedSimpArgs false
def posserlaw03_best.f  : Option (List Int) := some (([0, 0, 1, 2] : List Int))
set_option maxHeartbeats 8000000 in
set_option maxRecDepth 100000 in
theorem posserlaw03_best.calls  (r : List Int) (w : World) (h : posserlaw03_best.f  = some r) :
  Calls Try.prog 67 #[] w fun e w' => ∃ v0_ : Value, e = .returned (v0_) ∧ Kd.R (Kd.int .i64) 3 w' w.heap.size (fun _ => True) v0_ r ∧ Below w.heap.size w w' := by
 have HB := Aside0.mk (Below.refl w.heap.size w)
 have H : (some (([0, 0, 1, 2] : List Int))) = some r := h
 clear h
 obtain ⟨y1396, hy1396⟩ : ∃ y_ : List Int, y_ = (([0, 0, 1, 2] : List Int)) := ⟨_, rfl⟩
 replace H : (some y1396) = some r := by first | (rw [hy1396]; with_reducible exact H) | (have H2_ := (Option.bind_some _ _).symm.trans H; rw [hy1396]; with_reducible exact H2_) | (have H2_ := (Option.bind_some _ _).symm.trans H; with_reducible exact H2_) | with_reducible exact H | (rw [hy1396]; exact H) | exact H
 have Ny1396 := Aside0.mk hy1396
 clear hy1396
 obtain rfl := Option.some.inj H
 go_enter Try.func67, Try.ntmps67
 go_wp2_with (first | ((with_reducible refine gate_dst (N := 1) rfl ?_); refine Kd.R_lit (Kd.int .i64) _ 3 ?hg (N := 1) ?hd (xs := ([0, 0, 1, 2] : List Int)) (inner := [.int .i64 0, .int .i64 0, .int .i64 1, .int .i64 2]) (ok := fun _ => True) (okp := fun _ => True) ?hr ?hp (fun _ hk => hk) trivial (Below.refl _ _) (Nat.le_refl _) (by simp) ?_; (case hd => rfl); (case hg => rfl); (case hr => first | (go_simp; done) | (go_simp; rfl)); (case hp => exact (Reps.one (show Kd.M (Kd.int .i64) _ _ _ 0 [.int .i64 0] from rfl) (Reps.one (show Kd.M (Kd.int .i64) _ _ _ 0 [.int .i64 0] from rfl) (Reps.one (show Kd.M (Kd.int .i64) _ _ _ 1 [.int .i64 1] from rfl) (Reps.one (show Kd.M (Kd.int .i64) _ _ _ 2 [.int .i64 2] from rfl) (Reps.none _ _)))))); intro v1397 w1 ho2 hb hg_ hnew_; clear hg_ hnew_; (first | rw [← Ny1396.out] at ho2 | (simp only [Int.reduceToNat] at ho2; rw [← Ny1396.out] at ho2)); have HO1398 := Aside0.mk (Kd.R_lower ho2 (below_size (sbe HB))); replace HB := Aside0.mk (sbs HB hb); clear hb ho2))
 go_ret
 exact ⟨_, by first | rfl | (simp [errW_none, errW_some] <;> rfl) | (simp [*, errW_none, errW_some] <;> rfl), by (with_reducible repeat (first | apply Kd.R_alloc | apply Kd.R_drewN | apply Kd.R_drew)); exact HO1398.out, (sbe HB)⟩
end Go.Proofs.Ytnbbbeghgomnoaa.X
namespace Go.Proofs.Ytnbbbeghgomnoaa.X
open Go.RowKit Go.Proofs.YtnbbbeghgomnoaaW.PrintWords Go.Proofs.YtnbbbeghgomnoaaW.PrintLast Go.Proofs.YtnbbbeghgomnoaaW.PrintMore
attribute [local go_sem] max2_int min2_int max_two min_two max_three min_three max_four min_four
set_option linter.unusedVariables false
set_option linter.unusedSimpArgs false
def posserlaw03_ints.l0 : Nat → List Int → List Int → Int → Option (Bool)
 | 0, _, _, _ => none
 | k + 1, x0, x1, x5 => if x5 < (x0.length : Int) then (if 0 ≤ x5 then (if x5 < (x1.length : Int) then (if (rd x0 x5) = (rd x1 x5) then (posserlaw03_ints.l0 k x0 x1 (wrap64 (x5 + 1))) else (some false)) else (none)) else (none)) else (some true)
def posserlaw03_ints.f (k : Nat) (l0 : List Int) (l1 : List Int) : Option (Bool) := if (l0.length : Int) = (l1.length : Int) then (posserlaw03_ints.l0 k l0 l1 0) else (some false)
set_option maxHeartbeats 8000000 in
set_option maxRecDepth 100000 in
theorem posserlaw03_ints.calls (k : Nat) (A0 : Option Addr) (c0 : Nat) (l0 : List Int) (A1 : Option Addr) (c1 : Nat) (l1 : List Int) (r : Bool) (w : World) (hr0 : Kd.C (Kd.int .i64) w A0 l0.length l0) (hc0 : l0.length ≤ c0) (hr1 : Kd.C (Kd.int .i64) w A1 l1.length l1) (hc1 : l1.length ≤ c1) (h : posserlaw03_ints.f k l0 l1 = some r) :
  Calls Try.prog 25 #[.slice A0 l0.length c0, .slice A1 l1.length c1] w fun e w' => e = .returned (.bool r) ∧ Drawn0 w w' := by
 have HR0 := Aside0.mk hr0
 have HC0 := Aside0.mk hc0
 clear hr0 hc0
 have HR1 := Aside0.mk hr1
 have HC1 := Aside0.mk hc1
 clear hr1 hc1
 have H : (if (l0.length : Int) = (l1.length : Int) then (posserlaw03_ints.l0 k l0 l1 0) else (some false)) = some r := h
 clear h
 by_cases c3 : (l0.length : Int) = (l1.length : Int)
 ·rw [if_pos c3] at H
  have c3b0 : ((l0.length : Int) == (l1.length : Int)) = true := beq_iff_eq.mpr c3
  have c3b1 : ((l0.length : Int) != (l1.length : Int)) = false := bne_eq_false_iff_eq.mpr c3
  have c3b2 : (l0.length == l1.length) = true := by first | simpa using c3 | (simp at c3 ⊢; omega)
  clear c3
  have H' := Aside0.mk H
  clear H
  go_enter Try.func25, Try.ntmps25
  go_wp2
  repeat (go_quiet (fail); try go_wp2)
  go_loopg [5] k (fun kq v5 w' => ∃ (x5_1 : Int), v5 = .int .i64 x5_1 ∧ Aside0 (posserlaw03_ints.l0 kq l0 l1 x5_1 = some r) ∧ Aside0 (kq ≤ k) ∧ Drawn0 w w')
  case atStart => exact ⟨(0), (by first | rfl | (simp; done) | (simp [*]; done)), H', ⟨Nat.le_refl _⟩, by repeat (first | exact Drawn0.refl _ | apply Drawn0.step)⟩
  case round =>
   clear H'
   try clear c1
   try clear c2
   try clear p2
   try clear c3
   try clear c3b0
   try clear c3b1
   try clear c3b2
   obtain ⟨x5_1, rfl, HA, HK1, ⟨m1, rfl⟩⟩ := hrel
   cases gk with
   | zero => exact absurd HA.out (by simp [posserlaw03_ints.l0])
   | succ k1 =>
    have H := HA.out
    clear HA
    simp only [posserlaw03_ints.l0] at H
    by_cases c4 : x5_1 < (l0.length : Int)
    ·rw [if_pos c4] at H
     have c4b0 : decide (x5_1 < (l0.length : Int)) = true := decide_eq_true c4
     clear c4
     by_cases c5 : 0 ≤ x5_1
     ·rw [if_pos c5] at H
      have c5b0 : decide (0 ≤ x5_1) = true := decide_eq_true c5
      clear c5
      by_cases c6 : x5_1 < (l1.length : Int)
      ·rw [if_pos c6] at H
       have c6b0 : decide (x5_1 < (l1.length : Int)) = true := decide_eq_true c6
       clear c6
       by_cases c7 : (rd l0 x5_1) = (rd l1 x5_1)
       ·rw [if_pos c7] at H
        have c7b0 : ((rd l0 x5_1) == (rd l1 x5_1)) = true := beq_iff_eq.mpr c7
        have c7b1 : ((rd l0 x5_1) != (rd l1 x5_1)) = false := bne_eq_false_iff_eq.mpr c7
        clear c7
        have H' := Aside0.mk H
        clear H
        have p179 : 0 ≤ (x5_1 : Int) := of_decide_eq_true (by first | (with_reducible assumption) | assumption)
        have q179 : x5_1 < (l0.length : Int) := of_decide_eq_true (by first | (with_reducible assumption) | assumption)
        obtain ⟨ad179, e179, hx179_0⟩ := Kd.at_int HR0.out x5_1 p179 q179
        cases e179
        replace p179 := eq_true p179
        replace q179 := eq_true q179
        have p180 : 0 ≤ (x5_1 : Int) := of_decide_eq_true (by first | (with_reducible assumption) | assumption)
        have q180 : x5_1 < (l1.length : Int) := of_decide_eq_true (by first | (with_reducible assumption) | assumption)
        obtain ⟨ad180, e180, hx180_0⟩ := Kd.at_int HR1.out x5_1 p180 q180
        cases e180
        replace p180 := eq_true p180
        replace q180 := eq_true q180
        go_wp2
        repeat (go_quiet (fail); try go_wp2)
        go_roundg k1
        case measure => have := HK1.out; omega
        case rel => exact ⟨(wrap64 (x5_1 + 1)), (by first | rfl | (simp; done) | (simp [*]; done)), H', ⟨by have := HK1.out; omega⟩, by repeat (first | exact Drawn0.refl _ | apply Drawn0.step)⟩
       ·rw [if_neg c7] at H
        have c7b0 : ((rd l0 x5_1) == (rd l1 x5_1)) = false := beq_eq_false_iff_ne.mpr c7
        have c7b1 : ((rd l0 x5_1) != (rd l1 x5_1)) = true := bne_iff_ne.mpr c7
        obtain rfl := Option.some.inj H
        have p179 : 0 ≤ (x5_1 : Int) := of_decide_eq_true (by first | (with_reducible assumption) | assumption)
        have q179 : x5_1 < (l0.length : Int) := of_decide_eq_true (by first | (with_reducible assumption) | assumption)
        obtain ⟨ad179, e179, hx179_0⟩ := Kd.at_int HR0.out x5_1 p179 q179
        cases e179
        replace p179 := eq_true p179
        replace q179 := eq_true q179
        have p180 : 0 ≤ (x5_1 : Int) := of_decide_eq_true (by first | (with_reducible assumption) | assumption)
        have q180 : x5_1 < (l1.length : Int) := of_decide_eq_true (by first | (with_reducible assumption) | assumption)
        obtain ⟨ad180, e180, hx180_0⟩ := Kd.at_int HR1.out x5_1 p180 q180
        cases e180
        replace p180 := eq_true p180
        replace q180 := eq_true q180
        go_wp2
        repeat (go_quiet (fail); try go_wp2)
        go_ret
        exact ⟨by first | rfl | (simp; done) | (simp [*]; done), by repeat (first | exact Drawn0.refl _ | apply Drawn0.step)⟩
      ·rw [if_neg c6] at H
       exact absurd H (by simp)
     ·rw [if_neg c5] at H
      exact absurd H (by simp)
    ·rw [if_neg c4] at H
     have c4b0 : decide (x5_1 < (l0.length : Int)) = false := decide_eq_false c4
     clear c4
     obtain rfl := Option.some.inj H
     go_wp2
     repeat (go_quiet (fail); try go_wp2)
     go_ret
     exact ⟨by first | rfl | (simp; done) | (simp [*]; done), by repeat (first | exact Drawn0.refl _ | apply Drawn0.step)⟩
 ·rw [if_neg c3] at H
  have c3b0 : ((l0.length : Int) == (l1.length : Int)) = false := beq_eq_false_iff_ne.mpr c3
  have c3b1 : ((l0.length : Int) != (l1.length : Int)) = true := bne_iff_ne.mpr c3
  have c3b2 : (l0.length == l1.length) = false := by first | simpa using c3 | (simp at c3 ⊢; omega)
  obtain rfl := Option.some.inj H
  go_enter Try.func25, Try.ntmps25
  go_wp2
  repeat (go_quiet (fail); try go_wp2)
  go_ret
  exact ⟨by first | rfl | (simp; done) | (simp [*]; done), by repeat (first | exact Drawn0.refl _ | apply Drawn0.step)⟩
end Go.Proofs.Ytnbbbeghgomnoaa.X
namespace Go.Proofs.Ytnbbbeghgomnoaa.X
open Go.RowKit Go.Proofs.YtnbbbeghgomnoaaW.PrintWords Go.Proofs.YtnbbbeghgomnoaaW.PrintLast Go.Proofs.YtnbbbeghgomnoaaW.PrintMore
theorem three_tab (a c : Int) (w : World) : Calls Try.prog 66 #[.int .i64 a, .int .i64 c, .int .i64 0] w fun e w' => ∃ B0 d0 B1 d1, e = .returned (.agg #[.slice B0 3 d0, .slice B1 4 d1, .int .i64 0]) ∧ Tab B0 d0 (t3w a c) B1 d1 t3p w' ∧ Below w.heap.size w w' := by
 refine (posserlaw03_three.calls a c 0 (t3w a c) t3p 0 w rfl).mono ?_
 rintro e w' ⟨v0, v1, rfl, h0, h1, hb⟩
 obtain ⟨B0, d0, rfl⟩ := Kd.R_slice h0
 obtain ⟨B1, d1, rfl⟩ := Kd.N_slice h1
 refine ⟨B0, d0, B1, d1, rfl, ⟨(Kd.R_reads' h0).2.2, (Kd.R_reads' h0).2.1, (Kd.N_reads' h1).2.2, (Kd.N_reads' h1).2.1, (show 3 ≤ 30 by omega), (show 4 ≤ 30 by omega), by decide⟩, hb⟩
theorem aw_play {B0 : Option Addr} {d0 : Nat} {B1 : Option Addr} {d1 : Nat} {w : World} (ht : Tab B0 d0 (t3w 2 1) B1 d1 t3p w) {Al : Option Addr} {cl : Nat} (hrl : Kd.C (Kd.int .i64) w Al 4 [0, 0, 1, 2]) (hcl : 4 ≤ cl) :
  Calls Try.prog 50 #[.agg #[.slice B0 3 d0, .slice B1 4 d1, .int .i64 0], .slice Al 4 cl] w fun e w' => ∃ v1 v2, e = .returned (.tuple #[v1, v2, .int .i64 0]) ∧ Kd.R (Kd.int .i64) 3 w' w.heap.size (fun _ => True) v1 [2, 1, 1] ∧ Kd.R (Kd.int .i64) 3 w' w.heap.size (fun _ => True) v2 [3] ∧ Below w.heap.size w w' := by
 have h := Play_ok (l := [0, 0, 1, 2]) 0 ht hrl hcl (by decide) t_check1 t_are
 rw [t_own, t_off] at h
 refine h.mono ?_
 rintro e w' ⟨v1, v2, h1, h2, h3, _, h4⟩
 exact ⟨v1, v2, h1, h2, h3, h4⟩
theorem aw_whose {B0 : Option Addr} {d0 : Nat} {B1 : Option Addr} {d1 : Nat} {w : World} (ht : Tab B0 d0 (t3w 2 1) B1 d1 t3p w) :
  Calls Try.prog 22 #[.agg #[.slice B0 3 d0, .slice B1 4 d1, .int .i64 0]] w fun e w' => ∃ v, e = .returned (.tuple #[v, .int .i64 0]) ∧ Kd.R (Kd.slice 3 (Kd.int .i64)) 39 w' w.heap.size (fun _ => True) v [[0, 1], [0, 1], [0, 1], [2]] ∧ Below w.heap.size w w' := by
 have h := Whose_ok 0 ht t_ask
 rw [t_whose] at h
 exact h
theorem aw_astray {B0 : Option Addr} {d0 : Nat} {B1 : Option Addr} {d1 : Nat} {w : World} (ht : Tab B0 d0 (t3w 2 1) B1 d1 t3p w) :
  Calls Try.prog 37 #[.agg #[.slice B0 3 d0, .slice B1 4 d1, .int .i64 0]] w fun e w' => e = .returned (.tuple #[.agg #[.int .i64 1, .int .i64 3], .int .i64 0]) ∧ Below w.heap.size w w' := by
 have h := Astray_ok 0 ht t_ask
 rw [t_bounds] at h
 exact h
theorem aw_fewest {B0 : Option Addr} {d0 : Nat} {B1 : Option Addr} {d1 : Nat} {w : World} (ht : Tab B0 d0 (t3w 2 1) B1 d1 t3p w) :
  Calls Try.prog 38 #[.agg #[.slice B0 3 d0, .slice B1 4 d1, .int .i64 0]] w fun e w' => ∃ v, e = .returned (.tuple #[v, .int .i64 0]) ∧ Kd.R (Kd.int .i64) 3 w' w.heap.size (fun _ => True) v [0, 0, 1, 2] ∧ Below w.heap.size w w' := by
 have h := Fewest_ok 0 ht t_ask
 rw [t_best] at h
 exact h
theorem aw_moves {B0 : Option Addr} {d0 : Nat} {B1 : Option Addr} {d1 : Nat} {w : World} (ht : Tab B0 d0 (t3w 2 1) B1 d1 t3p w) :
  Calls Try.prog 39 #[.agg #[.slice B0 3 d0, .slice B1 4 d1, .int .i64 0]] w fun e w' => ∃ v, e = .returned (.tuple #[v, .int .i64 0]) ∧ Kd.R k69 69 w' w.heap.size (fun _ => True) v [⟨3, 1, 2⟩] ∧ Below w.heap.size w w' := by
 have h := Moves_ok 0 ht t_ask
 rw [t_best, t_moves] at h
 exact h
theorem aw_misses {B0 : Option Addr} {d0 : Nat} {B1 : Option Addr} {d1 : Nat} {w : World} (ht : Tab B0 d0 (t3w 2 1) B1 d1 t3p w) :
  Calls Try.prog 27 #[.agg #[.slice B0 3 d0, .slice B1 4 d1, .int .i64 0]] w fun e w' => ∃ v, e = .returned (.tuple #[v, .int .i64 0]) ∧ Kd.R (Kd.int .i64) 3 w' w.heap.size (fun _ => True) v [3, 3, 1] ∧ Below w.heap.size w w' := by
 have h := Misses_ok 0 ht t_ask
 rw [t_miss] at h
 exact h
theorem aw_look {B0 : Option Addr} {d0 : Nat} {B1 : Option Addr} {d1 : Nat} {w : World} (ht : Tab B0 d0 (t3w 2 1) B1 d1 t3p w) :
  Calls Try.prog 29 #[.agg #[.slice B0 3 d0, .slice B1 4 d1, .int .i64 0]] w fun e w' => e = .returned (.tuple #[.int .i64 0, .int .i64 2, .int .i64 0]) ∧ Below w.heap.size w w' := by
 have h := Look_ok 0 ht t_ask (by decide)
 rw [t_look] at h
 exact h
theorem aw_first {B0 : Option Addr} {d0 : Nat} {B1 : Option Addr} {d1 : Nat} {w : World} (ht : Tab B0 d0 (t3w 2 0) B1 d1 t3p w) :
  Calls Try.prog 31 #[.agg #[.slice B0 3 d0, .slice B1 4 d1, .int .i64 0]] w fun e w' => e = .returned (.tuple #[.int .i64 2, .int .i64 0]) ∧ Below w.heap.size w w' := by
 have h := First_ok 0 ht t_check2
 rw [t_first] at h
 exact h
theorem aw_leave {B0 : Option Addr} {d0 : Nat} {B1 : Option Addr} {d1 : Nat} {w : World} (ht : Tab B0 d0 (t3w 4 0) B1 d1 t3p w) :
  Calls Try.prog 32 #[.agg #[.slice B0 3 d0, .slice B1 4 d1, .int .i64 0]] w fun e w' => ∃ v, e = .returned (.tuple #[v, .int .i64 0]) ∧ Kd.R (Kd.int .i64) 3 w' w.heap.size (fun _ => True) v [0, 2] ∧ Below w.heap.size w w' := by
 have h := Leave_ok 0 ht t_check3
 rw [t_leave] at h
 exact h
end Go.Proofs.Ytnbbbeghgomnoaa.X
namespace Go.Proofs.Ytnbbbeghgomnoaa.X
open Go.RowKit Go.Proofs.YtnbbbeghgomnoaaW.PrintWords Go.Proofs.YtnbbbeghgomnoaaW.PrintLast Go.Proofs.YtnbbbeghgomnoaaW.PrintMore
attribute [local go_sem] max2_int min2_int max_two min_two max_three min_three max_four min_four
set_option linter.unusedVariables false
set_option linter.unusedSimpArgs false
theorem eqA55 (d : Nat) (w : World) (x0 y0 : Int) (x1 y1 : Int) :
  (Op.equalIn (d + 2) 55 (.agg #[.int .i64 x0, .int .i64 x1]) (.agg #[.int .i64 y0, .int .i64 y1])).run Try.prog w = .ok (x0 == y0 && (x1 == y1)) w := by
 refine eqA_of Try.underlying55 (by kernel_rfl) ?_
 refine eqf_cons (by rfl) (by go_simp; rfl) (by go_simp; rfl) (by go_simp) ?_
 exact eqf_last (by rfl) (by go_simp; rfl) (by go_simp; rfl) (by go_simp)
end Go.Proofs.Ytnbbbeghgomnoaa.X
namespace Go.Proofs.Ytnbbbeghgomnoaa.X
open Go.RowKit Go.Proofs.YtnbbbeghgomnoaaW.PrintWords Go.Proofs.YtnbbbeghgomnoaaW.PrintLast Go.Proofs.YtnbbbeghgomnoaaW.PrintMore
attribute [local go_sem] max2_int min2_int max_two min_two max_three min_three max_four min_four
set_option linter.unusedVariables false
set_option linter.unusedSimpArgs false
theorem eqA69 (d : Nat) (w : World) (x0 y0 : Int) (x1 y1 : Int) (x2 y2 : Int) :
  (Op.equalIn (d + 2) 69 (.agg #[.int .i64 x0, .int .i64 x1, .int .i64 x2]) (.agg #[.int .i64 y0, .int .i64 y1, .int .i64 y2])).run Try.prog w = .ok (x0 == y0 && (x1 == y1 && (x2 == y2))) w := by
 refine eqA_of Try.underlying69 (by kernel_rfl) ?_
 refine eqf_cons (by rfl) (by go_simp; rfl) (by go_simp; rfl) (by go_simp) ?_
 refine eqf_cons (by rfl) (by go_simp; rfl) (by go_simp; rfl) (by go_simp) ?_
 exact eqf_last (by rfl) (by go_simp; rfl) (by go_simp; rfl) (by go_simp)
end Go.Proofs.Ytnbbbeghgomnoaa.X
namespace Go.Proofs.Ytnbbbeghgomnoaa.X
open Go.RowKit Go.Proofs.YtnbbbeghgomnoaaW.PrintWords Go.Proofs.YtnbbbeghgomnoaaW.PrintLast Go.Proofs.YtnbbbeghgomnoaaW.PrintMore
theorem lit_row {W : World} {g : Nat} {l : List Int} (h : W.heap[g]? = some (.cells (l.map (Value.int .i64)).toArray 3 (0, 0))) (hl : l.length ≤ 1000 := by decide) : Kd.C (Kd.int .i64) W (some ⟨g, 0, none⟩) l.length l := by
 refine ⟨rfl, by omega, fun _ => ⟨_, rfl, fun j p hj => ⟨[.int .i64 p], rfl, rfl, fun i u hu => ?_⟩⟩⟩
 have hi : i = 0 := by
  have := (List.getElem?_eq_some_iff.1 hu).1
  simp at this; exact this
 subst hi
 have hu' : Value.int .i64 p = u := by simpa using hu
 subst hu'
 have := (blk_cell h j).trans (by simp [hj] : _ = some (Value.int .i64 p))
 show W.cell? (Addr.add ⟨g, 0, none⟩ (j * 1 + 0)) = _
 rw [Nat.mul_one, Nat.add_zero]
 have ha : Addr.add ⟨g, 0, none⟩ j = ⟨g, j, none⟩ := by
  cases j with
  | zero => rfl
  | succ j => simp [Addr.add]
 rw [ha]
 exact this
theorem at_LL {W : World} {A : Option Addr} {n : Nat} {xs : List (List Int)} (h : Kd.C (Kd.slice 3 (Kd.int .i64)) W A n xs) (i : Nat) (h1 : i < n) : ∃ ad A0 c0, A = some ad ∧ W.cell? (ad.add i) = some (.slice A0 (xs.getD i []).length c0) ∧ (xs.getD i []).length ≤ c0 ∧ Kd.C (Kd.int .i64) W A0 (xs.getD i []).length (xs.getD i []) := by
 obtain ⟨ad, c, e, _, hK, hc0⟩ := Kd.C_get h [] (i : Int) (by omega) (by omega)
 rw [Int.toNat_natCast] at hK hc0
 have hc : ∀ j u, c[j]? = some u → W.cell? (ad.add (i * 1 + j)) = some u := hc0
 obtain ⟨A0, c0, rfl, l0, g0⟩ := hK
 exact ⟨ad, A0, c0, e, by have hq := hc 0 _ rfl; rwa [Nat.mul_one, Nat.add_zero] at hq, l0, g0⟩
attribute [local go_sem high] eqA55 eqA69
def tabAw : List Sm := [([], some 69, [3]), ([0], some 70, [69]), ([1], some 71, [70]), ([2], some 72, [1, 71]), ([2], some 73, [71]), ([3, 4, 2, 2], some 74, [72, 73, 71]), ([2, 5], some 75, [71, 74]), ([6, 5], some 76, [75]), ([7], some 77, [2, 76]), ([7], some 78, [76]), ([8, 9, 7, 7], some 79, [77, 78, 76]), ([7, 10], some 80, [76, 79]), ([11, 10], some 81, [80]), ([12], some 82, [5, 81]), ([13, 12], some 83, [82, 81]), ([12, 14], some 84, [81, 83]), ([15, 12], some 85, [84]), ([16], some 86, [4, 85]), ([17, 16], some 87, [86, 85]), ([18, 16], some 88, [87, 85]), ([16, 19], some 89, [85, 88]), ([20, 16], some 90, [89]), ([21], some 91, [4, 90]), ([22, 21], some 92, [91, 90]), ([23, 21], some 93, [92, 90]), ([21], some 94, [90]), ([24, 25, 21, 21], some 95, [93, 94, 90]), ([21, 26], some 96, [90, 95]), ([27, 26], some 97, [96]), ([28], some 98, [4, 97]), ([29, 28], some 99, [98, 97]), ([30, 28], some 100, [99, 97]), ([28], some 101, [97]), ([31, 32, 28, 28], some 102, [100, 101, 97]), ([28, 33], some 103, [97, 102]), ([34, 33], some 104, [103]), ([35], some 105, [7, 104]), ([36, 35], some 106, [105, 104]), ([35, 37], some 107, [104, 106]), ([38, 35], some 108, [107]), ([39], some 109, [6, 108]), ([39, 39], some 110, [108]), ([40, 41, 39], some 111, [109, 110, 108]), ([39, 42], some 112, [108, 111]), ([43, 41], some 113, [112]), ([44], some 114, [9, 113]), ([45, 44], some 115, [114, 113]), ([44, 46], some 116, [113, 115]), ([47, 44], some 117, [116]), ([48], some 118, [8, 117]), ([48, 48], some 119, [117]), ([49, 50, 50, 48], some 120, [118, 119, 117]), ([48, 51], some 121, [117, 120]), ([52, 51], some 122, [121]), ([53], some 123, [11, 122]), ([54, 53], some 124, [123, 122]), ([53, 55], some 125, [122, 124]), ([56, 53], some 126, [125]), ([57], some 127, [10, 126]), ([58, 57], some 128, [127, 126]), ([59, 57], some 129, [128, 126]), ([57, 60], some 130, [126, 129]), ([61, 57], some 131, [130]), ([62], some 132, [10, 131]), ([63, 62], some 133, [132, 131]), ([64, 62], some 134, [133, 131]), ([62], some 135, [131]), ([65, 66, 62], some 136, [134, 135, 131]), ([62, 67], some 137, [131, 136]), ([68, 62], some 138, [137]), ([69], some 139, [13, 138]), ([70, 69], some 140, [139, 138]), ([69, 71], some 141, [138, 140]), ([72, 69], some 142, [141]), ([73], some 143, [12, 142]), ([73], some 144, [142]), ([74, 75, 73, 73], some 145, [143, 144, 142]), ([73, 76], some 146, [142, 145]), ([77, 76], some 147, [146]), ([78], some 148, [16, 147]), ([79, 78], some 149, [148, 147]), ([78, 80], some 150, [147, 149]), ([81, 78], some 151, [150]), ([82], some 152, [14, 151]), ([83, 82], some 153, [152, 151]), ([82, 84], some 154, [151, 153]), ([85, 82], some 155, [154]), ([86], some 156, [15, 155]), ([87, 86], some 157, [156, 155]), ([86, 88], some 158, [155, 157]), ([89, 86], some 159, [158]), ([90], some 160, [18, 159]), ([91, 90], some 161, [160, 159]), ([90, 92], some 162, [159, 161]), ([93, 90], some 163, [162]), ([94], some 164, [17, 163]), ([95, 94], some 165, [164, 163]), ([94, 96], some 166, [163, 165]), ([97, 94], some 167, [166]), ([98], some 168, [20, 167]), ([99, 98], some 169, [168, 167]), ([98, 100], some 170, [167, 169]), ([101, 98], some 171, [170]), ([102], some 172, [19, 171]), ([102], some 173, [171]), ([103, 104, 102, 102], some 174, [172, 173, 171]), ([102, 105], some 175, [171, 174]), ([106, 105, 0, 1, 2, 3, 4, 5, 6, 7, 8, 9, 10, 11, 12, 13, 14, 15, 16, 17, 18, 19, 20, 21, 22, 23, 24, 25, 26, 27, 28, 29, 30, 31, 32, 33, 34, 35, 36, 37, 38, 39, 40, 41, 42, 43, 44, 45, 46, 47, 48, 49, 50, 51, 52, 53, 54, 55, 56, 57, 58, 59, 60, 61, 62, 63, 64, 65, 66, 67, 68, 69, 70, 71, 72, 73, 74, 75, 76, 77, 78, 79, 80, 81, 82, 83, 84, 85, 86, 87, 88, 89, 90, 91, 92, 93, 94, 95, 96, 97, 98, 99, 100, 101, 102, 103, 104, 105, 106], some 0, [175])]
theorem e3_55 : ∀ q ∈ 3 :: (Kd.int .i64).E, q ≠ 55 := by decide
theorem e39_55 : ∀ q ∈ 39 :: (Kd.slice 3 (Kd.int .i64)).E, q ≠ 55 := by decide
set_option maxHeartbeats 4000000 in
set_option maxRecDepth 100000 in
theorem awake_calls (w : World) : Calls Try.prog 21 #[] w fun e w' => e = .returned (.bool true) ∧ Below w.heap.size w w' := by
 have hu35 := Try.underlying35
 have hu55 := Try.underlying55
 have hu69 := Try.underlying69
 have HB := Aside0.mk (Below.refl w.heap.size w)
 go_enter Try.func21, Try.ntmps21
 go_wp2_with (first | ((with_reducible refine gate_dst (N := 6) rfl ?_); refine sbox (N := 6) #[.int .i64 0, .int .i64 0] 55 ?_; intro g6 hg W_ hbox hb; have GE6 := Aside0.mk (by rw [hg]; exact HB.out.size : w.heap.size ≤ g6); (try (have n_ := Aside0.mk (below_step HB.out hb); clear HB; have HB := n_; clear n_)); (try (have n_ := Aside0.mk (HT.out.below hb); clear HT; have HT := n_; clear n_)); (try (have n_ := Aside0.mk (Kd.R_below HBE.out hb); clear HBE; have HBE := n_; clear n_)); (try (have n_ := Aside0.mk (Kd.R_below HOW.out hb); clear HOW; have HOW := n_; clear n_)); (try (have n_ := Aside0.mk (Kd.R_below HAS.out hb); clear HAS; have HAS := n_; clear n_)); (try (have n_ := Aside0.mk (Kd.R_below HWH.out hb); clear HWH; have HWH := n_; clear n_)); (try (have n_ := Aside0.mk (blk_below BK6.out hb); clear BK6; have BK6 := n_; clear n_)); (try (have n_ := Aside0.mk (Kd.R_below HFE.out hb); clear HFE; have HFE := n_; clear n_)); (try (have n_ := Aside0.mk (Kd.R_below HMO.out hb); clear HMO; have HMO := n_; clear n_)); (try (have n_ := Aside0.mk (Kd.R_below HMI.out hb); clear HMI; have HMI := n_; clear n_)); (try (have n_ := Aside0.mk (Kd.R_below HLE.out hb); clear HLE; have HLE := n_; clear n_)); have BK6 := Aside0.mk hbox; clear hb hbox hg) | ((with_reducible refine gate_store (t := 55) (p := 6) rfl ?_); go_must (refine wpList_store_row rfl 55 _ _ rfl g6 #[.int .i64 1, .int .i64 3] rfl rfl 55 (#[.int .i64 0, .int .i64 0]) BK6.out rfl rfl (by simp [Value.oneCell']) ?_; have h1_ := Aside0.mk (below_setRow HB.out GE6.out (#[.int .i64 1, .int .i64 3])); have h2_ := Aside0.mk (setRow_heap W_ g6 _ (#[.int .i64 1, .int .i64 3]) _ _ BK6.out); have h3_ := Aside0.mk (row_setRow HOW.out BK6.out e3_55 (#[.int .i64 1, .int .i64 3])); have h4_ := Aside0.mk (row_setRow HAS.out BK6.out e3_55 (#[.int .i64 1, .int .i64 3])); have h5_ := Aside0.mk (row_setRow HWH.out BK6.out e39_55 (#[.int .i64 1, .int .i64 3])); clear HB HT HBE BK6 HOW HAS HWH; have HB := h1_; have BK6 := h2_; have HOW := h3_; have HAS := h4_; have HWH := h5_; clear h1_ h2_ h3_ h4_ h5_; generalize W_.setRow g6 (#[.int .i64 1, .int .i64 3]) = W_ at *)) | (go_at_call 66; go_must (refine (three_tab _ _ _).mono ?_; rintro e W_ ⟨B0, d0, B1, d1, rfl, ht, hb⟩; (try (have n_ := Aside0.mk (below_step HB.out hb); clear HB; have HB := n_; clear n_)); (try (have n_ := Aside0.mk (HT.out.below hb); clear HT; have HT := n_; clear n_)); (try (have n_ := Aside0.mk (Kd.R_below HBE.out hb); clear HBE; have HBE := n_; clear n_)); (try (have n_ := Aside0.mk (Kd.R_below HOW.out hb); clear HOW; have HOW := n_; clear n_)); (try (have n_ := Aside0.mk (Kd.R_below HAS.out hb); clear HAS; have HAS := n_; clear n_)); (try (have n_ := Aside0.mk (Kd.R_below HWH.out hb); clear HWH; have HWH := n_; clear n_)); (try (have n_ := Aside0.mk (blk_below BK6.out hb); clear BK6; have BK6 := n_; clear n_)); (try (have n_ := Aside0.mk (Kd.R_below HFE.out hb); clear HFE; have HFE := n_; clear n_)); (try (have n_ := Aside0.mk (Kd.R_below HMO.out hb); clear HMO; have HMO := n_; clear n_)); (try (have n_ := Aside0.mk (Kd.R_below HMI.out hb); clear HMI; have HMI := n_; clear n_)); (try (have n_ := Aside0.mk (Kd.R_below HLE.out hb); clear HLE; have HLE := n_; clear n_)); (try clear HT); have HT := Aside0.mk ht; clear ht; clear hb)) | (go_at_call 67; go_must (refine (posserlaw03_best.calls [0, 0, 1, 2] _ rfl).mono ?_; rintro e W_ ⟨v, rfl, ho, hb⟩; (try (have n_ := Aside0.mk (below_step HB.out hb); clear HB; have HB := n_; clear n_)); (try (have n_ := Aside0.mk (HT.out.below hb); clear HT; have HT := n_; clear n_)); (try (have n_ := Aside0.mk (Kd.R_below HBE.out hb); clear HBE; have HBE := n_; clear n_)); (try (have n_ := Aside0.mk (Kd.R_below HOW.out hb); clear HOW; have HOW := n_; clear n_)); (try (have n_ := Aside0.mk (Kd.R_below HAS.out hb); clear HAS; have HAS := n_; clear n_)); (try (have n_ := Aside0.mk (Kd.R_below HWH.out hb); clear HWH; have HWH := n_; clear n_)); (try (have n_ := Aside0.mk (blk_below BK6.out hb); clear BK6; have BK6 := n_; clear n_)); (try (have n_ := Aside0.mk (Kd.R_below HFE.out hb); clear HFE; have HFE := n_; clear n_)); (try (have n_ := Aside0.mk (Kd.R_below HMO.out hb); clear HMO; have HMO := n_; clear n_)); (try (have n_ := Aside0.mk (Kd.R_below HMI.out hb); clear HMI; have HMI := n_; clear n_)); (try (have n_ := Aside0.mk (Kd.R_below HLE.out hb); clear HLE; have HLE := n_; clear n_)); have HBE := Aside0.mk ho; obtain ⟨AHBE, cHBE, eHBE⟩ := Kd.R_slice HBE.out; subst eHBE; clear ho; clear hb)) | (go_at_call 50; go_must (refine (aw_play HT.out (Kd.R_reads' HBE.out).2.2 (Kd.R_reads' HBE.out).2.1).mono ?_; rintro e W_ ⟨v1, v2, rfl, ho1, ho2, hb⟩; (try (have n_ := Aside0.mk (below_step HB.out hb); clear HB; have HB := n_; clear n_)); (try (have n_ := Aside0.mk (HT.out.below hb); clear HT; have HT := n_; clear n_)); (try (have n_ := Aside0.mk (Kd.R_below HBE.out hb); clear HBE; have HBE := n_; clear n_)); (try (have n_ := Aside0.mk (Kd.R_below HOW.out hb); clear HOW; have HOW := n_; clear n_)); (try (have n_ := Aside0.mk (Kd.R_below HAS.out hb); clear HAS; have HAS := n_; clear n_)); (try (have n_ := Aside0.mk (Kd.R_below HWH.out hb); clear HWH; have HWH := n_; clear n_)); (try (have n_ := Aside0.mk (blk_below BK6.out hb); clear BK6; have BK6 := n_; clear n_)); (try (have n_ := Aside0.mk (Kd.R_below HFE.out hb); clear HFE; have HFE := n_; clear n_)); (try (have n_ := Aside0.mk (Kd.R_below HMO.out hb); clear HMO; have HMO := n_; clear n_)); (try (have n_ := Aside0.mk (Kd.R_below HMI.out hb); clear HMI; have HMI := n_; clear n_)); (try (have n_ := Aside0.mk (Kd.R_below HLE.out hb); clear HLE; have HLE := n_; clear n_)); have HOW := Aside0.mk ho1; obtain ⟨AHOW, cHOW, eHOW⟩ := Kd.R_slice HOW.out; subst eHOW; clear ho1; have HAS := Aside0.mk ho2; obtain ⟨AHAS, cHAS, eHAS⟩ := Kd.R_slice HAS.out; subst eHAS; clear ho2; clear hb)) | (go_at_call 22; go_must (refine (aw_whose HT.out).mono ?_; rintro e W_ ⟨v, rfl, ho, hb⟩; (try (have n_ := Aside0.mk (below_step HB.out hb); clear HB; have HB := n_; clear n_)); (try (have n_ := Aside0.mk (HT.out.below hb); clear HT; have HT := n_; clear n_)); (try (have n_ := Aside0.mk (Kd.R_below HBE.out hb); clear HBE; have HBE := n_; clear n_)); (try (have n_ := Aside0.mk (Kd.R_below HOW.out hb); clear HOW; have HOW := n_; clear n_)); (try (have n_ := Aside0.mk (Kd.R_below HAS.out hb); clear HAS; have HAS := n_; clear n_)); (try (have n_ := Aside0.mk (Kd.R_below HWH.out hb); clear HWH; have HWH := n_; clear n_)); (try (have n_ := Aside0.mk (blk_below BK6.out hb); clear BK6; have BK6 := n_; clear n_)); (try (have n_ := Aside0.mk (Kd.R_below HFE.out hb); clear HFE; have HFE := n_; clear n_)); (try (have n_ := Aside0.mk (Kd.R_below HMO.out hb); clear HMO; have HMO := n_; clear n_)); (try (have n_ := Aside0.mk (Kd.R_below HMI.out hb); clear HMI; have HMI := n_; clear n_)); (try (have n_ := Aside0.mk (Kd.R_below HLE.out hb); clear HLE; have HLE := n_; clear n_)); have HWH := Aside0.mk ho; obtain ⟨AHWH, cHWH, eHWH⟩ := Kd.R_slice HWH.out; subst eHWH; clear ho; clear hb)) | (go_at_call 37; go_must (refine (aw_astray HT.out).mono ?_; rintro e W_ ⟨rfl, hb⟩; (try (have n_ := Aside0.mk (below_step HB.out hb); clear HB; have HB := n_; clear n_)); (try (have n_ := Aside0.mk (HT.out.below hb); clear HT; have HT := n_; clear n_)); (try (have n_ := Aside0.mk (Kd.R_below HBE.out hb); clear HBE; have HBE := n_; clear n_)); (try (have n_ := Aside0.mk (Kd.R_below HOW.out hb); clear HOW; have HOW := n_; clear n_)); (try (have n_ := Aside0.mk (Kd.R_below HAS.out hb); clear HAS; have HAS := n_; clear n_)); (try (have n_ := Aside0.mk (Kd.R_below HWH.out hb); clear HWH; have HWH := n_; clear n_)); (try (have n_ := Aside0.mk (blk_below BK6.out hb); clear BK6; have BK6 := n_; clear n_)); (try (have n_ := Aside0.mk (Kd.R_below HFE.out hb); clear HFE; have HFE := n_; clear n_)); (try (have n_ := Aside0.mk (Kd.R_below HMO.out hb); clear HMO; have HMO := n_; clear n_)); (try (have n_ := Aside0.mk (Kd.R_below HMI.out hb); clear HMI; have HMI := n_; clear n_)); (try (have n_ := Aside0.mk (Kd.R_below HLE.out hb); clear HLE; have HLE := n_; clear n_)); skip; clear hb)) | (go_at_call 38; go_must (refine (aw_fewest HT.out).mono ?_; rintro e W_ ⟨v, rfl, ho, hb⟩; (try (have n_ := Aside0.mk (below_step HB.out hb); clear HB; have HB := n_; clear n_)); (try (have n_ := Aside0.mk (HT.out.below hb); clear HT; have HT := n_; clear n_)); (try (have n_ := Aside0.mk (Kd.R_below HBE.out hb); clear HBE; have HBE := n_; clear n_)); (try (have n_ := Aside0.mk (Kd.R_below HOW.out hb); clear HOW; have HOW := n_; clear n_)); (try (have n_ := Aside0.mk (Kd.R_below HAS.out hb); clear HAS; have HAS := n_; clear n_)); (try (have n_ := Aside0.mk (Kd.R_below HWH.out hb); clear HWH; have HWH := n_; clear n_)); (try (have n_ := Aside0.mk (blk_below BK6.out hb); clear BK6; have BK6 := n_; clear n_)); (try (have n_ := Aside0.mk (Kd.R_below HFE.out hb); clear HFE; have HFE := n_; clear n_)); (try (have n_ := Aside0.mk (Kd.R_below HMO.out hb); clear HMO; have HMO := n_; clear n_)); (try (have n_ := Aside0.mk (Kd.R_below HMI.out hb); clear HMI; have HMI := n_; clear n_)); (try (have n_ := Aside0.mk (Kd.R_below HLE.out hb); clear HLE; have HLE := n_; clear n_)); have HFE := Aside0.mk ho; obtain ⟨AHFE, cHFE, eHFE⟩ := Kd.R_slice HFE.out; subst eHFE; clear ho; clear hb)) | (go_at_call 39; go_must (refine (aw_moves HT.out).mono ?_; rintro e W_ ⟨v, rfl, ho, hb⟩; (try (have n_ := Aside0.mk (below_step HB.out hb); clear HB; have HB := n_; clear n_)); (try (have n_ := Aside0.mk (HT.out.below hb); clear HT; have HT := n_; clear n_)); (try (have n_ := Aside0.mk (Kd.R_below HBE.out hb); clear HBE; have HBE := n_; clear n_)); (try (have n_ := Aside0.mk (Kd.R_below HOW.out hb); clear HOW; have HOW := n_; clear n_)); (try (have n_ := Aside0.mk (Kd.R_below HAS.out hb); clear HAS; have HAS := n_; clear n_)); (try (have n_ := Aside0.mk (Kd.R_below HWH.out hb); clear HWH; have HWH := n_; clear n_)); (try (have n_ := Aside0.mk (blk_below BK6.out hb); clear BK6; have BK6 := n_; clear n_)); (try (have n_ := Aside0.mk (Kd.R_below HFE.out hb); clear HFE; have HFE := n_; clear n_)); (try (have n_ := Aside0.mk (Kd.R_below HMO.out hb); clear HMO; have HMO := n_; clear n_)); (try (have n_ := Aside0.mk (Kd.R_below HMI.out hb); clear HMI; have HMI := n_; clear n_)); (try (have n_ := Aside0.mk (Kd.R_below HLE.out hb); clear HLE; have HLE := n_; clear n_)); have HMO := Aside0.mk ho; obtain ⟨AHMO, cHMO, eHMO⟩ := Kd.R_slice HMO.out; subst eHMO; clear ho; clear hb)) | (go_at_call 27; go_must (refine (aw_misses HT.out).mono ?_; rintro e W_ ⟨v, rfl, ho, hb⟩; (try (have n_ := Aside0.mk (below_step HB.out hb); clear HB; have HB := n_; clear n_)); (try (have n_ := Aside0.mk (HT.out.below hb); clear HT; have HT := n_; clear n_)); (try (have n_ := Aside0.mk (Kd.R_below HBE.out hb); clear HBE; have HBE := n_; clear n_)); (try (have n_ := Aside0.mk (Kd.R_below HOW.out hb); clear HOW; have HOW := n_; clear n_)); (try (have n_ := Aside0.mk (Kd.R_below HAS.out hb); clear HAS; have HAS := n_; clear n_)); (try (have n_ := Aside0.mk (Kd.R_below HWH.out hb); clear HWH; have HWH := n_; clear n_)); (try (have n_ := Aside0.mk (blk_below BK6.out hb); clear BK6; have BK6 := n_; clear n_)); (try (have n_ := Aside0.mk (Kd.R_below HFE.out hb); clear HFE; have HFE := n_; clear n_)); (try (have n_ := Aside0.mk (Kd.R_below HMO.out hb); clear HMO; have HMO := n_; clear n_)); (try (have n_ := Aside0.mk (Kd.R_below HMI.out hb); clear HMI; have HMI := n_; clear n_)); (try (have n_ := Aside0.mk (Kd.R_below HLE.out hb); clear HLE; have HLE := n_; clear n_)); have HMI := Aside0.mk ho; obtain ⟨AHMI, cHMI, eHMI⟩ := Kd.R_slice HMI.out; subst eHMI; clear ho; clear hb)) | (go_at_call 29; go_must (refine (aw_look HT.out).mono ?_; rintro e W_ ⟨rfl, hb⟩; (try (have n_ := Aside0.mk (below_step HB.out hb); clear HB; have HB := n_; clear n_)); (try (have n_ := Aside0.mk (HT.out.below hb); clear HT; have HT := n_; clear n_)); (try (have n_ := Aside0.mk (Kd.R_below HBE.out hb); clear HBE; have HBE := n_; clear n_)); (try (have n_ := Aside0.mk (Kd.R_below HOW.out hb); clear HOW; have HOW := n_; clear n_)); (try (have n_ := Aside0.mk (Kd.R_below HAS.out hb); clear HAS; have HAS := n_; clear n_)); (try (have n_ := Aside0.mk (Kd.R_below HWH.out hb); clear HWH; have HWH := n_; clear n_)); (try (have n_ := Aside0.mk (blk_below BK6.out hb); clear BK6; have BK6 := n_; clear n_)); (try (have n_ := Aside0.mk (Kd.R_below HFE.out hb); clear HFE; have HFE := n_; clear n_)); (try (have n_ := Aside0.mk (Kd.R_below HMO.out hb); clear HMO; have HMO := n_; clear n_)); (try (have n_ := Aside0.mk (Kd.R_below HMI.out hb); clear HMI; have HMI := n_; clear n_)); (try (have n_ := Aside0.mk (Kd.R_below HLE.out hb); clear HLE; have HLE := n_; clear n_)); skip; clear hb)) | (go_at_call 31; go_must (refine (aw_first HT.out).mono ?_; rintro e W_ ⟨rfl, hb⟩; (try (have n_ := Aside0.mk (below_step HB.out hb); clear HB; have HB := n_; clear n_)); (try (have n_ := Aside0.mk (HT.out.below hb); clear HT; have HT := n_; clear n_)); (try (have n_ := Aside0.mk (Kd.R_below HBE.out hb); clear HBE; have HBE := n_; clear n_)); (try (have n_ := Aside0.mk (Kd.R_below HOW.out hb); clear HOW; have HOW := n_; clear n_)); (try (have n_ := Aside0.mk (Kd.R_below HAS.out hb); clear HAS; have HAS := n_; clear n_)); (try (have n_ := Aside0.mk (Kd.R_below HWH.out hb); clear HWH; have HWH := n_; clear n_)); (try (have n_ := Aside0.mk (blk_below BK6.out hb); clear BK6; have BK6 := n_; clear n_)); (try (have n_ := Aside0.mk (Kd.R_below HFE.out hb); clear HFE; have HFE := n_; clear n_)); (try (have n_ := Aside0.mk (Kd.R_below HMO.out hb); clear HMO; have HMO := n_; clear n_)); (try (have n_ := Aside0.mk (Kd.R_below HMI.out hb); clear HMI; have HMI := n_; clear n_)); (try (have n_ := Aside0.mk (Kd.R_below HLE.out hb); clear HLE; have HLE := n_; clear n_)); skip; clear hb)) | (go_at_call 32; go_must (refine (aw_leave HT.out).mono ?_; rintro e W_ ⟨v, rfl, ho, hb⟩; (try (have n_ := Aside0.mk (below_step HB.out hb); clear HB; have HB := n_; clear n_)); (try (have n_ := Aside0.mk (HT.out.below hb); clear HT; have HT := n_; clear n_)); (try (have n_ := Aside0.mk (Kd.R_below HBE.out hb); clear HBE; have HBE := n_; clear n_)); (try (have n_ := Aside0.mk (Kd.R_below HOW.out hb); clear HOW; have HOW := n_; clear n_)); (try (have n_ := Aside0.mk (Kd.R_below HAS.out hb); clear HAS; have HAS := n_; clear n_)); (try (have n_ := Aside0.mk (Kd.R_below HWH.out hb); clear HWH; have HWH := n_; clear n_)); (try (have n_ := Aside0.mk (blk_below BK6.out hb); clear BK6; have BK6 := n_; clear n_)); (try (have n_ := Aside0.mk (Kd.R_below HFE.out hb); clear HFE; have HFE := n_; clear n_)); (try (have n_ := Aside0.mk (Kd.R_below HMO.out hb); clear HMO; have HMO := n_; clear n_)); (try (have n_ := Aside0.mk (Kd.R_below HMI.out hb); clear HMI; have HMI := n_; clear n_)); (try (have n_ := Aside0.mk (Kd.R_below HLE.out hb); clear HLE; have HLE := n_; clear n_)); have HLE := Aside0.mk ho; obtain ⟨AHLE, cHLE, eHLE⟩ := Kd.R_slice HLE.out; subst eHLE; clear ho; clear hb)))
 have CHOW := Aside0.mk (Kd.R_reads' HOW.out).2.2
 have LHOW := Aside0.mk (Kd.R_reads' HOW.out).2.1
 have CHAS := Aside0.mk (Kd.R_reads' HAS.out).2.2
 have LHAS := Aside0.mk (Kd.R_reads' HAS.out).2.1
 have CHFE := Aside0.mk (Kd.R_reads' HFE.out).2.2
 have LHFE := Aside0.mk (Kd.R_reads' HFE.out).2.1
 have CHMI := Aside0.mk (Kd.R_reads' HMI.out).2.2
 have LHMI := Aside0.mk (Kd.R_reads' HMI.out).2.1
 have CHLE := Aside0.mk (Kd.R_reads' HLE.out).2.2
 have LHLE := Aside0.mk (Kd.R_reads' HLE.out).2.1
 obtain ⟨adw, AHW1, cHW1, ew, hcw1, lw1, cw1⟩ := at_LL (Kd.R_reads' HWH.out).2.2 1 (by decide)
 obtain ⟨adw2, AHW3, cHW3, ew2, hcw3, lw3, cw3⟩ := at_LL (Kd.R_reads' HWH.out).2.2 3 (by decide)
 subst ew
 cases ew2
 have CHW1 := Aside0.mk (show Kd.C (Kd.int .i64) W_ AHW1 2 [0, 1] from cw1)
 have LHW1 := Aside0.mk (show ([0, 1] : List Int).length ≤ cHW1 from lw1)
 have CHW3 := Aside0.mk (show Kd.C (Kd.int .i64) W_ AHW3 1 [2] from cw3)
 have LHW3 := Aside0.mk (show ([2] : List Int).length ≤ cHW3 from lw3)
 have hcg0 := sc 0 BK6
 have hcg1 := sc 1 BK6
 obtain ⟨adm, em, hcm0, hcm1, hcm2⟩ := at_T69 (Kd.R_reads' HMO.out).2.2 0 (by decide) (by decide)
 subst em
 have ha0 : adm.add 0 = adm := by rfl
 have hcm0 : W_.cell? adm = some (.int .i64 3) := hcm0
 have hcm1 : W_.cell? ⟨adm.block, adm.off + 1, none⟩ = some (.int .i64 1) := hcm1
 have hcm2 : W_.cell? ⟨adm.block, adm.off + 2, none⟩ = some (.int .i64 2) := hcm2
 have hcw1 : W_.cell? ⟨adw.block, adw.off + 1, none⟩ = some (.slice AHW1 2 cHW1) := hcw1
 have hcw3 : W_.cell? ⟨adw.block, adw.off + 3, none⟩ = some (.slice AHW3 1 cHW3) := hcw3
 clear HT HOW HAS HWH BK6 HFE HMO HMI HLE lw1 cw1 lw3 cw3 ha0
 refine startM 108 tabAw (S := fun w' => w'.cell? ⟨adw.block, adw.off + 1, none⟩ = some (.slice AHW1 2 cHW1) ∧ w'.cell? ⟨adw.block, adw.off + 3, none⟩ = some (.slice AHW3 1 cHW3) ∧ w'.cell? ⟨g6, 0, none⟩ = some (.int .i64 1) ∧ w'.cell? ⟨g6, 1, none⟩ = some (.int .i64 3) ∧ w'.cell? adm = some (.int .i64 3) ∧ w'.cell? ⟨adm.block, adm.off + 1, none⟩ = some (.int .i64 1) ∧ w'.cell? ⟨adm.block, adm.off + 2, none⟩ = some (.int .i64 2)) (by kernel_rfl) rfl (by kernel_rfl) (by kernel_rfl) ⟨hcw1, hcw3, hcg0, hcg1, hcm0, hcm1, hcm2⟩ (fun hR_ hHeld => ?_)
 have HR := Aside0.mk hR_
 clear hR_
 have hb := below_drew1 (Below.refl W_.heap.size W_)
 replace CHOW := Aside0.mk (Kd.C_below CHOW.out hb)
 replace CHAS := Aside0.mk (Kd.C_below CHAS.out hb)
 replace CHW1 := Aside0.mk (Kd.C_below CHW1.out hb)
 replace CHW3 := Aside0.mk (Kd.C_below CHW3.out hb)
 replace CHFE := Aside0.mk (Kd.C_below CHFE.out hb)
 replace CHMI := Aside0.mk (Kd.C_below CHMI.out hb)
 replace CHLE := Aside0.mk (Kd.C_below CHLE.out hb)
 replace HB := Aside0.mk (below_step HB.out hb)
 replace hcw1 := (hb.cell (World.block_lt_of_cell? _ _ hcw1)).trans hcw1
 replace hcw3 := (hb.cell (World.block_lt_of_cell? _ _ hcw3)).trans hcw3
 replace hcg0 := (hb.cell (World.block_lt_of_cell? _ _ hcg0)).trans hcg0
 replace hcg1 := (hb.cell (World.block_lt_of_cell? _ _ hcg1)).trans hcg1
 replace hcm0 := (hb.cell (World.block_lt_of_cell? _ _ hcm0)).trans hcm0
 replace hcm1 := (hb.cell (World.block_lt_of_cell? _ _ hcm1)).trans hcm1
 replace hcm2 := (hb.cell (World.block_lt_of_cell? _ _ hcm2)).trans hcm2
 generalize W_.drew = Wa0 at *
 clear hb
 refine sM (i := 0) (N := some 69) 1 HR ?_
 refine sM (i := 1) (N := some 70) 3 HR ?_
 refine sM (i := 2) (N := some 71) 7 HR ?_
 refine sM (i := 3) (N := some 72) 15 HR ?_
 refine oneM (i := 4) (N := some 73) 31 HR.out rfl rfl (by kernel_rfl) (by kernel_rfl) (fun K hK => ?_)
 refine value_ (w1 := ?_) (v := ?_) (by rfl) rfl ?_ ?_
 rotate_left 2
 ·go_simp
  constructor
  ·rfl
  ·rfl
 refine hK.out _ _ ⟨((below_alloc (Below.refl _ _) _).cell (World.block_lt_of_cell? _ _ hcw1)).trans hcw1, ((below_alloc (Below.refl _ _) _).cell (World.block_lt_of_cell? _ _ hcw3)).trans hcw3, ((below_alloc (Below.refl _ _) _).cell (World.block_lt_of_cell? _ _ hcg0)).trans hcg0, ((below_alloc (Below.refl _ _) _).cell (World.block_lt_of_cell? _ _ hcg1)).trans hcg1, ((below_alloc (Below.refl _ _) _).cell (World.block_lt_of_cell? _ _ hcm0)).trans hcm0, ((below_alloc (Below.refl _ _) _).cell (World.block_lt_of_cell? _ _ hcm1)).trans hcm1, ((below_alloc (Below.refl _ _) _).cell (World.block_lt_of_cell? _ _ hcm2)).trans hcm2⟩ (fun hHeld => ?_)
 clear hK K
 refine sN ?_
 refine oneM (i := 5) (N := some 74) 63 HR.out rfl rfl (by kernel_rfl) (by kernel_rfl) (fun K hK => ?_)
 refine goes_ Try.func25 (by kernel_rfl) rfl #[.slice AHOW 3 cHOW, .slice (some ⟨Wa0.heap.size, 0, none⟩) 3 3] (by rfl) rfl rfl (by simp only [List.map_toArray, List.map_cons, List.map_nil]; rfl) ?_
 refine (posserlaw03_ints.calls 10 AHOW cHOW [2, 1, 1] (some ⟨Wa0.heap.size, 0, none⟩) 3 [2, 1, 1] true (Wa0.alloc (.cells #[.int .i64 2, .int .i64 1, .int .i64 1] 3)) (Kd.C_below CHOW.out (below_alloc (Below.refl _ _) _)) LHOW.out (lit_row (l := [2, 1, 1]) (show (Wa0.alloc (.cells #[.int .i64 2, .int .i64 1, .int .i64 1] 3)).heap[Wa0.heap.size]? = some (.cells (([2, 1, 1] : List Int).map (Value.int .i64)).toArray 3 (0, 0)) from blk_new Wa0 _)) (Nat.le_refl _) (by kernel_rfl)).mono ?_
 rintro e Wx ⟨rfl, ⟨nd, rfl⟩⟩
 have hb := pw_below_drewN (below_alloc (Below.refl Wa0.heap.size Wa0) (.cells #[.int .i64 2, .int .i64 1, .int .i64 1] 3)) nd
 replace hcw1 := (hb.cell (World.block_lt_of_cell? _ _ hcw1)).trans hcw1
 replace hcw3 := (hb.cell (World.block_lt_of_cell? _ _ hcw3)).trans hcw3
 replace hcg0 := (hb.cell (World.block_lt_of_cell? _ _ hcg0)).trans hcg0
 replace hcg1 := (hb.cell (World.block_lt_of_cell? _ _ hcg1)).trans hcg1
 replace hcm0 := (hb.cell (World.block_lt_of_cell? _ _ hcm0)).trans hcm0
 replace hcm1 := (hb.cell (World.block_lt_of_cell? _ _ hcm1)).trans hcm1
 replace hcm2 := (hb.cell (World.block_lt_of_cell? _ _ hcm2)).trans hcm2
 replace CHOW := Aside0.mk (Kd.C_below CHOW.out hb)
 replace CHAS := Aside0.mk (Kd.C_below CHAS.out hb)
 replace CHW1 := Aside0.mk (Kd.C_below CHW1.out hb)
 replace CHW3 := Aside0.mk (Kd.C_below CHW3.out hb)
 replace CHFE := Aside0.mk (Kd.C_below CHFE.out hb)
 replace CHMI := Aside0.mk (Kd.C_below CHMI.out hb)
 replace CHLE := Aside0.mk (Kd.C_below CHLE.out hb)
 replace HB := Aside0.mk (below_step HB.out hb)
 generalize ((Wa0.alloc (.cells #[.int .i64 2, .int .i64 1, .int .i64 1] 3)).drewN nd) = Wa1 at *
 clear hb
 refine ⟨_, rfl, ?_⟩
 refine hK.out _ _ ⟨hcw1, hcw3, hcg0, hcg1, hcm0, hcm1, hcm2⟩ (fun hHeld => ?_)
 clear hK K
 refine sN ?_
 refine sM (i := 6) (N := some 75) 127 HR ?_
 refine sM (i := 7) (N := some 76) 255 HR ?_
 refine sM (i := 8) (N := some 77) 511 HR ?_
 refine oneM (i := 9) (N := some 78) 1023 HR.out rfl rfl (by kernel_rfl) (by kernel_rfl) (fun K hK => ?_)
 refine value_ (w1 := ?_) (v := ?_) (by rfl) rfl ?_ ?_
 rotate_left 2
 ·go_simp
  constructor
  ·rfl
  ·rfl
 refine hK.out _ _ ⟨((below_alloc (Below.refl _ _) _).cell (World.block_lt_of_cell? _ _ hcw1)).trans hcw1, ((below_alloc (Below.refl _ _) _).cell (World.block_lt_of_cell? _ _ hcw3)).trans hcw3, ((below_alloc (Below.refl _ _) _).cell (World.block_lt_of_cell? _ _ hcg0)).trans hcg0, ((below_alloc (Below.refl _ _) _).cell (World.block_lt_of_cell? _ _ hcg1)).trans hcg1, ((below_alloc (Below.refl _ _) _).cell (World.block_lt_of_cell? _ _ hcm0)).trans hcm0, ((below_alloc (Below.refl _ _) _).cell (World.block_lt_of_cell? _ _ hcm1)).trans hcm1, ((below_alloc (Below.refl _ _) _).cell (World.block_lt_of_cell? _ _ hcm2)).trans hcm2⟩ (fun hHeld => ?_)
 clear hK K
 refine sN ?_
 refine oneM (i := 10) (N := some 79) 2047 HR.out rfl rfl (by kernel_rfl) (by kernel_rfl) (fun K hK => ?_)
 refine goes_ Try.func25 (by kernel_rfl) rfl #[.slice AHAS 1 cHAS, .slice (some ⟨Wa1.heap.size, 0, none⟩) 1 1] (by rfl) rfl rfl (by simp only [List.map_toArray, List.map_cons, List.map_nil]; rfl) ?_
 refine (posserlaw03_ints.calls 10 AHAS cHAS [3] (some ⟨Wa1.heap.size, 0, none⟩) 1 [3] true (Wa1.alloc (.cells #[.int .i64 3] 3)) (Kd.C_below CHAS.out (below_alloc (Below.refl _ _) _)) LHAS.out (lit_row (l := [3]) (show (Wa1.alloc (.cells #[.int .i64 3] 3)).heap[Wa1.heap.size]? = some (.cells (([3] : List Int).map (Value.int .i64)).toArray 3 (0, 0)) from blk_new Wa1 _)) (Nat.le_refl _) (by kernel_rfl)).mono ?_
 rintro e Wx ⟨rfl, ⟨nd, rfl⟩⟩
 have hb := pw_below_drewN (below_alloc (Below.refl Wa1.heap.size Wa1) (.cells #[.int .i64 3] 3)) nd
 replace hcw1 := (hb.cell (World.block_lt_of_cell? _ _ hcw1)).trans hcw1
 replace hcw3 := (hb.cell (World.block_lt_of_cell? _ _ hcw3)).trans hcw3
 replace hcg0 := (hb.cell (World.block_lt_of_cell? _ _ hcg0)).trans hcg0
 replace hcg1 := (hb.cell (World.block_lt_of_cell? _ _ hcg1)).trans hcg1
 replace hcm0 := (hb.cell (World.block_lt_of_cell? _ _ hcm0)).trans hcm0
 replace hcm1 := (hb.cell (World.block_lt_of_cell? _ _ hcm1)).trans hcm1
 replace hcm2 := (hb.cell (World.block_lt_of_cell? _ _ hcm2)).trans hcm2
 replace CHOW := Aside0.mk (Kd.C_below CHOW.out hb)
 replace CHAS := Aside0.mk (Kd.C_below CHAS.out hb)
 replace CHW1 := Aside0.mk (Kd.C_below CHW1.out hb)
 replace CHW3 := Aside0.mk (Kd.C_below CHW3.out hb)
 replace CHFE := Aside0.mk (Kd.C_below CHFE.out hb)
 replace CHMI := Aside0.mk (Kd.C_below CHMI.out hb)
 replace CHLE := Aside0.mk (Kd.C_below CHLE.out hb)
 replace HB := Aside0.mk (below_step HB.out hb)
 generalize ((Wa1.alloc (.cells #[.int .i64 3] 3)).drewN nd) = Wa2 at *
 clear hb
 refine ⟨_, rfl, ?_⟩
 refine hK.out _ _ ⟨hcw1, hcw3, hcg0, hcg1, hcm0, hcm1, hcm2⟩ (fun hHeld => ?_)
 clear hK K
 refine sN ?_
 refine sM (i := 11) (N := some 80) 4095 HR ?_
 refine sM (i := 12) (N := some 81) 8191 HR ?_
 refine sM (i := 13) (N := some 82) 16383 HR ?_
 refine sM (i := 14) (N := some 83) 32767 HR ?_
 refine sM (i := 15) (N := some 84) 65535 HR ?_
 refine sM (i := 16) (N := some 85) 131071 HR ?_
 refine sM (i := 17) (N := some 86) 262143 HR ?_
 refine sM (i := 18) (N := some 87) 524287 HR ?_
 refine sM (i := 19) (N := some 88) 1048575 HR ?_
 refine sM (i := 20) (N := some 89) 2097151 HR ?_
 refine sM (i := 21) (N := some 90) 4194303 HR ?_
 refine sM (i := 22) (N := some 91) 8388607 HR ?_
 refine sM (i := 23) (N := some 92) 16777215 HR ?_
 refine takeM (i := 24) (N := some 93) (v := ?_) (a' := ?_) 33554431 HR.out rfl rfl (by kernel_rfl) (by kernel_rfl) (fun _ _ _ h => h) (Or.inl ⟨by rfl, ?_⟩) hHeld ?_ ?_
 rotate_left
 ·rintro w' ⟨s0, s1, s2, s3, s4, s5, s6⟩
  go_simp
  with_reducible rfl
 rotate_left
 ·simp only [Act.put, List.setIfInBounds_toArray, List.set_cons_zero, List.set_cons_succ, i64_w, i32_w]
  rfl
 refine oneM (i := 25) (N := some 94) 67108863 HR.out rfl rfl (by kernel_rfl) (by kernel_rfl) (fun K hK => ?_)
 refine value_ (w1 := ?_) (v := ?_) (by rfl) rfl ?_ ?_
 rotate_left 2
 ·go_simp
  constructor
  ·rfl
  ·rfl
 refine hK.out _ _ ⟨((below_alloc (Below.refl _ _) _).cell (World.block_lt_of_cell? _ _ hcw1)).trans hcw1, ((below_alloc (Below.refl _ _) _).cell (World.block_lt_of_cell? _ _ hcw3)).trans hcw3, ((below_alloc (Below.refl _ _) _).cell (World.block_lt_of_cell? _ _ hcg0)).trans hcg0, ((below_alloc (Below.refl _ _) _).cell (World.block_lt_of_cell? _ _ hcg1)).trans hcg1, ((below_alloc (Below.refl _ _) _).cell (World.block_lt_of_cell? _ _ hcm0)).trans hcm0, ((below_alloc (Below.refl _ _) _).cell (World.block_lt_of_cell? _ _ hcm1)).trans hcm1, ((below_alloc (Below.refl _ _) _).cell (World.block_lt_of_cell? _ _ hcm2)).trans hcm2⟩ (fun hHeld => ?_)
 clear hK K
 refine sN ?_
 refine oneM (i := 26) (N := some 95) 134217727 HR.out rfl rfl (by kernel_rfl) (by kernel_rfl) (fun K hK => ?_)
 refine goes_ Try.func25 (by kernel_rfl) rfl #[.slice AHW1 2 cHW1, .slice (some ⟨Wa2.heap.size, 0, none⟩) 2 2] (by rfl) rfl rfl (by simp only [List.map_toArray, List.map_cons, List.map_nil]; rfl) ?_
 refine (posserlaw03_ints.calls 10 AHW1 cHW1 [0, 1] (some ⟨Wa2.heap.size, 0, none⟩) 2 [0, 1] true (Wa2.alloc (.cells #[.int .i64 0, .int .i64 1] 3)) (Kd.C_below CHW1.out (below_alloc (Below.refl _ _) _)) LHW1.out (lit_row (l := [0, 1]) (show (Wa2.alloc (.cells #[.int .i64 0, .int .i64 1] 3)).heap[Wa2.heap.size]? = some (.cells (([0, 1] : List Int).map (Value.int .i64)).toArray 3 (0, 0)) from blk_new Wa2 _)) (Nat.le_refl _) (by kernel_rfl)).mono ?_
 rintro e Wx ⟨rfl, ⟨nd, rfl⟩⟩
 have hb := pw_below_drewN (below_alloc (Below.refl Wa2.heap.size Wa2) (.cells #[.int .i64 0, .int .i64 1] 3)) nd
 replace hcw1 := (hb.cell (World.block_lt_of_cell? _ _ hcw1)).trans hcw1
 replace hcw3 := (hb.cell (World.block_lt_of_cell? _ _ hcw3)).trans hcw3
 replace hcg0 := (hb.cell (World.block_lt_of_cell? _ _ hcg0)).trans hcg0
 replace hcg1 := (hb.cell (World.block_lt_of_cell? _ _ hcg1)).trans hcg1
 replace hcm0 := (hb.cell (World.block_lt_of_cell? _ _ hcm0)).trans hcm0
 replace hcm1 := (hb.cell (World.block_lt_of_cell? _ _ hcm1)).trans hcm1
 replace hcm2 := (hb.cell (World.block_lt_of_cell? _ _ hcm2)).trans hcm2
 replace CHOW := Aside0.mk (Kd.C_below CHOW.out hb)
 replace CHAS := Aside0.mk (Kd.C_below CHAS.out hb)
 replace CHW1 := Aside0.mk (Kd.C_below CHW1.out hb)
 replace CHW3 := Aside0.mk (Kd.C_below CHW3.out hb)
 replace CHFE := Aside0.mk (Kd.C_below CHFE.out hb)
 replace CHMI := Aside0.mk (Kd.C_below CHMI.out hb)
 replace CHLE := Aside0.mk (Kd.C_below CHLE.out hb)
 replace HB := Aside0.mk (below_step HB.out hb)
 generalize ((Wa2.alloc (.cells #[.int .i64 0, .int .i64 1] 3)).drewN nd) = Wa3 at *
 clear hb
 refine ⟨_, rfl, ?_⟩
 refine hK.out _ _ ⟨hcw1, hcw3, hcg0, hcg1, hcm0, hcm1, hcm2⟩ (fun hHeld => ?_)
 clear hK K
 refine sN ?_
 refine sM (i := 27) (N := some 96) 268435455 HR ?_
 refine sM (i := 28) (N := some 97) 536870911 HR ?_
 refine sM (i := 29) (N := some 98) 1073741823 HR ?_
 refine sM (i := 30) (N := some 99) 2147483647 HR ?_
 refine takeM (i := 31) (N := some 100) (v := ?_) (a' := ?_) 4294967295 HR.out rfl rfl (by kernel_rfl) (by kernel_rfl) (fun _ _ _ h => h) (Or.inl ⟨by rfl, ?_⟩) hHeld ?_ ?_
 rotate_left
 ·rintro w' ⟨s0, s1, s2, s3, s4, s5, s6⟩
  go_simp
  with_reducible rfl
 rotate_left
 ·simp only [Act.put, List.setIfInBounds_toArray, List.set_cons_zero, List.set_cons_succ, i64_w, i32_w]
  rfl
 refine oneM (i := 32) (N := some 101) 8589934591 HR.out rfl rfl (by kernel_rfl) (by kernel_rfl) (fun K hK => ?_)
 refine value_ (w1 := ?_) (v := ?_) (by rfl) rfl ?_ ?_
 rotate_left 2
 ·go_simp
  constructor
  ·rfl
  ·rfl
 refine hK.out _ _ ⟨((below_alloc (Below.refl _ _) _).cell (World.block_lt_of_cell? _ _ hcw1)).trans hcw1, ((below_alloc (Below.refl _ _) _).cell (World.block_lt_of_cell? _ _ hcw3)).trans hcw3, ((below_alloc (Below.refl _ _) _).cell (World.block_lt_of_cell? _ _ hcg0)).trans hcg0, ((below_alloc (Below.refl _ _) _).cell (World.block_lt_of_cell? _ _ hcg1)).trans hcg1, ((below_alloc (Below.refl _ _) _).cell (World.block_lt_of_cell? _ _ hcm0)).trans hcm0, ((below_alloc (Below.refl _ _) _).cell (World.block_lt_of_cell? _ _ hcm1)).trans hcm1, ((below_alloc (Below.refl _ _) _).cell (World.block_lt_of_cell? _ _ hcm2)).trans hcm2⟩ (fun hHeld => ?_)
 clear hK K
 refine sN ?_
 refine oneM (i := 33) (N := some 102) 17179869183 HR.out rfl rfl (by kernel_rfl) (by kernel_rfl) (fun K hK => ?_)
 refine goes_ Try.func25 (by kernel_rfl) rfl #[.slice AHW3 1 cHW3, .slice (some ⟨Wa3.heap.size, 0, none⟩) 1 1] (by rfl) rfl rfl (by simp only [List.map_toArray, List.map_cons, List.map_nil]; rfl) ?_
 refine (posserlaw03_ints.calls 10 AHW3 cHW3 [2] (some ⟨Wa3.heap.size, 0, none⟩) 1 [2] true (Wa3.alloc (.cells #[.int .i64 2] 3)) (Kd.C_below CHW3.out (below_alloc (Below.refl _ _) _)) LHW3.out (lit_row (l := [2]) (show (Wa3.alloc (.cells #[.int .i64 2] 3)).heap[Wa3.heap.size]? = some (.cells (([2] : List Int).map (Value.int .i64)).toArray 3 (0, 0)) from blk_new Wa3 _)) (Nat.le_refl _) (by kernel_rfl)).mono ?_
 rintro e Wx ⟨rfl, ⟨nd, rfl⟩⟩
 have hb := pw_below_drewN (below_alloc (Below.refl Wa3.heap.size Wa3) (.cells #[.int .i64 2] 3)) nd
 replace hcw1 := (hb.cell (World.block_lt_of_cell? _ _ hcw1)).trans hcw1
 replace hcw3 := (hb.cell (World.block_lt_of_cell? _ _ hcw3)).trans hcw3
 replace hcg0 := (hb.cell (World.block_lt_of_cell? _ _ hcg0)).trans hcg0
 replace hcg1 := (hb.cell (World.block_lt_of_cell? _ _ hcg1)).trans hcg1
 replace hcm0 := (hb.cell (World.block_lt_of_cell? _ _ hcm0)).trans hcm0
 replace hcm1 := (hb.cell (World.block_lt_of_cell? _ _ hcm1)).trans hcm1
 replace hcm2 := (hb.cell (World.block_lt_of_cell? _ _ hcm2)).trans hcm2
 replace CHOW := Aside0.mk (Kd.C_below CHOW.out hb)
 replace CHAS := Aside0.mk (Kd.C_below CHAS.out hb)
 replace CHW1 := Aside0.mk (Kd.C_below CHW1.out hb)
 replace CHW3 := Aside0.mk (Kd.C_below CHW3.out hb)
 replace CHFE := Aside0.mk (Kd.C_below CHFE.out hb)
 replace CHMI := Aside0.mk (Kd.C_below CHMI.out hb)
 replace CHLE := Aside0.mk (Kd.C_below CHLE.out hb)
 replace HB := Aside0.mk (below_step HB.out hb)
 generalize ((Wa3.alloc (.cells #[.int .i64 2] 3)).drewN nd) = Wa4 at *
 clear hb
 refine ⟨_, rfl, ?_⟩
 refine hK.out _ _ ⟨hcw1, hcw3, hcg0, hcg1, hcm0, hcm1, hcm2⟩ (fun hHeld => ?_)
 clear hK K
 refine sN ?_
 refine sM (i := 34) (N := some 103) 34359738367 HR ?_
 refine sM (i := 35) (N := some 104) 68719476735 HR ?_
 refine sM (i := 36) (N := some 105) 137438953471 HR ?_
 refine sM (i := 37) (N := some 106) 274877906943 HR ?_
 refine sM (i := 38) (N := some 107) 549755813887 HR ?_
 refine sM (i := 39) (N := some 108) 1099511627775 HR ?_
 refine takeM (i := 40) (N := some 109) (v := ?_) (a' := ?_) 2199023255551 HR.out rfl rfl (by kernel_rfl) (by kernel_rfl) (fun _ _ _ h => h) (Or.inl ⟨by rfl, ?_⟩) hHeld ?_ ?_
 rotate_left
 ·rintro w' ⟨s0, s1, s2, s3, s4, s5, s6⟩
  go_simp
  with_reducible rfl
 rotate_left
 ·simp only [Act.put, List.setIfInBounds_toArray, List.set_cons_zero, List.set_cons_succ, i64_w, i32_w]
  rfl
 refine oneM (i := 41) (N := some 110) 4398046511103 HR.out rfl rfl (by kernel_rfl) (by kernel_rfl) (fun K hK => ?_)
 refine goes_ Try.func46 (by kernel_rfl) rfl #[.int .i64 1, .int .i64 3] (by rfl) rfl rfl (by simp only [List.map_toArray, List.map_cons, List.map_nil]; rfl) ?_
 with_reducible refine (posserlaw03_between.calls 1 3 1 3 Wa4 rfl).mono ?_
 rintro e Wa5 ⟨rfl, hb⟩
 refine ⟨_, rfl, ?_⟩
 replace hcw1 := (hb.cell (World.block_lt_of_cell? _ _ hcw1)).trans hcw1
 replace hcw3 := (hb.cell (World.block_lt_of_cell? _ _ hcw3)).trans hcw3
 replace hcg0 := (hb.cell (World.block_lt_of_cell? _ _ hcg0)).trans hcg0
 replace hcg1 := (hb.cell (World.block_lt_of_cell? _ _ hcg1)).trans hcg1
 replace hcm0 := (hb.cell (World.block_lt_of_cell? _ _ hcm0)).trans hcm0
 replace hcm1 := (hb.cell (World.block_lt_of_cell? _ _ hcm1)).trans hcm1
 replace hcm2 := (hb.cell (World.block_lt_of_cell? _ _ hcm2)).trans hcm2
 replace CHOW := Aside0.mk (Kd.C_below CHOW.out hb)
 replace CHAS := Aside0.mk (Kd.C_below CHAS.out hb)
 replace CHW1 := Aside0.mk (Kd.C_below CHW1.out hb)
 replace CHW3 := Aside0.mk (Kd.C_below CHW3.out hb)
 replace CHFE := Aside0.mk (Kd.C_below CHFE.out hb)
 replace CHMI := Aside0.mk (Kd.C_below CHMI.out hb)
 replace CHLE := Aside0.mk (Kd.C_below CHLE.out hb)
 replace HB := Aside0.mk (below_step HB.out hb)
 clear hb
 refine hK.out _ _ ⟨hcw1, hcw3, hcg0, hcg1, hcm0, hcm1, hcm2⟩ (fun hHeld => ?_)
 clear hK K
 refine sN ?_
 refine sM (i := 42) (N := some 111) 8796093022207 HR ?_
 refine sM (i := 43) (N := some 112) 17592186044415 HR ?_
 refine sM (i := 44) (N := some 113) 35184372088831 HR ?_
 refine sM (i := 45) (N := some 114) 70368744177663 HR ?_
 refine sM (i := 46) (N := some 115) 140737488355327 HR ?_
 refine sM (i := 47) (N := some 116) 281474976710655 HR ?_
 refine sM (i := 48) (N := some 117) 562949953421311 HR ?_
 refine sM (i := 49) (N := some 118) 1125899906842623 HR ?_
 refine oneM (i := 50) (N := some 119) 2251799813685247 HR.out rfl rfl (by kernel_rfl) (by kernel_rfl) (fun K hK => ?_)
 refine goes_ Try.func67 (by kernel_rfl) rfl #[] (by rfl) rfl rfl (by simp only [List.map_toArray, List.map_nil]) ?_
 with_reducible refine (posserlaw03_best.calls [0, 0, 1, 2] Wa5 rfl).mono ?_
 rintro e Wa6 ⟨v_, rfl, ho, hb⟩
 refine ⟨_, rfl, ?_⟩
 replace hcw1 := (hb.cell (World.block_lt_of_cell? _ _ hcw1)).trans hcw1
 replace hcw3 := (hb.cell (World.block_lt_of_cell? _ _ hcw3)).trans hcw3
 replace hcg0 := (hb.cell (World.block_lt_of_cell? _ _ hcg0)).trans hcg0
 replace hcg1 := (hb.cell (World.block_lt_of_cell? _ _ hcg1)).trans hcg1
 replace hcm0 := (hb.cell (World.block_lt_of_cell? _ _ hcm0)).trans hcm0
 replace hcm1 := (hb.cell (World.block_lt_of_cell? _ _ hcm1)).trans hcm1
 replace hcm2 := (hb.cell (World.block_lt_of_cell? _ _ hcm2)).trans hcm2
 replace CHOW := Aside0.mk (Kd.C_below CHOW.out hb)
 replace CHAS := Aside0.mk (Kd.C_below CHAS.out hb)
 replace CHW1 := Aside0.mk (Kd.C_below CHW1.out hb)
 replace CHW3 := Aside0.mk (Kd.C_below CHW3.out hb)
 replace CHFE := Aside0.mk (Kd.C_below CHFE.out hb)
 replace CHMI := Aside0.mk (Kd.C_below CHMI.out hb)
 replace CHLE := Aside0.mk (Kd.C_below CHLE.out hb)
 replace HB := Aside0.mk (below_step HB.out hb)
 obtain ⟨AB, cB, eB⟩ := Kd.R_slice ho
 subst eB
 have CB := Aside0.mk (Kd.R_reads' ho)
 clear ho
 clear hb
 refine hK.out _ _ ⟨hcw1, hcw3, hcg0, hcg1, hcm0, hcm1, hcm2⟩ (fun hHeld => ?_)
 clear hK K
 refine sN ?_
 refine oneM (i := 51) (N := some 120) 4503599627370495 HR.out rfl rfl (by kernel_rfl) (by kernel_rfl) (fun K hK => ?_)
 refine goes_ Try.func25 (by kernel_rfl) rfl #[.slice AHFE 4 cHFE, .slice AB 4 cB] (by rfl) rfl rfl (by simp only [List.map_toArray, List.map_cons, List.map_nil]; rfl) ?_
 refine (posserlaw03_ints.calls 10 AHFE cHFE [0, 0, 1, 2] AB cB [0, 0, 1, 2] true _ CHFE.out LHFE.out CB.out.2.2 CB.out.2.1 (by kernel_rfl)).mono ?_
 rintro e Wx ⟨rfl, ⟨nd, rfl⟩⟩
 have hb := pw_below_drewN (Below.refl Wa6.heap.size Wa6) nd
 replace hcw1 := (hb.cell (World.block_lt_of_cell? _ _ hcw1)).trans hcw1
 replace hcw3 := (hb.cell (World.block_lt_of_cell? _ _ hcw3)).trans hcw3
 replace hcg0 := (hb.cell (World.block_lt_of_cell? _ _ hcg0)).trans hcg0
 replace hcg1 := (hb.cell (World.block_lt_of_cell? _ _ hcg1)).trans hcg1
 replace hcm0 := (hb.cell (World.block_lt_of_cell? _ _ hcm0)).trans hcm0
 replace hcm1 := (hb.cell (World.block_lt_of_cell? _ _ hcm1)).trans hcm1
 replace hcm2 := (hb.cell (World.block_lt_of_cell? _ _ hcm2)).trans hcm2
 replace CHOW := Aside0.mk (Kd.C_below CHOW.out hb)
 replace CHAS := Aside0.mk (Kd.C_below CHAS.out hb)
 replace CHW1 := Aside0.mk (Kd.C_below CHW1.out hb)
 replace CHW3 := Aside0.mk (Kd.C_below CHW3.out hb)
 replace CHFE := Aside0.mk (Kd.C_below CHFE.out hb)
 replace CHMI := Aside0.mk (Kd.C_below CHMI.out hb)
 replace CHLE := Aside0.mk (Kd.C_below CHLE.out hb)
 replace HB := Aside0.mk (below_step HB.out hb)
 clear CB
 generalize (Wa6.drewN nd) = Wa7 at *
 clear hb
 refine ⟨_, rfl, ?_⟩
 refine hK.out _ _ ⟨hcw1, hcw3, hcg0, hcg1, hcm0, hcm1, hcm2⟩ (fun hHeld => ?_)
 clear hK K
 refine sN ?_
 refine sM (i := 52) (N := some 121) 9007199254740991 HR ?_
 refine sM (i := 53) (N := some 122) 18014398509481983 HR ?_
 refine sM (i := 54) (N := some 123) 36028797018963967 HR ?_
 refine sM (i := 55) (N := some 124) 72057594037927935 HR ?_
 refine sM (i := 56) (N := some 125) 144115188075855871 HR ?_
 refine sM (i := 57) (N := some 126) 288230376151711743 HR ?_
 refine sM (i := 58) (N := some 127) 576460752303423487 HR ?_
 refine sM (i := 59) (N := some 128) 1152921504606846975 HR ?_
 refine sM (i := 60) (N := some 129) 2305843009213693951 HR ?_
 refine sM (i := 61) (N := some 130) 4611686018427387903 HR ?_
 refine sM (i := 62) (N := some 131) 9223372036854775807 HR ?_
 refine sM (i := 63) (N := some 132) 18446744073709551615 HR ?_
 refine sM (i := 64) (N := some 133) 36893488147419103231 HR ?_
 refine sM (i := 66) (N := some 135) 110680464442257309695 HR ?_
 refine takeM (i := 65) (N := some 134) (v := ?_) (a' := ?_) 147573952589676412927 HR.out rfl rfl (by kernel_rfl) (by kernel_rfl) (fun _ _ _ h => h) (Or.inl ⟨by rfl, ?_⟩) hHeld ?_ ?_
 rotate_left
 ·rintro w' ⟨s0, s1, s2, s3, s4, s5, s6⟩
  go_simp
  with_reducible rfl
 rotate_left
 ·simp only [Act.put, List.setIfInBounds_toArray, List.set_cons_zero, List.set_cons_succ, i64_w, i32_w]
  rfl
 refine sM (i := 67) (N := some 136) 295147905179352825855 HR ?_
 refine sM (i := 68) (N := some 137) 590295810358705651711 HR ?_
 refine sM (i := 69) (N := some 138) 1180591620717411303423 HR ?_
 refine sM (i := 70) (N := some 139) 2361183241434822606847 HR ?_
 refine sM (i := 71) (N := some 140) 4722366482869645213695 HR ?_
 refine sM (i := 72) (N := some 141) 9444732965739290427391 HR ?_
 refine sM (i := 73) (N := some 142) 18889465931478580854783 HR ?_
 refine sM (i := 74) (N := some 143) 37778931862957161709567 HR ?_
 refine oneM (i := 75) (N := some 144) 75557863725914323419135 HR.out rfl rfl (by kernel_rfl) (by kernel_rfl) (fun K hK => ?_)
 refine value_ (w1 := ?_) (v := ?_) (by rfl) rfl ?_ ?_
 rotate_left 2
 ·go_simp
  constructor
  ·rfl
  ·rfl
 refine hK.out _ _ ⟨((below_alloc (Below.refl _ _) _).cell (World.block_lt_of_cell? _ _ hcw1)).trans hcw1, ((below_alloc (Below.refl _ _) _).cell (World.block_lt_of_cell? _ _ hcw3)).trans hcw3, ((below_alloc (Below.refl _ _) _).cell (World.block_lt_of_cell? _ _ hcg0)).trans hcg0, ((below_alloc (Below.refl _ _) _).cell (World.block_lt_of_cell? _ _ hcg1)).trans hcg1, ((below_alloc (Below.refl _ _) _).cell (World.block_lt_of_cell? _ _ hcm0)).trans hcm0, ((below_alloc (Below.refl _ _) _).cell (World.block_lt_of_cell? _ _ hcm1)).trans hcm1, ((below_alloc (Below.refl _ _) _).cell (World.block_lt_of_cell? _ _ hcm2)).trans hcm2⟩ (fun hHeld => ?_)
 clear hK K
 refine sN ?_
 refine oneM (i := 76) (N := some 145) 151115727451828646838271 HR.out rfl rfl (by kernel_rfl) (by kernel_rfl) (fun K hK => ?_)
 refine goes_ Try.func25 (by kernel_rfl) rfl #[.slice AHMI 3 cHMI, .slice (some ⟨Wa7.heap.size, 0, none⟩) 3 3] (by rfl) rfl rfl (by simp only [List.map_toArray, List.map_cons, List.map_nil]; rfl) ?_
 refine (posserlaw03_ints.calls 10 AHMI cHMI [3, 3, 1] (some ⟨Wa7.heap.size, 0, none⟩) 3 [3, 3, 1] true (Wa7.alloc (.cells #[.int .i64 3, .int .i64 3, .int .i64 1] 3)) (Kd.C_below CHMI.out (below_alloc (Below.refl _ _) _)) LHMI.out (lit_row (l := [3, 3, 1]) (show (Wa7.alloc (.cells #[.int .i64 3, .int .i64 3, .int .i64 1] 3)).heap[Wa7.heap.size]? = some (.cells (([3, 3, 1] : List Int).map (Value.int .i64)).toArray 3 (0, 0)) from blk_new Wa7 _)) (Nat.le_refl _) (by kernel_rfl)).mono ?_
 rintro e Wx ⟨rfl, ⟨nd, rfl⟩⟩
 have hb := pw_below_drewN (below_alloc (Below.refl Wa7.heap.size Wa7) (.cells #[.int .i64 3, .int .i64 3, .int .i64 1] 3)) nd
 replace hcw1 := (hb.cell (World.block_lt_of_cell? _ _ hcw1)).trans hcw1
 replace hcw3 := (hb.cell (World.block_lt_of_cell? _ _ hcw3)).trans hcw3
 replace hcg0 := (hb.cell (World.block_lt_of_cell? _ _ hcg0)).trans hcg0
 replace hcg1 := (hb.cell (World.block_lt_of_cell? _ _ hcg1)).trans hcg1
 replace hcm0 := (hb.cell (World.block_lt_of_cell? _ _ hcm0)).trans hcm0
 replace hcm1 := (hb.cell (World.block_lt_of_cell? _ _ hcm1)).trans hcm1
 replace hcm2 := (hb.cell (World.block_lt_of_cell? _ _ hcm2)).trans hcm2
 replace CHOW := Aside0.mk (Kd.C_below CHOW.out hb)
 replace CHAS := Aside0.mk (Kd.C_below CHAS.out hb)
 replace CHW1 := Aside0.mk (Kd.C_below CHW1.out hb)
 replace CHW3 := Aside0.mk (Kd.C_below CHW3.out hb)
 replace CHFE := Aside0.mk (Kd.C_below CHFE.out hb)
 replace CHMI := Aside0.mk (Kd.C_below CHMI.out hb)
 replace CHLE := Aside0.mk (Kd.C_below CHLE.out hb)
 replace HB := Aside0.mk (below_step HB.out hb)
 generalize ((Wa7.alloc (.cells #[.int .i64 3, .int .i64 3, .int .i64 1] 3)).drewN nd) = Wa8 at *
 clear hb
 refine ⟨_, rfl, ?_⟩
 refine hK.out _ _ ⟨hcw1, hcw3, hcg0, hcg1, hcm0, hcm1, hcm2⟩ (fun hHeld => ?_)
 clear hK K
 refine sN ?_
 refine sM (i := 77) (N := some 146) 302231454903657293676543 HR ?_
 refine sM (i := 78) (N := some 147) 604462909807314587353087 HR ?_
 refine sM (i := 79) (N := some 148) 1208925819614629174706175 HR ?_
 refine sM (i := 80) (N := some 149) 2417851639229258349412351 HR ?_
 refine sM (i := 81) (N := some 150) 4835703278458516698824703 HR ?_
 refine sM (i := 82) (N := some 151) 9671406556917033397649407 HR ?_
 refine sM (i := 83) (N := some 152) 19342813113834066795298815 HR ?_
 refine sM (i := 84) (N := some 153) 38685626227668133590597631 HR ?_
 refine sM (i := 85) (N := some 154) 77371252455336267181195263 HR ?_
 refine sM (i := 86) (N := some 155) 154742504910672534362390527 HR ?_
 refine sM (i := 87) (N := some 156) 309485009821345068724781055 HR ?_
 refine sM (i := 88) (N := some 157) 618970019642690137449562111 HR ?_
 refine sM (i := 89) (N := some 158) 1237940039285380274899124223 HR ?_
 refine sM (i := 90) (N := some 159) 2475880078570760549798248447 HR ?_
 refine sM (i := 91) (N := some 160) 4951760157141521099596496895 HR ?_
 refine sM (i := 92) (N := some 161) 9903520314283042199192993791 HR ?_
 refine sM (i := 93) (N := some 162) 19807040628566084398385987583 HR ?_
 refine sM (i := 94) (N := some 163) 39614081257132168796771975167 HR ?_
 refine sM (i := 95) (N := some 164) 79228162514264337593543950335 HR ?_
 refine sM (i := 96) (N := some 165) 158456325028528675187087900671 HR ?_
 refine sM (i := 97) (N := some 166) 316912650057057350374175801343 HR ?_
 refine sM (i := 98) (N := some 167) 633825300114114700748351602687 HR ?_
 refine sM (i := 99) (N := some 168) 1267650600228229401496703205375 HR ?_
 refine sM (i := 100) (N := some 169) 2535301200456458802993406410751 HR ?_
 refine sM (i := 101) (N := some 170) 5070602400912917605986812821503 HR ?_
 refine sM (i := 102) (N := some 171) 10141204801825835211973625643007 HR ?_
 refine sM (i := 103) (N := some 172) 20282409603651670423947251286015 HR ?_
 refine oneM (i := 104) (N := some 173) 40564819207303340847894502572031 HR.out rfl rfl (by kernel_rfl) (by kernel_rfl) (fun K hK => ?_)
 refine value_ (w1 := ?_) (v := ?_) (by rfl) rfl ?_ ?_
 rotate_left 2
 ·go_simp
  constructor
  ·rfl
  ·rfl
 refine hK.out _ _ ⟨((below_alloc (Below.refl _ _) _).cell (World.block_lt_of_cell? _ _ hcw1)).trans hcw1, ((below_alloc (Below.refl _ _) _).cell (World.block_lt_of_cell? _ _ hcw3)).trans hcw3, ((below_alloc (Below.refl _ _) _).cell (World.block_lt_of_cell? _ _ hcg0)).trans hcg0, ((below_alloc (Below.refl _ _) _).cell (World.block_lt_of_cell? _ _ hcg1)).trans hcg1, ((below_alloc (Below.refl _ _) _).cell (World.block_lt_of_cell? _ _ hcm0)).trans hcm0, ((below_alloc (Below.refl _ _) _).cell (World.block_lt_of_cell? _ _ hcm1)).trans hcm1, ((below_alloc (Below.refl _ _) _).cell (World.block_lt_of_cell? _ _ hcm2)).trans hcm2⟩ (fun hHeld => ?_)
 clear hK K
 refine sN ?_
 refine oneM (i := 105) (N := some 174) 81129638414606681695789005144063 HR.out rfl rfl (by kernel_rfl) (by kernel_rfl) (fun K hK => ?_)
 refine goes_ Try.func25 (by kernel_rfl) rfl #[.slice AHLE 2 cHLE, .slice (some ⟨Wa8.heap.size, 0, none⟩) 2 2] (by rfl) rfl rfl (by simp only [List.map_toArray, List.map_cons, List.map_nil]; rfl) ?_
 refine (posserlaw03_ints.calls 10 AHLE cHLE [0, 2] (some ⟨Wa8.heap.size, 0, none⟩) 2 [0, 2] true (Wa8.alloc (.cells #[.int .i64 0, .int .i64 2] 3)) (Kd.C_below CHLE.out (below_alloc (Below.refl _ _) _)) LHLE.out (lit_row (l := [0, 2]) (show (Wa8.alloc (.cells #[.int .i64 0, .int .i64 2] 3)).heap[Wa8.heap.size]? = some (.cells (([0, 2] : List Int).map (Value.int .i64)).toArray 3 (0, 0)) from blk_new Wa8 _)) (Nat.le_refl _) (by kernel_rfl)).mono ?_
 rintro e Wx ⟨rfl, ⟨nd, rfl⟩⟩
 have hb := pw_below_drewN (below_alloc (Below.refl Wa8.heap.size Wa8) (.cells #[.int .i64 0, .int .i64 2] 3)) nd
 replace hcw1 := (hb.cell (World.block_lt_of_cell? _ _ hcw1)).trans hcw1
 replace hcw3 := (hb.cell (World.block_lt_of_cell? _ _ hcw3)).trans hcw3
 replace hcg0 := (hb.cell (World.block_lt_of_cell? _ _ hcg0)).trans hcg0
 replace hcg1 := (hb.cell (World.block_lt_of_cell? _ _ hcg1)).trans hcg1
 replace hcm0 := (hb.cell (World.block_lt_of_cell? _ _ hcm0)).trans hcm0
 replace hcm1 := (hb.cell (World.block_lt_of_cell? _ _ hcm1)).trans hcm1
 replace hcm2 := (hb.cell (World.block_lt_of_cell? _ _ hcm2)).trans hcm2
 replace CHOW := Aside0.mk (Kd.C_below CHOW.out hb)
 replace CHAS := Aside0.mk (Kd.C_below CHAS.out hb)
 replace CHW1 := Aside0.mk (Kd.C_below CHW1.out hb)
 replace CHW3 := Aside0.mk (Kd.C_below CHW3.out hb)
 replace CHFE := Aside0.mk (Kd.C_below CHFE.out hb)
 replace CHMI := Aside0.mk (Kd.C_below CHMI.out hb)
 replace CHLE := Aside0.mk (Kd.C_below CHLE.out hb)
 replace HB := Aside0.mk (below_step HB.out hb)
 generalize ((Wa8.alloc (.cells #[.int .i64 0, .int .i64 2] 3)).drewN nd) = Wa9 at *
 clear hb
 refine ⟨_, rfl, ?_⟩
 refine hK.out _ _ ⟨hcw1, hcw3, hcg0, hcg1, hcm0, hcm1, hcm2⟩ (fun hHeld => ?_)
 clear hK K
 refine sN ?_
 refine sM (i := 106) (N := some 175) 162259276829213363391578010288127 HR ?_
 refine sM (i := 107) (N := some 0) 324518553658426726783156020576255 HR ?_
 refine doneM HR.out (by kernel_rfl) ?_
 go_wp2
 go_ret
 exact ⟨rfl, HB.out⟩
end Go.Proofs.Ytnbbbeghgomnoaa.X
namespace Go.Proofs.Ytnbbbeghgomnoaa.X
open Go.RowKit Go.Proofs.YtnbbbeghgomnoaaW.PrintWords Go.Proofs.YtnbbbeghgomnoaaW.PrintLast Go.Proofs.YtnbbbeghgomnoaaW.PrintMore
def thinP (l0 : List S109) (l1 : List S110) : Bool := decide (l0.length ≤ 30) && decide (l1.length ≤ 30) && l1.all (fun p => decide (p.f0.length ≤ 30))
def thinR (l0 : List S85) (l1 : List S71) : Bool := decide (l0.length ≤ 30) && decide (l1.length ≤ 30) && l1.all (fun p => decide (p.f0.length ≤ 30))
theorem thinP_tab {A0 : Option Addr} {c0 : Nat} {l0 : List S109} {A1 : Option Addr} {c1 : Nat} {l1 : List S110} {w : World} (h : thinP l0 l1 = true) (r0 : Kd.C k109 w A0 l0.length l0) (h0 : l0.length ≤ c0) (r1 : Kd.C k110 w A1 l1.length l1) (h1 : l1.length ≤ c1) : Tab A0 c0 l0 A1 c1 l1 w := by
 unfold thinP at h
 simp only [Bool.and_eq_true, decide_eq_true_eq, List.all_eq_true] at h
 exact ⟨r0, h0, r1, h1, h.1.1, h.1.2, h.2⟩
theorem thinR_tab {A0 : Option Addr} {c0 : Nat} {l0 : List S85} {A1 : Option Addr} {c1 : Nat} {l1 : List S71} {w : World} (h : thinR l0 l1 = true) (r0 : Kd.C k85 w A0 l0.length l0) (h0 : l0.length ≤ c0) (r1 : Kd.C k71 w A1 l1.length l1) (h1 : l1.length ≤ c1) : RTab A0 c0 l0 A1 c1 l1 w := by
 unfold thinR at h
 simp only [Bool.and_eq_true, decide_eq_true_eq, List.all_eq_true] at h
 exact ⟨r0, h0, r1, h1, h.1.1, h.1.2, h.2⟩
theorem some_if {α : Type} {p : Bool} {a r : α} (h : (if p = true then some a else none) = some r) : p = true ∧ r = a := by
 cases p
 ·cases h
 ·exact ⟨rfl, (Option.some.inj h).symm⟩
def posserlaw03_awake.f : Option (Bool) := some true
theorem posserlaw03_awake.calls (r : Bool) (w : World) (h : posserlaw03_awake.f = some r) :
  Calls Try.prog 21 #[] w fun e w' => e = .returned (.bool r) ∧ Below w.heap.size w w' := by
 obtain rfl := Option.some.inj h
 exact awake_calls w
def bundle_Whose.f (l0_0 : List (S109)) (l0_1 : List (S110)) (a0_2 : Int) : Option ((List (List Int)) × Int) := if thinP l0_0 l0_1 = true then some (if askE l0_0 l0_1 a0_2 = 0 then (whoseL l0_0.length l0_1.length (truthsL l0_0 l0_1 a0_2), 0) else ([], askE l0_0 l0_1 a0_2)) else none
theorem bundle_Whose.calls (A0_0 : Option Addr) (c0_0 : Nat) (l0_0 : List (S109)) (A0_1 : Option Addr) (c0_1 : Nat) (l0_1 : List (S110)) (a0_2 : Int) (r1 : List (List Int)) (r2 : Int) (w : World) (hr0_0 : Kd.C k109 w A0_0 l0_0.length l0_0) (hc0_0 : l0_0.length ≤ c0_0) (hr0_1 : Kd.C k110 w A0_1 l0_1.length l0_1) (hc0_1 : l0_1.length ≤ c0_1) (h : bundle_Whose.f l0_0 l0_1 a0_2 = some (r1, r2)) :
  Calls Try.prog 22 #[.agg #[.slice A0_0 l0_0.length c0_0, .slice A0_1 l0_1.length c0_1, .int .i64 a0_2]] w fun e w' => ∃ v0_ : Value, e = .returned (.tuple #[v0_, .int .i64 r2]) ∧ Kd.N (Kd.slice 3 (Kd.int .i64)) 39 w' w.heap.size (fun k_ => (w.heap.size ≤ k_)) v0_ r1 ∧ Below w.heap.size w w' := by
 obtain ⟨ht, hr⟩ := some_if h
 have hT := thinP_tab ht hr0_0 hc0_0 hr0_1 hc0_1
 by_cases he : askE l0_0 l0_1 a0_2 = 0
 ·rw [if_pos he] at hr
  injection hr with h1 h2
  subst h1 h2
  refine (Whose_ok a0_2 hT he).mono ?_
  rintro e w' ⟨v, rfl, hv, hb⟩
  exact ⟨v, rfl, Kd.R_N (Kd.R_mono (Kd.R_bound hv) (fun k hk => hk.2.1)), hb⟩
 ·rw [if_neg he] at hr
  injection hr with h1 h2
  subst h1 h2
  refine (Whose_e a0_2 hT he).mono ?_
  rintro e w' ⟨rfl, hb⟩
  exact ⟨_, rfl, Kd.N_nil _ _ _ _ _, hb⟩
def posserlaw03_Table.f (l0_0 : List (S85)) (l0_1 : List (S71)) (a0_2 : Int) : Option ((List (S109)) × (List (S110)) × Int) := if thinR l0_0 l0_1 = true then some (l0_0.map cvW, l0_1.map cvP, a0_2) else none
theorem posserlaw03_Table.calls (A0_0 : Option Addr) (c0_0 : Nat) (l0_0 : List (S85)) (A0_1 : Option Addr) (c0_1 : Nat) (l0_1 : List (S71)) (a0_2 : Int) (r1 : List (S109)) (r2 : List (S110)) (r3 : Int) (w : World) (hr0_0 : Kd.C k85 w A0_0 l0_0.length l0_0) (hc0_0 : l0_0.length ≤ c0_0) (hr0_1 : Kd.C k71 w A0_1 l0_1.length l0_1) (hc0_1 : l0_1.length ≤ c0_1) (h : posserlaw03_Table.f l0_0 l0_1 a0_2 = some (r1, r2, r3)) :
  Calls Try.prog 23 #[.agg #[.slice A0_0 l0_0.length c0_0, .slice A0_1 l0_1.length c0_1, .int .i64 a0_2]] w fun e w' => ∃ v0_ v1_ : Value, e = .returned (.agg #[v0_, v1_, .int .i64 r3]) ∧ Kd.R k109 109 w' w.heap.size (fun k_ => (w.heap.size ≤ k_)) v0_ r1 ∧ Kd.N k110 110 w' w.heap.size (fun k_ => (w.heap.size ≤ k_) ∧ some k_ ≠ (v0_ : Value).ownBlock) v1_ r2 ∧ Below w.heap.size w w' := by
 obtain ⟨ht, hr⟩ := some_if h
 injection hr with h1 hr
 injection hr with h2 h3
 subst h1 h2 h3
 refine (Table_calls r3 (thinR_tab ht hr0_0 hc0_0 hr0_1 hc0_1)).mono ?_
 rintro e w' ⟨B0, d0, B1, d1, rfl, _, hv, hp, hb⟩
 refine ⟨_, _, rfl, Kd.R_mono (Kd.R_bound hv) (fun k hk => hk.2.1), Kd.R_N (Kd.R_mono (Kd.R_bound hp) (fun k hk => ⟨hk.2.1, fun he => ?_⟩)), hb⟩
 obtain ⟨_, _, _, q, hq, cells, hc⟩ := hk
 obtain ⟨cells2, hc2⟩ := Kd.R_typed hv k he.symm
 rw [hc] at hc2
 injection hc2 with hc2
 injection hc2 with _ hc2
 subst hc2
 revert hq
 decide
def bundle_Misses.f (l0_0 : List (S109)) (l0_1 : List (S110)) (a0_2 : Int) : Option (List Int × Int) := if thinP l0_0 l0_1 = true then some (if askE l0_0 l0_1 a0_2 = 0 then (missL l0_1 (truthsL l0_0 l0_1 a0_2) l0_0.length, 0) else ([], askE l0_0 l0_1 a0_2)) else none
theorem bundle_Misses.calls (A0_0 : Option Addr) (c0_0 : Nat) (l0_0 : List (S109)) (A0_1 : Option Addr) (c0_1 : Nat) (l0_1 : List (S110)) (a0_2 : Int) (r1 : List Int) (r2 : Int) (w : World) (hr0_0 : Kd.C k109 w A0_0 l0_0.length l0_0) (hc0_0 : l0_0.length ≤ c0_0) (hr0_1 : Kd.C k110 w A0_1 l0_1.length l0_1) (hc0_1 : l0_1.length ≤ c0_1) (h : bundle_Misses.f l0_0 l0_1 a0_2 = some (r1, r2)) :
  Calls Try.prog 27 #[.agg #[.slice A0_0 l0_0.length c0_0, .slice A0_1 l0_1.length c0_1, .int .i64 a0_2]] w fun e w' => ∃ v0_ : Value, e = .returned (.tuple #[v0_, .int .i64 r2]) ∧ Kd.R (Kd.int .i64) 3 w' w.heap.size (fun _ => True) v0_ r1 ∧ Below w.heap.size w w' := by
 obtain ⟨ht, hr⟩ := some_if h
 have hT := thinP_tab ht hr0_0 hc0_0 hr0_1 hc0_1
 by_cases he : askE l0_0 l0_1 a0_2 = 0
 ·rw [if_pos he] at hr
  injection hr with h1 h2
  subst h1 h2
  exact Misses_ok a0_2 hT he
 ·rw [if_neg he] at hr
  injection hr with h1 h2
  subst h1 h2
  refine (Misses_e a0_2 hT he).mono ?_
  rintro e w' ⟨rfl, hb⟩
  exact ⟨_, rfl, Kd.R_nil _ _ _ _ _, hb⟩
def bundle_Look.f (l0_0 : List (S109)) (l0_1 : List (S110)) (a0_2 : Int) : Option (Int × Int × Int) := if thinP l0_0 l0_1 = true then some (if askE l0_0 l0_1 a0_2 = 0 then (if l0_1.length = 0 then (0, 0, 7) else ((lookL l0_0.length l0_1.length (truthsL l0_0 l0_1 a0_2) l0_1.length).1, (lookL l0_0.length l0_1.length (truthsL l0_0 l0_1 a0_2) l0_1.length).2, 0)) else (0, 0, askE l0_0 l0_1 a0_2)) else none
theorem bundle_Look.calls (A0_0 : Option Addr) (c0_0 : Nat) (l0_0 : List (S109)) (A0_1 : Option Addr) (c0_1 : Nat) (l0_1 : List (S110)) (a0_2 : Int) (r1 : Int) (r2 : Int) (r3 : Int) (w : World) (hr0_0 : Kd.C k109 w A0_0 l0_0.length l0_0) (hc0_0 : l0_0.length ≤ c0_0) (hr0_1 : Kd.C k110 w A0_1 l0_1.length l0_1) (hc0_1 : l0_1.length ≤ c0_1) (h : bundle_Look.f l0_0 l0_1 a0_2 = some (r1, r2, r3)) :
  Calls Try.prog 29 #[.agg #[.slice A0_0 l0_0.length c0_0, .slice A0_1 l0_1.length c0_1, .int .i64 a0_2]] w fun e w' => e = .returned (.tuple #[.int .i64 r1, .int .i64 r2, .int .i64 r3]) ∧ Below w.heap.size w w' := by
 obtain ⟨ht, hr⟩ := some_if h
 have hT := thinP_tab ht hr0_0 hc0_0 hr0_1 hc0_1
 by_cases he : askE l0_0 l0_1 a0_2 = 0
 ·rw [if_pos he] at hr
  by_cases hp : l0_1.length = 0
  ·rw [if_pos hp] at hr
   injection hr with h1 hr
   injection hr with h2 h3
   subst h1 h2 h3
   exact Look_none a0_2 hT he hp
  ·rw [if_neg hp] at hr
   injection hr with h1 hr
   injection hr with h2 h3
   subst h1 h2 h3
   exact Look_ok a0_2 hT he hp
 ·rw [if_neg he] at hr
  injection hr with h1 hr
  injection hr with h2 h3
  subst h1 h2 h3
  exact Look_e a0_2 hT he
def bundle_First.f (l0_0 : List (S109)) (l0_1 : List (S110)) (a0_2 : Int) : Option (Int × Int) := if thinP l0_0 l0_1 = true then some (if checkT l0_0 l0_1 a0_2 = 0 then ((firstL l0_0 l0_1).1, (firstL l0_0 l0_1).2) else (0, checkT l0_0 l0_1 a0_2)) else none
theorem bundle_First.calls (A0_0 : Option Addr) (c0_0 : Nat) (l0_0 : List (S109)) (A0_1 : Option Addr) (c0_1 : Nat) (l0_1 : List (S110)) (a0_2 : Int) (r1 : Int) (r2 : Int) (w : World) (hr0_0 : Kd.C k109 w A0_0 l0_0.length l0_0) (hc0_0 : l0_0.length ≤ c0_0) (hr0_1 : Kd.C k110 w A0_1 l0_1.length l0_1) (hc0_1 : l0_1.length ≤ c0_1) (h : bundle_First.f l0_0 l0_1 a0_2 = some (r1, r2)) :
  Calls Try.prog 31 #[.agg #[.slice A0_0 l0_0.length c0_0, .slice A0_1 l0_1.length c0_1, .int .i64 a0_2]] w fun e w' => e = .returned (.tuple #[.int .i64 r1, .int .i64 r2]) ∧ Below w.heap.size w w' := by
 obtain ⟨ht, hr⟩ := some_if h
 have hT := thinP_tab ht hr0_0 hc0_0 hr0_1 hc0_1
 by_cases he : checkT l0_0 l0_1 a0_2 = 0
 ·rw [if_pos he] at hr
  injection hr with h1 h2
  subst h1 h2
  exact First_ok a0_2 hT he
 ·rw [if_neg he] at hr
  injection hr with h1 h2
  subst h1 h2
  exact First_e a0_2 hT he
def bundle_Leave.f (l0_0 : List (S109)) (l0_1 : List (S110)) (a0_2 : Int) : Option (List Int × Int) := if thinP l0_0 l0_1 = true then some (if checkT l0_0 l0_1 a0_2 = 0 then (leaveL l0_0 l0_1, 0) else ([], checkT l0_0 l0_1 a0_2)) else none
theorem bundle_Leave.calls (A0_0 : Option Addr) (c0_0 : Nat) (l0_0 : List (S109)) (A0_1 : Option Addr) (c0_1 : Nat) (l0_1 : List (S110)) (a0_2 : Int) (r1 : List Int) (r2 : Int) (w : World) (hr0_0 : Kd.C k109 w A0_0 l0_0.length l0_0) (hc0_0 : l0_0.length ≤ c0_0) (hr0_1 : Kd.C k110 w A0_1 l0_1.length l0_1) (hc0_1 : l0_1.length ≤ c0_1) (h : bundle_Leave.f l0_0 l0_1 a0_2 = some (r1, r2)) :
  Calls Try.prog 32 #[.agg #[.slice A0_0 l0_0.length c0_0, .slice A0_1 l0_1.length c0_1, .int .i64 a0_2]] w fun e w' => ∃ v0_ : Value, e = .returned (.tuple #[v0_, .int .i64 r2]) ∧ Kd.R (Kd.int .i64) 3 w' w.heap.size (fun _ => True) v0_ r1 ∧ Below w.heap.size w w' := by
 obtain ⟨ht, hr⟩ := some_if h
 have hT := thinP_tab ht hr0_0 hc0_0 hr0_1 hc0_1
 by_cases he : checkT l0_0 l0_1 a0_2 = 0
 ·rw [if_pos he] at hr
  injection hr with h1 h2
  subst h1 h2
  exact Leave_ok a0_2 hT he
 ·rw [if_neg he] at hr
  injection hr with h1 h2
  subst h1 h2
  refine (Leave_e a0_2 hT he).mono ?_
  rintro e w' ⟨rfl, hb⟩
  exact ⟨_, rfl, Kd.R_nil _ _ _ _ _, hb⟩
def bundle_Astray.f (l0_0 : List (S109)) (l0_1 : List (S110)) (a0_2 : Int) : Option (Int × Int × Int) := if thinP l0_0 l0_1 = true then some (if askE l0_0 l0_1 a0_2 = 0 then ((boundsL (fun x => lostN l0_1 (pad x)) (truthsL l0_0 l0_1 a0_2)).1, (boundsL (fun x => lostN l0_1 (pad x)) (truthsL l0_0 l0_1 a0_2)).2, 0) else (0, 0, askE l0_0 l0_1 a0_2)) else none
theorem bundle_Astray.calls (A0_0 : Option Addr) (c0_0 : Nat) (l0_0 : List (S109)) (A0_1 : Option Addr) (c0_1 : Nat) (l0_1 : List (S110)) (a0_2 : Int) (r1 : Int) (r2 : Int) (r3 : Int) (w : World) (hr0_0 : Kd.C k109 w A0_0 l0_0.length l0_0) (hc0_0 : l0_0.length ≤ c0_0) (hr0_1 : Kd.C k110 w A0_1 l0_1.length l0_1) (hc0_1 : l0_1.length ≤ c0_1) (h : bundle_Astray.f l0_0 l0_1 a0_2 = some (r1, r2, r3)) :
  Calls Try.prog 37 #[.agg #[.slice A0_0 l0_0.length c0_0, .slice A0_1 l0_1.length c0_1, .int .i64 a0_2]] w fun e w' => e = .returned (.tuple #[.agg #[.int .i64 r1, .int .i64 r2], .int .i64 r3]) ∧ Below w.heap.size w w' := by
 obtain ⟨ht, hr⟩ := some_if h
 have hT := thinP_tab ht hr0_0 hc0_0 hr0_1 hc0_1
 by_cases he : askE l0_0 l0_1 a0_2 = 0
 ·rw [if_pos he] at hr
  injection hr with h1 hr
  injection hr with h2 h3
  subst h1 h2 h3
  exact Astray_ok a0_2 hT he
 ·rw [if_neg he] at hr
  injection hr with h1 hr
  injection hr with h2 h3
  subst h1 h2 h3
  exact Astray_e a0_2 hT he
def bundle_Fewest.f (l0_0 : List (S109)) (l0_1 : List (S110)) (a0_2 : Int) : Option (List Int × Int) := if thinP l0_0 l0_1 = true then some (if askE l0_0 l0_1 a0_2 = 0 then (bestL l0_1 (truthsL l0_0 l0_1 a0_2), 0) else ([], askE l0_0 l0_1 a0_2)) else none
theorem bundle_Fewest.calls (A0_0 : Option Addr) (c0_0 : Nat) (l0_0 : List (S109)) (A0_1 : Option Addr) (c0_1 : Nat) (l0_1 : List (S110)) (a0_2 : Int) (r1 : List Int) (r2 : Int) (w : World) (hr0_0 : Kd.C k109 w A0_0 l0_0.length l0_0) (hc0_0 : l0_0.length ≤ c0_0) (hr0_1 : Kd.C k110 w A0_1 l0_1.length l0_1) (hc0_1 : l0_1.length ≤ c0_1) (h : bundle_Fewest.f l0_0 l0_1 a0_2 = some (r1, r2)) :
  Calls Try.prog 38 #[.agg #[.slice A0_0 l0_0.length c0_0, .slice A0_1 l0_1.length c0_1, .int .i64 a0_2]] w fun e w' => ∃ v0_ : Value, e = .returned (.tuple #[v0_, .int .i64 r2]) ∧ Kd.R (Kd.int .i64) 3 w' w.heap.size (fun _ => True) v0_ r1 ∧ Below w.heap.size w w' := by
 obtain ⟨ht, hr⟩ := some_if h
 have hT := thinP_tab ht hr0_0 hc0_0 hr0_1 hc0_1
 by_cases he : askE l0_0 l0_1 a0_2 = 0
 ·rw [if_pos he] at hr
  injection hr with h1 h2
  subst h1 h2
  exact Fewest_ok a0_2 hT he
 ·rw [if_neg he] at hr
  injection hr with h1 h2
  subst h1 h2
  refine (Fewest_e a0_2 hT he).mono ?_
  rintro e w' ⟨rfl, hb⟩
  exact ⟨_, rfl, Kd.R_nil _ _ _ _ _, hb⟩
def bundle_Moves.f (l0_0 : List (S109)) (l0_1 : List (S110)) (a0_2 : Int) : Option ((List (S69)) × Int) := if thinP l0_0 l0_1 = true then some (if askE l0_0 l0_1 a0_2 = 0 then (movesL l0_1 (bestL l0_1 (truthsL l0_0 l0_1 a0_2)), 0) else ([], askE l0_0 l0_1 a0_2)) else none
theorem bundle_Moves.calls (A0_0 : Option Addr) (c0_0 : Nat) (l0_0 : List (S109)) (A0_1 : Option Addr) (c0_1 : Nat) (l0_1 : List (S110)) (a0_2 : Int) (r1 : List (S69)) (r2 : Int) (w : World) (hr0_0 : Kd.C k109 w A0_0 l0_0.length l0_0) (hc0_0 : l0_0.length ≤ c0_0) (hr0_1 : Kd.C k110 w A0_1 l0_1.length l0_1) (hc0_1 : l0_1.length ≤ c0_1) (h : bundle_Moves.f l0_0 l0_1 a0_2 = some (r1, r2)) :
  Calls Try.prog 39 #[.agg #[.slice A0_0 l0_0.length c0_0, .slice A0_1 l0_1.length c0_1, .int .i64 a0_2]] w fun e w' => ∃ v0_ : Value, e = .returned (.tuple #[v0_, .int .i64 r2]) ∧ Kd.R k69 69 w' w.heap.size (fun _ => True) v0_ r1 ∧ Below w.heap.size w w' := by
 obtain ⟨ht, hr⟩ := some_if h
 have hT := thinP_tab ht hr0_0 hc0_0 hr0_1 hc0_1
 by_cases he : askE l0_0 l0_1 a0_2 = 0
 ·rw [if_pos he] at hr
  injection hr with h1 h2
  subst h1 h2
  exact Moves_ok a0_2 hT he
 ·rw [if_neg he] at hr
  injection hr with h1 h2
  subst h1 h2
  refine (Moves_e a0_2 hT he).mono ?_
  rintro e w' ⟨rfl, hb⟩
  exact ⟨_, rfl, Kd.R_nil _ _ _ _ _, hb⟩
def posserlaw03_list.f (l0 : List Int) : Option (List Int) := if decide (l0.length ≤ 1000000) = true then some l0 else none
theorem posserlaw03_list.calls (A0 : Option Addr) (c0 : Nat) (l0 : List Int) (r : List Int) (w : World) (hr0 : Kd.C (Kd.int .i64) w A0 l0.length l0) (hc0 : l0.length ≤ c0) (h : posserlaw03_list.f l0 = some r) :
  Calls Try.prog 41 #[.slice A0 l0.length c0] w fun e w' => ∃ v0_ : Value, e = .returned (v0_) ∧ Kd.R (Kd.int .i64) 3 w' w.heap.size (fun _ => True) v0_ r ∧ Below w.heap.size w w' := by
 obtain ⟨ht, rfl⟩ := some_if h
 exact list_calls A0 c0 r w hr0 (of_decide_eq_true ht)
def bundle_Play.f (l0_0 : List (S109)) (l0_1 : List (S110)) (a0_2 : Int) (l1 : List Int) : Option (List Int × List Int × Int) := if (thinP l0_0 l0_1 && decide (l1.length ≤ 1000000)) = true then some (if checkT l0_0 l0_1 a0_2 = 0 then (if areB l0_0 l0_1 l1 = true then (ownL l0_0.length l0_1.length (pad l1), sel (off l0_1 (pad l1)) l0_1.length, 0) else ([], [], 2)) else ([], [], checkT l0_0 l0_1 a0_2)) else none
theorem bundle_Play.calls (A0_0 : Option Addr) (c0_0 : Nat) (l0_0 : List (S109)) (A0_1 : Option Addr) (c0_1 : Nat) (l0_1 : List (S110)) (a0_2 : Int) (A1 : Option Addr) (c1 : Nat) (l1 : List Int) (r1 : List Int) (r2 : List Int) (r3 : Int) (w : World) (hr0_0 : Kd.C k109 w A0_0 l0_0.length l0_0) (hc0_0 : l0_0.length ≤ c0_0) (hr0_1 : Kd.C k110 w A0_1 l0_1.length l0_1) (hc0_1 : l0_1.length ≤ c0_1) (hr1 : Kd.C (Kd.int .i64) w A1 l1.length l1) (hc1 : l1.length ≤ c1) (h : bundle_Play.f l0_0 l0_1 a0_2 l1 = some (r1, r2, r3)) :
  Calls Try.prog 50 #[.agg #[.slice A0_0 l0_0.length c0_0, .slice A0_1 l0_1.length c0_1, .int .i64 a0_2], .slice A1 l1.length c1] w fun e w' => ∃ v0_ v1_ : Value, e = .returned (.tuple #[v0_, v1_, .int .i64 r3]) ∧ Kd.R (Kd.int .i64) 3 w' w.heap.size (fun k_ => some k_ ≠ (v1_ : Value).ownBlock) v0_ r1 ∧ Kd.R (Kd.int .i64) 3 w' w.heap.size (fun k_ => some k_ ≠ (v0_ : Value).ownBlock) v1_ r2 ∧ Below w.heap.size w w' := by
 obtain ⟨ht, hr⟩ := some_if h
 simp only [Bool.and_eq_true, decide_eq_true_eq] at ht
 obtain ⟨ht, hl⟩ := ht
 have hT := thinP_tab ht hr0_0 hc0_0 hr0_1 hc0_1
 by_cases he : checkT l0_0 l0_1 a0_2 = 0
 ·rw [if_pos he] at hr
  by_cases ha : areB l0_0 l0_1 l1 = true
  ·rw [if_pos ha] at hr
   injection hr with h1 hr
   injection hr with h2 h3
   subst h1 h2 h3
   refine (Play_ok a0_2 hT hr1 hc1 hl he ha).mono ?_
   rintro e w' ⟨v1, v2, rfl, g1, g2, hne, hb⟩
   refine ⟨v1, v2, rfl, Kd.R_mono (Kd.R_tight rfl g1) (fun k hk => hne k hk.symm), Kd.R_mono (Kd.R_tight rfl g2) (fun k hk hk2 => hne k hk2.symm hk), hb⟩
  ·have ha' : areB l0_0 l0_1 l1 = false := Bool.eq_false_iff.2 ha
   rw [if_neg ha] at hr
   injection hr with h1 hr
   injection hr with h2 h3
   subst h1 h2 h3
   refine (Play_no a0_2 hT hr1 hc1 hl he ha').mono ?_
   rintro e w' ⟨rfl, hb⟩
   exact ⟨_, _, rfl, Kd.R_nil _ _ _ _ _, Kd.R_nil _ _ _ _ _, hb⟩
 ·rw [if_neg he] at hr
  injection hr with h1 hr
  injection hr with h2 h3
  subst h1 h2 h3
  refine (Play_e a0_2 hT hr1 hc1 hl he).mono ?_
  rintro e w' ⟨rfl, hb⟩
  exact ⟨_, _, rfl, Kd.R_nil _ _ _ _ _, Kd.R_nil _ _ _ _ _, hb⟩
end Go.Proofs.Ytnbbbeghgomnoaa.X
namespace Go.Proofs.Ytnbbbeghgomnoaa.X
open Go.RowKit Go.Proofs.YtnbbbeghgomnoaaW.PrintWords Go.Proofs.YtnbbbeghgomnoaaW.PrintLast Go.Proofs.YtnbbbeghgomnoaaW.PrintMore
attribute [local go_sem] max2_int min2_int max_two min_two max_three min_three max_four min_four
set_option linter.unusedVariables false
set_option linter.unusedSimpArgs false
def posserref03_In.f (a0 : Int) (a1 : Int) (a2 : Int) : Option (Bool) := if a0 ≥ a1 then (some (decide (a0 ≤ a2))) else (some false)
set_option maxHeartbeats 8000000 in
set_option maxRecDepth 100000 in
theorem posserref03_In.calls (a0 : Int) (a1 : Int) (a2 : Int) (r : Bool) (w : World) (h : posserref03_In.f a0 a1 a2 = some r) :
  Calls Try.prog 49 #[.int .i64 a0, .int .i64 a1, .int .i64 a2] w fun e w' => e = .returned (.bool r) ∧ Drawn0 w w' := by
 have H : (if a0 ≥ a1 then (some (decide (a0 ≤ a2))) else (some false)) = some r := h
 clear h
 by_cases c4 : a0 ≥ a1
 ·rw [if_pos c4] at H
  have c4b0 : decide (a1 ≤ a0) = true := decide_eq_true c4
  clear c4
  obtain rfl := Option.some.inj H
  go_enter Try.func49, Try.ntmps49
  go_wp2
  go_ret
  exact ⟨by first | rfl | (simp; done) | (simp [*]; done), by repeat (first | exact Drawn0.refl _ | apply Drawn0.step)⟩
 ·rw [if_neg c4] at H
  have c4b0 : decide (a1 ≤ a0) = false := decide_eq_false c4
  clear c4
  obtain rfl := Option.some.inj H
  go_enter Try.func49, Try.ntmps49
  go_wp2
  go_ret
  exact ⟨by first | rfl | (simp; done) | (simp [*]; done), by repeat (first | exact Drawn0.refl _ | apply Drawn0.step)⟩
end Go.Proofs.Ytnbbbeghgomnoaa.X
namespace Go.Proofs.Ytnbbbeghgomnoaa.X
open Go.RowKit Go.Proofs.YtnbbbeghgomnoaaW.PrintWords Go.Proofs.YtnbbbeghgomnoaaW.PrintLast Go.Proofs.YtnbbbeghgomnoaaW.PrintMore
attribute [local go_sem] max2_int min2_int max_two min_two max_three min_three max_four min_four
set_option linter.unusedVariables false
set_option linter.unusedSimpArgs false
def posserref03_Has.l0 : Nat → List Int → Int → Int → Option (Bool)
 | 0, _, _, _ => none
 | k + 1, x0, x1, x5 => if x5 < (x0.length : Int) then (if 0 ≤ x5 then (if (rd x0 x5) = x1 then (some true) else (posserref03_Has.l0 k x0 x1 (wrap64 (x5 + 1)))) else (none)) else (some false)
def posserref03_Has.f (k : Nat) (l0 : List Int) (a1 : Int) : Option (Bool) := posserref03_Has.l0 k l0 a1 0
set_option maxHeartbeats 8000000 in
set_option maxRecDepth 100000 in
theorem posserref03_Has.calls (k : Nat) (A0 : Option Addr) (c0 : Nat) (l0 : List Int) (a1 : Int) (r : Bool) (w : World) (hr0 : Kd.C (Kd.int .i64) w A0 l0.length l0) (hc0 : l0.length ≤ c0) (h : posserref03_Has.f k l0 a1 = some r) :
  Calls Try.prog 56 #[.slice A0 l0.length c0, .int .i64 a1] w fun e w' => e = .returned (.bool r) ∧ Drawn0 w w' := by
 have HR0 := Aside0.mk hr0
 have HC0 := Aside0.mk hc0
 clear hr0 hc0
 have H : (posserref03_Has.l0 k l0 a1 0) = some r := h
 clear h
 have H' := Aside0.mk H
 clear H
 go_enter Try.func56, Try.ntmps56
 go_wp2
 go_loopg [5] k (fun kq v5 w' => ∃ (x5_1 : Int), v5 = .int .i64 x5_1 ∧ Aside0 (posserref03_Has.l0 kq l0 a1 x5_1 = some r) ∧ Aside0 (kq ≤ k) ∧ Drawn0 w w')
 case atStart => exact ⟨(0), (by first | rfl | (simp; done) | (simp [*]; done)), H', ⟨Nat.le_refl _⟩, by repeat (first | exact Drawn0.refl _ | apply Drawn0.step)⟩
 case round =>
  clear H'
  try clear p2
  obtain ⟨x5_1, rfl, HA, HK1, ⟨m1, rfl⟩⟩ := hrel
  cases gk with
  | zero => exact absurd HA.out (by simp [posserref03_Has.l0])
  | succ k1 =>
   have H := HA.out
   clear HA
   simp only [posserref03_Has.l0] at H
   by_cases c3 : x5_1 < (l0.length : Int)
   ·rw [if_pos c3] at H
    have c3b0 : decide (x5_1 < (l0.length : Int)) = true := decide_eq_true c3
    clear c3
    by_cases c4 : 0 ≤ x5_1
    ·rw [if_pos c4] at H
     have c4b0 : decide (0 ≤ x5_1) = true := decide_eq_true c4
     clear c4
     by_cases c5 : (rd l0 x5_1) = a1
     ·rw [if_pos c5] at H
      have c5b0 : ((rd l0 x5_1) == a1) = true := beq_iff_eq.mpr c5
      have c5b1 : ((rd l0 x5_1) != a1) = false := bne_eq_false_iff_eq.mpr c5
      clear c5
      obtain rfl := Option.some.inj H
      have p103 : 0 ≤ (x5_1 : Int) := of_decide_eq_true (by first | (with_reducible assumption) | assumption)
      have q103 : x5_1 < (l0.length : Int) := of_decide_eq_true (by first | (with_reducible assumption) | assumption)
      obtain ⟨ad103, e103, hx103_0⟩ := Kd.at_int HR0.out x5_1 p103 q103
      cases e103
      replace p103 := eq_true p103
      replace q103 := eq_true q103
      go_wp2
      go_ret
      exact ⟨by first | rfl | (simp; done) | (simp [*]; done), by repeat (first | exact Drawn0.refl _ | apply Drawn0.step)⟩
     ·rw [if_neg c5] at H
      have c5b0 : ((rd l0 x5_1) == a1) = false := beq_eq_false_iff_ne.mpr c5
      have c5b1 : ((rd l0 x5_1) != a1) = true := bne_iff_ne.mpr c5
      have H' := Aside0.mk H
      clear H
      have p103 : 0 ≤ (x5_1 : Int) := of_decide_eq_true (by first | (with_reducible assumption) | assumption)
      have q103 : x5_1 < (l0.length : Int) := of_decide_eq_true (by first | (with_reducible assumption) | assumption)
      obtain ⟨ad103, e103, hx103_0⟩ := Kd.at_int HR0.out x5_1 p103 q103
      cases e103
      replace p103 := eq_true p103
      replace q103 := eq_true q103
      go_wp2
      go_roundg k1
      case measure => have := HK1.out; omega
      case rel => exact ⟨(wrap64 (x5_1 + 1)), (by first | rfl | (simp; done) | (simp [*]; done)), H', ⟨by have := HK1.out; omega⟩, by repeat (first | exact Drawn0.refl _ | apply Drawn0.step)⟩
    ·rw [if_neg c4] at H
     exact absurd H (by simp)
   ·rw [if_neg c3] at H
    have c3b0 : decide (x5_1 < (l0.length : Int)) = false := decide_eq_false c3
    clear c3
    obtain rfl := Option.some.inj H
    go_wp2
    go_ret
    exact ⟨by first | rfl | (simp; done) | (simp [*]; done), by repeat (first | exact Drawn0.refl _ | apply Drawn0.step)⟩
end Go.Proofs.Ytnbbbeghgomnoaa.X
