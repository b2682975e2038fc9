/-
  Words and walks of the wash-house's bundles, part 3 of 5: what all these proofs lean on.
-/
import Derived.Test.YtnbbbeghgomnoaaQBase02
set_option linter.unusedVariables false
set_option linter.unusedSimpArgs false
namespace Go.Proofs.Ytnbbbeghgomnoaa.X
open Go.RowKit Go.Proofs.YtnbbbeghgomnoaaW.PrintWords Go.Proofs.YtnbbbeghgomnoaaW.PrintLast Go.Proofs.YtnbbbeghgomnoaaW.PrintMore
attribute [local go_sem] Oper.semAt_some
attribute [local go_sem high] eq121r
theorem mkmap_event {P : Program} {ops : Array Oper} {o : Oper} {rest : List Oper} {a : Act} {Q : Exit → Act → World → Prop} {W : World} (hgd : o.guard = none)
  (hrun : (execOp a.eval o).run P W = .ok (.value (.map (some W.heap.size))) (W.alloc (.map #[] 0)))
  (h : ∀ g, g = W.heap.size → ∀ w1, MapL w1 g [] → Below W.heap.size W w1 → wpList P ops Q rest (a.put o.dst (.map (some g))) w1) : wpList P ops Q (o :: rest) a W :=
 Kd.event_run hgd hrun (h _ rfl _ (by show (W.alloc (.map #[] 0)).heap[W.heap.size]? = _; exact blk_new W _) (below_alloc (Below.refl _ _) _))
set_option maxHeartbeats 4000000 in
set_option maxRecDepth 100000 in
theorem asked_err {A0 : Option Addr} {c0 : Nat} {l0 : List S109} {A1 : Option Addr} {c1 : Nat} {l1 : List S110} (wg : Int) {w : World} (ht : Tab A0 c0 l0 A1 c1 l1 w) (he : checkT l0 l1 wg ≠ 0) :
  Calls Try.prog 68 #[.agg #[.slice A0 l0.length c0, .slice A1 l1.length c1, .int .i64 wg]] w fun e w' => e = .returned (.tuple #[.pointer none, .int .i64 (checkT l0 l1 wg)]) ∧ Below w.heap.size w w' := by
 have hu35 := Try.underlying35
 have HT := Aside0.mk ht
 have HE := Aside0.mk he
 clear ht he
 have HB := Aside0.mk (Below.refl w.heap.size w)
 go_enter Try.func68, Try.ntmps68
 go_wp2_with (first | ((with_reducible refine gate_dst (N := 1) rfl ?_); refine sbox (N := 1) #[.slice A0 l0.length c0, .slice A1 l1.length c1, .int .i64 wg] 35 ?_; intro g1 hg W_ hbox hb; have GEg1 := Aside0.mk (by rw [hg]; exact HB.out.size : w.heap.size ≤ g1); replace HB := Aside0.mk (below_step HB.out hb); have BKg1 := Aside0.mk hbox; clear hb hbox hg; have hczg1_0 : W_.cell? ⟨g1, 0, none⟩ = some (.slice A0 l0.length c0) := (blk_cell BKg1.out 0).trans rfl; have hczg1_1 : W_.cell? ⟨g1, 1, none⟩ = some (.slice A1 l1.length c1) := (blk_cell BKg1.out 1).trans rfl; have hczg1_2 : W_.cell? ⟨g1, 2, none⟩ = some (.int .i64 wg) := (blk_cell BKg1.out 2).trans rfl) | (go_at_call 61; refine (check_calls wg (HT.out.below HB.out)).mono ?_; rintro e W_ ⟨rfl, hb⟩; replace BKg1 := Aside0.mk (blk_below BKg1.out hb); replace HB := Aside0.mk (below_step HB.out hb); clear hb; have he := HE.out; generalize hec : checkT l0 l1 wg = ec at *; have hne : (ec == (0 : Int)) = false := by simpa using he))
 go_ret2
 exact ⟨by rw [hec]; rfl, HB.out⟩
set_option maxHeartbeats 4000000 in
set_option maxRecDepth 100000 in
theorem asked_calls {A0 : Option Addr} {c0 : Nat} {l0 : List S109} {A1 : Option Addr} {c1 : Nat} {l1 : List S110} (wg : Int) {w : World} (ht : Tab A0 c0 l0 A1 c1 l1 w) (he : checkT l0 l1 wg = 0) :
  Calls Try.prog 68 #[.agg #[.slice A0 l0.length c0, .slice A1 l1.length c1, .int .i64 wg]] w fun e w' => Below w.heap.size w w' ∧ ((truthsL l0 l1 wg = [] ∧ e = .returned (.tuple #[.pointer none, .int .i64 11])) ∨
   (truthsL l0 l1 wg ≠ [] ∧ ∃ gw gm vt, w.heap.size ≤ gw ∧ w.heap.size ≤ gm ∧ e = .returned (.tuple #[.pointer (some ⟨gw, 0, none⟩), .int .i64 0]) ∧ w'.heap[gw]? = some (.cells (wcs A0 l0.length c0 A1 l1.length c1 wg vt gm) 105 (0, 0)) ∧
    Kd.R k121 121 w' w.heap.size (fun _ => True) vt (truthsL l0 l1 wg) ∧ ∃ L, MapL w' gm L ∧ ∀ i k, getL L (i, k) = manyS l1.length (truthsL l0 l1 wg) i k)) := by
 have hu35 := Try.underlying35
 have hu121 := Try.underlying121
 have hu105 := Try.underlying105
 have hu99 := Try.underlying99
 have HV := Aside0.mk (checkT_zero he)
 have HT := Aside0.mk ht
 have HE := Aside0.mk he
 clear ht he
 have HB := Aside0.mk (Below.refl w.heap.size w)
 refine callsIn_wide.1 (callsIn_of_wp_marks (n := 0) Try.func68 rfl trivial ?_ rfl)
 refine wpIn_wide.2 ?_
 simp only [Try.ntmps68, List.size_toArray, List.length_cons, List.length_nil, Nat.reduceAdd, Nat.reduceSub, Array.replicate_succ, Array.replicate_zero, List.push_toArray, List.append_toArray, List.nil_append, List.cons_append]
 go_wp2_with (first | ((with_reducible refine gate_dst (N := 1) rfl ?_); refine sbox (N := 1) #[.slice A0 l0.length c0, .slice A1 l1.length c1, .int .i64 wg] 35 ?_; intro g1 hg W_ hbox hb; have GEg1 := Aside0.mk (by rw [hg]; exact HB.out.size : w.heap.size ≤ g1); replace HB := Aside0.mk (below_step HB.out hb); have BKg1 := Aside0.mk hbox; clear hb hbox hg; have hczg1_0 : W_.cell? ⟨g1, 0, none⟩ = some (.slice A0 l0.length c0) := (blk_cell BKg1.out 0).trans rfl; have hczg1_1 : W_.cell? ⟨g1, 1, none⟩ = some (.slice A1 l1.length c1) := (blk_cell BKg1.out 1).trans rfl; have hczg1_2 : W_.cell? ⟨g1, 2, none⟩ = some (.int .i64 wg) := (blk_cell BKg1.out 2).trans rfl) | (go_at_call 61; refine (check_calls wg (HT.out.below HB.out)).mono ?_; rintro e W_ ⟨rfl, hb⟩; replace BKg1 := Aside0.mk (blk_below BKg1.out hb); replace HB := Aside0.mk (below_step HB.out hb); clear hb; have hczg1_0 : W_.cell? ⟨g1, 0, none⟩ = some (.slice A0 l0.length c0) := (blk_cell BKg1.out 0).trans rfl; have hczg1_1 : W_.cell? ⟨g1, 1, none⟩ = some (.slice A1 l1.length c1) := (blk_cell BKg1.out 1).trans rfl; have hczg1_2 : W_.cell? ⟨g1, 2, none⟩ = some (.int .i64 wg) := (blk_cell BKg1.out 2).trans rfl; have he := HE.out; generalize hec : checkT l0 l1 wg = ec at *; subst he) | ((with_reducible refine gate_dst (N := 14) rfl ?_); refine mkmap_event ?hg ?hr ?_; (case hg => rfl); (case hr => go_simp; rfl); intro gm hg W_ hmp hb; have GEm := Aside0.mk (by rw [hg]; exact HB.out.size : w.heap.size ≤ gm); have LTm := Aside0.mk (by rw [hg]; exact blk_lt BKg1.out : g1 < gm); replace BKg1 := Aside0.mk (blk_below BKg1.out hb); replace HB := Aside0.mk (below_step HB.out hb); have BKm := Aside0.mk hmp; clear hb hmp hg) | ((with_reducible refine gate_dst (N := 16) rfl ?_); refine sbox (N := 16) #[.slice A0 l0.length c0, .slice A1 l1.length c1, .int .i64 wg, .slice none 0 0, .map (some gm)] 105 ?_; intro gw hg W_ hbox hb; have LTgw_gm := Aside0.mk (by rw [hg]; exact blk_lt BKm.out : gm < gw); have LTgw_g1 := Aside0.mk (by rw [hg]; exact blk_lt BKg1.out : g1 < gw); have GEgw := Aside0.mk (by rw [hg]; exact HB.out.size : w.heap.size ≤ gw); replace BKg1 := Aside0.mk (blk_below BKg1.out hb); replace BKm := Aside0.mk (blk_below (o := .map _ _) BKm.out hb); replace HB := Aside0.mk (below_step HB.out hb); have BKgw := Aside0.mk hbox; clear hb hbox hg) | ((with_reducible refine gate_dst (N := 5) rfl ?_); refine sbox (N := 5) #[.pointer none] 99 ?_; intro g5 hg W_ hbox hb; have LTg5_gw := Aside0.mk (by rw [hg]; exact blk_lt BKgw.out : gw < g5); have LTg5_g1 := Aside0.mk (by rw [hg]; exact blk_lt BKg1.out : g1 < g5); have LTg5_gm := Aside0.mk (by rw [hg]; exact blk_lt BKm.out : gm < g5); have GEg5 := Aside0.mk (by rw [hg]; exact HB.out.size : w.heap.size ≤ g5); replace BKg1 := Aside0.mk (blk_below BKg1.out hb); replace BKm := Aside0.mk (blk_below (o := .map _ _) BKm.out hb); replace BKgw := Aside0.mk (blk_below BKgw.out hb); replace HB := Aside0.mk (below_step HB.out hb); have BKg5 := Aside0.mk hbox; clear hb hbox hg; have hczg1_0 : W_.cell? ⟨g1, 0, none⟩ = some (.slice A0 l0.length c0) := (blk_cell BKg1.out 0).trans rfl; have hczg1_1 : W_.cell? ⟨g1, 1, none⟩ = some (.slice A1 l1.length c1) := (blk_cell BKg1.out 1).trans rfl; have hczg1_2 : W_.cell? ⟨g1, 2, none⟩ = some (.int .i64 wg) := (blk_cell BKg1.out 2).trans rfl; have hf5 : W_.frozen? ⟨g5, 0, none⟩ = false := blk_frozen BKg5.out 0; have hx5 : W_.cell? ⟨g5, 0, none⟩ = some (.pointer none) := (blk_cell BKg5.out 0).trans rfl; have hne51 : g5 ≠ g1 := by have := LTg5_g1.out; omega) | (go_at_call 96; refine (lists_calls A0 c0 l0.length A1 c1 l1.length wg _).mono ?_; rintro e W5 ⟨rfl, hk, hb⟩; have hsz : (W_.setCell ⟨g5, 0, none⟩ (.pointer (some ⟨gw, 0, none⟩))).heap.size = W_.heap.size := (by simp [World.setCell]); have LTg1 := Aside0.mk (LTm.out); have HS5 := Aside0.mk (blk_lt BKg5.out);  have hbs : Below w.heap.size w (W_.setCell ⟨g5, 0, none⟩ (.pointer (some ⟨gw, 0, none⟩))) := HB.out.setCell (p := ⟨g5, 0, none⟩) GEg5.out _;  have HI := Aside0.mk (show AskI w A0 l0.length c0 A1 l1.length c1 wg g1 g5 gw gm W5.heap.size W5 (.slice none 0 0) [] (fun _ _ => 0) from ⟨hbs.trans (hb.mono hbs.size), blk_below (blk_far BKg1.out (show g1 ≠ g5 by have := LTg5_g1.out; omega) _) hb, blk_below (blk_put BKg5.out 0 _ rfl) hb, blk_below (blk_far BKgw.out (show gw ≠ g5 by have := LTg5_gw.out; omega) _) hb, Kd.R_nil _ _ _ _ _, [], blk_below (o := .map _ _) ((Below.heap_setCell W_ ⟨g5, 0, none⟩ _ gm (show gm ≠ g5 by have := LTg5_gm.out; omega)).trans BKm.out) hb, fun _ _ => rfl⟩);  have HB5 := Aside0.mk (hbs.trans (hb.mono hbs.size)); rw [hsz] at hk; have BKl := Aside0.mk hk; have HG1 := Aside0.mk (show w.heap.size ≤ W_.heap.size from HB.out.size); have HGS := Aside0.mk (show W_.heap.size < W5.heap.size from by have := blk_lt hk; omega); clear hk hb hbs hczg1_0 hczg1_1 hczg1_2; clear hsz))
 generalize hgl : W_.heap.size = gl at *
 have HGL := Aside0.mk (show g1 < W5.heap.size ∧ g5 < W5.heap.size ∧ gw < W5.heap.size ∧ gm < W5.heap.size ∧ w.heap.size ≤ W5.heap.size ∧ g5 < gl ∧ gw < gl ∧ gm < gl ∧ gl < W5.heap.size from by
  have h1 := LTg5_g1.out
  have h2 := LTg5_gw.out
  have h3 := LTg5_gm.out
  have h4 := HS5.out
  have h5 := HGS.out
  have h6 := HB5.out.size
  have h7 := blk_lt BKl.out
  omega)
 have HW := Aside0.mk (And.intro GEm.out (And.intro GEgw.out GEg5.out))
 have HN := Aside0.mk (And.intro LTg5_gw.out (And.intro LTg5_gm.out LTgw_gm.out))
 clear hgl HGS HS5 LTg5_g1 LTg5_gw LTg5_gm GEm GEgw GEg5 LTm BKg1 BKgw BKg5 BKm HB
 refine wp_rangeR (gf := 108) (lb := #[.pointer (some ⟨gl, 0, none⟩)]) (enc := fun xs => .agg (ac (pad xs))) (ALL := allL l0 l1) (B0 := w.heap.size) (X := fun k => k = gw ∨ k = gm) rfl (enters_of Try.func108 (by kernel_rfl) rfl) HB5.out.size (fun k hk e => by have := HGL.out; omega)
  (lists1_seq w A0 c0 l0 A1 c1 l1 wg gl (fun k => k = gw ∨ k = gm) W5 HT.out.r0 HT.out.h0 HT.out.r1 HT.out.h1 HT.out.n0 HV.out.n1 HT.out.ms HB5.out BKl.out (fun e => by have := HGL.out; omega) (fun k hk e => by have := HGL.out; omega)) rfl
  (fun pre W => ∃ vt, AskI w A0 l0.length c0 A1 l1.length c1 wg g1 g5 gw gm W5.heap.size W vt (pre.filter (isT l0 l1.length wg)) (fun i k => manyS l1.length (pre.filter (isT l0 l1.length wg)) i k))
  (fun _ _ _ => False)
  (fun s A B row hs hg hr => by obtain ⟨vt, hs⟩ := hs; exact ⟨vt, hs.grown hg hr HGL.out.2.2.2.2.1 HGL.out.1 HGL.out.2.1 HGL.out.2.2.1 HGL.out.2.2.2.1⟩)
  (fun c s A B row hs hg hr => hs)
  ⟨_, by simpa [manyS] using HI.out⟩
  (fun x a' W => ∃ g6, W5.heap.size + 3 < g6 ∧ W.heap[g6]? = some (.cells (ac (pad x)) 121 (0, 0)) ∧ (∀ vt, W.heap[gw]? = some (.cells (wcs A0 l0.length c0 A1 l1.length c1 wg vt gm) 105 (0, 0)) → some g6 ≠ vt.ownBlock) ∧ a' = { tmps := #[.agg #[.slice A0 l0.length c0, .slice A1 l1.length c1, .int .i64 wg], .pointer (some ⟨g1, 0, none⟩), .pointer none, .int .i64 0, .int .i64 0, .pointer (some ⟨g5, 0, none⟩), .pointer (some ⟨g6, 0, none⟩), undef, .agg #[.slice A0 l0.length c0, .slice A1 l1.length c1, .int .i64 wg], .int .i64 0, .int .i64 0, .bool false, undef, .agg #[.slice A0 l0.length c0, .slice A1 l1.length c1, .int .i64 wg], .map (some gm), .agg #[.slice A0 l0.length c0, .slice A1 l1.length c1, .int .i64 wg, .slice none 0 0, .map (some gm)], .pointer (some ⟨gw, 0, none⟩), .agg #[.slice A0 l0.length c0, .slice A1 l1.length c1, .int .i64 wg], .func (.func 108) #[] #[.pointer (some ⟨gl, 0, none⟩)], .agg (ac (pad x)), undef, undef, undef, undef, undef, undef, undef, undef, undef, undef, undef, undef, undef, undef, undef, undef, undef, undef, undef, undef, undef, undef, undef, undef, undef, undef, undef, undef, undef, undef, undef, undef, undef, undef, undef, undef, undef, undef, undef, undef, undef, undef, undef, undef, undef, undef, undef, undef, undef, undef, undef, undef, undef, undef, undef, undef, undef, undef, undef, undef, undef, undef, undef, undef, undef, undef, undef, undef], defers := [] })
  (fun x a' s A B row hs hg hr => by
   obtain ⟨g6, h1, h2, h4, h3⟩ := hs
   refine ⟨g6, h1, abide_blk h2 hg hr (.inr h1), fun vt hv => h4 vt ?_, h3⟩
   have := blk_lt h2
   rw [← hv]
   exact (hg.block gw (by have := HGL.out; omega) (fun e => by have := hr gw e.symm; have := HGL.out; omega)).symm) ?assign ?body ?done ?stop
 case assign =>
  intro l pre x W K hi hz hK
  unfold ac
  gi_wp2
  obtain ⟨vt, hi⟩ := hi
  exact hK _ _ (Kp.of_below (below_alloc (Below.refl _ _) _) hi.hb.size hz) ⟨vt, hi.below (below_alloc (Below.refl _ _) _)⟩ ⟨W.heap.size, hz, heap_alloc_new W _, fun vt2 hv he => by
   have h1 := (below_alloc (Below.refl W.heap.size W) (.cells #[.int .i64 (pad x 0), .int .i64 (pad x 1), .int .i64 (pad x 2), .int .i64 (pad x 3), .int .i64 (pad x 4), .int .i64 (pad x 5), .int .i64 (pad x 6)] 121)).block gw (blk_lt hi.kw)
   rw [hv, hi.kw] at h1
   have h2 : vt2 = vt := by simpa [wcs] using h1
   rw [h2] at he
   have := Kd.R_lt hi.row W.heap.size he.symm
   omega, rfl⟩
 case body => 
  rintro l pre x a' W ⟨vt, hi⟩ ⟨g6, hg6, hk6, hn6, rfl⟩ hz hp
  have HI := Aside0.mk hi
  have HK6 := Aside0.mk hk6
  have HN6 := Aside0.mk (hn6 vt hi.kw)
  have HG6 := Aside0.mk hg6
  have HZ := Aside0.mk hz
  have HSZ := Aside0.mk hi.hb.size
  have hxm : x ∈ allL l0 l1 := hp.subset (by simp)
  have HOW := Aside0.mk (allL_owners l0 l1 x hxm)
  have HXL := Aside0.mk ((allL_mem l0 l1 x).1 hxm).1
  have HB1 := Aside0.mk (Below.refl W.heap.size W)
  have HPL0 := Aside0.mk (show pre.length ≤ 78125 from Nat.le_trans (Nat.le_trans (by simp) hp.length_le) (allL_len HV.out.n0 HV.out.n1))
  have HPP := Aside0.mk hp
  have HI0 := HI
  clear hi hk6 hn6 hg6 hz hxm hp
  apply wpIn_block
  repeat (apply wpIn_seq_k; intro _ _)
  have hct0 : W.cell? ⟨g1, 0, none⟩ = some (.slice A0 l0.length c0) := (blk_cell HI.out.k1 0).trans rfl
  have hct1 : W.cell? ⟨g1, 1, none⟩ = some (.slice A1 l1.length c1) := (blk_cell HI.out.k1 1).trans rfl
  have hct2 : W.cell? ⟨g1, 2, none⟩ = some (.int .i64 wg) := (blk_cell HI.out.k1 2).trans rfl
  have hca0 : W.cell? ⟨g6, 0, none⟩ = some (.int .i64 (pad x 0)) := (blk_cell HK6.out 0).trans rfl
  have hca1 : W.cell? ⟨g6, 1, none⟩ = some (.int .i64 (pad x 1)) := (blk_cell HK6.out 1).trans rfl
  have hca2 : W.cell? ⟨g6, 2, none⟩ = some (.int .i64 (pad x 2)) := (blk_cell HK6.out 2).trans rfl
  have hca3 : W.cell? ⟨g6, 3, none⟩ = some (.int .i64 (pad x 3)) := (blk_cell HK6.out 3).trans rfl
  have hca4 : W.cell? ⟨g6, 4, none⟩ = some (.int .i64 (pad x 4)) := (blk_cell HK6.out 4).trans rfl
  have hca5 : W.cell? ⟨g6, 5, none⟩ = some (.int .i64 (pad x 5)) := (blk_cell HK6.out 5).trans rfl
  have hca6 : W.cell? ⟨g6, 6, none⟩ = some (.int .i64 (pad x 6)) := (blk_cell HK6.out 6).trans rfl
  have hc5 : W.cell? ⟨g5, 0, none⟩ = some (.pointer (some ⟨gw, 0, none⟩)) := (blk_cell HI.out.k5 0).trans rfl
  obtain ⟨nb, hnb⟩ : ∃ nb : Nat, (sel (bad l0 l1.length (pad x)) l0.length).length = nb := ⟨_, rfl⟩
  have HNB := Aside0.mk hnb
  clear hnb
  have hnbl : nb ≤ l0.length := by rw [← HNB.out]; exact sel_le _ _
  have hT : isT l0 l1.length wg x = decide ((nb : Int) ≤ wg) := by unfold isT; rw [HNB.out]
  by_cases htr : wg < (nb : Int)
  ·have htd : decide (wg < (nb : Int)) = true := by simpa using htr
   have HFA := Aside0.mk (show (pre ++ [x]).filter (isT l0 l1.length wg) = pre.filter (isT l0 l1.length wg) from by
    rw [List.filter_append]
    have : isT l0 l1.length wg x = false := by rw [hT]; simpa using htr
    simp [this])
   clear hT
   refine startIn_ (m := 31) (S := fun w' => w'.cell? ⟨g1, 0, none⟩ = some (.slice A0 l0.length c0) ∧ w'.cell? ⟨g1, 1, none⟩ = some (.slice A1 l1.length c1) ∧ w'.cell? ⟨g1, 2, none⟩ = some (.int .i64 wg) ∧ w'.cell? ⟨g6, 0, none⟩ = some (.int .i64 (pad x 0)) ∧ w'.cell? ⟨g6, 1, none⟩ = some (.int .i64 (pad x 1)) ∧ w'.cell? ⟨g6, 2, none⟩ = some (.int .i64 (pad x 2)) ∧ w'.cell? ⟨g6, 3, none⟩ = some (.int .i64 (pad x 3)) ∧ w'.cell? ⟨g6, 4, none⟩ = some (.int .i64 (pad x 4)) ∧ w'.cell? ⟨g6, 5, none⟩ = some (.int .i64 (pad x 5)) ∧ w'.cell? ⟨g6, 6, none⟩ = some (.int .i64 (pad x 6))) (ds := []) (fun ⟨_, _, h⟩ => h) (by rfl) (lm 31 0) (by kernel_rfl) rfl (by kernel_rfl) ⟨hct0, hct1, hct2, hca0, hca1, hca2, hca3, hca4, hca5, hca6⟩ (fun hHeld => ?_)
   replace HI := Aside0.mk (HI.out.below (below_drew1 (Below.refl _ _)))
   replace HK6 := Aside0.mk (show W.drew.heap[g6]? = _ from HK6.out)
   replace HB1 := Aside0.mk (below_drew1 HB1.out)
   replace hct0 := (show W.drew.cell? _ = _ from hct0)
   replace hct1 := (show W.drew.cell? _ = _ from hct1)
   replace hct2 := (show W.drew.cell? _ = _ from hct2)
   replace hca0 := (show W.drew.cell? _ = _ from hca0)
   replace hca1 := (show W.drew.cell? _ = _ from hca1)
   replace hca2 := (show W.drew.cell? _ = _ from hca2)
   replace hca3 := (show W.drew.cell? _ = _ from hca3)
   replace hca4 := (show W.drew.cell? _ = _ from hca4)
   replace hca5 := (show W.drew.cell? _ = _ from hca5)
   replace hca6 := (show W.drew.cell? _ = _ from hca6)
   generalize W.drew = W2 at *
   have HCW := Aside0.mk (wrong_calls A0 c0 l0 A1 c1 l1 wg (pad x) W2 (Kd.C_below HT.out.r0 HI.out.hb) HT.out.n0 HV.out.n1 HOW.out)
   unfold ac at HCW
   refine sP (i := 4) (N := some 24) (lm 31 16) ?_
   refine take_ (i := 0) (N := some 20) (v := ?_) (a' := ?_) (lm 31 17) rfl rfl (by kernel_rfl) (fun _ _ _ h => h) (Or.inl ⟨by rfl, ?_⟩) hHeld ?_ ?_
   rotate_left
   ·rintro w' ⟨s0, s1, s2, s3, s4, s5, s6, s7, s8, s9⟩
    go_simp
    with_reducible rfl
   rotate_left
   ·simp only [Act.put, List.setIfInBounds_toArray, List.set_cons_zero, List.set_cons_succ, i64_w, i32_w]
    rfl
   refine take_ (i := 1) (N := some 21) (v := ?_) (a' := ?_) (lm 31 19) rfl rfl (by kernel_rfl) (fun _ _ _ h => h) (Or.inl ⟨by rfl, ?_⟩) hHeld ?_ ?_
   rotate_left
   ·rintro w' ⟨s0, s1, s2, s3, s4, s5, s6, s7, s8, s9⟩
    go_simp
    with_reducible rfl
   rotate_left
   ·simp only [Act.put, List.setIfInBounds_toArray, List.set_cons_zero, List.set_cons_succ, i64_w, i32_w]
    rfl
   refine take_ (i := 5) (N := some 25) (v := ?_) (a' := ?_) (lm 31 51) rfl rfl (by kernel_rfl) (fun _ _ _ h => h) (Or.inl ⟨by rfl, ?_⟩) hHeld ?_ ?_
   rotate_left
   ·rintro w' ⟨s0, s1, s2, s3, s4, s5, s6, s7, s8, s9⟩
    go_simp
    with_reducible rfl
   rotate_left
   ·simp only [Act.put, List.setIfInBounds_toArray, List.set_cons_zero, List.set_cons_succ, i64_w, i32_w]
    rfl
   refine one_ (i := 2) (N := some 22) (lm 31 55) rfl rfl (by kernel_rfl) (by decide) (fun K hK => ?_)
   refine goes_ Try.func86 (by kernel_rfl) rfl #[.agg #[.slice A0 l0.length c0, .slice A1 l1.length c1, .int .i64 wg], .agg #[.int .i64 (pad x 0), .int .i64 (pad x 1), .int .i64 (pad x 2), .int .i64 (pad x 3), .int .i64 (pad x 4), .int .i64 (pad x 5), .int .i64 (pad x 6)]] (by rfl) rfl rfl (by simp only [List.map_toArray, List.map_cons, List.map_nil]; rfl) ?_
   with_reducible refine (HCW.out).mono ?_
   rintro e W3 ⟨v22, rfl, ho, hb⟩
   refine ⟨_, rfl, ?_⟩
   replace hct0 := (hb.cell (World.block_lt_of_cell? _ _ hct0)).trans hct0
   replace hct1 := (hb.cell (World.block_lt_of_cell? _ _ hct1)).trans hct1
   replace hct2 := (hb.cell (World.block_lt_of_cell? _ _ hct2)).trans hct2
   replace hca0 := (hb.cell (World.block_lt_of_cell? _ _ hca0)).trans hca0
   replace hca1 := (hb.cell (World.block_lt_of_cell? _ _ hca1)).trans hca1
   replace hca2 := (hb.cell (World.block_lt_of_cell? _ _ hca2)).trans hca2
   replace hca3 := (hb.cell (World.block_lt_of_cell? _ _ hca3)).trans hca3
   replace hca4 := (hb.cell (World.block_lt_of_cell? _ _ hca4)).trans hca4
   replace hca5 := (hb.cell (World.block_lt_of_cell? _ _ hca5)).trans hca5
   replace hca6 := (hb.cell (World.block_lt_of_cell? _ _ hca6)).trans hca6
   replace HI := Aside0.mk (HI.out.below hb)
   replace HK6 := Aside0.mk (blk_below HK6.out hb)
   have HB2 := Aside0.mk (below_step HB1.out hb)
   clear HB1
   have HB1 := HB2
   clear HB2
   obtain ⟨A22, c22, e22⟩ := Kd.R_slice ho
   subst e22
   rw [HNB.out]
   clear ho hb HCW
   refine hK.out _ _ ⟨hct0, hct1, hct2, hca0, hca1, hca2, hca3, hca4, hca5, hca6⟩ (fun hHeld => ?_)
   clear hK K
   refine sN ?_
   refine sP (i := 3) (N := some 23) (lm 31 63) ?_
   refine sP (i := 6) (N := some 26) (lm 31 127) ?_
   refine sP (i := 7) (N := some 27) (lm 31 255) ?_
   refine pure_ (i := 8) (N := some 28) (v := undef) (a' := ?_) (lm 31 511) rfl rfl (by kernel_rfl) (fun _ _ _ h => h) (Or.inr ⟨by rfl, rfl⟩) ?_ ?_
   rotate_left
   ·simp only [Act.put, List.setIfInBounds_toArray, List.set_cons_zero, List.set_cons_succ, i64_w, i32_w]
    rfl
   refine pure_ (i := 9) (N := some 29) (v := undef) (a' := ?_) (lm 31 1023) rfl rfl (by kernel_rfl) (fun _ _ _ h => h) (Or.inr ⟨by rfl, rfl⟩) ?_ ?_
   rotate_left
   ·simp only [Act.put, List.setIfInBounds_toArray, List.set_cons_zero, List.set_cons_succ, i64_w, i32_w]
    rfl
   refine pure_ (i := 10) (N := some 30) (v := undef) (a' := ?_) (lm 31 2047) rfl rfl (by kernel_rfl) (fun _ _ _ h => h) (Or.inr ⟨by rfl, rfl⟩) ?_ ?_
   rotate_left
   ·simp only [Act.put, List.setIfInBounds_toArray, List.set_cons_zero, List.set_cons_succ, i64_w, i32_w]
    rfl
   refine pure_ (i := 11) (N := some 31) (v := undef) (a' := ?_) (lm 31 4095) rfl rfl (by kernel_rfl) (fun _ _ _ h => h) (Or.inr ⟨by rfl, rfl⟩) ?_ ?_
   rotate_left
   ·simp only [Act.put, List.setIfInBounds_toArray, List.set_cons_zero, List.set_cons_succ, i64_w, i32_w]
    rfl
   refine pure_ (i := 12) (N := some 32) (v := undef) (a' := ?_) (lm 31 8191) rfl rfl (by kernel_rfl) (fun _ _ _ h => h) (Or.inr ⟨by rfl, rfl⟩) ?_ ?_
   rotate_left
   ·simp only [Act.put, List.setIfInBounds_toArray, List.set_cons_zero, List.set_cons_succ, i64_w, i32_w]
    rfl
   refine pure_ (i := 13) (N := some 33) (v := undef) (a' := ?_) (lm 31 16383) rfl rfl (by kernel_rfl) (fun _ _ _ h => h) (Or.inr ⟨by rfl, rfl⟩) ?_ ?_
   rotate_left
   ·simp only [Act.put, List.setIfInBounds_toArray, List.set_cons_zero, List.set_cons_succ, i64_w, i32_w]
    rfl
   refine pure_ (i := 14) (N := some 34) (v := undef) (a' := ?_) (lm 31 32767) rfl rfl (by kernel_rfl) (fun _ _ _ h => h) (Or.inr ⟨by rfl, rfl⟩) ?_ ?_
   rotate_left
   ·simp only [Act.put, List.setIfInBounds_toArray, List.set_cons_zero, List.set_cons_succ, i64_w, i32_w]
    rfl
   refine pure_ (i := 15) (N := some 35) (v := undef) (a' := ?_) (lm 31 65535) rfl rfl (by kernel_rfl) (fun _ _ _ h => h) (Or.inr ⟨by rfl, rfl⟩) ?_ ?_
   rotate_left
   ·simp only [Act.put, List.setIfInBounds_toArray, List.set_cons_zero, List.set_cons_succ, i64_w, i32_w]
    rfl
   refine pure_ (i := 16) (N := some 36) (v := undef) (a' := ?_) (lm 31 131071) rfl rfl (by kernel_rfl) (fun _ _ _ h => h) (Or.inr ⟨by rfl, rfl⟩) ?_ ?_
   rotate_left
   ·simp only [Act.put, List.setIfInBounds_toArray, List.set_cons_zero, List.set_cons_succ, i64_w, i32_w]
    rfl
   refine pure_ (i := 17) (N := some 37) (v := undef) (a' := ?_) (lm 31 262143) rfl rfl (by kernel_rfl) (fun _ _ _ h => h) (Or.inr ⟨by rfl, rfl⟩) ?_ ?_
   rotate_left
   ·simp only [Act.put, List.setIfInBounds_toArray, List.set_cons_zero, List.set_cons_succ, i64_w, i32_w]
    rfl
   refine pure_ (i := 18) (N := some 38) (v := undef) (a' := ?_) (lm 31 524287) rfl rfl (by kernel_rfl) (fun _ _ _ h => h) (Or.inr ⟨by rfl, rfl⟩) ?_ ?_
   rotate_left
   ·simp only [Act.put, List.setIfInBounds_toArray, List.set_cons_zero, List.set_cons_succ, i64_w, i32_w]
    rfl
   refine pure_ (i := 19) (N := some 39) (v := undef) (a' := ?_) (lm 31 1048575) rfl rfl (by kernel_rfl) (fun _ _ _ h => h) (Or.inr ⟨by rfl, rfl⟩) ?_ ?_
   rotate_left
   ·simp only [Act.put, List.setIfInBounds_toArray, List.set_cons_zero, List.set_cons_succ, i64_w, i32_w]
    rfl
   refine pure_ (i := 20) (N := some 40) (v := undef) (a' := ?_) (lm 31 2097151) rfl rfl (by kernel_rfl) (fun _ _ _ h => h) (Or.inr ⟨by rfl, rfl⟩) ?_ ?_
   rotate_left
   ·simp only [Act.put, List.setIfInBounds_toArray, List.set_cons_zero, List.set_cons_succ, i64_w, i32_w]
    rfl
   refine pure_ (i := 21) (N := some 41) (v := undef) (a' := ?_) (lm 31 4194303) rfl rfl (by kernel_rfl) (fun _ _ _ h => h) (Or.inr ⟨by rfl, rfl⟩) ?_ ?_
   rotate_left
   ·simp only [Act.put, List.setIfInBounds_toArray, List.set_cons_zero, List.set_cons_succ, i64_w, i32_w]
    rfl
   refine pure_ (i := 22) (N := some 42) (v := undef) (a' := ?_) (lm 31 8388607) rfl rfl (by kernel_rfl) (fun _ _ _ h => h) (Or.inr ⟨by rfl, rfl⟩) ?_ ?_
   rotate_left
   ·simp only [Act.put, List.setIfInBounds_toArray, List.set_cons_zero, List.set_cons_succ, i64_w, i32_w]
    rfl
   refine pure_ (i := 23) (N := some 43) (v := undef) (a' := ?_) (lm 31 16777215) rfl rfl (by kernel_rfl) (fun _ _ _ h => h) (Or.inr ⟨by rfl, rfl⟩) ?_ ?_
   rotate_left
   ·simp only [Act.put, List.setIfInBounds_toArray, List.set_cons_zero, List.set_cons_succ, i64_w, i32_w]
    rfl
   refine pure_ (i := 24) (N := some 44) (v := undef) (a' := ?_) (lm 31 33554431) rfl rfl (by kernel_rfl) (fun _ _ _ h => h) (Or.inr ⟨by rfl, rfl⟩) ?_ ?_
   rotate_left
   ·simp only [Act.put, List.setIfInBounds_toArray, List.set_cons_zero, List.set_cons_succ, i64_w, i32_w]
    rfl
   refine pure_ (i := 25) (N := some 45) (v := undef) (a' := ?_) (lm 31 67108863) rfl rfl (by kernel_rfl) (fun _ _ _ h => h) (Or.inr ⟨by rfl, rfl⟩) ?_ ?_
   rotate_left
   ·simp only [Act.put, List.setIfInBounds_toArray, List.set_cons_zero, List.set_cons_succ, i64_w, i32_w]
    rfl
   refine pure_ (i := 26) (N := some 46) (v := undef) (a' := ?_) (lm 31 134217727) rfl rfl (by kernel_rfl) (fun _ _ _ h => h) (Or.inr ⟨by rfl, rfl⟩) ?_ ?_
   rotate_left
   ·simp only [Act.put, List.setIfInBounds_toArray, List.set_cons_zero, List.set_cons_succ, i64_w, i32_w]
    rfl
   refine pure_ (i := 27) (N := some 47) (v := undef) (a' := ?_) (lm 31 268435455) rfl rfl (by kernel_rfl) (fun _ _ _ h => h) (Or.inr ⟨by rfl, rfl⟩) ?_ ?_
   rotate_left
   ·simp only [Act.put, List.setIfInBounds_toArray, List.set_cons_zero, List.set_cons_succ, i64_w, i32_w]
    rfl
   refine pure_ (i := 28) (N := some 48) (v := undef) (a' := ?_) (lm 31 536870911) rfl rfl (by kernel_rfl) (fun _ _ _ h => h) (Or.inr ⟨by rfl, rfl⟩) ?_ ?_
   rotate_left
   ·simp only [Act.put, List.setIfInBounds_toArray, List.set_cons_zero, List.set_cons_succ, i64_w, i32_w]
    rfl
   refine pure_ (i := 29) (N := some 49) (v := undef) (a' := ?_) (lm 31 1073741823) rfl rfl (by kernel_rfl) (fun _ _ _ h => h) (Or.inr ⟨by rfl, rfl⟩) ?_ ?_
   rotate_left
   ·simp only [Act.put, List.setIfInBounds_toArray, List.set_cons_zero, List.set_cons_succ, i64_w, i32_w]
    rfl
   refine sP (i := 30) (N := some 50) (lm 31 2147483647) ?_
   refine done_ (by kernel_rfl) ?_
   gi_wp2
   exact ⟨Kp.of_below HB1.out HSZ.out HZ.out, vt, by rw [HFA.out]; exact HI.out⟩
  ·have htd : decide (wg < (nb : Int)) = false := by simpa using htr
   have HFA := Aside0.mk (show (pre ++ [x]).filter (isT l0 l1.length wg) = pre.filter (isT l0 l1.length wg) ++ [x] from by
    rw [List.filter_append]
    have : isT l0 l1.length wg x = true := by rw [hT]; simpa using htr
    simp [this])
   have HTL := Aside0.mk (show (pre.filter (isT l0 l1.length wg)).length ≤ 78125 from Nat.le_trans (List.length_filter_le _ _) HPL0.out)
   have HSZ2 := Aside0.mk HZ.out
   clear hT
   generalize hts : pre.filter (isT l0 l1.length wg) = ts at *
   have HTS := Aside0.mk hts
   clear hts
   obtain ⟨At, ct, ev⟩ := Kd.R_slice HI.out.row
   subst ev
   cases hq : ts.length with
   | zero =>
    have HI_ := HI.out
    rw [hq] at HI_
    replace HI := Aside0.mk HI_
    replace HI0 := HI
    clear HI_
    rw [hq] at HN6
    have hcv : W.cell? ⟨gw, 3, none⟩ = some (.slice At 0 ct) := (blk_cell HI.out.kw 3).trans rfl
    refine startIn_ (m := 31) (S := fun w' => w'.cell? ⟨g1, 0, none⟩ = some (.slice A0 l0.length c0) ∧ w'.cell? ⟨g1, 1, none⟩ = some (.slice A1 l1.length c1) ∧ w'.cell? ⟨g1, 2, none⟩ = some (.int .i64 wg) ∧ w'.cell? ⟨g6, 0, none⟩ = some (.int .i64 (pad x 0)) ∧ w'.cell? ⟨g6, 1, none⟩ = some (.int .i64 (pad x 1)) ∧ w'.cell? ⟨g6, 2, none⟩ = some (.int .i64 (pad x 2)) ∧ w'.cell? ⟨g6, 3, none⟩ = some (.int .i64 (pad x 3)) ∧ w'.cell? ⟨g6, 4, none⟩ = some (.int .i64 (pad x 4)) ∧ w'.cell? ⟨g6, 5, none⟩ = some (.int .i64 (pad x 5)) ∧ w'.cell? ⟨g6, 6, none⟩ = some (.int .i64 (pad x 6)) ∧ w'.cell? ⟨g5, 0, none⟩ = some (.pointer (some ⟨gw, 0, none⟩)) ∧ w'.cell? ⟨gw, 3, none⟩ = some (.slice At 0 ct)) (ds := []) (fun ⟨_, _, h⟩ => h) (by rfl) (lm 31 0) (by kernel_rfl) rfl (by kernel_rfl) ⟨hct0, hct1, hct2, hca0, hca1, hca2, hca3, hca4, hca5, hca6, hc5, hcv⟩ (fun hHeld => ?_)
    replace HI := Aside0.mk (HI.out.below (below_drew1 (Below.refl _ _)))
    replace HK6 := Aside0.mk (show W.drew.heap[g6]? = _ from HK6.out)
    replace HB1 := Aside0.mk (below_drew1 HB1.out)
    replace hct0 := (show W.drew.cell? _ = _ from hct0)
    replace hct1 := (show W.drew.cell? _ = _ from hct1)
    replace hct2 := (show W.drew.cell? _ = _ from hct2)
    replace hca0 := (show W.drew.cell? _ = _ from hca0)
    replace hca1 := (show W.drew.cell? _ = _ from hca1)
    replace hca2 := (show W.drew.cell? _ = _ from hca2)
    replace hca3 := (show W.drew.cell? _ = _ from hca3)
    replace hca4 := (show W.drew.cell? _ = _ from hca4)
    replace hca5 := (show W.drew.cell? _ = _ from hca5)
    replace hca6 := (show W.drew.cell? _ = _ from hca6)
    replace hc5 := (show W.drew.cell? _ = _ from hc5)
    replace hcv := (show W.drew.cell? _ = _ from hcv)
    generalize W.drew = W2 at *
    have HCW := Aside0.mk (wrong_calls A0 c0 l0 A1 c1 l1 wg (pad x) W2 (Kd.C_below HT.out.r0 HI.out.hb) HT.out.n0 HV.out.n1 HOW.out)
    unfold ac at HCW
    refine sP (i := 4) (N := some 24) (lm 31 16) ?_
    refine take_ (i := 0) (N := some 20) (v := ?_) (a' := ?_) (lm 31 17) rfl rfl (by kernel_rfl) (fun _ _ _ h => h) (Or.inl ⟨by rfl, ?_⟩) hHeld ?_ ?_
    rotate_left
    ·rintro w' ⟨s0, s1, s2, s3, s4, s5, s6, s7, s8, s9, s10, s11⟩
     go_simp
     with_reducible rfl
    rotate_left
    ·simp only [Act.put, List.setIfInBounds_toArray, List.set_cons_zero, List.set_cons_succ, i64_w, i32_w]
     rfl
    refine take_ (i := 1) (N := some 21) (v := ?_) (a' := ?_) (lm 31 19) rfl rfl (by kernel_rfl) (fun _ _ _ h => h) (Or.inl ⟨by rfl, ?_⟩) hHeld ?_ ?_
    rotate_left
    ·rintro w' ⟨s0, s1, s2, s3, s4, s5, s6, s7, s8, s9, s10, s11⟩
     go_simp
     with_reducible rfl
    rotate_left
    ·simp only [Act.put, List.setIfInBounds_toArray, List.set_cons_zero, List.set_cons_succ, i64_w, i32_w]
     rfl
    refine take_ (i := 5) (N := some 25) (v := ?_) (a' := ?_) (lm 31 51) rfl rfl (by kernel_rfl) (fun _ _ _ h => h) (Or.inl ⟨by rfl, ?_⟩) hHeld ?_ ?_
    rotate_left
    ·rintro w' ⟨s0, s1, s2, s3, s4, s5, s6, s7, s8, s9, s10, s11⟩
     go_simp
     with_reducible rfl
    rotate_left
    ·simp only [Act.put, List.setIfInBounds_toArray, List.set_cons_zero, List.set_cons_succ, i64_w, i32_w]
     rfl
    refine one_ (i := 2) (N := some 22) (lm 31 55) rfl rfl (by kernel_rfl) (by decide) (fun K hK => ?_)
    refine goes_ Try.func86 (by kernel_rfl) rfl #[.agg #[.slice A0 l0.length c0, .slice A1 l1.length c1, .int .i64 wg], .agg #[.int .i64 (pad x 0), .int .i64 (pad x 1), .int .i64 (pad x 2), .int .i64 (pad x 3), .int .i64 (pad x 4), .int .i64 (pad x 5), .int .i64 (pad x 6)]] (by rfl) rfl rfl (by simp only [List.map_toArray, List.map_cons, List.map_nil]; rfl) ?_
    with_reducible refine (HCW.out).mono ?_
    rintro e W3 ⟨v22, rfl, ho, hb⟩
    refine ⟨_, rfl, ?_⟩
    replace hct0 := (hb.cell (World.block_lt_of_cell? _ _ hct0)).trans hct0
    replace hct1 := (hb.cell (World.block_lt_of_cell? _ _ hct1)).trans hct1
    replace hct2 := (hb.cell (World.block_lt_of_cell? _ _ hct2)).trans hct2
    replace hca0 := (hb.cell (World.block_lt_of_cell? _ _ hca0)).trans hca0
    replace hca1 := (hb.cell (World.block_lt_of_cell? _ _ hca1)).trans hca1
    replace hca2 := (hb.cell (World.block_lt_of_cell? _ _ hca2)).trans hca2
    replace hca3 := (hb.cell (World.block_lt_of_cell? _ _ hca3)).trans hca3
    replace hca4 := (hb.cell (World.block_lt_of_cell? _ _ hca4)).trans hca4
    replace hca5 := (hb.cell (World.block_lt_of_cell? _ _ hca5)).trans hca5
    replace hca6 := (hb.cell (World.block_lt_of_cell? _ _ hca6)).trans hca6
    replace hc5 := (hb.cell (World.block_lt_of_cell? _ _ hc5)).trans hc5
    replace hcv := (hb.cell (World.block_lt_of_cell? _ _ hcv)).trans hcv
    replace HI := Aside0.mk (HI.out.below hb)
    replace HK6 := Aside0.mk (blk_below HK6.out hb)
    have HB2 := Aside0.mk (below_step HB1.out hb)
    clear HB1
    have HB1 := HB2
    clear HB2
    obtain ⟨A22, c22, e22⟩ := Kd.R_slice ho
    subst e22
    rw [HNB.out]
    clear ho hb HCW
    refine hK.out _ _ ⟨hct0, hct1, hct2, hca0, hca1, hca2, hca3, hca4, hca5, hca6, hc5, hcv⟩ (fun hHeld => ?_)
    clear hK K
    refine sN ?_
    refine sP (i := 3) (N := some 23) (lm 31 63) ?_
    refine sP (i := 6) (N := some 26) (lm 31 127) ?_
    refine sP (i := 7) (N := some 27) (lm 31 255) ?_
    refine take_ (i := 8) (N := some 28) (v := ?_) (a' := ?_) (lm 31 511) rfl rfl (by kernel_rfl) (fun _ _ _ h => h) (Or.inl ⟨by rfl, ?_⟩) hHeld ?_ ?_
    rotate_left
    ·rintro w' ⟨s0, s1, s2, s3, s4, s5, s6, s7, s8, s9, s10, s11⟩
     go_simp
     with_reducible rfl
    rotate_left
    ·simp only [Act.put, List.setIfInBounds_toArray, List.set_cons_zero, List.set_cons_succ, i64_w, i32_w]
     rfl
    refine sP (i := 9) (N := some 29) (lm 31 1023) ?_
    refine sP (i := 10) (N := some 30) (lm 31 2047) ?_
    refine take_ (i := 11) (N := some 31) (v := ?_) (a' := ?_) (lm 31 4095) rfl rfl (by kernel_rfl) (fun _ _ _ h => h) (Or.inl ⟨by rfl, ?_⟩) hHeld ?_ ?_
    rotate_left
    ·rintro w' ⟨s0, s1, s2, s3, s4, s5, s6, s7, s8, s9, s10, s11⟩
     go_simp
     with_reducible rfl
    rotate_left
    ·simp only [Act.put, List.setIfInBounds_toArray, List.set_cons_zero, List.set_cons_succ, i64_w, i32_w]
     rfl
    refine sP (i := 12) (N := some 32) (lm 31 8191) ?_
    refine sP (i := 13) (N := some 33) (lm 31 16383) ?_
    refine sP (i := 14) (N := some 34) (lm 31 32767) ?_
    refine pure_ (i := 15) (N := some 35) (v := undef) (a' := ?_) (lm 31 65535) rfl rfl (by kernel_rfl) (fun _ _ _ h => h) (Or.inr ⟨by rfl, rfl⟩) ?_ ?_
    rotate_left
    ·simp only [Act.put, List.setIfInBounds_toArray, List.set_cons_zero, List.set_cons_succ, i64_w, i32_w]
     rfl
    refine pure_ (i := 16) (N := some 36) (v := undef) (a' := ?_) (lm 31 131071) rfl rfl (by kernel_rfl) (fun _ _ _ h => h) (Or.inr ⟨by rfl, rfl⟩) ?_ ?_
    rotate_left
    ·simp only [Act.put, List.setIfInBounds_toArray, List.set_cons_zero, List.set_cons_succ, i64_w, i32_w]
     rfl
    refine pure_ (i := 17) (N := some 37) (v := undef) (a' := ?_) (lm 31 262143) rfl rfl (by kernel_rfl) (fun _ _ _ h => h) (Or.inr ⟨by rfl, rfl⟩) ?_ ?_
    rotate_left
    ·simp only [Act.put, List.setIfInBounds_toArray, List.set_cons_zero, List.set_cons_succ, i64_w, i32_w]
     rfl
    refine pure_ (i := 18) (N := some 38) (v := undef) (a' := ?_) (lm 31 524287) rfl rfl (by kernel_rfl) (fun _ _ _ h => h) (Or.inr ⟨by rfl, rfl⟩) ?_ ?_
    rotate_left
    ·simp only [Act.put, List.setIfInBounds_toArray, List.set_cons_zero, List.set_cons_succ, i64_w, i32_w]
     rfl
    refine pure_ (i := 19) (N := some 39) (v := undef) (a' := ?_) (lm 31 1048575) rfl rfl (by kernel_rfl) (fun _ _ _ h => h) (Or.inr ⟨by rfl, rfl⟩) ?_ ?_
    rotate_left
    ·simp only [Act.put, List.setIfInBounds_toArray, List.set_cons_zero, List.set_cons_succ, i64_w, i32_w]
     rfl
    refine pure_ (i := 20) (N := some 40) (v := undef) (a' := ?_) (lm 31 2097151) rfl rfl (by kernel_rfl) (fun _ _ _ h => h) (Or.inr ⟨by rfl, rfl⟩) ?_ ?_
    rotate_left
    ·simp only [Act.put, List.setIfInBounds_toArray, List.set_cons_zero, List.set_cons_succ, i64_w, i32_w]
     rfl
    refine pure_ (i := 21) (N := some 41) (v := undef) (a' := ?_) (lm 31 4194303) rfl rfl (by kernel_rfl) (fun _ _ _ h => h) (Or.inr ⟨by rfl, rfl⟩) ?_ ?_
    rotate_left
    ·simp only [Act.put, List.setIfInBounds_toArray, List.set_cons_zero, List.set_cons_succ, i64_w, i32_w]
     rfl
    refine pure_ (i := 22) (N := some 42) (v := undef) (a' := ?_) (lm 31 8388607) rfl rfl (by kernel_rfl) (fun _ _ _ h => h) (Or.inr ⟨by rfl, rfl⟩) ?_ ?_
    rotate_left
    ·simp only [Act.put, List.setIfInBounds_toArray, List.set_cons_zero, List.set_cons_succ, i64_w, i32_w]
     rfl
    refine pure_ (i := 23) (N := some 43) (v := undef) (a' := ?_) (lm 31 16777215) rfl rfl (by kernel_rfl) (fun _ _ _ h => h) (Or.inr ⟨by rfl, rfl⟩) ?_ ?_
    rotate_left
    ·simp only [Act.put, List.setIfInBounds_toArray, List.set_cons_zero, List.set_cons_succ, i64_w, i32_w]
     rfl
    refine pure_ (i := 24) (N := some 44) (v := undef) (a' := ?_) (lm 31 33554431) rfl rfl (by kernel_rfl) (fun _ _ _ h => h) (Or.inr ⟨by rfl, rfl⟩) ?_ ?_
    rotate_left
    ·simp only [Act.put, List.setIfInBounds_toArray, List.set_cons_zero, List.set_cons_succ, i64_w, i32_w]
     rfl
    refine pure_ (i := 25) (N := some 45) (v := undef) (a' := ?_) (lm 31 67108863) rfl rfl (by kernel_rfl) (fun _ _ _ h => h) (Or.inr ⟨by rfl, rfl⟩) ?_ ?_
    rotate_left
    ·simp only [Act.put, List.setIfInBounds_toArray, List.set_cons_zero, List.set_cons_succ, i64_w, i32_w]
     rfl
    refine pure_ (i := 26) (N := some 46) (v := undef) (a' := ?_) (lm 31 134217727) rfl rfl (by kernel_rfl) (fun _ _ _ h => h) (Or.inr ⟨by rfl, rfl⟩) ?_ ?_
    rotate_left
    ·simp only [Act.put, List.setIfInBounds_toArray, List.set_cons_zero, List.set_cons_succ, i64_w, i32_w]
     rfl
    refine pure_ (i := 27) (N := some 47) (v := undef) (a' := ?_) (lm 31 268435455) rfl rfl (by kernel_rfl) (fun _ _ _ h => h) (Or.inr ⟨by rfl, rfl⟩) ?_ ?_
    rotate_left
    ·simp only [Act.put, List.setIfInBounds_toArray, List.set_cons_zero, List.set_cons_succ, i64_w, i32_w]
     rfl
    refine pure_ (i := 28) (N := some 48) (v := undef) (a' := ?_) (lm 31 536870911) rfl rfl (by kernel_rfl) (fun _ _ _ h => h) (Or.inr ⟨by rfl, rfl⟩) ?_ ?_
    rotate_left
    ·simp only [Act.put, List.setIfInBounds_toArray, List.set_cons_zero, List.set_cons_succ, i64_w, i32_w]
     rfl
    refine sP (i := 29) (N := some 49) (lm 31 1073741823) ?_
    refine sP (i := 30) (N := some 50) (lm 31 2147483647) ?_
    refine done_ (by kernel_rfl) ?_
    repeat (first | (apply wpIn_seq_k; intro _ _) | gi_step)
    refine startIn_ (m := 11) (S := fun w' => w'.cell? ⟨g5, 0, none⟩ = some (.pointer (some ⟨gw, 0, none⟩)) ∧ w'.cell? ⟨gw, 3, none⟩ = some (.slice At 0 ct) ∧ w'.cell? ⟨g6, 0, none⟩ = some (.int .i64 (pad x 0)) ∧ w'.cell? ⟨g6, 1, none⟩ = some (.int .i64 (pad x 1)) ∧ w'.cell? ⟨g6, 2, none⟩ = some (.int .i64 (pad x 2)) ∧ w'.cell? ⟨g6, 3, none⟩ = some (.int .i64 (pad x 3)) ∧ w'.cell? ⟨g6, 4, none⟩ = some (.int .i64 (pad x 4)) ∧ w'.cell? ⟨g6, 5, none⟩ = some (.int .i64 (pad x 5)) ∧ w'.cell? ⟨g6, 6, none⟩ = some (.int .i64 (pad x 6))) (ds := [10]) (fun ⟨_, _, h⟩ => h) (by rfl) (lm 11 0) (by kernel_rfl) rfl (by kernel_rfl) ⟨hc5, hcv, hca0, hca1, hca2, hca3, hca4, hca5, hca6⟩ (fun hHeld => ?_)
    replace HI := Aside0.mk (HI.out.below (below_drew1 (Below.refl _ _)))
    replace HK6 := Aside0.mk (show W3.drew.heap[g6]? = _ from HK6.out)
    replace HB1 := Aside0.mk (below_drew1 HB1.out)
    replace HSZ2 := Aside0.mk (show W5.heap.size + 3 < W3.drew.heap.size from Nat.lt_of_lt_of_le HSZ2.out HB1.out.size)
    replace hc5 := (show W3.drew.cell? _ = _ from hc5)
    replace hcv := (show W3.drew.cell? _ = _ from hcv)
    replace hca0 := (show W3.drew.cell? _ = _ from hca0)
    replace hca1 := (show W3.drew.cell? _ = _ from hca1)
    replace hca2 := (show W3.drew.cell? _ = _ from hca2)
    replace hca3 := (show W3.drew.cell? _ = _ from hca3)
    replace hca4 := (show W3.drew.cell? _ = _ from hca4)
    replace hca5 := (show W3.drew.cell? _ = _ from hca5)
    replace hca6 := (show W3.drew.cell? _ = _ from hca6)
    generalize W3.drew = W2 at *
    refine take_ (i := 0) (N := some 51) (v := ?_) (a' := ?_) (lm 11 1) rfl rfl (by kernel_rfl) (fun _ _ _ h => h) (Or.inl ⟨by rfl, ?_⟩) hHeld ?_ ?_
    rotate_left
    ·rintro w' ⟨s0, s1, s2, s3, s4, s5, s6, s7, s8⟩
     go_simp
     with_reducible rfl
    rotate_left
    ·simp only [Act.put, List.setIfInBounds_toArray, List.set_cons_zero, List.set_cons_succ, i64_w, i32_w]
     rfl
    refine take_ (i := 1) (N := some 52) (v := ?_) (a' := ?_) (lm 11 3) rfl rfl (by kernel_rfl) (fun _ _ _ h => h) (Or.inl ⟨by rfl, ?_⟩) hHeld ?_ ?_
    rotate_left
    ·rintro w' ⟨s0, s1, s2, s3, s4, s5, s6, s7, s8⟩
     go_simp
     with_reducible rfl
    rotate_left
    ·simp only [Act.put, List.setIfInBounds_toArray, List.set_cons_zero, List.set_cons_succ, i64_w, i32_w]
     rfl
    refine sP (i := 2) (N := some 53) (lm 11 7) ?_
    refine sP (i := 3) (N := some 54) (lm 11 15) ?_
    refine take_ (i := 4) (N := some 55) (v := ?_) (a' := ?_) (lm 11 31) rfl rfl (by kernel_rfl) (fun _ _ _ h => h) (Or.inl ⟨by rfl, ?_⟩) hHeld ?_ ?_
    rotate_left
    ·rintro w' ⟨s0, s1, s2, s3, s4, s5, s6, s7, s8⟩
     go_simp
     with_reducible rfl
    rotate_left
    ·simp only [Act.put, List.setIfInBounds_toArray, List.set_cons_zero, List.set_cons_succ, i64_w, i32_w]
     rfl
    refine take_ (i := 5) (N := some 56) (v := ?_) (a' := ?_) (lm 11 63) rfl rfl (by kernel_rfl) (fun _ _ _ h => h) (Or.inl ⟨by rfl, ?_⟩) hHeld ?_ ?_
    rotate_left
    ·rintro w' ⟨s0, s1, s2, s3, s4, s5, s6, s7, s8⟩
     go_simp
     with_reducible rfl
    rotate_left
    ·simp only [Act.put, List.setIfInBounds_toArray, List.set_cons_zero, List.set_cons_succ, i64_w, i32_w]
     rfl
    refine one_ (i := 6) (N := some 57) (lm 11 127) rfl rfl (by kernel_rfl) (by decide) (fun K hK => ?_)
    refine value_ (w1 := ?_) (v := ?_) (by rfl) rfl ?_ ?_
    rotate_left 2
    ·go_simp
     constructor
     ·rfl
     ·rfl
    refine hK.out _ _ ⟨(blk_cell (blk_alloc HI.out.k5 _) 0).trans rfl, (blk_cell (blk_alloc HI.out.kw _) 3).trans rfl, (blk_cell (blk_alloc HK6.out _) 0).trans rfl, (blk_cell (blk_alloc HK6.out _) 1).trans rfl, (blk_cell (blk_alloc HK6.out _) 2).trans rfl, (blk_cell (blk_alloc HK6.out _) 3).trans rfl, (blk_cell (blk_alloc HK6.out _) 4).trans rfl, (blk_cell (blk_alloc HK6.out _) 5).trans rfl, (blk_cell (blk_alloc HK6.out _) 6).trans rfl⟩ (fun hHeld => ?_)
    clear hK K
    refine sN ?_
    refine one_ (i := 7) (N := some 58) (lm 11 255) rfl rfl (by kernel_rfl) (by decide) (fun K hK => ?_)
    refine Kd.R_append_step k121 (w0 := W2) (W5.heap.size + 3 + 1) (by rfl) (.tmp 55) (.tmp 57) 102 121 (.agg (ac fun _ => 0)) 56 rfl Try.underlying102 info121' rfl (by decide) (by omega) (.slice At 0 ct) ts x [.int .i64 (pad x 0), .int .i64 (pad x 1), .int .i64 (pad x 2), .int .i64 (pad x 3), .int .i64 (pad x 4), .int .i64 (pad x 5), .int .i64 (pad x 6)] (fun _ => True) (fun _ => False) rfl rfl ?aP (fun _ hk => hk.elim) ?aF ?aO ?aB ?aS ?aL ?_
    (case aP => exact rfl)
    (case aB => exact Below.refl _ _)
    (case aF => exact fun _ _ => trivial)
    (case aO => exact HI.out.row)
    (case aS => have := HSZ2.out; omega)
    (case aL => have := HTL.out; omega)
    intro v1 W4 ho hb hg hat
    obtain ⟨Av, cw, ev1⟩ := Kd.R_slice ho
    obtain ⟨nv, hnv⟩ : ∃ nv, (ts ++ [x]).length = nv := ⟨_, rfl⟩
    rw [hnv] at ev1
    subst ev1
    clear hnv
    have HRW := Aside0.mk ho
    have HKP := Aside0.mk (Kp.trans (Kp.of_below HB1.out HSZ.out HZ.out) (Kp.row (X := fun k => k = gw ∨ k = gm) HI.out.row hg (by have := HGL.out; omega) (by have := HSZ2.out; omega)))
    have HK1 := Aside0.mk (blk_grown HI.out.k1 hg (row_ne HI.out.row (by have := HGL.out; omega)))
    have HK5 := Aside0.mk (blk_grown HI.out.k5 hg (row_ne HI.out.row (by have := HGL.out; omega)))
    have HKW := Aside0.mk (blk_grown HI.out.kw hg (row_ne HI.out.row (by have := HGL.out; omega)))
    have HMP := Aside0.mk (show ∃ L, MapL W4 gm L ∧ ∀ i k, getL L (i, k) = manyS l1.length ts i k from by obtain ⟨L, m1, m2⟩ := HI.out.mp; exact ⟨L, blk_grown (o := .map _ _) m1 hg (row_ne HI.out.row (by have := HGL.out; omega)), m2⟩)
    have HK64 := Aside0.mk (blk_grown HK6.out hg HN6.out)
    have HBW := Aside0.mk (show Below w.heap.size w W4 from HI.out.hb.trans (hb.mono (by have := HSZ2.out; have := HGL.out; omega)))
    have HS4 := Aside0.mk hg.size
    clear ho hb hg hat
    clear hc5
    clear hcv
    clear hca0
    clear hca1
    clear hca2
    clear hca3
    clear hca4
    clear hca5
    clear hca6
    clear HI HK6
    have HK6 := HK64
    clear HK64
    refine hK.out _ _ ⟨(blk_cell HK5.out 0).trans rfl, (blk_cell HKW.out 3).trans rfl, (blk_cell HK6.out 0).trans rfl, (blk_cell HK6.out 1).trans rfl, (blk_cell HK6.out 2).trans rfl, (blk_cell HK6.out 3).trans rfl, (blk_cell HK6.out 4).trans rfl, (blk_cell HK6.out 5).trans rfl, (blk_cell HK6.out 6).trans rfl⟩ (fun hHeld => ?_)
    clear hK K
    refine sN ?_
    refine sP (i := 8) (N := some 59) (lm 11 511) ?_
    refine sP (i := 9) (N := some 60) (lm 11 1023) ?_
    refine last_ (i := 10) (N := none) (lm 11 2047) rfl rfl (by kernel_rfl) (by decide) (fun K hK => ?_)
    have hfw : W4.frozen? ⟨gw, 3, none⟩ = false := blk_frozen HKW.out 3
    have hxw : W4.cell? ⟨gw, 3, none⟩ = some (.slice At 0 ct) := (blk_cell HKW.out 3).trans rfl
    refine skip_ (w1 := ?_) (by rfl) rfl ?_ ?_
    rotate_left
    ·go_simp
     rfl
    refine hK.out _ _ ?_
    clear hK K
    refine done_ (by kernel_rfl) ?_
    have hks : ∀ g cs t, g ≠ gw → W4.heap[g]? = some (.cells cs t (0, 0)) → (W4.setCell ⟨gw, 3, none⟩ (.slice Av nv cw)).heap[g]? = some (.cells cs t (0, 0)) := fun g cs t hne h => blk_far h hne _
    have HI2 := Aside0.mk (show AskI w A0 l0.length c0 A1 l1.length c1 wg g1 g5 gw gm W5.heap.size (W4.setCell ⟨gw, 3, none⟩ (.slice Av nv cw)) (.slice Av nv cw) (ts ++ [x]) (midS l1.length ts x 0) from ⟨HBW.out.setCell (p := ⟨gw, 3, none⟩) HW.out.2.1 _, hks _ _ _ (by have := LTgw_g1.out; omega) HK1.out, hks _ _ _ (by have := HN.out; omega) HK5.out, blk_put HKW.out 3 _ rfl,
     Kd.R_mono (Kd.R_far (p := ⟨gw, 3, none⟩) (Kd.R_bound HRW.out) (fun k hk => by have h1 := hk.2.1; have h2 := HGL.out; show k ≠ gw; omega) _) (fun _ _ => trivial), by
     obtain ⟨L, m1, m2⟩ := HMP.out
     exact ⟨L, (Below.heap_setCell W4 ⟨gw, 3, none⟩ _ gm (by have := HN.out; show gm ≠ gw; omega)).trans m1, by rw [midS_zero]; exact m2⟩⟩)
    have HKP2 := Aside0.mk (show Kp w.heap.size (fun k => k = gw ∨ k = gm) (W5.heap.size + 3) W (W4.setCell ⟨gw, 3, none⟩ (.slice Av nv cw)) from Kp.set HKP.out HW.out.2.1 (by have := HGL.out; omega) (.inl rfl) 3 _)
    have HK62 := Aside0.mk (hks _ _ _ (by have := HGL.out; have := HG6.out; omega) HK6.out)
    clear hks HKP HK6 HBW HRW HK1 HK5 HKW HMP HS4
    generalize (W4.setCell ⟨gw, 3, none⟩ (.slice Av nv cw)) = W3 at *
    have hct1 : W3.cell? ⟨g1, 1, none⟩ = some (.slice A1 l1.length c1) := (blk_cell HI2.out.k1 1).trans rfl
    have HN1 := Aside0.mk HV.out.n1
    gi_wp2
    gi_loopg [64] l1.length (fun kq v64 w' => ∃ m : Nat, v64 = .int .i64 (m : Int) ∧ Aside0 (m + kq = l1.length) ∧ Aside0 (AskI w A0 l0.length c0 A1 l1.length c1 wg g1 g5 gw gm W5.heap.size w' (.slice Av nv cw) (ts ++ [x]) (midS l1.length ts x m)) ∧ Aside0 (Kp w.heap.size (fun k => k = gw ∨ k = gm) (W5.heap.size + 3) W w') ∧ Aside0 (w'.heap[g6]? = some (.cells (ac (pad x)) 121 (0, 0))))
    case atStart => exact ⟨0, rfl, ⟨Nat.zero_add _⟩, HI2, HKP2, HK62⟩
    case round =>
     clear HI2 HKP2 HK62
     obtain ⟨m, rfl, HM, HI, HKP, HK6⟩ := hrel
     by_cases hlt : m < l1.length
     ·cases gk with
      | zero => have := HM.out; omega
      | succ k1 =>
      have hm7 : m < 7 := by have := HN1.out; omega
      have hc5 : wr.cell? ⟨g5, 0, none⟩ = some (.pointer (some ⟨gw, 0, none⟩)) := (blk_cell HI.out.k5 0).trans rfl
      have hcm : wr.cell? ⟨gw, 4, none⟩ = some (.map (some gm)) := (blk_cell HI.out.kw 4).trans rfl
      obtain ⟨xm, hxmd⟩ : ∃ xm, pad x m = xm := ⟨_, rfl⟩
      have hcx : wr.cell? ⟨g6, m, none⟩ = some (.int .i64 xm) := (blk_cell HK6.out m).trans (by rw [ac_get _ m hm7, hxmd])
      have HXM := Aside0.mk hxmd
      obtain ⟨L, hmp, hgl⟩ := HI.out.mp
      obtain ⟨cv, hcv⟩ : ∃ cv, getL L ((m : Int), xm) = cv := ⟨_, rfl⟩
      have hcb : 0 ≤ cv ∧ cv ≤ 78126 := by
       rw [← hcv, hgl]
       have h1 := midS_bound l1.length ts x m (m : Int) xm
       have h2 := HTL.out
       omega
      obtain ⟨pl, hpl⟩ : ∃ pl, place L ((m : Int), xm) = pl := ⟨_, rfl⟩
      have HMP := Aside0.mk hmp
      have HGL2 := Aside0.mk hgl
      have HCV := Aside0.mk hcv
      have HPL := Aside0.mk hpl
      have hlk := lookup_run wr.drew gm L ((m : Int), xm) (show MapL wr.drew gm L from HMP.out)
      rw [HCV.out] at hlk
      unfold spv at hlk
      dsimp only at hlk
      have hm7z : (m : Int) < 7 := by omega
      have hwcv : wrap64 (cv + 1) = cv + 1 := wrap64_id _ (by omega) (by omega)
      clear hmp hgl hcv hpl hxmd
      gi_wp2_with fail
      refine startIn_ (m := 14) (S := fun w' => w'.cell? ⟨g5, 0, none⟩ = some (.pointer (some ⟨gw, 0, none⟩)) ∧ w'.cell? ⟨gw, 4, none⟩ = some (.map (some gm)) ∧ w'.cell? ⟨g6, m, none⟩ = some (.int .i64 xm) ∧ (Instr.lookup 103 (.map (some gm)) (.agg #[.int .i64 (m : Int), .int .i64 xm]) false).run Try.prog w' = .ok (.int .i64 cv) w') (ds := [13]) (fun ⟨_, _, h⟩ => h) (by rfl) (lm 14 0) (by kernel_rfl) rfl (by kernel_rfl) ⟨hc5, hcm, hcx, hlk⟩ (fun hHeld => ?_)
      replace HI := Aside0.mk (HI.out.below (below_drew1 (Below.refl _ _)))
      replace HK6 := Aside0.mk (show wr.drew.heap[g6]? = _ from HK6.out)
      replace HKP := Aside0.mk (show Kp w.heap.size (fun k => k = gw ∨ k = gm) (W5.heap.size + 3) W wr.drew from Kp.trans HKP.out (Kp.of_below (below_drew1 (Below.refl _ _)) HI.out.hb.size (by have h1 := HKP.out.size; have h2 := HZ.out; omega)))
      replace HMP := Aside0.mk (show MapL wr.drew gm L from HMP.out)
      replace hc5 := (show wr.drew.cell? _ = _ from hc5)
      replace hcm := (show wr.drew.cell? _ = _ from hcm)
      replace hcx := (show wr.drew.cell? _ = _ from hcx)
      replace hlk := lookup_run wr.drew gm L ((m : Int), xm) HMP.out
      rw [HCV.out] at hlk
      unfold spv at hlk
      dsimp only at hlk
      generalize wr.drew = W6 at *
      obtain ⟨W7, hW7⟩ : ∃ W7, W7 = W6.putObj gm (.map (entsFrom 0 (touch L ((m : Int), xm))).toArray (touch L ((m : Int), xm)).length) := ⟨_, rfl⟩
      have hme := mapEntry_run W6 gm L ((m : Int), xm) HMP.out
      rw [← hW7, HCV.out, HPL.out] at hme
      unfold spv at hme
      dsimp only at hme
      have hm7 : MapL W7 gm (touch L ((m : Int), xm)) := by rw [hW7]; exact MapL.put _ _ _ (blk_lt (o := .map _ _) HMP.out)
      have hk7 : ∀ g o, g ≠ gm → W6.heap[g]? = some o → W7.heap[g]? = some o := fun g o hne h => by rw [hW7]; exact (World.putObj_heap_other hne).trans h
      have HK57 := Aside0.mk (hk7 _ _ (by have := HN.out; omega) HI.out.k5)
      have HKW7 := Aside0.mk (hk7 _ _ (by have := HN.out; omega) HI.out.kw)
      have HK67 := Aside0.mk (hk7 _ _ (by have := HGL.out; have := HG6.out; omega) HK6.out)
      have hcx7 : W7.cell? ⟨g6, m, none⟩ = some (.int .i64 xm) := (blk_cell HK67.out m).trans (by rw [ac_get _ m (by have := HV.out.n1; omega), HXM.out])
      have hlk7 := lookup_run W7 gm (touch L ((m : Int), xm)) ((m : Int), xm) hm7
      rw [getL_touch, HCV.out] at hlk7
      unfold spv at hlk7
      dsimp only at hlk7
      obtain ⟨n0_, htg⟩ := touch_get L ((m : Int), xm)
      rw [HPL.out] at htg
      obtain ⟨W8, hW8⟩ : ∃ W8, W8 = W7.putObj gm (.map (entsFrom 0 ((touch L ((m : Int), xm)).set pl (((m : Int), xm), cv + 1))).toArray ((touch L ((m : Int), xm)).set pl (((m : Int), xm), cv + 1)).length) := ⟨_, rfl⟩
      have hes := entryStore_run W7 gm (touch L ((m : Int), xm)) pl ((m : Int), xm) n0_ (cv + 1) hm7 htg
      rw [← hW8] at hes
      have hm8 : MapL W8 gm ((touch L ((m : Int), xm)).set pl (((m : Int), xm), cv + 1)) := by rw [hW8]; exact MapL.put _ _ _ (blk_lt (o := .map _ _) hm7)
      have hk8 : ∀ g o, g ≠ gm → W6.heap[g]? = some o → W8.heap[g]? = some o := fun g o hne h => by rw [hW8]; exact (World.putObj_heap_other hne).trans (hk7 g o hne h)
      have HKP8 := Aside0.mk (show Kp w.heap.size (fun k => k = gw ∨ k = gm) (W5.heap.size + 3) W W8 from Kp.trans HKP.out (by rw [hW8, hW7]; exact Kp.trans (Kp.putObj W6 gm _ HW.out.1 (.inr rfl) (by have := HGL.out; omega)) (Kp.putObj _ gm _ HW.out.1 (.inr rfl) (by have := HGL.out; omega))))
      have HI8 := Aside0.mk (show AskI w A0 l0.length c0 A1 l1.length c1 wg g1 g5 gw gm W5.heap.size W8 (.slice Av nv cw) (ts ++ [x]) (midS l1.length ts x (m + 1)) from ⟨HI0.out.hb.trans HKP8.out.below, hk8 _ _ (by have := LTg1.out; omega) HI.out.k1, hk8 _ _ (by have := HN.out; omega) HI.out.k5, hk8 _ _ (by have := HN.out; omega) HI.out.kw, Kd.R_mono (Kd.R_move (Kd.R_bound HI.out.row) (fun k hk => by have h1 := hk.2.1; have h2 := HGL.out; rw [hW8, hW7]; exact (World.putObj_heap_other (by omega)).trans (World.putObj_heap_other (by omega)))) (fun _ _ => trivial), _, hm8, fun i k => by have h_ := getL_set (touch L ((m : Int), xm)) ((m : Int), xm) (cv + 1) pl (by rw [at_touch, HPL.out]) (i, k); rw [h_, midS_succ, HXM.out, ← HGL2.out (m : Int) xm, HCV.out]; exact ite_congr rfl (fun _ => rfl) (fun _ => by rw [getL_touch]; exact HGL2.out i k)⟩)
      have HK68 := Aside0.mk (hk8 _ _ (by have := HGL.out; have := HG6.out; omega) HK6.out)
      clear hW7 hW8 hk7 hk8 hm7 hm8 htg
      refine sP (i := 4) (N := some 71) (lm 14 16) ?_
      refine sP (i := 5) (N := some 72) (lm 14 48) ?_
      refine sP (i := 6) (N := some 73) (lm 14 112) ?_
      refine take_ (i := 0) (N := some 67) (v := ?_) (a' := ?_) (lm 14 113) rfl rfl (by kernel_rfl) (fun _ _ _ h => h) (Or.inl ⟨by rfl, ?_⟩) hHeld ?_ ?_
      rotate_left
      ·rintro w' ⟨s0, s1, s2, s3⟩
       go_simp
       with_reducible rfl
      rotate_left
      ·simp only [Act.put, List.setIfInBounds_toArray, List.set_cons_zero, List.set_cons_succ, i64_w, i32_w]
       rfl
      refine sP (i := 1) (N := some 68) (lm 14 115) ?_
      refine sP (i := 2) (N := some 69) (lm 14 119) ?_
      refine take_ (i := 3) (N := some 70) (v := ?_) (a' := ?_) (lm 14 127) rfl rfl (by kernel_rfl) (fun _ _ _ h => h) (Or.inl ⟨by rfl, ?_⟩) hHeld ?_ ?_
      rotate_left
      ·rintro w' ⟨s0, s1, s2, s3⟩
       go_simp
       with_reducible rfl
      rotate_left
      ·simp only [Act.put, List.setIfInBounds_toArray, List.set_cons_zero, List.set_cons_succ, i64_w, i32_w]
       rfl
      refine take_ (i := 7) (N := some 74) (v := ?_) (a' := ?_) (lm 14 255) rfl rfl (by kernel_rfl) (fun _ _ _ h => h) (Or.inl ⟨by rfl, ?_⟩) hHeld ?_ ?_
      rotate_left
      ·rintro w' ⟨s0, s1, s2, s3⟩
       go_simp
       with_reducible rfl
      rotate_left
      ·simp only [Act.put, List.setIfInBounds_toArray, List.set_cons_zero, List.set_cons_succ, i64_w, i32_w]
       rfl
      refine sP (i := 8) (N := some 75) (lm 14 511) ?_
      refine take_ (i := 9) (N := some 76) (v := ?_) (a' := ?_) (lm 14 1023) rfl rfl (by kernel_rfl) (fun _ _ _ h => h) (Or.inl ⟨by rfl, ?_⟩) hHeld ?_ ?_
      rotate_left
      ·rintro w' ⟨s0, s1, s2, s3⟩
       go_simp
       with_reducible rfl
      rotate_left
      ·simp only [Act.put, List.setIfInBounds_toArray, List.set_cons_zero, List.set_cons_succ, i64_w, i32_w]
       rfl
      refine sP (i := 10) (N := some 77) (lm 14 2047) ?_
      refine one_ (i := 11) (N := some 78) (lm 14 4095) rfl rfl (by kernel_rfl) (by decide) (fun K hK => ?_)
      refine value_ (w1 := W7) (v := .tuple #[.int .i64 cv, .int .i64 (pl : Int)]) (by rfl) rfl ?_ ?_
      ·go_simp
      refine hK.out _ _ ⟨(blk_cell HK57.out 0).trans rfl, (blk_cell HKW7.out 4).trans rfl, hcx7, hlk7⟩ (fun hHeld => ?_)
      clear hK K
      refine sN ?_
      refine sP (i := 12) (N := some 79) (lm 14 8191) ?_
      refine last_ (i := 13) (N := none) (lm 14 16383) rfl rfl (by kernel_rfl) (by decide) (fun K hK => ?_)
      refine skip_ (w1 := W8) (by rfl) rfl ?_ ?_
      ·go_simp
      refine hK.out _ _ ?_
      clear hK K
      refine done_ (by kernel_rfl) ?_
      gi_wp2_with fail
      gi_roundg k1
      case measure => omega
      case rel => exact ⟨m + 1, by go_num, ⟨by have := HM.out; omega⟩, HI8, HKP8, HK68⟩
     ·gi_wp2
      obtain rfl : m = l1.length := by have := HM.out; omega
      refine ⟨HKP.out, .slice Av nv cw, ?_⟩
      rw [HFA.out, show (fun i k => manyS l1.length (ts ++ [x]) i k) = midS l1.length ts x l1.length from (midS_end _ _ _).symm]
      exact HI.out
   | succ q =>
    have HI_ := HI.out
    rw [hq] at HI_
    replace HI := Aside0.mk HI_
    replace HI0 := HI
    clear HI_
    rw [hq] at HN6
    have hcv : W.cell? ⟨gw, 3, none⟩ = some (.slice At (q + 1) ct) := (blk_cell HI.out.kw 3).trans rfl
    obtain ⟨adt, eAt, hcl0, hcl1, hcl2, hcl3, hcl4, hcl5, hcl6⟩ := at_T121 (Kd.R_reads' (A := At) (n := q + 1) (c := ct) HI.out.row).2.2 q (by omega)
    subst eAt
    have hyt : ts.getD q [] ∈ ts := by
     rw [List.getD_eq_getElem?_getD, List.getElem?_eq_getElem (by omega)]
     exact List.getElem_mem _
    generalize ts.getD q [] = y at *
    have hyp : y ∈ pre := by rw [← HTS.out] at hyt; exact (List.mem_filter.1 hyt).1
    have hnd : (pre ++ [x]).Nodup := HPP.out.sublist.nodup (allL_nodup l0 l1)
    have hyx : y ≠ x := fun e => by
     subst e
     exact (List.nodup_append.1 hnd).2.2 y hyp y (by simp) rfl
    have hyl : y.length = l1.length := ((allL_mem l0 l1 y).1 (HPP.out.subset (List.mem_append_left _ hyp))).1
    have hdiff : ∃ i, i < 7 ∧ pad y i ≠ pad x i := by
     refine Classical.byContradiction fun hn => hyx (pad_inj y x (by rw [hyl, HXL.out]) fun i hi => ?_)
     refine Classical.byContradiction fun hne => hn ⟨i, by have := HV.out.n1; omega, hne⟩
    have he7 := eq7_false (pad y) (pad x) hdiff
    clear hyt hyp hnd hyx hyl hdiff
    have hwq : wrap64 ((q : Nat) : Int) = (q : Int) := wrap64_id _ (by have := HTL.out; omega) (by have := HTL.out; omega)
    have hql : (q : Int) < (q : Int) + 1 := by omega
    refine startIn_ (m := 31) (S := fun w' => w'.cell? ⟨g1, 0, none⟩ = some (.slice A0 l0.length c0) ∧ w'.cell? ⟨g1, 1, none⟩ = some (.slice A1 l1.length c1) ∧ w'.cell? ⟨g1, 2, none⟩ = some (.int .i64 wg) ∧ w'.cell? ⟨g6, 0, none⟩ = some (.int .i64 (pad x 0)) ∧ w'.cell? ⟨g6, 1, none⟩ = some (.int .i64 (pad x 1)) ∧ w'.cell? ⟨g6, 2, none⟩ = some (.int .i64 (pad x 2)) ∧ w'.cell? ⟨g6, 3, none⟩ = some (.int .i64 (pad x 3)) ∧ w'.cell? ⟨g6, 4, none⟩ = some (.int .i64 (pad x 4)) ∧ w'.cell? ⟨g6, 5, none⟩ = some (.int .i64 (pad x 5)) ∧ w'.cell? ⟨g6, 6, none⟩ = some (.int .i64 (pad x 6)) ∧ w'.cell? ⟨g5, 0, none⟩ = some (.pointer (some ⟨gw, 0, none⟩)) ∧ w'.cell? ⟨gw, 3, none⟩ = some (.slice (some adt) (q + 1) ct) ∧ w'.cell? (adt.add (q * 7)) = some (.int .i64 (pad y 0)) ∧ w'.cell? ⟨(adt.add (q * 7)).block, (adt.add (q * 7)).off + 1, none⟩ = some (.int .i64 (pad y 1)) ∧ w'.cell? ⟨(adt.add (q * 7)).block, (adt.add (q * 7)).off + 2, none⟩ = some (.int .i64 (pad y 2)) ∧ w'.cell? ⟨(adt.add (q * 7)).block, (adt.add (q * 7)).off + 3, none⟩ = some (.int .i64 (pad y 3)) ∧ w'.cell? ⟨(adt.add (q * 7)).block, (adt.add (q * 7)).off + 4, none⟩ = some (.int .i64 (pad y 4)) ∧ w'.cell? ⟨(adt.add (q * 7)).block, (adt.add (q * 7)).off + 5, none⟩ = some (.int .i64 (pad y 5)) ∧ w'.cell? ⟨(adt.add (q * 7)).block, (adt.add (q * 7)).off + 6, none⟩ = some (.int .i64 (pad y 6))) (ds := []) (fun ⟨_, _, h⟩ => h) (by rfl) (lm 31 0) (by kernel_rfl) rfl (by kernel_rfl) ⟨hct0, hct1, hct2, hca0, hca1, hca2, hca3, hca4, hca5, hca6, hc5, hcv, hcl0, hcl1, hcl2, hcl3, hcl4, hcl5, hcl6⟩ (fun hHeld => ?_)
    replace HI := Aside0.mk (HI.out.below (below_drew1 (Below.refl _ _)))
    replace HK6 := Aside0.mk (show W.drew.heap[g6]? = _ from HK6.out)
    replace HB1 := Aside0.mk (below_drew1 HB1.out)
    replace hct0 := (show W.drew.cell? _ = _ from hct0)
    replace hct1 := (show W.drew.cell? _ = _ from hct1)
    replace hct2 := (show W.drew.cell? _ = _ from hct2)
    replace hca0 := (show W.drew.cell? _ = _ from hca0)
    replace hca1 := (show W.drew.cell? _ = _ from hca1)
    replace hca2 := (show W.drew.cell? _ = _ from hca2)
    replace hca3 := (show W.drew.cell? _ = _ from hca3)
    replace hca4 := (show W.drew.cell? _ = _ from hca4)
    replace hca5 := (show W.drew.cell? _ = _ from hca5)
    replace hca6 := (show W.drew.cell? _ = _ from hca6)
    replace hc5 := (show W.drew.cell? _ = _ from hc5)
    replace hcv := (show W.drew.cell? _ = _ from hcv)
    replace hcl0 := (show W.drew.cell? _ = _ from hcl0)
    replace hcl1 := (show W.drew.cell? _ = _ from hcl1)
    replace hcl2 := (show W.drew.cell? _ = _ from hcl2)
    replace hcl3 := (show W.drew.cell? _ = _ from hcl3)
    replace hcl4 := (show W.drew.cell? _ = _ from hcl4)
    replace hcl5 := (show W.drew.cell? _ = _ from hcl5)
    replace hcl6 := (show W.drew.cell? _ = _ from hcl6)
    generalize W.drew = W2 at *
    have HCW := Aside0.mk (wrong_calls A0 c0 l0 A1 c1 l1 wg (pad x) W2 (Kd.C_below HT.out.r0 HI.out.hb) HT.out.n0 HV.out.n1 HOW.out)
    unfold ac at HCW
    refine sP (i := 4) (N := some 24) (lm 31 16) ?_
    refine take_ (i := 0) (N := some 20) (v := ?_) (a' := ?_) (lm 31 17) rfl rfl (by kernel_rfl) (fun _ _ _ h => h) (Or.inl ⟨by rfl, ?_⟩) hHeld ?_ ?_
    rotate_left
    ·rintro w' ⟨s0, s1, s2, s3, s4, s5, s6, s7, s8, s9, s10, s11, s12, s13, s14, s15, s16, s17, s18⟩
     go_simp
     with_reducible rfl
    rotate_left
    ·simp only [Act.put, List.setIfInBounds_toArray, List.set_cons_zero, List.set_cons_succ, i64_w, i32_w]
     rfl
    refine take_ (i := 1) (N := some 21) (v := ?_) (a' := ?_) (lm 31 19) rfl rfl (by kernel_rfl) (fun _ _ _ h => h) (Or.inl ⟨by rfl, ?_⟩) hHeld ?_ ?_
    rotate_left
    ·rintro w' ⟨s0, s1, s2, s3, s4, s5, s6, s7, s8, s9, s10, s11, s12, s13, s14, s15, s16, s17, s18⟩
     go_simp
     with_reducible rfl
    rotate_left
    ·simp only [Act.put, List.setIfInBounds_toArray, List.set_cons_zero, List.set_cons_succ, i64_w, i32_w]
     rfl
    refine take_ (i := 5) (N := some 25) (v := ?_) (a' := ?_) (lm 31 51) rfl rfl (by kernel_rfl) (fun _ _ _ h => h) (Or.inl ⟨by rfl, ?_⟩) hHeld ?_ ?_
    rotate_left
    ·rintro w' ⟨s0, s1, s2, s3, s4, s5, s6, s7, s8, s9, s10, s11, s12, s13, s14, s15, s16, s17, s18⟩
     go_simp
     with_reducible rfl
    rotate_left
    ·simp only [Act.put, List.setIfInBounds_toArray, List.set_cons_zero, List.set_cons_succ, i64_w, i32_w]
     rfl
    refine one_ (i := 2) (N := some 22) (lm 31 55) rfl rfl (by kernel_rfl) (by decide) (fun K hK => ?_)
    refine goes_ Try.func86 (by kernel_rfl) rfl #[.agg #[.slice A0 l0.length c0, .slice A1 l1.length c1, .int .i64 wg], .agg #[.int .i64 (pad x 0), .int .i64 (pad x 1), .int .i64 (pad x 2), .int .i64 (pad x 3), .int .i64 (pad x 4), .int .i64 (pad x 5), .int .i64 (pad x 6)]] (by rfl) rfl rfl (by simp only [List.map_toArray, List.map_cons, List.map_nil]; rfl) ?_
    with_reducible refine (HCW.out).mono ?_
    rintro e W3 ⟨v22, rfl, ho, hb⟩
    refine ⟨_, rfl, ?_⟩
    replace hct0 := (hb.cell (World.block_lt_of_cell? _ _ hct0)).trans hct0
    replace hct1 := (hb.cell (World.block_lt_of_cell? _ _ hct1)).trans hct1
    replace hct2 := (hb.cell (World.block_lt_of_cell? _ _ hct2)).trans hct2
    replace hca0 := (hb.cell (World.block_lt_of_cell? _ _ hca0)).trans hca0
    replace hca1 := (hb.cell (World.block_lt_of_cell? _ _ hca1)).trans hca1
    replace hca2 := (hb.cell (World.block_lt_of_cell? _ _ hca2)).trans hca2
    replace hca3 := (hb.cell (World.block_lt_of_cell? _ _ hca3)).trans hca3
    replace hca4 := (hb.cell (World.block_lt_of_cell? _ _ hca4)).trans hca4
    replace hca5 := (hb.cell (World.block_lt_of_cell? _ _ hca5)).trans hca5
    replace hca6 := (hb.cell (World.block_lt_of_cell? _ _ hca6)).trans hca6
    replace hc5 := (hb.cell (World.block_lt_of_cell? _ _ hc5)).trans hc5
    replace hcv := (hb.cell (World.block_lt_of_cell? _ _ hcv)).trans hcv
    replace hcl0 := (hb.cell (World.block_lt_of_cell? _ _ hcl0)).trans hcl0
    replace hcl1 := (hb.cell (World.block_lt_of_cell? _ _ hcl1)).trans hcl1
    replace hcl2 := (hb.cell (World.block_lt_of_cell? _ _ hcl2)).trans hcl2
    replace hcl3 := (hb.cell (World.block_lt_of_cell? _ _ hcl3)).trans hcl3
    replace hcl4 := (hb.cell (World.block_lt_of_cell? _ _ hcl4)).trans hcl4
    replace hcl5 := (hb.cell (World.block_lt_of_cell? _ _ hcl5)).trans hcl5
    replace hcl6 := (hb.cell (World.block_lt_of_cell? _ _ hcl6)).trans hcl6
    replace HI := Aside0.mk (HI.out.below hb)
    replace HK6 := Aside0.mk (blk_below HK6.out hb)
    have HB2 := Aside0.mk (below_step HB1.out hb)
    clear HB1
    have HB1 := HB2
    clear HB2
    obtain ⟨A22, c22, e22⟩ := Kd.R_slice ho
    subst e22
    rw [HNB.out]
    clear ho hb HCW
    refine hK.out _ _ ⟨hct0, hct1, hct2, hca0, hca1, hca2, hca3, hca4, hca5, hca6, hc5, hcv, hcl0, hcl1, hcl2, hcl3, hcl4, hcl5, hcl6⟩ (fun hHeld => ?_)
    clear hK K
    refine sN ?_
    refine sP (i := 3) (N := some 23) (lm 31 63) ?_
    refine sP (i := 6) (N := some 26) (lm 31 127) ?_
    refine sP (i := 7) (N := some 27) (lm 31 255) ?_
    refine take_ (i := 8) (N := some 28) (v := ?_) (a' := ?_) (lm 31 511) rfl rfl (by kernel_rfl) (fun _ _ _ h => h) (Or.inl ⟨by rfl, ?_⟩) hHeld ?_ ?_
    rotate_left
    ·rintro w' ⟨s0, s1, s2, s3, s4, s5, s6, s7, s8, s9, s10, s11, s12, s13, s14, s15, s16, s17, s18⟩
     go_simp
     with_reducible rfl
    rotate_left
    ·simp only [Act.put, List.setIfInBounds_toArray, List.set_cons_zero, List.set_cons_succ, i64_w, i32_w]
     rfl
    refine sP (i := 9) (N := some 29) (lm 31 1023) ?_
    refine sP (i := 10) (N := some 30) (lm 31 2047) ?_
    refine take_ (i := 11) (N := some 31) (v := ?_) (a' := ?_) (lm 31 4095) rfl rfl (by kernel_rfl) (fun _ _ _ h => h) (Or.inl ⟨by rfl, ?_⟩) hHeld ?_ ?_
    rotate_left
    ·rintro w' ⟨s0, s1, s2, s3, s4, s5, s6, s7, s8, s9, s10, s11, s12, s13, s14, s15, s16, s17, s18⟩
     go_simp
     with_reducible rfl
    rotate_left
    ·simp only [Act.put, List.setIfInBounds_toArray, List.set_cons_zero, List.set_cons_succ, i64_w, i32_w]
     rfl
    refine sP (i := 12) (N := some 32) (lm 31 8191) ?_
    refine sP (i := 13) (N := some 33) (lm 31 16383) ?_
    refine sP (i := 14) (N := some 34) (lm 31 32767) ?_
    refine take_ (i := 15) (N := some 35) (v := ?_) (a' := ?_) (lm 31 65535) rfl rfl (by kernel_rfl) (fun _ _ _ h => h) (Or.inl ⟨by rfl, ?_⟩) hHeld ?_ ?_
    rotate_left
    ·rintro w' ⟨s0, s1, s2, s3, s4, s5, s6, s7, s8, s9, s10, s11, s12, s13, s14, s15, s16, s17, s18⟩
     go_simp
     with_reducible rfl
    rotate_left
    ·simp only [Act.put, List.setIfInBounds_toArray, List.set_cons_zero, List.set_cons_succ, i64_w, i32_w]
     rfl
    refine sP (i := 16) (N := some 36) (lm 31 131071) ?_
    refine sP (i := 17) (N := some 37) (lm 31 262143) ?_
    refine take_ (i := 18) (N := some 38) (v := ?_) (a' := ?_) (lm 31 524287) rfl rfl (by kernel_rfl) (fun _ _ _ h => h) (Or.inl ⟨by rfl, ?_⟩) hHeld ?_ ?_
    rotate_left
    ·rintro w' ⟨s0, s1, s2, s3, s4, s5, s6, s7, s8, s9, s10, s11, s12, s13, s14, s15, s16, s17, s18⟩
     go_simp
     with_reducible rfl
    rotate_left
    ·simp only [Act.put, List.setIfInBounds_toArray, List.set_cons_zero, List.set_cons_succ, i64_w, i32_w]
     rfl
    refine take_ (i := 19) (N := some 39) (v := ?_) (a' := ?_) (lm 31 1048575) rfl rfl (by kernel_rfl) (fun _ _ _ h => h) (Or.inl ⟨by rfl, ?_⟩) hHeld ?_ ?_
    rotate_left
    ·rintro w' ⟨s0, s1, s2, s3, s4, s5, s6, s7, s8, s9, s10, s11, s12, s13, s14, s15, s16, s17, s18⟩
     go_simp
     with_reducible rfl
    rotate_left
    ·simp only [Act.put, List.setIfInBounds_toArray, List.set_cons_zero, List.set_cons_succ, i64_w, i32_w]
     rfl
    refine sP (i := 20) (N := some 40) (lm 31 2097151) ?_
    refine sP (i := 21) (N := some 41) (lm 31 4194303) ?_
    refine take_ (i := 22) (N := some 42) (v := ?_) (a' := ?_) (lm 31 8388607) rfl rfl (by kernel_rfl) (fun _ _ _ h => h) (Or.inl ⟨by rfl, ?_⟩) hHeld ?_ ?_
    rotate_left
    ·rintro w' ⟨s0, s1, s2, s3, s4, s5, s6, s7, s8, s9, s10, s11, s12, s13, s14, s15, s16, s17, s18⟩
     go_simp
     with_reducible rfl
    rotate_left
    ·simp only [Act.put, List.setIfInBounds_toArray, List.set_cons_zero, List.set_cons_succ, i64_w, i32_w]
     rfl
    refine sP (i := 23) (N := some 43) (lm 31 16777215) ?_
    refine sP (i := 24) (N := some 44) (lm 31 33554431) ?_
    refine sP (i := 25) (N := some 45) (lm 31 67108863) ?_
    refine take_ (i := 26) (N := some 46) (v := ?_) (a' := ?_) (lm 31 134217727) rfl rfl (by kernel_rfl) (fun _ _ _ h => h) (Or.inl ⟨by rfl, ?_⟩) hHeld ?_ ?_
    rotate_left
    ·rintro w' ⟨s0, s1, s2, s3, s4, s5, s6, s7, s8, s9, s10, s11, s12, s13, s14, s15, s16, s17, s18⟩
     go_simp
     with_reducible rfl
    rotate_left
    ·simp only [Act.put, List.setIfInBounds_toArray, List.set_cons_zero, List.set_cons_succ, i64_w, i32_w]
     rfl
    refine take_ (i := 27) (N := some 47) (v := ?_) (a' := ?_) (lm 31 268435455) rfl rfl (by kernel_rfl) (fun _ _ _ h => h) (Or.inl ⟨by rfl, ?_⟩) hHeld ?_ ?_
    rotate_left
    ·rintro w' ⟨s0, s1, s2, s3, s4, s5, s6, s7, s8, s9, s10, s11, s12, s13, s14, s15, s16, s17, s18⟩
     go_simp
     with_reducible rfl
    rotate_left
    ·simp only [Act.put, List.setIfInBounds_toArray, List.set_cons_zero, List.set_cons_succ, i64_w, i32_w]
     rfl
    refine sP (i := 28) (N := some 48) (lm 31 536870911) ?_
    refine sP (i := 29) (N := some 49) (lm 31 1073741823) ?_
    refine sP (i := 30) (N := some 50) (lm 31 2147483647) ?_
    refine done_ (by kernel_rfl) ?_
    repeat (first | (apply wpIn_seq_k; intro _ _) | gi_step)
    refine startIn_ (m := 11) (S := fun w' => w'.cell? ⟨g5, 0, none⟩ = some (.pointer (some ⟨gw, 0, none⟩)) ∧ w'.cell? ⟨gw, 3, none⟩ = some (.slice (some adt) (q + 1) ct) ∧ w'.cell? ⟨g6, 0, none⟩ = some (.int .i64 (pad x 0)) ∧ w'.cell? ⟨g6, 1, none⟩ = some (.int .i64 (pad x 1)) ∧ w'.cell? ⟨g6, 2, none⟩ = some (.int .i64 (pad x 2)) ∧ w'.cell? ⟨g6, 3, none⟩ = some (.int .i64 (pad x 3)) ∧ w'.cell? ⟨g6, 4, none⟩ = some (.int .i64 (pad x 4)) ∧ w'.cell? ⟨g6, 5, none⟩ = some (.int .i64 (pad x 5)) ∧ w'.cell? ⟨g6, 6, none⟩ = some (.int .i64 (pad x 6))) (ds := [10]) (fun ⟨_, _, h⟩ => h) (by rfl) (lm 11 0) (by kernel_rfl) rfl (by kernel_rfl) ⟨hc5, hcv, hca0, hca1, hca2, hca3, hca4, hca5, hca6⟩ (fun hHeld => ?_)
    replace HI := Aside0.mk (HI.out.below (below_drew1 (Below.refl _ _)))
    replace HK6 := Aside0.mk (show W3.drew.heap[g6]? = _ from HK6.out)
    replace HB1 := Aside0.mk (below_drew1 HB1.out)
    replace HSZ2 := Aside0.mk (show W5.heap.size + 3 < W3.drew.heap.size from Nat.lt_of_lt_of_le HSZ2.out HB1.out.size)
    replace hc5 := (show W3.drew.cell? _ = _ from hc5)
    replace hcv := (show W3.drew.cell? _ = _ from hcv)
    replace hca0 := (show W3.drew.cell? _ = _ from hca0)
    replace hca1 := (show W3.drew.cell? _ = _ from hca1)
    replace hca2 := (show W3.drew.cell? _ = _ from hca2)
    replace hca3 := (show W3.drew.cell? _ = _ from hca3)
    replace hca4 := (show W3.drew.cell? _ = _ from hca4)
    replace hca5 := (show W3.drew.cell? _ = _ from hca5)
    replace hca6 := (show W3.drew.cell? _ = _ from hca6)
    generalize W3.drew = W2 at *
    refine take_ (i := 0) (N := some 51) (v := ?_) (a' := ?_) (lm 11 1) rfl rfl (by kernel_rfl) (fun _ _ _ h => h) (Or.inl ⟨by rfl, ?_⟩) hHeld ?_ ?_
    rotate_left
    ·rintro w' ⟨s0, s1, s2, s3, s4, s5, s6, s7, s8⟩
     go_simp
     with_reducible rfl
    rotate_left
    ·simp only [Act.put, List.setIfInBounds_toArray, List.set_cons_zero, List.set_cons_succ, i64_w, i32_w]
     rfl
    refine take_ (i := 1) (N := some 52) (v := ?_) (a' := ?_) (lm 11 3) rfl rfl (by kernel_rfl) (fun _ _ _ h => h) (Or.inl ⟨by rfl, ?_⟩) hHeld ?_ ?_
    rotate_left
    ·rintro w' ⟨s0, s1, s2, s3, s4, s5, s6, s7, s8⟩
     go_simp
     with_reducible rfl
    rotate_left
    ·simp only [Act.put, List.setIfInBounds_toArray, List.set_cons_zero, List.set_cons_succ, i64_w, i32_w]
     rfl
    refine sP (i := 2) (N := some 53) (lm 11 7) ?_
    refine sP (i := 3) (N := some 54) (lm 11 15) ?_
    refine take_ (i := 4) (N := some 55) (v := ?_) (a' := ?_) (lm 11 31) rfl rfl (by kernel_rfl) (fun _ _ _ h => h) (Or.inl ⟨by rfl, ?_⟩) hHeld ?_ ?_
    rotate_left
    ·rintro w' ⟨s0, s1, s2, s3, s4, s5, s6, s7, s8⟩
     go_simp
     with_reducible rfl
    rotate_left
    ·simp only [Act.put, List.setIfInBounds_toArray, List.set_cons_zero, List.set_cons_succ, i64_w, i32_w]
     rfl
    refine take_ (i := 5) (N := some 56) (v := ?_) (a' := ?_) (lm 11 63) rfl rfl (by kernel_rfl) (fun _ _ _ h => h) (Or.inl ⟨by rfl, ?_⟩) hHeld ?_ ?_
    rotate_left
    ·rintro w' ⟨s0, s1, s2, s3, s4, s5, s6, s7, s8⟩
     go_simp
     with_reducible rfl
    rotate_left
    ·simp only [Act.put, List.setIfInBounds_toArray, List.set_cons_zero, List.set_cons_succ, i64_w, i32_w]
     rfl
    refine one_ (i := 6) (N := some 57) (lm 11 127) rfl rfl (by kernel_rfl) (by decide) (fun K hK => ?_)
    refine value_ (w1 := ?_) (v := ?_) (by rfl) rfl ?_ ?_
    rotate_left 2
    ·go_simp
     constructor
     ·rfl
     ·rfl
    refine hK.out _ _ ⟨(blk_cell (blk_alloc HI.out.k5 _) 0).trans rfl, (blk_cell (blk_alloc HI.out.kw _) 3).trans rfl, (blk_cell (blk_alloc HK6.out _) 0).trans rfl, (blk_cell (blk_alloc HK6.out _) 1).trans rfl, (blk_cell (blk_alloc HK6.out _) 2).trans rfl, (blk_cell (blk_alloc HK6.out _) 3).trans rfl, (blk_cell (blk_alloc HK6.out _) 4).trans rfl, (blk_cell (blk_alloc HK6.out _) 5).trans rfl, (blk_cell (blk_alloc HK6.out _) 6).trans rfl⟩ (fun hHeld => ?_)
    clear hK K
    refine sN ?_
    refine one_ (i := 7) (N := some 58) (lm 11 255) rfl rfl (by kernel_rfl) (by decide) (fun K hK => ?_)
    refine Kd.R_append_step k121 (w0 := W2) (W5.heap.size + 3 + 1) (by rfl) (.tmp 55) (.tmp 57) 102 121 (.agg (ac fun _ => 0)) 56 rfl Try.underlying102 info121' rfl (by decide) (by omega) (.slice (some adt) (q + 1) ct) ts x [.int .i64 (pad x 0), .int .i64 (pad x 1), .int .i64 (pad x 2), .int .i64 (pad x 3), .int .i64 (pad x 4), .int .i64 (pad x 5), .int .i64 (pad x 6)] (fun _ => True) (fun _ => False) rfl rfl ?aP (fun _ hk => hk.elim) ?aF ?aO ?aB ?aS ?aL ?_
    (case aP => exact rfl)
    (case aB => exact Below.refl _ _)
    (case aF => exact fun _ _ => trivial)
    (case aO => exact HI.out.row)
    (case aS => have := HSZ2.out; omega)
    (case aL => have := HTL.out; omega)
    intro v1 W4 ho hb hg hat
    obtain ⟨Av, cw, ev1⟩ := Kd.R_slice ho
    obtain ⟨nv, hnv⟩ : ∃ nv, (ts ++ [x]).length = nv := ⟨_, rfl⟩
    rw [hnv] at ev1
    subst ev1
    clear hnv
    have HRW := Aside0.mk ho
    have HKP := Aside0.mk (Kp.trans (Kp.of_below HB1.out HSZ.out HZ.out) (Kp.row (X := fun k => k = gw ∨ k = gm) HI.out.row hg (by have := HGL.out; omega) (by have := HSZ2.out; omega)))
    have HK1 := Aside0.mk (blk_grown HI.out.k1 hg (row_ne HI.out.row (by have := HGL.out; omega)))
    have HK5 := Aside0.mk (blk_grown HI.out.k5 hg (row_ne HI.out.row (by have := HGL.out; omega)))
    have HKW := Aside0.mk (blk_grown HI.out.kw hg (row_ne HI.out.row (by have := HGL.out; omega)))
    have HMP := Aside0.mk (show ∃ L, MapL W4 gm L ∧ ∀ i k, getL L (i, k) = manyS l1.length ts i k from by obtain ⟨L, m1, m2⟩ := HI.out.mp; exact ⟨L, blk_grown (o := .map _ _) m1 hg (row_ne HI.out.row (by have := HGL.out; omega)), m2⟩)
    have HK64 := Aside0.mk (blk_grown HK6.out hg HN6.out)
    have HBW := Aside0.mk (show Below w.heap.size w W4 from HI.out.hb.trans (hb.mono (by have := HSZ2.out; have := HGL.out; omega)))
    have HS4 := Aside0.mk hg.size
    clear ho hb hg hat
    clear hc5
    clear hcv
    clear hca0
    clear hca1
    clear hca2
    clear hca3
    clear hca4
    clear hca5
    clear hca6
    clear HI HK6
    have HK6 := HK64
    clear HK64
    refine hK.out _ _ ⟨(blk_cell HK5.out 0).trans rfl, (blk_cell HKW.out 3).trans rfl, (blk_cell HK6.out 0).trans rfl, (blk_cell HK6.out 1).trans rfl, (blk_cell HK6.out 2).trans rfl, (blk_cell HK6.out 3).trans rfl, (blk_cell HK6.out 4).trans rfl, (blk_cell HK6.out 5).trans rfl, (blk_cell HK6.out 6).trans rfl⟩ (fun hHeld => ?_)
    clear hK K
    refine sN ?_
    refine sP (i := 8) (N := some 59) (lm 11 511) ?_
    refine sP (i := 9) (N := some 60) (lm 11 1023) ?_
    refine last_ (i := 10) (N := none) (lm 11 2047) rfl rfl (by kernel_rfl) (by decide) (fun K hK => ?_)
    have hfw : W4.frozen? ⟨gw, 3, none⟩ = false := blk_frozen HKW.out 3
    have hxw : W4.cell? ⟨gw, 3, none⟩ = some (.slice (some adt) (q + 1) ct) := (blk_cell HKW.out 3).trans rfl
    refine skip_ (w1 := ?_) (by rfl) rfl ?_ ?_
    rotate_left
    ·go_simp
     rfl
    refine hK.out _ _ ?_
    clear hK K
    refine done_ (by kernel_rfl) ?_
    have hks : ∀ g cs t, g ≠ gw → W4.heap[g]? = some (.cells cs t (0, 0)) → (W4.setCell ⟨gw, 3, none⟩ (.slice Av nv cw)).heap[g]? = some (.cells cs t (0, 0)) := fun g cs t hne h => blk_far h hne _
    have HI2 := Aside0.mk (show AskI w A0 l0.length c0 A1 l1.length c1 wg g1 g5 gw gm W5.heap.size (W4.setCell ⟨gw, 3, none⟩ (.slice Av nv cw)) (.slice Av nv cw) (ts ++ [x]) (midS l1.length ts x 0) from ⟨HBW.out.setCell (p := ⟨gw, 3, none⟩) HW.out.2.1 _, hks _ _ _ (by have := LTgw_g1.out; omega) HK1.out, hks _ _ _ (by have := HN.out; omega) HK5.out, blk_put HKW.out 3 _ rfl,
     Kd.R_mono (Kd.R_far (p := ⟨gw, 3, none⟩) (Kd.R_bound HRW.out) (fun k hk => by have h1 := hk.2.1; have h2 := HGL.out; show k ≠ gw; omega) _) (fun _ _ => trivial), by
     obtain ⟨L, m1, m2⟩ := HMP.out
     exact ⟨L, (Below.heap_setCell W4 ⟨gw, 3, none⟩ _ gm (by have := HN.out; show gm ≠ gw; omega)).trans m1, by rw [midS_zero]; exact m2⟩⟩)
    have HKP2 := Aside0.mk (show Kp w.heap.size (fun k => k = gw ∨ k = gm) (W5.heap.size + 3) W (W4.setCell ⟨gw, 3, none⟩ (.slice Av nv cw)) from Kp.set HKP.out HW.out.2.1 (by have := HGL.out; omega) (.inl rfl) 3 _)
    have HK62 := Aside0.mk (hks _ _ _ (by have := HGL.out; have := HG6.out; omega) HK6.out)
    clear hks HKP HK6 HBW HRW HK1 HK5 HKW HMP HS4
    generalize (W4.setCell ⟨gw, 3, none⟩ (.slice Av nv cw)) = W3 at *
    have hct1 : W3.cell? ⟨g1, 1, none⟩ = some (.slice A1 l1.length c1) := (blk_cell HI2.out.k1 1).trans rfl
    have HN1 := Aside0.mk HV.out.n1
    gi_wp2
    gi_loopg [64] l1.length (fun kq v64 w' => ∃ m : Nat, v64 = .int .i64 (m : Int) ∧ Aside0 (m + kq = l1.length) ∧ Aside0 (AskI w A0 l0.length c0 A1 l1.length c1 wg g1 g5 gw gm W5.heap.size w' (.slice Av nv cw) (ts ++ [x]) (midS l1.length ts x m)) ∧ Aside0 (Kp w.heap.size (fun k => k = gw ∨ k = gm) (W5.heap.size + 3) W w') ∧ Aside0 (w'.heap[g6]? = some (.cells (ac (pad x)) 121 (0, 0))))
    case atStart => exact ⟨0, rfl, ⟨Nat.zero_add _⟩, HI2, HKP2, HK62⟩
    case round =>
     clear HI2 HKP2 HK62
     obtain ⟨m, rfl, HM, HI, HKP, HK6⟩ := hrel
     by_cases hlt : m < l1.length
     ·cases gk with
      | zero => have := HM.out; omega
      | succ k1 =>
      have hm7 : m < 7 := by have := HN1.out; omega
      have hc5 : wr.cell? ⟨g5, 0, none⟩ = some (.pointer (some ⟨gw, 0, none⟩)) := (blk_cell HI.out.k5 0).trans rfl
      have hcm : wr.cell? ⟨gw, 4, none⟩ = some (.map (some gm)) := (blk_cell HI.out.kw 4).trans rfl
      obtain ⟨xm, hxmd⟩ : ∃ xm, pad x m = xm := ⟨_, rfl⟩
      have hcx : wr.cell? ⟨g6, m, none⟩ = some (.int .i64 xm) := (blk_cell HK6.out m).trans (by rw [ac_get _ m hm7, hxmd])
      have HXM := Aside0.mk hxmd
      obtain ⟨L, hmp, hgl⟩ := HI.out.mp
      obtain ⟨cv, hcv⟩ : ∃ cv, getL L ((m : Int), xm) = cv := ⟨_, rfl⟩
      have hcb : 0 ≤ cv ∧ cv ≤ 78126 := by
       rw [← hcv, hgl]
       have h1 := midS_bound l1.length ts x m (m : Int) xm
       have h2 := HTL.out
       omega
      obtain ⟨pl, hpl⟩ : ∃ pl, place L ((m : Int), xm) = pl := ⟨_, rfl⟩
      have HMP := Aside0.mk hmp
      have HGL2 := Aside0.mk hgl
      have HCV := Aside0.mk hcv
      have HPL := Aside0.mk hpl
      have hlk := lookup_run wr.drew gm L ((m : Int), xm) (show MapL wr.drew gm L from HMP.out)
      rw [HCV.out] at hlk
      unfold spv at hlk
      dsimp only at hlk
      have hm7z : (m : Int) < 7 := by omega
      have hwcv : wrap64 (cv + 1) = cv + 1 := wrap64_id _ (by omega) (by omega)
      clear hmp hgl hcv hpl hxmd
      gi_wp2_with fail
      refine startIn_ (m := 14) (S := fun w' => w'.cell? ⟨g5, 0, none⟩ = some (.pointer (some ⟨gw, 0, none⟩)) ∧ w'.cell? ⟨gw, 4, none⟩ = some (.map (some gm)) ∧ w'.cell? ⟨g6, m, none⟩ = some (.int .i64 xm) ∧ (Instr.lookup 103 (.map (some gm)) (.agg #[.int .i64 (m : Int), .int .i64 xm]) false).run Try.prog w' = .ok (.int .i64 cv) w') (ds := [13]) (fun ⟨_, _, h⟩ => h) (by rfl) (lm 14 0) (by kernel_rfl) rfl (by kernel_rfl) ⟨hc5, hcm, hcx, hlk⟩ (fun hHeld => ?_)
      replace HI := Aside0.mk (HI.out.below (below_drew1 (Below.refl _ _)))
      replace HK6 := Aside0.mk (show wr.drew.heap[g6]? = _ from HK6.out)
      replace HKP := Aside0.mk (show Kp w.heap.size (fun k => k = gw ∨ k = gm) (W5.heap.size + 3) W wr.drew from Kp.trans HKP.out (Kp.of_below (below_drew1 (Below.refl _ _)) HI.out.hb.size (by have h1 := HKP.out.size; have h2 := HZ.out; omega)))
      replace HMP := Aside0.mk (show MapL wr.drew gm L from HMP.out)
      replace hc5 := (show wr.drew.cell? _ = _ from hc5)
      replace hcm := (show wr.drew.cell? _ = _ from hcm)
      replace hcx := (show wr.drew.cell? _ = _ from hcx)
      replace hlk := lookup_run wr.drew gm L ((m : Int), xm) HMP.out
      rw [HCV.out] at hlk
      unfold spv at hlk
      dsimp only at hlk
      generalize wr.drew = W6 at *
      obtain ⟨W7, hW7⟩ : ∃ W7, W7 = W6.putObj gm (.map (entsFrom 0 (touch L ((m : Int), xm))).toArray (touch L ((m : Int), xm)).length) := ⟨_, rfl⟩
      have hme := mapEntry_run W6 gm L ((m : Int), xm) HMP.out
      rw [← hW7, HCV.out, HPL.out] at hme
      unfold spv at hme
      dsimp only at hme
      have hm7 : MapL W7 gm (touch L ((m : Int), xm)) := by rw [hW7]; exact MapL.put _ _ _ (blk_lt (o := .map _ _) HMP.out)
      have hk7 : ∀ g o, g ≠ gm → W6.heap[g]? = some o → W7.heap[g]? = some o := fun g o hne h => by rw [hW7]; exact (World.putObj_heap_other hne).trans h
      have HK57 := Aside0.mk (hk7 _ _ (by have := HN.out; omega) HI.out.k5)
      have HKW7 := Aside0.mk (hk7 _ _ (by have := HN.out; omega) HI.out.kw)
      have HK67 := Aside0.mk (hk7 _ _ (by have := HGL.out; have := HG6.out; omega) HK6.out)
      have hcx7 : W7.cell? ⟨g6, m, none⟩ = some (.int .i64 xm) := (blk_cell HK67.out m).trans (by rw [ac_get _ m (by have := HV.out.n1; omega), HXM.out])
      have hlk7 := lookup_run W7 gm (touch L ((m : Int), xm)) ((m : Int), xm) hm7
      rw [getL_touch, HCV.out] at hlk7
      unfold spv at hlk7
      dsimp only at hlk7
      obtain ⟨n0_, htg⟩ := touch_get L ((m : Int), xm)
      rw [HPL.out] at htg
      obtain ⟨W8, hW8⟩ : ∃ W8, W8 = W7.putObj gm (.map (entsFrom 0 ((touch L ((m : Int), xm)).set pl (((m : Int), xm), cv + 1))).toArray ((touch L ((m : Int), xm)).set pl (((m : Int), xm), cv + 1)).length) := ⟨_, rfl⟩
      have hes := entryStore_run W7 gm (touch L ((m : Int), xm)) pl ((m : Int), xm) n0_ (cv + 1) hm7 htg
      rw [← hW8] at hes
      have hm8 : MapL W8 gm ((touch L ((m : Int), xm)).set pl (((m : Int), xm), cv + 1)) := by rw [hW8]; exact MapL.put _ _ _ (blk_lt (o := .map _ _) hm7)
      have hk8 : ∀ g o, g ≠ gm → W6.heap[g]? = some o → W8.heap[g]? = some o := fun g o hne h => by rw [hW8]; exact (World.putObj_heap_other hne).trans (hk7 g o hne h)
      have HKP8 := Aside0.mk (show Kp w.heap.size (fun k => k = gw ∨ k = gm) (W5.heap.size + 3) W W8 from Kp.trans HKP.out (by rw [hW8, hW7]; exact Kp.trans (Kp.putObj W6 gm _ HW.out.1 (.inr rfl) (by have := HGL.out; omega)) (Kp.putObj _ gm _ HW.out.1 (.inr rfl) (by have := HGL.out; omega))))
      have HI8 := Aside0.mk (show AskI w A0 l0.length c0 A1 l1.length c1 wg g1 g5 gw gm W5.heap.size W8 (.slice Av nv cw) (ts ++ [x]) (midS l1.length ts x (m + 1)) from ⟨HI0.out.hb.trans HKP8.out.below, hk8 _ _ (by have := LTg1.out; omega) HI.out.k1, hk8 _ _ (by have := HN.out; omega) HI.out.k5, hk8 _ _ (by have := HN.out; omega) HI.out.kw, Kd.R_mono (Kd.R_move (Kd.R_bound HI.out.row) (fun k hk => by have h1 := hk.2.1; have h2 := HGL.out; rw [hW8, hW7]; exact (World.putObj_heap_other (by omega)).trans (World.putObj_heap_other (by omega)))) (fun _ _ => trivial), _, hm8, fun i k => by have h_ := getL_set (touch L ((m : Int), xm)) ((m : Int), xm) (cv + 1) pl (by rw [at_touch, HPL.out]) (i, k); rw [h_, midS_succ, HXM.out, ← HGL2.out (m : Int) xm, HCV.out]; exact ite_congr rfl (fun _ => rfl) (fun _ => by rw [getL_touch]; exact HGL2.out i k)⟩)
      have HK68 := Aside0.mk (hk8 _ _ (by have := HGL.out; have := HG6.out; omega) HK6.out)
      clear hW7 hW8 hk7 hk8 hm7 hm8 htg
      refine sP (i := 4) (N := some 71) (lm 14 16) ?_
      refine sP (i := 5) (N := some 72) (lm 14 48) ?_
      refine sP (i := 6) (N := some 73) (lm 14 112) ?_
      refine take_ (i := 0) (N := some 67) (v := ?_) (a' := ?_) (lm 14 113) rfl rfl (by kernel_rfl) (fun _ _ _ h => h) (Or.inl ⟨by rfl, ?_⟩) hHeld ?_ ?_
      rotate_left
      ·rintro w' ⟨s0, s1, s2, s3⟩
       go_simp
       with_reducible rfl
      rotate_left
      ·simp only [Act.put, List.setIfInBounds_toArray, List.set_cons_zero, List.set_cons_succ, i64_w, i32_w]
       rfl
      refine sP (i := 1) (N := some 68) (lm 14 115) ?_
      refine sP (i := 2) (N := some 69) (lm 14 119) ?_
      refine take_ (i := 3) (N := some 70) (v := ?_) (a' := ?_) (lm 14 127) rfl rfl (by kernel_rfl) (fun _ _ _ h => h) (Or.inl ⟨by rfl, ?_⟩) hHeld ?_ ?_
      rotate_left
      ·rintro w' ⟨s0, s1, s2, s3⟩
       go_simp
       with_reducible rfl
      rotate_left
      ·simp only [Act.put, List.setIfInBounds_toArray, List.set_cons_zero, List.set_cons_succ, i64_w, i32_w]
       rfl
      refine take_ (i := 7) (N := some 74) (v := ?_) (a' := ?_) (lm 14 255) rfl rfl (by kernel_rfl) (fun _ _ _ h => h) (Or.inl ⟨by rfl, ?_⟩) hHeld ?_ ?_
      rotate_left
      ·rintro w' ⟨s0, s1, s2, s3⟩
       go_simp
       with_reducible rfl
      rotate_left
      ·simp only [Act.put, List.setIfInBounds_toArray, List.set_cons_zero, List.set_cons_succ, i64_w, i32_w]
       rfl
      refine sP (i := 8) (N := some 75) (lm 14 511) ?_
      refine take_ (i := 9) (N := some 76) (v := ?_) (a' := ?_) (lm 14 1023) rfl rfl (by kernel_rfl) (fun _ _ _ h => h) (Or.inl ⟨by rfl, ?_⟩) hHeld ?_ ?_
      rotate_left
      ·rintro w' ⟨s0, s1, s2, s3⟩
       go_simp
       with_reducible rfl
      rotate_left
      ·simp only [Act.put, List.setIfInBounds_toArray, List.set_cons_zero, List.set_cons_succ, i64_w, i32_w]
       rfl
      refine sP (i := 10) (N := some 77) (lm 14 2047) ?_
      refine one_ (i := 11) (N := some 78) (lm 14 4095) rfl rfl (by kernel_rfl) (by decide) (fun K hK => ?_)
      refine value_ (w1 := W7) (v := .tuple #[.int .i64 cv, .int .i64 (pl : Int)]) (by rfl) rfl ?_ ?_
      ·go_simp
      refine hK.out _ _ ⟨(blk_cell HK57.out 0).trans rfl, (blk_cell HKW7.out 4).trans rfl, hcx7, hlk7⟩ (fun hHeld => ?_)
      clear hK K
      refine sN ?_
      refine sP (i := 12) (N := some 79) (lm 14 8191) ?_
      refine last_ (i := 13) (N := none) (lm 14 16383) rfl rfl (by kernel_rfl) (by decide) (fun K hK => ?_)
      refine skip_ (w1 := W8) (by rfl) rfl ?_ ?_
      ·go_simp
      refine hK.out _ _ ?_
      clear hK K
      refine done_ (by kernel_rfl) ?_
      gi_wp2_with fail
      gi_roundg k1
      case measure => omega
      case rel => exact ⟨m + 1, by go_num, ⟨by have := HM.out; omega⟩, HI8, HKP8, HK68⟩
     ·gi_wp2
      obtain rfl : m = l1.length := by have := HM.out; omega
      refine ⟨HKP.out, .slice Av nv cw, ?_⟩
      rw [HFA.out, show (fun i k => manyS l1.length (ts ++ [x]) i k) = midS l1.length ts x l1.length from (midS_end _ _ _).symm]
      exact HI.out
 case done => 
  rintro W ⟨vt, hi⟩ hD
  obtain ⟨At, ct, ev⟩ := Kd.R_slice hi.row
  subst ev
  have hx5 : W.cell? ⟨g5, 0, none⟩ = some (.pointer (some ⟨gw, 0, none⟩)) := (blk_cell hi.k5 0).trans rfl
  have hxv : W.cell? ⟨gw, 3, none⟩ = some (.slice At (truthsL l0 l1 wg).length ct) := (blk_cell hi.kw 3).trans rfl
  have HI2 := Aside0.mk hi
  have HD := Aside0.mk hD
  clear hi hD
  have hT : truthsL l0 l1 wg = (allL l0 l1).filter (isT l0 l1.length wg) := rfl
  rw [← hT] at HI2
  clear hT
  have HR2 := Aside0.mk HI2.out.row
  obtain ⟨nt, hnt⟩ : ∃ nt : Nat, (truthsL l0 l1 wg).length = nt := ⟨_, rfl⟩
  have HNT := Aside0.mk hnt
  rw [hnt] at hxv
  clear hnt
  cases nt with
  | zero =>
   have hb0 : (((0 : Nat) : Int) == 0) = true := rfl
   go_wp2
   refine ⟨by simp, .inl ⟨_, _, rfl, run_takeDeferred HD.out, ?_⟩⟩
   refine ⟨.tuple #[.pointer none, .int .i64 11], ?_, below_put0 HI2.out.hb HB5.out.size _, .inl ⟨List.length_eq_zero_iff.1 HNT.out, rfl⟩⟩
   simp [results, Try.f68, go_sem]
  | succ nt =>
   have hb0 : (((nt + 1 : Nat) : Int) == 0) = false := by simp; omega
   go_wp2
   refine ⟨by simp, .inl ⟨_, _, rfl, run_takeDeferred HD.out, ?_⟩⟩
   have hbp : Below W5.heap.size W (W.putObj W5.heap.size (.deferred none)) := below_put0 (Below.refl _ _) (Nat.le_refl _) _
   refine ⟨.tuple #[.pointer (some ⟨gw, 0, none⟩), .int .i64 0], ?_, below_put0 HI2.out.hb HB5.out.size _, .inr ⟨fun h => by have h2 := HNT.out; rw [h] at h2; exact absurd h2 (by simp), gw, gm, _, HW.out.2.1, HW.out.1, rfl, (hbp.block _ HGL.out.2.2.1).trans HI2.out.kw, Kd.R_lower (Kd.R_mono (Kd.R_move (Kd.R_bound HI2.out.row) (fun k hk => World.putObj_heap_other (by have := hk.2.1; omega))) (fun _ _ => trivial)) (show w.heap.size ≤ W5.heap.size + 4 from by have := HGL.out.2.2.2.2.1; omega), ?_⟩⟩
   ·simp [results, Try.f68, go_sem]
   ·obtain ⟨L, m1, m2⟩ := HI2.out.mp
    exact ⟨L, (hbp.block _ HGL.out.2.2.2.1).trans m1, m2⟩
 case stop => rintro c pre W hpre h; exact h.elim
end Go.Proofs.Ytnbbbeghgomnoaa.X
namespace Go.Proofs.Ytnbbbeghgomnoaa.X
open Go.RowKit Go.Proofs.YtnbbbeghgomnoaaW.PrintWords Go.Proofs.YtnbbbeghgomnoaaW.PrintLast Go.Proofs.YtnbbbeghgomnoaaW.PrintMore
def askE (l0 : List S109) (l1 : List S110) (wg : Int) : Int := if checkT l0 l1 wg ≠ 0 then checkT l0 l1 wg else if truthsL l0 l1 wg = [] then 11 else 0
structure Wk (A0 : Option Addr) (c0 : Nat) (l0 : List S109) (A1 : Option Addr) (c1 : Nat) (l1 : List S110) (wg : Int) (b : Nat) (gw gm : Nat) (At : Option Addr) (ct : Nat) (W : World) : Prop where
 gw0 : b ≤ gw
 gm0 : b ≤ gm
 kw : W.heap[gw]? = some (.cells (wcs A0 l0.length c0 A1 l1.length c1 wg (.slice At (truthsL l0 l1 wg).length ct) gm) 105 (0, 0))
 row : Kd.C k121 W At (truthsL l0 l1 wg).length (truthsL l0 l1 wg)
 mp : ∃ L, MapL W gm L ∧ ∀ i k, getL L (i, k) = manyS l1.length (truthsL l0 l1 wg) i k
theorem Wk.below {A0 : Option Addr} {c0 : Nat} {l0 : List S109} {A1 : Option Addr} {c1 : Nat} {l1 : List S110} {wg : Int} {b gw gm : Nat} {At : Option Addr} {ct : Nat} {W W' : World} (h : Wk A0 c0 l0 A1 c1 l1 wg b gw gm At ct W) (hb : Below W.heap.size W W') : Wk A0 c0 l0 A1 c1 l1 wg b gw gm At ct W' :=
 ⟨h.gw0, h.gm0, blk_below h.kw hb, Kd.C_below h.row hb, by obtain ⟨L, h1, h2⟩ := h.mp; exact ⟨L, blk_below (o := .map _ _) h1 hb, h2⟩⟩
theorem askE_zero {l0 : List S109} {l1 : List S110} {wg : Int} (h : askE l0 l1 wg = 0) : checkT l0 l1 wg = 0 ∧ truthsL l0 l1 wg ≠ [] := by
 unfold askE at h
 by_cases hc : checkT l0 l1 wg = 0
 ·refine ⟨hc, fun ht => ?_⟩
  rw [if_neg (fun hn => hn hc), if_pos ht] at h
  exact absurd h (by decide)
 ·rw [if_pos hc] at h
  exact absurd h hc
theorem asked_e {A0 : Option Addr} {c0 : Nat} {l0 : List S109} {A1 : Option Addr} {c1 : Nat} {l1 : List S110} (wg : Int) {w : World} (ht : Tab A0 c0 l0 A1 c1 l1 w) (he : askE l0 l1 wg ≠ 0) :
  Calls Try.prog 68 #[.agg #[.slice A0 l0.length c0, .slice A1 l1.length c1, .int .i64 wg]] w fun e w' => e = .returned (.tuple #[.pointer none, .int .i64 (askE l0 l1 wg)]) ∧ Below w.heap.size w w' := by
 by_cases hc : checkT l0 l1 wg = 0
 ·refine (asked_calls wg ht hc).mono ?_
  rintro e w' ⟨hb, ⟨h1, rfl⟩ | ⟨h1, _⟩⟩
  ·refine ⟨?_, hb⟩
   unfold askE
   rw [if_neg (fun hn => hn hc), if_pos h1]
  ·refine absurd ?_ he
   unfold askE
   rw [if_neg (fun hn => hn hc), if_neg h1]
 ·refine (asked_err wg ht hc).mono ?_
  rintro e w' ⟨rfl, hb⟩
  refine ⟨?_, hb⟩
  unfold askE
  rw [if_pos hc]
theorem asked_ok {A0 : Option Addr} {c0 : Nat} {l0 : List S109} {A1 : Option Addr} {c1 : Nat} {l1 : List S110} (wg : Int) {w : World} (ht : Tab A0 c0 l0 A1 c1 l1 w) (he : askE l0 l1 wg = 0) :
  Calls Try.prog 68 #[.agg #[.slice A0 l0.length c0, .slice A1 l1.length c1, .int .i64 wg]] w fun e w' => ∃ gw gm At ct, e = .returned (.tuple #[.pointer (some ⟨gw, 0, none⟩), .int .i64 0]) ∧ Wk A0 c0 l0 A1 c1 l1 wg w.heap.size gw gm At ct w' ∧ Below w.heap.size w w' := by
 obtain ⟨hc, hn⟩ := askE_zero he
 refine (asked_calls wg ht hc).mono ?_
 rintro e w' ⟨hb, ⟨h1, _⟩ | ⟨_, gw, gm, vt, h1, h2, rfl, h3, h4, h5⟩⟩
 ·exact absurd h1 hn
 ·obtain ⟨At, ct, rfl⟩ := Kd.R_slice h4
  exact ⟨gw, gm, At, ct, rfl, ⟨h1, h2, h3, (Kd.R_reads' h4).2.2, h5⟩, hb⟩
theorem truths_len {l0 : List S109} {l1 : List S110} (wg : Int) (h0 : l0.length ≤ 5) (h1 : l1.length ≤ 7) : (truthsL l0 l1 wg).length ≤ 78125 := Nat.le_trans (List.length_filter_le _ _) (allL_len h0 h1)
theorem truths_mem {l0 : List S109} {l1 : List S110} {wg : Int} {x : List Int} (h : x ∈ truthsL l0 l1 wg) : x ∈ allL l0 l1 := (List.mem_filter.1 h).1
end Go.Proofs.Ytnbbbeghgomnoaa.X
namespace Go.Proofs.Ytnbbbeghgomnoaa.X
open Go.RowKit Go.Proofs.YtnbbbeghgomnoaaW.PrintWords Go.Proofs.YtnbbbeghgomnoaaW.PrintLast Go.Proofs.YtnbbbeghgomnoaaW.PrintMore
def lostN (l1 : List S110) (o : Nat → Int) : Int := ((sel (off l1 o) l1.length).length : Int)
def missN (l1 : List S110) (o : Nat → Int) (k : Int) : Int := (((sel (off l1 o) l1.length).filter fun i => o i.toNat == k).length : Int)
set_option maxHeartbeats 4000000 in
set_option maxRecDepth 100000 in
theorem lost_calls {A0 : Option Addr} {c0 : Nat} {l0 : List S109} {A1 : Option Addr} {c1 : Nat} {l1 : List S110} {wg : Int} {b gw gm : Nat} {At : Option Addr} {ct : Nat} (o : Nat → Int) (ab : Int) {w : World} (hk : Wk A0 c0 l0 A1 c1 l1 wg b gw gm At ct w) (hr1 : Kd.C k110 w A1 l1.length l1) (hn1 : l1.length ≤ 7) :
  Calls Try.prog 80 #[.pointer (some ⟨gw, 0, none⟩), .agg #[.int .i64 (o 0), .int .i64 (o 1), .int .i64 (o 2), .int .i64 (o 3), .int .i64 (o 4), .int .i64 (o 5), .int .i64 (o 6)], .int .i64 ab] w fun e w' => e = .returned (.int .i64 (lostN l1 o)) ∧ Below w.heap.size w w' := by
 have hu35 := Try.underlying35
 have hu121 := Try.underlying121
 have hu105 := Try.underlying105
 have HK := Aside0.mk hk
 have HR1 := Aside0.mk hr1
 have HN1 := Aside0.mk hn1
 clear hk hr1 hn1
 have HB := Aside0.mk (Below.refl w.heap.size w)
 go_enter Try.func80, Try.ntmps80
 go_wp2_with (first | ((with_reducible refine gate_dst (N := 4) rfl ?_); refine sbox (N := 4) #[.int .i64 (o 0), .int .i64 (o 1), .int .i64 (o 2), .int .i64 (o 3), .int .i64 (o 4), .int .i64 (o 5), .int .i64 (o 6)] 121 ?_; intro g4 hg W_ hbox hb; have GEg4 := Aside0.mk (by rw [hg]; exact HB.out.size : w.heap.size ≤ g4); replace HK := Aside0.mk (HK.out.below hb); replace HR1 := Aside0.mk (Kd.C_below HR1.out hb); replace HB := Aside0.mk (below_step HB.out hb); have BKg4 := Aside0.mk hbox; clear hb hbox hg))
 have hcw0 : W_.cell? ⟨gw, 0, none⟩ = some (.slice A0 l0.length c0) := (blk_cell HK.out.kw 0).trans rfl
 have hcw1 : W_.cell? ⟨gw, 1, none⟩ = some (.slice A1 l1.length c1) := (blk_cell HK.out.kw 1).trans rfl
 have hcw2 : W_.cell? ⟨gw, 2, none⟩ = some (.int .i64 wg) := (blk_cell HK.out.kw 2).trans rfl
 have hca0 := sc 0 BKg4
 have hca1 := sc 1 BKg4
 have hca2 := sc 2 BKg4
 have hca3 := sc 3 BKg4
 have hca4 := sc 4 BKg4
 have hca5 := sc 5 BKg4
 have hca6 := sc 6 BKg4
 refine start_ (n := 8) (S := fun w' => w'.cell? ⟨gw, 0, none⟩ = some (.slice A0 l0.length c0) ∧ w'.cell? ⟨gw, 1, none⟩ = some (.slice A1 l1.length c1) ∧ w'.cell? ⟨gw, 2, none⟩ = some (.int .i64 wg) ∧ w'.cell? ⟨g4, 0, none⟩ = some (.int .i64 (o 0)) ∧ w'.cell? ⟨g4, 1, none⟩ = some (.int .i64 (o 1)) ∧ w'.cell? ⟨g4, 2, none⟩ = some (.int .i64 (o 2)) ∧ w'.cell? ⟨g4, 3, none⟩ = some (.int .i64 (o 3)) ∧ w'.cell? ⟨g4, 4, none⟩ = some (.int .i64 (o 4)) ∧ w'.cell? ⟨g4, 5, none⟩ = some (.int .i64 (o 5)) ∧ w'.cell? ⟨g4, 6, none⟩ = some (.int .i64 (o 6))) (ds := []) (lm 8 0) (by kernel_rfl) rfl (by kernel_rfl) ⟨hcw0, hcw1, hcw2, hca0, hca1, hca2, hca3, hca4, hca5, hca6⟩ (fun hHeld => ?_)
 have hb := below_drew1 (Below.refl W_.heap.size W_)
 replace HK := Aside0.mk (HK.out.below hb)
 replace HR1 := Aside0.mk (Kd.C_below HR1.out hb)
 replace BKg4 := Aside0.mk (blk_below BKg4.out hb)
 replace HB := Aside0.mk (below_step HB.out hb)
 replace hcw0 := (hb.cell (World.block_lt_of_cell? _ _ hcw0)).trans hcw0
 replace hcw1 := (hb.cell (World.block_lt_of_cell? _ _ hcw1)).trans hcw1
 replace hcw2 := (hb.cell (World.block_lt_of_cell? _ _ hcw2)).trans hcw2
 replace hca0 := (hb.cell (World.block_lt_of_cell? _ _ hca0)).trans hca0
 replace hca1 := (hb.cell (World.block_lt_of_cell? _ _ hca1)).trans hca1
 replace hca2 := (hb.cell (World.block_lt_of_cell? _ _ hca2)).trans hca2
 replace hca3 := (hb.cell (World.block_lt_of_cell? _ _ hca3)).trans hca3
 replace hca4 := (hb.cell (World.block_lt_of_cell? _ _ hca4)).trans hca4
 replace hca5 := (hb.cell (World.block_lt_of_cell? _ _ hca5)).trans hca5
 replace hca6 := (hb.cell (World.block_lt_of_cell? _ _ hca6)).trans hca6
 generalize W_.drew = W2 at *
 clear hb
 refine sP (i := 0) (N := some 7) (lm 8 1) ?_
 refine sP (i := 1) (N := some 8) (lm 8 3) ?_
 refine sP (i := 2) (N := some 9) (lm 8 7) ?_
 refine take_ (i := 3) (N := some 10) (v := ?_) (a' := ?_) (lm 8 15) rfl rfl (by kernel_rfl) (fun _ _ _ h => h) (Or.inl ⟨by rfl, ?_⟩) hHeld ?_ ?_
 rotate_left
 ·rintro w' ⟨s0, s1, s2, s3, s4, s5, s6, s7, s8, s9⟩
  go_simp
  with_reducible rfl
 rotate_left
 ·simp only [Act.put, List.setIfInBounds_toArray, List.set_cons_zero, List.set_cons_succ, i64_w, i32_w]
  rfl
 refine take_ (i := 4) (N := some 11) (v := ?_) (a' := ?_) (lm 8 31) rfl rfl (by kernel_rfl) (fun _ _ _ h => h) (Or.inl ⟨by rfl, ?_⟩) hHeld ?_ ?_
 rotate_left
 ·rintro w' ⟨s0, s1, s2, s3, s4, s5, s6, s7, s8, s9⟩
  go_simp
  with_reducible rfl
 rotate_left
 ·simp only [Act.put, List.setIfInBounds_toArray, List.set_cons_zero, List.set_cons_succ, i64_w, i32_w]
  rfl
 refine one_ (i := 5) (N := some 12) (lm 8 63) rfl rfl (by kernel_rfl) (by decide) (fun K hK => ?_)
 refine goes_ Try.func82 (by kernel_rfl) rfl #[.agg #[.slice A0 l0.length c0, .slice A1 l1.length c1, .int .i64 wg], .agg #[.int .i64 (o 0), .int .i64 (o 1), .int .i64 (o 2), .int .i64 (o 3), .int .i64 (o 4), .int .i64 (o 5), .int .i64 (o 6)]] (by rfl) rfl rfl (by simp only [List.map_toArray, List.map_cons, List.map_nil]; rfl) ?_
 with_reducible refine (astray_calls A0 c0 l0 A1 c1 l1 wg o W2 HR1.out HN1.out).mono ?_
 rintro e W3 ⟨v12, rfl, ho, hb⟩
 refine ⟨_, rfl, ?_⟩
 replace hcw0 := (hb.cell (World.block_lt_of_cell? _ _ hcw0)).trans hcw0
 replace hcw1 := (hb.cell (World.block_lt_of_cell? _ _ hcw1)).trans hcw1
 replace hcw2 := (hb.cell (World.block_lt_of_cell? _ _ hcw2)).trans hcw2
 replace hca0 := (hb.cell (World.block_lt_of_cell? _ _ hca0)).trans hca0
 replace hca1 := (hb.cell (World.block_lt_of_cell? _ _ hca1)).trans hca1
 replace hca2 := (hb.cell (World.block_lt_of_cell? _ _ hca2)).trans hca2
 replace hca3 := (hb.cell (World.block_lt_of_cell? _ _ hca3)).trans hca3
 replace hca4 := (hb.cell (World.block_lt_of_cell? _ _ hca4)).trans hca4
 replace hca5 := (hb.cell (World.block_lt_of_cell? _ _ hca5)).trans hca5
 replace hca6 := (hb.cell (World.block_lt_of_cell? _ _ hca6)).trans hca6
 replace HK := Aside0.mk (HK.out.below hb)
 replace HR1 := Aside0.mk (Kd.C_below HR1.out hb)
 replace BKg4 := Aside0.mk (blk_below BKg4.out hb)
 replace HB := Aside0.mk (below_step HB.out hb)
 have HO := Aside0.mk ho
 clear ho
 obtain ⟨Ao, co, eo_⟩ := Kd.R_slice HO.out
 subst eo_
 clear hb
 refine hK.out _ _ ⟨hcw0, hcw1, hcw2, hca0, hca1, hca2, hca3, hca4, hca5, hca6⟩ (fun hHeld => ?_)
 clear hK K
 refine sN ?_
 refine sP (i := 6) (N := some 13) (lm 8 127) ?_
 refine sP (i := 7) (N := some 6) (lm 8 255) ?_
 refine done_ (by kernel_rfl) ?_
 go_wp2
 go_ret
 exact ⟨rfl, HB.out⟩
set_option maxHeartbeats 4000000 in
set_option maxRecDepth 100000 in
theorem missed_calls {A0 : Option Addr} {c0 : Nat} {l0 : List S109} {A1 : Option Addr} {c1 : Nat} {l1 : List S110} {wg : Int} {b gw gm : Nat} {At : Option Addr} {ct : Nat} (o : Nat → Int) (ab : Int) {w : World} (hk : Wk A0 c0 l0 A1 c1 l1 wg b gw gm At ct w) (hr1 : Kd.C k110 w A1 l1.length l1) (hn1 : l1.length ≤ 7) :
  Calls Try.prog 70 #[.pointer (some ⟨gw, 0, none⟩), .agg #[.int .i64 (o 0), .int .i64 (o 1), .int .i64 (o 2), .int .i64 (o 3), .int .i64 (o 4), .int .i64 (o 5), .int .i64 (o 6)], .int .i64 ab] w fun e w' => e = .returned (.int .i64 (missN l1 o ab)) ∧ Below w.heap.size w w' := by
 have hu35 := Try.underlying35
 have hu121 := Try.underlying121
 have hu105 := Try.underlying105
 have HK := Aside0.mk hk
 have HR1 := Aside0.mk hr1
 have HN1 := Aside0.mk hn1
 clear hk hr1 hn1
 have HB := Aside0.mk (Below.refl w.heap.size w)
 go_enter Try.func70, Try.ntmps70
 go_wp2_with (first | ((with_reducible refine gate_dst (N := 4) rfl ?_); refine sbox (N := 4) #[.int .i64 (o 0), .int .i64 (o 1), .int .i64 (o 2), .int .i64 (o 3), .int .i64 (o 4), .int .i64 (o 5), .int .i64 (o 6)] 121 ?_; intro g4 hg W_ hbox hb; have GEg4 := Aside0.mk (by rw [hg]; exact HB.out.size : w.heap.size ≤ g4); replace HK := Aside0.mk (HK.out.below hb); replace HR1 := Aside0.mk (Kd.C_below HR1.out hb); replace HB := Aside0.mk (below_step HB.out hb); have BKg4 := Aside0.mk hbox; clear hb hbox hg))
 have hcw0 : W_.cell? ⟨gw, 0, none⟩ = some (.slice A0 l0.length c0) := (blk_cell HK.out.kw 0).trans rfl
 have hcw1 : W_.cell? ⟨gw, 1, none⟩ = some (.slice A1 l1.length c1) := (blk_cell HK.out.kw 1).trans rfl
 have hcw2 : W_.cell? ⟨gw, 2, none⟩ = some (.int .i64 wg) := (blk_cell HK.out.kw 2).trans rfl
 have hca0 := sc 0 BKg4
 have hca1 := sc 1 BKg4
 have hca2 := sc 2 BKg4
 have hca3 := sc 3 BKg4
 have hca4 := sc 4 BKg4
 have hca5 := sc 5 BKg4
 have hca6 := sc 6 BKg4
 refine start_ (n := 8) (S := fun w' => w'.cell? ⟨gw, 0, none⟩ = some (.slice A0 l0.length c0) ∧ w'.cell? ⟨gw, 1, none⟩ = some (.slice A1 l1.length c1) ∧ w'.cell? ⟨gw, 2, none⟩ = some (.int .i64 wg) ∧ w'.cell? ⟨g4, 0, none⟩ = some (.int .i64 (o 0)) ∧ w'.cell? ⟨g4, 1, none⟩ = some (.int .i64 (o 1)) ∧ w'.cell? ⟨g4, 2, none⟩ = some (.int .i64 (o 2)) ∧ w'.cell? ⟨g4, 3, none⟩ = some (.int .i64 (o 3)) ∧ w'.cell? ⟨g4, 4, none⟩ = some (.int .i64 (o 4)) ∧ w'.cell? ⟨g4, 5, none⟩ = some (.int .i64 (o 5)) ∧ w'.cell? ⟨g4, 6, none⟩ = some (.int .i64 (o 6))) (ds := []) (lm 8 0) (by kernel_rfl) rfl (by kernel_rfl) ⟨hcw0, hcw1, hcw2, hca0, hca1, hca2, hca3, hca4, hca5, hca6⟩ (fun hHeld => ?_)
 have hb := below_drew1 (Below.refl W_.heap.size W_)
 replace HK := Aside0.mk (HK.out.below hb)
 replace HR1 := Aside0.mk (Kd.C_below HR1.out hb)
 replace BKg4 := Aside0.mk (blk_below BKg4.out hb)
 replace HB := Aside0.mk (below_step HB.out hb)
 replace hcw0 := (hb.cell (World.block_lt_of_cell? _ _ hcw0)).trans hcw0
 replace hcw1 := (hb.cell (World.block_lt_of_cell? _ _ hcw1)).trans hcw1
 replace hcw2 := (hb.cell (World.block_lt_of_cell? _ _ hcw2)).trans hcw2
 replace hca0 := (hb.cell (World.block_lt_of_cell? _ _ hca0)).trans hca0
 replace hca1 := (hb.cell (World.block_lt_of_cell? _ _ hca1)).trans hca1
 replace hca2 := (hb.cell (World.block_lt_of_cell? _ _ hca2)).trans hca2
 replace hca3 := (hb.cell (World.block_lt_of_cell? _ _ hca3)).trans hca3
 replace hca4 := (hb.cell (World.block_lt_of_cell? _ _ hca4)).trans hca4
 replace hca5 := (hb.cell (World.block_lt_of_cell? _ _ hca5)).trans hca5
 replace hca6 := (hb.cell (World.block_lt_of_cell? _ _ hca6)).trans hca6
 generalize W_.drew = W2 at *
 clear hb
 refine sP (i := 0) (N := some 9) (lm 8 1) ?_
 refine sP (i := 1) (N := some 10) (lm 8 3) ?_
 refine sP (i := 2) (N := some 11) (lm 8 7) ?_
 refine sP (i := 7) (N := some 16) (lm 8 135) ?_
 refine take_ (i := 3) (N := some 12) (v := ?_) (a' := ?_) (lm 8 143) rfl rfl (by kernel_rfl) (fun _ _ _ h => h) (Or.inl ⟨by rfl, ?_⟩) hHeld ?_ ?_
 rotate_left
 ·rintro w' ⟨s0, s1, s2, s3, s4, s5, s6, s7, s8, s9⟩
  go_simp
  with_reducible rfl
 rotate_left
 ·simp only [Act.put, List.setIfInBounds_toArray, List.set_cons_zero, List.set_cons_succ, i64_w, i32_w]
  rfl
 refine take_ (i := 4) (N := some 13) (v := ?_) (a' := ?_) (lm 8 159) rfl rfl (by kernel_rfl) (fun _ _ _ h => h) (Or.inl ⟨by rfl, ?_⟩) hHeld ?_ ?_
 rotate_left
 ·rintro w' ⟨s0, s1, s2, s3, s4, s5, s6, s7, s8, s9⟩
  go_simp
  with_reducible rfl
 rotate_left
 ·simp only [Act.put, List.setIfInBounds_toArray, List.set_cons_zero, List.set_cons_succ, i64_w, i32_w]
  rfl
 refine one_ (i := 5) (N := some 14) (lm 8 191) rfl rfl (by kernel_rfl) (by decide) (fun K hK => ?_)
 refine goes_ Try.func82 (by kernel_rfl) rfl #[.agg #[.slice A0 l0.length c0, .slice A1 l1.length c1, .int .i64 wg], .agg #[.int .i64 (o 0), .int .i64 (o 1), .int .i64 (o 2), .int .i64 (o 3), .int .i64 (o 4), .int .i64 (o 5), .int .i64 (o 6)]] (by rfl) rfl rfl (by simp only [List.map_toArray, List.map_cons, List.map_nil]; rfl) ?_
 with_reducible refine (astray_calls A0 c0 l0 A1 c1 l1 wg o W2 HR1.out HN1.out).mono ?_
 rintro e W3 ⟨v14, rfl, ho, hb⟩
 refine ⟨_, rfl, ?_⟩
 replace hcw0 := (hb.cell (World.block_lt_of_cell? _ _ hcw0)).trans hcw0
 replace hcw1 := (hb.cell (World.block_lt_of_cell? _ _ hcw1)).trans hcw1
 replace hcw2 := (hb.cell (World.block_lt_of_cell? _ _ hcw2)).trans hcw2
 replace hca0 := (hb.cell (World.block_lt_of_cell? _ _ hca0)).trans hca0
 replace hca1 := (hb.cell (World.block_lt_of_cell? _ _ hca1)).trans hca1
 replace hca2 := (hb.cell (World.block_lt_of_cell? _ _ hca2)).trans hca2
 replace hca3 := (hb.cell (World.block_lt_of_cell? _ _ hca3)).trans hca3
 replace hca4 := (hb.cell (World.block_lt_of_cell? _ _ hca4)).trans hca4
 replace hca5 := (hb.cell (World.block_lt_of_cell? _ _ hca5)).trans hca5
 replace hca6 := (hb.cell (World.block_lt_of_cell? _ _ hca6)).trans hca6
 replace HK := Aside0.mk (HK.out.below hb)
 replace HR1 := Aside0.mk (Kd.C_below HR1.out hb)
 replace BKg4 := Aside0.mk (blk_below BKg4.out hb)
 replace HB := Aside0.mk (below_step HB.out hb)
 have HO := Aside0.mk ho
 clear ho
 obtain ⟨Ao, co, eo_⟩ := Kd.R_slice HO.out
 subst eo_
 clear hb
 refine hK.out _ _ ⟨hcw0, hcw1, hcw2, hca0, hca1, hca2, hca3, hca4, hca5, hca6⟩ (fun hHeld => ?_)
 clear hK K
 refine sN ?_
 refine sP (i := 6) (N := some 15) (lm 8 255) ?_
 refine done_ (by kernel_rfl) ?_
 clear hcw0 hcw1 hcw2
 clear hca0 hca1 hca2 hca3 hca4 hca5 hca6
 obtain ⟨nn, hnn⟩ : ∃ nn : Nat, (sel (off l1 o) l1.length).length = nn := ⟨_, rfl⟩
 have HNN := Aside0.mk hnn
 have hnl : nn ≤ 7 := by rw [← hnn]; exact Nat.le_trans (sel_le _ _) HN1.out
 rw [hnn]
 clear hnn
 go_wp2
 go_loopg [6, 16] nn (fun kq v6 v16 w' => ∃ m : Nat, v16 = .int .i64 (m : Int) ∧ v6 = .int .i64 ((((sel (off l1 o) l1.length).take m).filter fun i => o i.toNat == ab).length : Int) ∧ Aside0 (m + kq = nn) ∧ w' = W3)
 case atStart => exact ⟨0, rfl, rfl, ⟨Nat.zero_add _⟩, rfl⟩
 case round =>
  obtain ⟨m, rfl, rfl, HM, hw_⟩ := hrel
  subst hw_
  by_cases hlt : m < nn
  ·cases gk with
   | zero => have := HM.out; omega
   | succ k1 =>
   obtain ⟨ad, e14, hx14⟩ := Kd.at_int (Kd.R_reads' HO.out).2.2 (m : Int) (by omega) (by have := HNN.out; omega)
   subst e14
   have hlm : m < (sel (off l1 o) l1.length).length := by have := HNN.out; omega
   obtain ⟨i, hi, hil⟩ : ∃ i : Nat, (sel (off l1 o) l1.length)[m] = (i : Int) ∧ i < 7 := by
    obtain ⟨k, hk, _, hx⟩ := (sel_mem (off l1 o) l1.length _).1 (List.getElem_mem hlm)
    exact ⟨k, hx, by have := HN1.out; omega⟩
   have hrd : rd (sel (off l1 o) l1.length) (m : Int) = (i : Int) := by
    unfold rd
    rw [Int.toNat_natCast, List.getD_eq_getElem?_getD, List.getElem?_eq_getElem hlm]
    exact hi
   rw [hrd] at hx14
   simp only [Int.toNat_natCast] at hx14
   have htk : (sel (off l1 o) l1.length).take (m + 1) = (sel (off l1 o) l1.length).take m ++ [(i : Int)] := by
    rw [List.take_succ_eq_append_getElem hlm, hi]
   have hia : wr.cell? ⟨g4, i, none⟩ = some (.int .i64 (o i)) := (blk_cell BKg4.out i).trans (ac_get o i hil)
   have hil2 : (i : Int) < 7 := by omega
   have HTK := Aside0.mk htk
   clear htk hi hlm hrd
   obtain ⟨q, hq⟩ : ∃ q : Nat, (((sel (off l1 o) l1.length).take m).filter fun i => o i.toNat == ab).length = q := ⟨_, rfl⟩
   have hql : q ≤ m := by rw [← hq]; exact Nat.le_trans (List.length_filter_le _ _) (by simp; omega)
   have HQ := Aside0.mk hq
   rw [hq]
   clear hq
   obtain ⟨z, hz⟩ : ∃ z, o i = z := ⟨_, rfl⟩
   rw [hz] at hia
   have HZ := Aside0.mk hz
   clear hz
   by_cases hza : z = ab
   ·have hzb : (z == ab) = true := by simpa using hza
    go_wp2
    go_roundg k1
    case measure => omega
    case rel => exact ⟨m + 1, by go_num, by rw [HTK.out, List.filter_append, List.length_append, HQ.out]; simp [HZ.out, hza], ⟨by have := HM.out; omega⟩, rfl⟩
   ·have hzb : (z == ab) = false := by simpa using hza
    go_wp2
    go_roundg k1
    case measure => omega
    case rel => exact ⟨m + 1, by go_num, by rw [HTK.out, List.filter_append, List.length_append, HQ.out]; simp [HZ.out, hza], ⟨by have := HM.out; omega⟩, rfl⟩
  ·go_wp2
   go_ret
   obtain rfl : m = nn := by have := HM.out; omega
   refine ⟨?_, HB.out⟩
   rw [List.take_of_length_le (by rw [HNN.out]; exact Nat.le_refl _)]
   rfl
end Go.Proofs.Ytnbbbeghgomnoaa.X
namespace Go.Proofs.Ytnbbbeghgomnoaa.X
open Go.RowKit Go.Proofs.YtnbbbeghgomnoaaW.PrintWords Go.Proofs.YtnbbbeghgomnoaaW.PrintLast Go.Proofs.YtnbbbeghgomnoaaW.PrintMore
attribute [local go_sem] max2_int min2_int max_two min_two
set_option maxHeartbeats 4000000 in
set_option maxRecDepth 100000 in
theorem wider_calls (lo hi n : Int) (w : World) :
  Calls Try.prog 97 #[.agg #[.int .i64 lo, .int .i64 hi], .int .i64 n] w fun e w' => e = .returned (.agg #[.int .i64 (mn lo n), .int .i64 (mx hi n)]) ∧ Below w.heap.size w w' := by
 have hu55 := Try.underlying55
 obtain ⟨r, hr⟩ : ∃ r, (if hi < n then n else hi) = r := ⟨_, rfl⟩
 have HR := Aside0.mk hr
 have HB := Aside0.mk (Below.refl w.heap.size w)
 go_enter Try.func97, Try.ntmps97
 go_wp2_with (first | ((with_reducible refine gate_dst (N := 2) rfl ?_); refine sbox (N := 2) #[.int .i64 lo, .int .i64 hi] 55 ?_; intro g2 hg W_ hbox hb; have GEg2 := Aside0.mk (by rw [hg]; exact HB.out.size : w.heap.size ≤ g2); replace HB := Aside0.mk (below_step HB.out hb); have BKg2 := Aside0.mk hbox; clear hb hbox hg) | ((with_reducible refine gate_dst (N := 4) rfl ?_); refine sbox (N := 4) #[.int .i64 0, .int .i64 0] 55 ?_; intro g4 hg W_ hbox hb; have GEg4 := Aside0.mk (by rw [hg]; exact HB.out.size : w.heap.size ≤ g4); replace BKg2 := Aside0.mk (blk_below BKg2.out hb); replace HB := Aside0.mk (below_step HB.out hb); have BKg4 := Aside0.mk hbox; clear hb hbox hg))
 have hcr0 := sc 0 BKg2
 have hcr1 := sc 1 BKg2
 refine start_ (n := 11) (S := fun w' => w'.cell? ⟨g2, 0, none⟩ = some (.int .i64 lo) ∧ w'.cell? ⟨g2, 1, none⟩ = some (.int .i64 hi)) (ds := [10]) (lm 11 0) (by kernel_rfl) rfl (by kernel_rfl) ⟨hcr0, hcr1⟩ (fun hHeld => ?_)
 have hb := below_drew1 (Below.refl W_.heap.size W_)
 replace BKg2 := Aside0.mk (blk_below BKg2.out hb)
 replace BKg4 := Aside0.mk (blk_below BKg4.out hb)
 replace HB := Aside0.mk (below_step HB.out hb)
 replace hcr0 := (hb.cell (World.block_lt_of_cell? _ _ hcr0)).trans hcr0
 replace hcr1 := (hb.cell (World.block_lt_of_cell? _ _ hcr1)).trans hcr1
 generalize W_.drew = W2 at *
 clear hb
 refine sP (i := 0) (N := some 5) (lm 11 1) ?_
 refine sP (i := 2) (N := some 7) (lm 11 5) ?_
 refine sP (i := 5) (N := some 10) (lm 11 37) ?_
 refine sP (i := 7) (N := some 12) (lm 11 165) ?_
 refine take_ (i := 1) (N := some 6) (v := ?_) (a' := ?_) (lm 11 167) rfl rfl (by kernel_rfl) (fun _ _ _ h => h) (Or.inl ⟨by rfl, ?_⟩) hHeld ?_ ?_
 rotate_left
 ·rintro w' ⟨s0, s1⟩
  go_simp
  with_reducible rfl
 rotate_left
 ·simp only [Act.put, List.setIfInBounds_toArray, List.set_cons_zero, List.set_cons_succ, i64_w, i32_w]
  rfl
 refine take_ (i := 6) (N := some 11) (v := ?_) (a' := ?_) (lm 11 231) rfl rfl (by kernel_rfl) (fun _ _ _ h => h) (Or.inl ⟨by rfl, ?_⟩) hHeld ?_ ?_
 rotate_left
 ·rintro w' ⟨s0, s1⟩
  go_simp
  with_reducible rfl
 rotate_left
 ·simp only [Act.put, List.setIfInBounds_toArray, List.set_cons_zero, List.set_cons_succ, i64_w, i32_w]
  rfl
 refine sP (i := 8) (N := some 13) (lm 11 487) ?_
 refine one_ (i := 3) (N := some 8) (lm 11 495) rfl rfl (by kernel_rfl) (by decide) (fun K hK => ?_)
 refine value_ (w1 := ?_) (v := ?_) (by rfl) rfl ?_ ?_
 rotate_left 2
 ·go_simp
  constructor
  ·rfl
  ·rfl
 refine hK.out _ _ ⟨(blk_cell (blk_alloc BKg2.out _) 0).trans rfl, (blk_cell (blk_alloc BKg2.out _) 1).trans rfl⟩ (fun hHeld => ?_)
 clear hK K
 refine sN ?_
 refine one_ (i := 4) (N := some 9) (lm 11 511) rfl rfl (by kernel_rfl) (by decide) (fun K hK => ?_)
 refine goes_ Try.func92 (by kernel_rfl) rfl #[.slice (some ⟨W2.heap.size, 0, none⟩) 2 2] (by rfl) rfl rfl (by simp only [List.map_toArray, List.map_cons, List.map_nil]; rfl) ?_
 with_reducible refine (minimum_calls W2.heap.size 2 lo n _ ((blk_cell (blk_new W2 _) 0).trans rfl) ((blk_cell (blk_new W2 _) 1).trans rfl)).mono ?_
 rintro e W3 ⟨rfl, rfl⟩
 refine ⟨_, rfl, ?_⟩
 refine hK.out _ _ ⟨(blk_cell (blk_alloc BKg2.out _) 0).trans rfl, (blk_cell (blk_alloc BKg2.out _) 1).trans rfl⟩ (fun hHeld => ?_)
 clear hK K
 refine sN ?_
 refine sP (i := 9) (N := some 14) (lm 11 1023) ?_
 refine last_ (i := 10) (N := none) (lm 11 2047) rfl rfl (by kernel_rfl) (by decide) (fun K hK => ?_)
 have hf0 : (W2.alloc (.cells #[.int .i64 lo, .int .i64 n] 3)).frozen? ⟨g4, 0, none⟩ = false := blk_frozen (blk_alloc BKg4.out _) 0
 have hf1 : (W2.alloc (.cells #[.int .i64 lo, .int .i64 n] 3)).frozen? ⟨g4, 1, none⟩ = false := blk_frozen (blk_alloc BKg4.out _) 1
 have hx0 : (W2.alloc (.cells #[.int .i64 lo, .int .i64 n] 3)).cell? ⟨g4, 0, none⟩ = some (.int .i64 0) := (blk_cell (blk_alloc BKg4.out _) 0).trans rfl
 have hx1 : (W2.alloc (.cells #[.int .i64 lo, .int .i64 n] 3)).cell? ⟨g4, 1, none⟩ = some (.int .i64 0) := (blk_cell (blk_alloc BKg4.out _) 1).trans rfl
 refine skip_ (w1 := ?_) (by rfl) rfl ?_ ?_
 rotate_left
 ·go_simp
  rfl
 refine hK.out _ _ ?_
 clear hK K
 refine done_ (by kernel_rfl) ?_
 go_wp2
 have hbk := blk_put (blk_put (blk_alloc BKg4.out (.cells #[.int .i64 lo, .int .i64 n] 3)) 0 (.int .i64 (mn lo n)) rfl) 1 (.int .i64 r) rfl
 refine bodyPost_ret (results_cell_row rfl _ _ g4 55 #[.int .i64 (mn lo n), .int .i64 r] (0, 0) _ rfl hbk Try.underlying55 rfl (by kernel_rfl)) rfl ?_
 exact ⟨by rw [show mx hi n = r from HR.out], ((below_alloc HB.out _).setCell (p := ⟨g4, 0, none⟩) GEg4.out _).setCell (p := ⟨g4, 1, none⟩) GEg4.out _⟩
end Go.Proofs.Ytnbbbeghgomnoaa.X
namespace Go.Proofs.Ytnbbbeghgomnoaa.X
open Go.RowKit Go.Proofs.YtnbbbeghgomnoaaW.PrintWords Go.Proofs.YtnbbbeghgomnoaaW.PrintLast Go.Proofs.YtnbbbeghgomnoaaW.PrintMore
section
variable {P : Program} {ops : Array Oper} {Q : Exit → Act → World → Prop}
theorem goesV_ {oi : Oper} {N : Option Tmp} {a : Act} {w : World} {K : Act → World → Prop} {f : FuncId} {fn : Func} {c : Operand} {ao : Array Operand} {ts : Array TypeId} (hf : P.funcs[f]? = some fn) (hname : (fn.name == "runtime.NumGoroutine") = false) (hb : fn.body.isSome = true) (args : Array Value)
  (hw : Region.wanted oi (yielded ops a.tmps) = true) (hN : oi.dst = N) (hop : oi.op = .call { callee := .value c, args := ao, argTypes := ts }) (hc : a.eval c = .func (.func f) #[] #[]) (hargs : ao.map a.eval = args)
  (h : Calls P f args w fun e w' => ∃ v, e = .returned v ∧ K (a.put N v) w') : if Region.wanted oi (yielded ops a.tmps) = true then Oper.wp P oi a w K Q else K (a.put N undef) w := by
 refine call_ f args hw hN ?_ h
 have he := enters_ hf hname hb args w
 unfold execOp
 simp [hop, resolve, hc, Deferred.ofValue, invoke, hargs, he]
end
def boundsL (g : List Int → Int) (ts : List (List Int)) : Int × Int := ts.foldl (fun r x => (mn r.1 (g x), mx r.2 (g x))) (g (ts.getD 0 []), g (ts.getD 0 []))
set_option maxHeartbeats 4000000 in
set_option maxRecDepth 100000 in
theorem bounds_lost {A0 : Option Addr} {c0 : Nat} {l0 : List S109} {A1 : Option Addr} {c1 : Nat} {l1 : List S110} {wg : Int} {b gw gm : Nat} {At : Option Addr} {ct : Nat} (ab : Int) {w : World} (hk : Wk A0 c0 l0 A1 c1 l1 wg b gw gm At ct w) (hr1 : Kd.C k110 w A1 l1.length l1) (hn1 : l1.length ≤ 7) (hnt : truthsL l0 l1 wg ≠ []) (hntl : (truthsL l0 l1 wg).length ≤ 78125) :
  Calls Try.prog 71 #[.agg #[.func (.func 80) #[] #[]], .pointer (some ⟨gw, 0, none⟩), .int .i64 ab] w fun e w' => e = .returned (.agg #[.int .i64 (boundsL (fun x => lostN l1 (pad x)) (truthsL l0 l1 wg)).1, .int .i64 (boundsL (fun x => lostN l1 (pad x)) (truthsL l0 l1 wg)).2]) ∧ Below w.heap.size w w' := by
 have hu35 := Try.underlying35
 have hu55 := Try.underlying55
 have hu121 := Try.underlying121
 have hu105 := Try.underlying105
 have hu115 := Try.underlying115
 have HR1 := Aside0.mk hr1
 have HN1 := Aside0.mk hn1
 have HNT := Aside0.mk hntl
 obtain ⟨ts, hts⟩ : ∃ ts, truthsL l0 l1 wg = ts := ⟨_, rfl⟩
 have HTS := Aside0.mk hts
 have HK := Aside0.mk hk
 obtain ⟨y0, hy0⟩ : ∃ y, ts.getD 0 [] = y := ⟨_, rfl⟩
 obtain ⟨nt, hnt2⟩ : ∃ n, (truthsL l0 l1 wg).length = n := ⟨_, rfl⟩
 have hpos : 0 < nt := by rw [← hnt2]; exact List.length_pos_iff.2 hnt
 have hnl : nt ≤ 78125 := by rw [← hnt2]; exact hntl
 obtain ⟨adt, rfl, hct0, hct1, hct2, hct3, hct4, hct5, hct6⟩ := at_T121 hk.row 0 (by omega)
 rw [show (truthsL l0 l1 wg).getD 0 [] = y0 from by rw [hts]; exact hy0] at hct0 hct1 hct2 hct3 hct4 hct5 hct6
 have hadd : adt.add (0 * 7) = adt := by simp [Addr.add]
 rw [hadd] at hct0 hct1 hct2 hct3 hct4 hct5 hct6
 have hcv : w.cell? ⟨gw, 3, none⟩ = some (.slice (some adt) nt ct) := (blk_cell hk.kw 3).trans (by rw [← hnt2]; rfl)
 have HY0 := Aside0.mk hy0
 have HNT2 := Aside0.mk hnt2
 have HCT := Aside0.mk (And.intro hct0 (And.intro hct1 (And.intro hct2 (And.intro hct3 (And.intro hct4 (And.intro hct5 hct6))))))
 have HCV := Aside0.mk hcv
 clear hk hr1 hn1 hts hy0 hnt2 hadd hct0 hct1 hct2 hct3 hct4 hct5 hct6 hcv hntl hnt
 have HB := Aside0.mk (Below.refl w.heap.size w)
 go_enter Try.func71, Try.ntmps71
 go_wp2_with (first | ((with_reducible refine gate_dst (N := 3) rfl ?_); refine box_event ?hg (N := 3) ?hd (cs := #[.func (.func 80) #[] #[]]) (t := 115) ?hr ?_; (case hd => rfl); (case hg => rfl); (case hr => first | (go_simp; done) | (go_simp; rfl)); intro g3 hg W_ hbox hb; have GEg3 := Aside0.mk (by rw [hg]; exact HB.out.size : w.heap.size ≤ g3); replace HK := Aside0.mk (HK.out.below hb); replace HR1 := Aside0.mk (Kd.C_below HR1.out hb); replace HB := Aside0.mk (below_step HB.out hb); have BKg3 := Aside0.mk hbox; clear hb hbox hg) | ((with_reducible refine gate_dst (N := 6) rfl ?_); refine sbox (N := 6) #[.int .i64 0, .int .i64 0] 55 ?_; intro g6 hg W_ hbox hb; have GEg6 := Aside0.mk (by rw [hg]; exact HB.out.size : w.heap.size ≤ g6); replace HK := Aside0.mk (HK.out.below hb); replace HR1 := Aside0.mk (Kd.C_below HR1.out hb); replace BKg3 := Aside0.mk (blk_below BKg3.out hb); replace HB := Aside0.mk (below_step HB.out hb); have BKg6 := Aside0.mk hbox; clear hb hbox hg))
 obtain ⟨hct0, hct1, hct2, hct3, hct4, hct5, hct6⟩ := HCT.out
 replace hct0 := (HB.out.cell (World.block_lt_of_cell? _ _ hct0)).trans hct0
 replace hct1 := (HB.out.cell (World.block_lt_of_cell? _ _ hct1)).trans hct1
 replace hct2 := (HB.out.cell (World.block_lt_of_cell? _ _ hct2)).trans hct2
 replace hct3 := (HB.out.cell (World.block_lt_of_cell? _ _ hct3)).trans hct3
 replace hct4 := (HB.out.cell (World.block_lt_of_cell? _ _ hct4)).trans hct4
 replace hct5 := (HB.out.cell (World.block_lt_of_cell? _ _ hct5)).trans hct5
 replace hct6 := (HB.out.cell (World.block_lt_of_cell? _ _ hct6)).trans hct6
 have hcv := (HB.out.cell (World.block_lt_of_cell? _ _ HCV.out)).trans HCV.out
 have hcf := sc 0 BKg3
 refine start_ (n := 12) (S := fun w' => w'.cell? ⟨g3, 0, none⟩ = some (.func (.func 80) #[] #[]) ∧ w'.cell? ⟨gw, 3, none⟩ = some (.slice (some adt) nt ct) ∧ w'.cell? adt = some (.int .i64 (pad y0 0)) ∧ w'.cell? ⟨adt.block, adt.off + 1, none⟩ = some (.int .i64 (pad y0 1)) ∧ w'.cell? ⟨adt.block, adt.off + 2, none⟩ = some (.int .i64 (pad y0 2)) ∧ w'.cell? ⟨adt.block, adt.off + 3, none⟩ = some (.int .i64 (pad y0 3)) ∧ w'.cell? ⟨adt.block, adt.off + 4, none⟩ = some (.int .i64 (pad y0 4)) ∧ w'.cell? ⟨adt.block, adt.off + 5, none⟩ = some (.int .i64 (pad y0 5)) ∧ w'.cell? ⟨adt.block, adt.off + 6, none⟩ = some (.int .i64 (pad y0 6))) (ds := []) (lm 12 0) (by kernel_rfl) rfl (by kernel_rfl) ⟨hcf, hcv, hct0, hct1, hct2, hct3, hct4, hct5, hct6⟩ (fun hHeld => ?_)
 have hb := below_drew1 (Below.refl W_.heap.size W_)
 replace HK := Aside0.mk (HK.out.below hb)
 replace HR1 := Aside0.mk (Kd.C_below HR1.out hb)
 replace BKg3 := Aside0.mk (blk_below BKg3.out hb)
 replace BKg6 := Aside0.mk (blk_below BKg6.out hb)
 replace HB := Aside0.mk (below_step HB.out hb)
 replace hcf := (hb.cell (World.block_lt_of_cell? _ _ hcf)).trans hcf
 replace hcv := (hb.cell (World.block_lt_of_cell? _ _ hcv)).trans hcv
 replace hct0 := (hb.cell (World.block_lt_of_cell? _ _ hct0)).trans hct0
 replace hct1 := (hb.cell (World.block_lt_of_cell? _ _ hct1)).trans hct1
 replace hct2 := (hb.cell (World.block_lt_of_cell? _ _ hct2)).trans hct2
 replace hct3 := (hb.cell (World.block_lt_of_cell? _ _ hct3)).trans hct3
 replace hct4 := (hb.cell (World.block_lt_of_cell? _ _ hct4)).trans hct4
 replace hct5 := (hb.cell (World.block_lt_of_cell? _ _ hct5)).trans hct5
 replace hct6 := (hb.cell (World.block_lt_of_cell? _ _ hct6)).trans hct6
 generalize W_.drew = W2 at *
 clear hb
 refine sP (i := 0) (N := some 11) (lm 12 1) ?_
 refine sP (i := 2) (N := some 13) (lm 12 5) ?_
 refine sP (i := 3) (N := some 14) (lm 12 13) ?_
 refine sP (i := 4) (N := some 15) (lm 12 29) ?_
 refine sP (i := 5) (N := some 16) (lm 12 61) ?_
 refine sP (i := 9) (N := some 20) (lm 12 573) ?_
 refine take_ (i := 1) (N := some 12) (v := ?_) (a' := ?_) (lm 12 575) rfl rfl (by kernel_rfl) (fun _ _ _ h => h) (Or.inl ⟨by rfl, ?_⟩) hHeld ?_ ?_
 rotate_left
 ·rintro w' ⟨s0, s1, s2, s3, s4, s5, s6, s7, s8⟩
  go_simp
  with_reducible rfl
 rotate_left
 ·simp only [Act.put, List.setIfInBounds_toArray, List.set_cons_zero, List.set_cons_succ, i64_w, i32_w]
  rfl
 refine take_ (i := 6) (N := some 17) (v := ?_) (a' := ?_) (lm 12 639) rfl rfl (by kernel_rfl) (fun _ _ _ h => h) (Or.inl ⟨by rfl, ?_⟩) hHeld ?_ ?_
 rotate_left
 ·rintro w' ⟨s0, s1, s2, s3, s4, s5, s6, s7, s8⟩
  go_simp
  with_reducible rfl
 rotate_left
 ·simp only [Act.put, List.setIfInBounds_toArray, List.set_cons_zero, List.set_cons_succ, i64_w, i32_w]
  rfl
 refine sP (i := 7) (N := some 18) (lm 12 767) ?_
 refine take_ (i := 8) (N := some 19) (v := ?_) (a' := ?_) (lm 12 1023) rfl rfl (by kernel_rfl) (fun _ _ _ h => h) (Or.inl ⟨by rfl, ?_⟩) hHeld ?_ ?_
 rotate_left
 ·rintro w' ⟨s0, s1, s2, s3, s4, s5, s6, s7, s8⟩
  go_simp
  with_reducible rfl
 rotate_left
 ·simp only [Act.put, List.setIfInBounds_toArray, List.set_cons_zero, List.set_cons_succ, i64_w, i32_w]
  rfl
 refine one_ (i := 10) (N := some 21) (lm 12 2047) rfl rfl (by kernel_rfl) (by decide) (fun K hK => ?_)
 refine goesV_ Try.func80 (by kernel_rfl) rfl #[.pointer (some ⟨gw, 0, none⟩), .agg #[.int .i64 (pad y0 0), .int .i64 (pad y0 1), .int .i64 (pad y0 2), .int .i64 (pad y0 3), .int .i64 (pad y0 4), .int .i64 (pad y0 5), .int .i64 (pad y0 6)], .int .i64 ab] (by rfl) rfl rfl (by rfl) (by simp only [List.map_toArray, List.map_cons, List.map_nil]; rfl) ?_
 with_reducible refine (lost_calls (pad y0) ab HK.out HR1.out HN1.out).mono ?_
 rintro e W3 ⟨rfl, hb⟩
 refine ⟨_, rfl, ?_⟩
 replace hcf := (hb.cell (World.block_lt_of_cell? _ _ hcf)).trans hcf
 replace hcv := (hb.cell (World.block_lt_of_cell? _ _ hcv)).trans hcv
 replace hct0 := (hb.cell (World.block_lt_of_cell? _ _ hct0)).trans hct0
 replace hct1 := (hb.cell (World.block_lt_of_cell? _ _ hct1)).trans hct1
 replace hct2 := (hb.cell (World.block_lt_of_cell? _ _ hct2)).trans hct2
 replace hct3 := (hb.cell (World.block_lt_of_cell? _ _ hct3)).trans hct3
 replace hct4 := (hb.cell (World.block_lt_of_cell? _ _ hct4)).trans hct4
 replace hct5 := (hb.cell (World.block_lt_of_cell? _ _ hct5)).trans hct5
 replace hct6 := (hb.cell (World.block_lt_of_cell? _ _ hct6)).trans hct6
 replace HK := Aside0.mk (HK.out.below hb)
 replace HR1 := Aside0.mk (Kd.C_below HR1.out hb)
 replace BKg3 := Aside0.mk (blk_below BKg3.out hb)
 replace BKg6 := Aside0.mk (blk_below BKg6.out hb)
 replace HB := Aside0.mk (below_step HB.out hb)
 clear hb
 refine hK.out _ _ ⟨hcf, hcv, hct0, hct1, hct2, hct3, hct4, hct5, hct6⟩ (fun hHeld => ?_)
 clear hK K
 refine sN ?_
 refine sP (i := 11) (N := some 7) (lm 12 4095) ?_
 refine done_ (by kernel_rfl) ?_
 clear hct0 hct1 hct2 hct3 hct4 hct5 hct6
 obtain ⟨n0, hn0_⟩ : ∃ n0, lostN l1 (pad y0) = n0 := ⟨_, rfl⟩
 have HN0_ := Aside0.mk hn0_
 rw [hn0_]
 clear hn0_
 have hne : g3 < W3.heap.size ∧ g6 < W3.heap.size := ⟨blk_lt BKg3.out, blk_lt BKg6.out⟩
 have HNE := Aside0.mk hne
 clear hne
 have hcv2 : ∀ o, (W3.alloc o).cell? ⟨gw, 3, none⟩ = some (.slice (some adt) nt ct) := fun o => (blk_cell (blk_alloc HK.out.kw o) 3).trans (by rw [← HNT2.out]; rfl)
 go_wp2
 clear hcv2 hcv hcf
 generalize hg8 : W3.heap.size = g8
 have HZ8 := Aside0.mk hg8
 have HB1 := Aside0.mk (below_alloc (Below.refl W3.heap.size W3) (.cells #[.int .i64 n0, .int .i64 n0] 55))
 have BKg8 := Aside0.mk (show (W3.alloc (.cells #[.int .i64 n0, .int .i64 n0] 55)).heap[g8]? = some (.cells #[.int .i64 n0, .int .i64 n0] 55 (0, 0)) from by rw [← hg8]; exact heap_alloc_new W3 _)
 clear hg8
 generalize W3.alloc (.cells #[.int .i64 n0, .int .i64 n0] 55) = W1 at *
 go_loopg [30] nt (fun kq v30 w' => ∃ m : Nat, v30 = .int .i64 (m : Int) ∧ Aside0 (m + kq = nt) ∧ Aside0 (Below W3.heap.size W3 w') ∧ Aside0 (w'.heap[g8]? = some (.cells #[.int .i64 ((ts.take m).foldl (fun r x => (mn r.1 (lostN l1 (pad x)), mx r.2 (lostN l1 (pad x)))) (n0, n0)).1, .int .i64 ((ts.take m).foldl (fun r x => (mn r.1 (lostN l1 (pad x)), mx r.2 (lostN l1 (pad x)))) (n0, n0)).2] 55 (0, 0))))
 case atStart => exact ⟨0, rfl, ⟨Nat.zero_add _⟩, HB1, BKg8⟩
 case round =>
  clear BKg8 HB1
  obtain ⟨m, rfl, HM, HB1, BKg8⟩ := hrel
  obtain ⟨rl, hrl⟩ : ∃ r, ((ts.take m).foldl (fun r x => (mn r.1 (lostN l1 (pad x)), mx r.2 (lostN l1 (pad x)))) (n0, n0)).1 = r := ⟨_, rfl⟩
  obtain ⟨rh, hrh⟩ : ∃ r, ((ts.take m).foldl (fun r x => (mn r.1 (lostN l1 (pad x)), mx r.2 (lostN l1 (pad x)))) (n0, n0)).2 = r := ⟨_, rfl⟩
  rw [hrl, hrh] at BKg8
  have HRL := Aside0.mk hrl
  have HRH := Aside0.mk hrh
  clear hrl hrh
  by_cases hlt : m < nt
  ·cases gk with
   | zero => have := HM.out; omega
   | succ k1 =>
   obtain ⟨adt2, ea, hct0, hct1, hct2, hct3, hct4, hct5, hct6⟩ := at_T121 (Kd.C_below HK.out.row HB1.out) m (by have := HNT2.out; omega)
   cases ea
   rw [HTS.out] at hct0 hct1 hct2 hct3 hct4 hct5 hct6
   have hmt : m < ts.length := by rw [← HTS.out, HNT2.out]; exact hlt
   have htk : ts.take (m + 1) = ts.take m ++ [ts.getD m []] := by
    rw [List.take_succ_eq_append_getElem hmt, List.getD_eq_getElem?_getD, List.getElem?_eq_getElem hmt, Option.getD_some]
   have HTK := Aside0.mk htk
   clear htk hmt
   generalize ts.getD m [] = y at *
   go_wp2
   have hb := below_alloc (Below.refl wr.heap.size wr) (.cells #[.int .i64 (pad y 0), .int .i64 (pad y 1), .int .i64 (pad y 2), .int .i64 (pad y 3), .int .i64 (pad y 4), .int .i64 (pad y 5), .int .i64 (pad y 6)] 121)
   have BKg10 := Aside0.mk (heap_alloc_new wr (.cells #[.int .i64 (pad y 0), .int .i64 (pad y 1), .int .i64 (pad y 2), .int .i64 (pad y 3), .int .i64 (pad y 4), .int .i64 (pad y 5), .int .i64 (pad y 6)] 121))
   have LT8 := Aside0.mk (blk_lt BKg8.out)
   replace HB1 := Aside0.mk (below_step HB1.out hb)
   replace BKg8 := Aside0.mk (blk_below BKg8.out hb)
   clear hb
   generalize wr.alloc (.cells #[.int .i64 (pad y 0), .int .i64 (pad y 1), .int .i64 (pad y 2), .int .i64 (pad y 3), .int .i64 (pad y 4), .int .i64 (pad y 5), .int .i64 (pad y 6)] 121) = W5 at *
   clear hct0 hct1 hct2 hct3 hct4 hct5 hct6
   generalize wr.heap.size = g10 at *
   have hcl := sc 0 BKg8
   have hch := sc 1 BKg8
   have hcf : W5.cell? ⟨g3, 0, none⟩ = some (.func (.func 80) #[] #[]) := (blk_cell (blk_below BKg3.out HB1.out) 0).trans rfl
   have hca0 := sc 0 BKg10
   have hca1 := sc 1 BKg10
   have hca2 := sc 2 BKg10
   have hca3 := sc 3 BKg10
   have hca4 := sc 4 BKg10
   have hca5 := sc 5 BKg10
   have hca6 := sc 6 BKg10
   refine start_ (n := 9) (S := fun w' => w'.cell? ⟨g8, 0, none⟩ = some (.int .i64 rl) ∧ w'.cell? ⟨g8, 1, none⟩ = some (.int .i64 rh) ∧ w'.cell? ⟨g3, 0, none⟩ = some (.func (.func 80) #[] #[]) ∧ w'.cell? ⟨g10, 0, none⟩ = some (.int .i64 (pad y 0)) ∧ w'.cell? ⟨g10, 1, none⟩ = some (.int .i64 (pad y 1)) ∧ w'.cell? ⟨g10, 2, none⟩ = some (.int .i64 (pad y 2)) ∧ w'.cell? ⟨g10, 3, none⟩ = some (.int .i64 (pad y 3)) ∧ w'.cell? ⟨g10, 4, none⟩ = some (.int .i64 (pad y 4)) ∧ w'.cell? ⟨g10, 5, none⟩ = some (.int .i64 (pad y 5)) ∧ w'.cell? ⟨g10, 6, none⟩ = some (.int .i64 (pad y 6))) (ds := [8]) (lm 9 0) (by kernel_rfl) rfl (by kernel_rfl) ⟨hcl, hch, hcf, hca0, hca1, hca2, hca3, hca4, hca5, hca6⟩ (fun hHeld => ?_)
   have hb := below_drew1 (Below.refl W5.heap.size W5)
   replace HB1 := Aside0.mk (below_step HB1.out hb)
   replace BKg8 := Aside0.mk (blk_below BKg8.out hb)
   replace BKg10 := Aside0.mk (blk_below BKg10.out hb)
   replace hcl := (hb.cell (World.block_lt_of_cell? _ _ hcl)).trans hcl
   replace hch := (hb.cell (World.block_lt_of_cell? _ _ hch)).trans hch
   replace hcf := (hb.cell (World.block_lt_of_cell? _ _ hcf)).trans hcf
   replace hca0 := (hb.cell (World.block_lt_of_cell? _ _ hca0)).trans hca0
   replace hca1 := (hb.cell (World.block_lt_of_cell? _ _ hca1)).trans hca1
   replace hca2 := (hb.cell (World.block_lt_of_cell? _ _ hca2)).trans hca2
   replace hca3 := (hb.cell (World.block_lt_of_cell? _ _ hca3)).trans hca3
   replace hca4 := (hb.cell (World.block_lt_of_cell? _ _ hca4)).trans hca4
   replace hca5 := (hb.cell (World.block_lt_of_cell? _ _ hca5)).trans hca5
   replace hca6 := (hb.cell (World.block_lt_of_cell? _ _ hca6)).trans hca6
   generalize W5.drew = W7 at *
   clear hb
   refine sP (i := 1) (N := some 35) (lm 9 2) ?_
   refine sP (i := 3) (N := some 37) (lm 9 10) ?_
   refine sP (i := 5) (N := some 39) (lm 9 42) ?_
   refine take_ (i := 0) (N := some 34) (v := ?_) (a' := ?_) (lm 9 43) rfl rfl (by kernel_rfl) (fun _ _ _ h => h) (Or.inl ⟨by rfl, ?_⟩) hHeld ?_ ?_
   rotate_left
   ·rintro w' ⟨s0, s1, s2, s3, s4, s5, s6, s7, s8, s9⟩
    go_simp
    with_reducible rfl
   rotate_left
   ·simp only [Act.put, List.setIfInBounds_toArray, List.set_cons_zero, List.set_cons_succ, i64_w, i32_w]
    rfl
   refine take_ (i := 2) (N := some 36) (v := ?_) (a' := ?_) (lm 9 47) rfl rfl (by kernel_rfl) (fun _ _ _ h => h) (Or.inl ⟨by rfl, ?_⟩) hHeld ?_ ?_
   rotate_left
   ·rintro w' ⟨s0, s1, s2, s3, s4, s5, s6, s7, s8, s9⟩
    go_simp
    with_reducible rfl
   rotate_left
   ·simp only [Act.put, List.setIfInBounds_toArray, List.set_cons_zero, List.set_cons_succ, i64_w, i32_w]
    rfl
   refine take_ (i := 4) (N := some 38) (v := ?_) (a' := ?_) (lm 9 63) rfl rfl (by kernel_rfl) (fun _ _ _ h => h) (Or.inl ⟨by rfl, ?_⟩) hHeld ?_ ?_
   rotate_left
   ·rintro w' ⟨s0, s1, s2, s3, s4, s5, s6, s7, s8, s9⟩
    go_simp
    with_reducible rfl
   rotate_left
   ·simp only [Act.put, List.setIfInBounds_toArray, List.set_cons_zero, List.set_cons_succ, i64_w, i32_w]
    rfl
   refine one_ (i := 6) (N := some 40) (lm 9 127) rfl rfl (by kernel_rfl) (by decide) (fun K hK => ?_)
   refine goesV_ Try.func80 (by kernel_rfl) rfl #[.pointer (some ⟨gw, 0, none⟩), .agg #[.int .i64 (pad y 0), .int .i64 (pad y 1), .int .i64 (pad y 2), .int .i64 (pad y 3), .int .i64 (pad y 4), .int .i64 (pad y 5), .int .i64 (pad y 6)], .int .i64 ab] (by rfl) rfl rfl (by rfl) (by simp only [List.map_toArray, List.map_cons, List.map_nil]; rfl) ?_
   with_reducible refine (lost_calls (pad y) ab (HK.out.below HB1.out) (Kd.C_below HR1.out HB1.out) HN1.out).mono ?_
   rintro e W8 ⟨rfl, hb⟩
   refine ⟨_, rfl, ?_⟩
   replace hcl := (hb.cell (World.block_lt_of_cell? _ _ hcl)).trans hcl
   replace hch := (hb.cell (World.block_lt_of_cell? _ _ hch)).trans hch
   replace hcf := (hb.cell (World.block_lt_of_cell? _ _ hcf)).trans hcf
   replace hca0 := (hb.cell (World.block_lt_of_cell? _ _ hca0)).trans hca0
   replace hca1 := (hb.cell (World.block_lt_of_cell? _ _ hca1)).trans hca1
   replace hca2 := (hb.cell (World.block_lt_of_cell? _ _ hca2)).trans hca2
   replace hca3 := (hb.cell (World.block_lt_of_cell? _ _ hca3)).trans hca3
   replace hca4 := (hb.cell (World.block_lt_of_cell? _ _ hca4)).trans hca4
   replace hca5 := (hb.cell (World.block_lt_of_cell? _ _ hca5)).trans hca5
   replace hca6 := (hb.cell (World.block_lt_of_cell? _ _ hca6)).trans hca6
   replace HB1 := Aside0.mk (below_step HB1.out hb)
   replace BKg8 := Aside0.mk (blk_below BKg8.out hb)
   replace BKg10 := Aside0.mk (blk_below BKg10.out hb)
   clear hb
   refine hK.out _ _ ⟨hcl, hch, hcf, hca0, hca1, hca2, hca3, hca4, hca5, hca6⟩ (fun hHeld => ?_)
   clear hK K
   refine sN ?_
   refine one_ (i := 7) (N := some 41) (lm 9 255) rfl rfl (by kernel_rfl) (by decide) (fun K hK => ?_)
   refine goes_ Try.func97 (by kernel_rfl) rfl #[.agg #[.int .i64 rl, .int .i64 rh], .int .i64 (lostN l1 (pad y))] (by rfl) rfl rfl (by simp only [List.map_toArray, List.map_cons, List.map_nil]; rfl) ?_
   with_reducible refine (wider_calls rl rh (lostN l1 (pad y)) W8).mono ?_
   rintro e W9 ⟨rfl, hb⟩
   refine ⟨_, rfl, ?_⟩
   replace hcl := (hb.cell (World.block_lt_of_cell? _ _ hcl)).trans hcl
   replace hch := (hb.cell (World.block_lt_of_cell? _ _ hch)).trans hch
   replace hcf := (hb.cell (World.block_lt_of_cell? _ _ hcf)).trans hcf
   replace hca0 := (hb.cell (World.block_lt_of_cell? _ _ hca0)).trans hca0
   replace hca1 := (hb.cell (World.block_lt_of_cell? _ _ hca1)).trans hca1
   replace hca2 := (hb.cell (World.block_lt_of_cell? _ _ hca2)).trans hca2
   replace hca3 := (hb.cell (World.block_lt_of_cell? _ _ hca3)).trans hca3
   replace hca4 := (hb.cell (World.block_lt_of_cell? _ _ hca4)).trans hca4
   replace hca5 := (hb.cell (World.block_lt_of_cell? _ _ hca5)).trans hca5
   replace hca6 := (hb.cell (World.block_lt_of_cell? _ _ hca6)).trans hca6
   replace HB1 := Aside0.mk (below_step HB1.out hb)
   replace BKg8 := Aside0.mk (blk_below BKg8.out hb)
   replace BKg10 := Aside0.mk (blk_below BKg10.out hb)
   clear hb
   refine hK.out _ _ ⟨hcl, hch, hcf, hca0, hca1, hca2, hca3, hca4, hca5, hca6⟩ (fun hHeld => ?_)
   clear hK K
   refine sN ?_
   refine last_ (i := 8) (N := none) (lm 9 511) rfl rfl (by kernel_rfl) (by decide) (fun K hK => ?_)
   have hf0 : W9.frozen? ⟨g8, 0, none⟩ = false := blk_frozen BKg8.out 0
   have hf1 : W9.frozen? ⟨g8, 1, none⟩ = false := blk_frozen BKg8.out 1
   refine skip_ (w1 := ?_) (by rfl) rfl ?_ ?_
   rotate_left
   ·go_simp
    rfl
   refine hK.out _ _ ?_
   clear hK K
   refine done_ (by kernel_rfl) ?_
   go_wp2
   obtain ⟨ny, hny⟩ : ∃ n, lostN l1 (pad y) = n := ⟨_, rfl⟩
   have HNY := Aside0.mk hny
   clear hny
   have HB9 := Aside0.mk ((HB1.out.setCell (p := ⟨g8, 0, none⟩) (by rw [← HZ8.out]; exact Nat.le_refl _) (.int .i64 (mn rl (lostN l1 (pad y))))).setCell (p := ⟨g8, 1, none⟩) (by rw [← HZ8.out]; exact Nat.le_refl _) (.int .i64 (mx rh (lostN l1 (pad y)))))
   have BK9 := Aside0.mk (blk_put (blk_put BKg8.out 0 (.int .i64 (mn rl (lostN l1 (pad y)))) rfl) 1 (.int .i64 (mx rh (lostN l1 (pad y)))) rfl)
   go_roundg k1
   case measure => omega
   case rel => exact ⟨m + 1, by go_num, ⟨by have := HM.out; omega⟩, HB9, ⟨by rw [HTK.out, List.foldl_append, List.foldl_cons, List.foldl_nil, HRL.out, HRH.out]; exact BK9.out⟩⟩
  ·obtain rfl : m = nt := by have := HM.out; omega
   have hl0 := sc 0 BKg8
   have hl1 := sc 1 BKg8
   have BK6 := Aside0.mk (blk_below BKg6.out HB1.out)
   have hf0 := blk_frozen BK6.out 0
   have hf1 := blk_frozen BK6.out 1
   have hx0 := sc 0 BK6
   have hx1 := sc 1 BK6
   go_wp2
   have hbk := blk_put (blk_put BK6.out 0 (.int .i64 rl) rfl) 1 (.int .i64 rh) rfl
   refine bodyPost_ret (results_cell_row rfl _ _ g6 55 #[.int .i64 rl, .int .i64 rh] (0, 0) _ rfl hbk Try.underlying55 rfl (by kernel_rfl)) rfl ?_
   have hbs : boundsL (fun x => lostN l1 (pad x)) (truthsL l0 l1 wg) = (rl, rh) := by
    unfold boundsL
    rw [HTS.out, HY0.out, show (fun x => lostN l1 (pad x)) y0 = n0 from HN0_.out, ← HRL.out, ← HRH.out, List.take_of_length_le (by rw [← HTS.out, HNT2.out]; exact Nat.le_refl _)]
   exact ⟨by rw [hbs], ((below_step HB.out HB1.out).setCell (p := ⟨g6, 0, none⟩) GEg6.out _).setCell (p := ⟨g6, 1, none⟩) GEg6.out _⟩
set_option maxHeartbeats 4000000 in
set_option maxRecDepth 100000 in
theorem bounds_missed {A0 : Option Addr} {c0 : Nat} {l0 : List S109} {A1 : Option Addr} {c1 : Nat} {l1 : List S110} {wg : Int} {b gw gm : Nat} {At : Option Addr} {ct : Nat} (ab : Int) {w : World} (hk : Wk A0 c0 l0 A1 c1 l1 wg b gw gm At ct w) (hr1 : Kd.C k110 w A1 l1.length l1) (hn1 : l1.length ≤ 7) (hnt : truthsL l0 l1 wg ≠ []) (hntl : (truthsL l0 l1 wg).length ≤ 78125) :
  Calls Try.prog 71 #[.agg #[.func (.func 70) #[] #[]], .pointer (some ⟨gw, 0, none⟩), .int .i64 ab] w fun e w' => e = .returned (.agg #[.int .i64 (boundsL (fun x => missN l1 (pad x) ab) (truthsL l0 l1 wg)).1, .int .i64 (boundsL (fun x => missN l1 (pad x) ab) (truthsL l0 l1 wg)).2]) ∧ Below w.heap.size w w' := by
 have hu35 := Try.underlying35
 have hu55 := Try.underlying55
 have hu121 := Try.underlying121
 have hu105 := Try.underlying105
 have hu115 := Try.underlying115
 have HR1 := Aside0.mk hr1
 have HN1 := Aside0.mk hn1
 have HNT := Aside0.mk hntl
 obtain ⟨ts, hts⟩ : ∃ ts, truthsL l0 l1 wg = ts := ⟨_, rfl⟩
 have HTS := Aside0.mk hts
 have HK := Aside0.mk hk
 obtain ⟨y0, hy0⟩ : ∃ y, ts.getD 0 [] = y := ⟨_, rfl⟩
 obtain ⟨nt, hnt2⟩ : ∃ n, (truthsL l0 l1 wg).length = n := ⟨_, rfl⟩
 have hpos : 0 < nt := by rw [← hnt2]; exact List.length_pos_iff.2 hnt
 have hnl : nt ≤ 78125 := by rw [← hnt2]; exact hntl
 obtain ⟨adt, rfl, hct0, hct1, hct2, hct3, hct4, hct5, hct6⟩ := at_T121 hk.row 0 (by omega)
 rw [show (truthsL l0 l1 wg).getD 0 [] = y0 from by rw [hts]; exact hy0] at hct0 hct1 hct2 hct3 hct4 hct5 hct6
 have hadd : adt.add (0 * 7) = adt := by simp [Addr.add]
 rw [hadd] at hct0 hct1 hct2 hct3 hct4 hct5 hct6
 have hcv : w.cell? ⟨gw, 3, none⟩ = some (.slice (some adt) nt ct) := (blk_cell hk.kw 3).trans (by rw [← hnt2]; rfl)
 have HY0 := Aside0.mk hy0
 have HNT2 := Aside0.mk hnt2
 have HCT := Aside0.mk (And.intro hct0 (And.intro hct1 (And.intro hct2 (And.intro hct3 (And.intro hct4 (And.intro hct5 hct6))))))
 have HCV := Aside0.mk hcv
 clear hk hr1 hn1 hts hy0 hnt2 hadd hct0 hct1 hct2 hct3 hct4 hct5 hct6 hcv hntl hnt
 have HB := Aside0.mk (Below.refl w.heap.size w)
 go_enter Try.func71, Try.ntmps71
 go_wp2_with (first | ((with_reducible refine gate_dst (N := 3) rfl ?_); refine box_event ?hg (N := 3) ?hd (cs := #[.func (.func 70) #[] #[]]) (t := 115) ?hr ?_; (case hd => rfl); (case hg => rfl); (case hr => first | (go_simp; done) | (go_simp; rfl)); intro g3 hg W_ hbox hb; have GEg3 := Aside0.mk (by rw [hg]; exact HB.out.size : w.heap.size ≤ g3); replace HK := Aside0.mk (HK.out.below hb); replace HR1 := Aside0.mk (Kd.C_below HR1.out hb); replace HB := Aside0.mk (below_step HB.out hb); have BKg3 := Aside0.mk hbox; clear hb hbox hg) | ((with_reducible refine gate_dst (N := 6) rfl ?_); refine sbox (N := 6) #[.int .i64 0, .int .i64 0] 55 ?_; intro g6 hg W_ hbox hb; have GEg6 := Aside0.mk (by rw [hg]; exact HB.out.size : w.heap.size ≤ g6); replace HK := Aside0.mk (HK.out.below hb); replace HR1 := Aside0.mk (Kd.C_below HR1.out hb); replace BKg3 := Aside0.mk (blk_below BKg3.out hb); replace HB := Aside0.mk (below_step HB.out hb); have BKg6 := Aside0.mk hbox; clear hb hbox hg))
 obtain ⟨hct0, hct1, hct2, hct3, hct4, hct5, hct6⟩ := HCT.out
 replace hct0 := (HB.out.cell (World.block_lt_of_cell? _ _ hct0)).trans hct0
 replace hct1 := (HB.out.cell (World.block_lt_of_cell? _ _ hct1)).trans hct1
 replace hct2 := (HB.out.cell (World.block_lt_of_cell? _ _ hct2)).trans hct2
 replace hct3 := (HB.out.cell (World.block_lt_of_cell? _ _ hct3)).trans hct3
 replace hct4 := (HB.out.cell (World.block_lt_of_cell? _ _ hct4)).trans hct4
 replace hct5 := (HB.out.cell (World.block_lt_of_cell? _ _ hct5)).trans hct5
 replace hct6 := (HB.out.cell (World.block_lt_of_cell? _ _ hct6)).trans hct6
 have hcv := (HB.out.cell (World.block_lt_of_cell? _ _ HCV.out)).trans HCV.out
 have hcf := sc 0 BKg3
 refine start_ (n := 12) (S := fun w' => w'.cell? ⟨g3, 0, none⟩ = some (.func (.func 70) #[] #[]) ∧ w'.cell? ⟨gw, 3, none⟩ = some (.slice (some adt) nt ct) ∧ w'.cell? adt = some (.int .i64 (pad y0 0)) ∧ w'.cell? ⟨adt.block, adt.off + 1, none⟩ = some (.int .i64 (pad y0 1)) ∧ w'.cell? ⟨adt.block, adt.off + 2, none⟩ = some (.int .i64 (pad y0 2)) ∧ w'.cell? ⟨adt.block, adt.off + 3, none⟩ = some (.int .i64 (pad y0 3)) ∧ w'.cell? ⟨adt.block, adt.off + 4, none⟩ = some (.int .i64 (pad y0 4)) ∧ w'.cell? ⟨adt.block, adt.off + 5, none⟩ = some (.int .i64 (pad y0 5)) ∧ w'.cell? ⟨adt.block, adt.off + 6, none⟩ = some (.int .i64 (pad y0 6))) (ds := []) (lm 12 0) (by kernel_rfl) rfl (by kernel_rfl) ⟨hcf, hcv, hct0, hct1, hct2, hct3, hct4, hct5, hct6⟩ (fun hHeld => ?_)
 have hb := below_drew1 (Below.refl W_.heap.size W_)
 replace HK := Aside0.mk (HK.out.below hb)
 replace HR1 := Aside0.mk (Kd.C_below HR1.out hb)
 replace BKg3 := Aside0.mk (blk_below BKg3.out hb)
 replace BKg6 := Aside0.mk (blk_below BKg6.out hb)
 replace HB := Aside0.mk (below_step HB.out hb)
 replace hcf := (hb.cell (World.block_lt_of_cell? _ _ hcf)).trans hcf
 replace hcv := (hb.cell (World.block_lt_of_cell? _ _ hcv)).trans hcv
 replace hct0 := (hb.cell (World.block_lt_of_cell? _ _ hct0)).trans hct0
 replace hct1 := (hb.cell (World.block_lt_of_cell? _ _ hct1)).trans hct1
 replace hct2 := (hb.cell (World.block_lt_of_cell? _ _ hct2)).trans hct2
 replace hct3 := (hb.cell (World.block_lt_of_cell? _ _ hct3)).trans hct3
 replace hct4 := (hb.cell (World.block_lt_of_cell? _ _ hct4)).trans hct4
 replace hct5 := (hb.cell (World.block_lt_of_cell? _ _ hct5)).trans hct5
 replace hct6 := (hb.cell (World.block_lt_of_cell? _ _ hct6)).trans hct6
 generalize W_.drew = W2 at *
 clear hb
 refine sP (i := 0) (N := some 11) (lm 12 1) ?_
 refine sP (i := 2) (N := some 13) (lm 12 5) ?_
 refine sP (i := 3) (N := some 14) (lm 12 13) ?_
 refine sP (i := 4) (N := some 15) (lm 12 29) ?_
 refine sP (i := 5) (N := some 16) (lm 12 61) ?_
 refine sP (i := 9) (N := some 20) (lm 12 573) ?_
 refine take_ (i := 1) (N := some 12) (v := ?_) (a' := ?_) (lm 12 575) rfl rfl (by kernel_rfl) (fun _ _ _ h => h) (Or.inl ⟨by rfl, ?_⟩) hHeld ?_ ?_
 rotate_left
 ·rintro w' ⟨s0, s1, s2, s3, s4, s5, s6, s7, s8⟩
  go_simp
  with_reducible rfl
 rotate_left
 ·simp only [Act.put, List.setIfInBounds_toArray, List.set_cons_zero, List.set_cons_succ, i64_w, i32_w]
  rfl
 refine take_ (i := 6) (N := some 17) (v := ?_) (a' := ?_) (lm 12 639) rfl rfl (by kernel_rfl) (fun _ _ _ h => h) (Or.inl ⟨by rfl, ?_⟩) hHeld ?_ ?_
 rotate_left
 ·rintro w' ⟨s0, s1, s2, s3, s4, s5, s6, s7, s8⟩
  go_simp
  with_reducible rfl
 rotate_left
 ·simp only [Act.put, List.setIfInBounds_toArray, List.set_cons_zero, List.set_cons_succ, i64_w, i32_w]
  rfl
 refine sP (i := 7) (N := some 18) (lm 12 767) ?_
 refine take_ (i := 8) (N := some 19) (v := ?_) (a' := ?_) (lm 12 1023) rfl rfl (by kernel_rfl) (fun _ _ _ h => h) (Or.inl ⟨by rfl, ?_⟩) hHeld ?_ ?_
 rotate_left
 ·rintro w' ⟨s0, s1, s2, s3, s4, s5, s6, s7, s8⟩
  go_simp
  with_reducible rfl
 rotate_left
 ·simp only [Act.put, List.setIfInBounds_toArray, List.set_cons_zero, List.set_cons_succ, i64_w, i32_w]
  rfl
 refine one_ (i := 10) (N := some 21) (lm 12 2047) rfl rfl (by kernel_rfl) (by decide) (fun K hK => ?_)
 refine goesV_ Try.func70 (by kernel_rfl) rfl #[.pointer (some ⟨gw, 0, none⟩), .agg #[.int .i64 (pad y0 0), .int .i64 (pad y0 1), .int .i64 (pad y0 2), .int .i64 (pad y0 3), .int .i64 (pad y0 4), .int .i64 (pad y0 5), .int .i64 (pad y0 6)], .int .i64 ab] (by rfl) rfl rfl (by rfl) (by simp only [List.map_toArray, List.map_cons, List.map_nil]; rfl) ?_
 with_reducible refine (missed_calls (pad y0) ab HK.out HR1.out HN1.out).mono ?_
 rintro e W3 ⟨rfl, hb⟩
 refine ⟨_, rfl, ?_⟩
 replace hcf := (hb.cell (World.block_lt_of_cell? _ _ hcf)).trans hcf
 replace hcv := (hb.cell (World.block_lt_of_cell? _ _ hcv)).trans hcv
 replace hct0 := (hb.cell (World.block_lt_of_cell? _ _ hct0)).trans hct0
 replace hct1 := (hb.cell (World.block_lt_of_cell? _ _ hct1)).trans hct1
 replace hct2 := (hb.cell (World.block_lt_of_cell? _ _ hct2)).trans hct2
 replace hct3 := (hb.cell (World.block_lt_of_cell? _ _ hct3)).trans hct3
 replace hct4 := (hb.cell (World.block_lt_of_cell? _ _ hct4)).trans hct4
 replace hct5 := (hb.cell (World.block_lt_of_cell? _ _ hct5)).trans hct5
 replace hct6 := (hb.cell (World.block_lt_of_cell? _ _ hct6)).trans hct6
 replace HK := Aside0.mk (HK.out.below hb)
 replace HR1 := Aside0.mk (Kd.C_below HR1.out hb)
 replace BKg3 := Aside0.mk (blk_below BKg3.out hb)
 replace BKg6 := Aside0.mk (blk_below BKg6.out hb)
 replace HB := Aside0.mk (below_step HB.out hb)
 clear hb
 refine hK.out _ _ ⟨hcf, hcv, hct0, hct1, hct2, hct3, hct4, hct5, hct6⟩ (fun hHeld => ?_)
 clear hK K
 refine sN ?_
 refine sP (i := 11) (N := some 7) (lm 12 4095) ?_
 refine done_ (by kernel_rfl) ?_
 clear hct0 hct1 hct2 hct3 hct4 hct5 hct6
 obtain ⟨n0, hn0_⟩ : ∃ n0, missN l1 (pad y0) ab = n0 := ⟨_, rfl⟩
 have HN0_ := Aside0.mk hn0_
 rw [hn0_]
 clear hn0_
 have hne : g3 < W3.heap.size ∧ g6 < W3.heap.size := ⟨blk_lt BKg3.out, blk_lt BKg6.out⟩
 have HNE := Aside0.mk hne
 clear hne
 have hcv2 : ∀ o, (W3.alloc o).cell? ⟨gw, 3, none⟩ = some (.slice (some adt) nt ct) := fun o => (blk_cell (blk_alloc HK.out.kw o) 3).trans (by rw [← HNT2.out]; rfl)
 go_wp2
 clear hcv2 hcv hcf
 generalize hg8 : W3.heap.size = g8
 have HZ8 := Aside0.mk hg8
 have HB1 := Aside0.mk (below_alloc (Below.refl W3.heap.size W3) (.cells #[.int .i64 n0, .int .i64 n0] 55))
 have BKg8 := Aside0.mk (show (W3.alloc (.cells #[.int .i64 n0, .int .i64 n0] 55)).heap[g8]? = some (.cells #[.int .i64 n0, .int .i64 n0] 55 (0, 0)) from by rw [← hg8]; exact heap_alloc_new W3 _)
 clear hg8
 generalize W3.alloc (.cells #[.int .i64 n0, .int .i64 n0] 55) = W1 at *
 go_loopg [30] nt (fun kq v30 w' => ∃ m : Nat, v30 = .int .i64 (m : Int) ∧ Aside0 (m + kq = nt) ∧ Aside0 (Below W3.heap.size W3 w') ∧ Aside0 (w'.heap[g8]? = some (.cells #[.int .i64 ((ts.take m).foldl (fun r x => (mn r.1 (missN l1 (pad x) ab), mx r.2 (missN l1 (pad x) ab))) (n0, n0)).1, .int .i64 ((ts.take m).foldl (fun r x => (mn r.1 (missN l1 (pad x) ab), mx r.2 (missN l1 (pad x) ab))) (n0, n0)).2] 55 (0, 0))))
 case atStart => exact ⟨0, rfl, ⟨Nat.zero_add _⟩, HB1, BKg8⟩
 case round =>
  clear BKg8 HB1
  obtain ⟨m, rfl, HM, HB1, BKg8⟩ := hrel
  obtain ⟨rl, hrl⟩ : ∃ r, ((ts.take m).foldl (fun r x => (mn r.1 (missN l1 (pad x) ab), mx r.2 (missN l1 (pad x) ab))) (n0, n0)).1 = r := ⟨_, rfl⟩
  obtain ⟨rh, hrh⟩ : ∃ r, ((ts.take m).foldl (fun r x => (mn r.1 (missN l1 (pad x) ab), mx r.2 (missN l1 (pad x) ab))) (n0, n0)).2 = r := ⟨_, rfl⟩
  rw [hrl, hrh] at BKg8
  have HRL := Aside0.mk hrl
  have HRH := Aside0.mk hrh
  clear hrl hrh
  by_cases hlt : m < nt
  ·cases gk with
   | zero => have := HM.out; omega
   | succ k1 =>
   obtain ⟨adt2, ea, hct0, hct1, hct2, hct3, hct4, hct5, hct6⟩ := at_T121 (Kd.C_below HK.out.row HB1.out) m (by have := HNT2.out; omega)
   cases ea
   rw [HTS.out] at hct0 hct1 hct2 hct3 hct4 hct5 hct6
   have hmt : m < ts.length := by rw [← HTS.out, HNT2.out]; exact hlt
   have htk : ts.take (m + 1) = ts.take m ++ [ts.getD m []] := by
    rw [List.take_succ_eq_append_getElem hmt, List.getD_eq_getElem?_getD, List.getElem?_eq_getElem hmt, Option.getD_some]
   have HTK := Aside0.mk htk
   clear htk hmt
   generalize ts.getD m [] = y at *
   go_wp2
   have hb := below_alloc (Below.refl wr.heap.size wr) (.cells #[.int .i64 (pad y 0), .int .i64 (pad y 1), .int .i64 (pad y 2), .int .i64 (pad y 3), .int .i64 (pad y 4), .int .i64 (pad y 5), .int .i64 (pad y 6)] 121)
   have BKg10 := Aside0.mk (heap_alloc_new wr (.cells #[.int .i64 (pad y 0), .int .i64 (pad y 1), .int .i64 (pad y 2), .int .i64 (pad y 3), .int .i64 (pad y 4), .int .i64 (pad y 5), .int .i64 (pad y 6)] 121))
   have LT8 := Aside0.mk (blk_lt BKg8.out)
   replace HB1 := Aside0.mk (below_step HB1.out hb)
   replace BKg8 := Aside0.mk (blk_below BKg8.out hb)
   clear hb
   generalize wr.alloc (.cells #[.int .i64 (pad y 0), .int .i64 (pad y 1), .int .i64 (pad y 2), .int .i64 (pad y 3), .int .i64 (pad y 4), .int .i64 (pad y 5), .int .i64 (pad y 6)] 121) = W5 at *
   clear hct0 hct1 hct2 hct3 hct4 hct5 hct6
   generalize wr.heap.size = g10 at *
   have hcl := sc 0 BKg8
   have hch := sc 1 BKg8
   have hcf : W5.cell? ⟨g3, 0, none⟩ = some (.func (.func 70) #[] #[]) := (blk_cell (blk_below BKg3.out HB1.out) 0).trans rfl
   have hca0 := sc 0 BKg10
   have hca1 := sc 1 BKg10
   have hca2 := sc 2 BKg10
   have hca3 := sc 3 BKg10
   have hca4 := sc 4 BKg10
   have hca5 := sc 5 BKg10
   have hca6 := sc 6 BKg10
   refine start_ (n := 9) (S := fun w' => w'.cell? ⟨g8, 0, none⟩ = some (.int .i64 rl) ∧ w'.cell? ⟨g8, 1, none⟩ = some (.int .i64 rh) ∧ w'.cell? ⟨g3, 0, none⟩ = some (.func (.func 70) #[] #[]) ∧ w'.cell? ⟨g10, 0, none⟩ = some (.int .i64 (pad y 0)) ∧ w'.cell? ⟨g10, 1, none⟩ = some (.int .i64 (pad y 1)) ∧ w'.cell? ⟨g10, 2, none⟩ = some (.int .i64 (pad y 2)) ∧ w'.cell? ⟨g10, 3, none⟩ = some (.int .i64 (pad y 3)) ∧ w'.cell? ⟨g10, 4, none⟩ = some (.int .i64 (pad y 4)) ∧ w'.cell? ⟨g10, 5, none⟩ = some (.int .i64 (pad y 5)) ∧ w'.cell? ⟨g10, 6, none⟩ = some (.int .i64 (pad y 6))) (ds := [8]) (lm 9 0) (by kernel_rfl) rfl (by kernel_rfl) ⟨hcl, hch, hcf, hca0, hca1, hca2, hca3, hca4, hca5, hca6⟩ (fun hHeld => ?_)
   have hb := below_drew1 (Below.refl W5.heap.size W5)
   replace HB1 := Aside0.mk (below_step HB1.out hb)
   replace BKg8 := Aside0.mk (blk_below BKg8.out hb)
   replace BKg10 := Aside0.mk (blk_below BKg10.out hb)
   replace hcl := (hb.cell (World.block_lt_of_cell? _ _ hcl)).trans hcl
   replace hch := (hb.cell (World.block_lt_of_cell? _ _ hch)).trans hch
   replace hcf := (hb.cell (World.block_lt_of_cell? _ _ hcf)).trans hcf
   replace hca0 := (hb.cell (World.block_lt_of_cell? _ _ hca0)).trans hca0
   replace hca1 := (hb.cell (World.block_lt_of_cell? _ _ hca1)).trans hca1
   replace hca2 := (hb.cell (World.block_lt_of_cell? _ _ hca2)).trans hca2
   replace hca3 := (hb.cell (World.block_lt_of_cell? _ _ hca3)).trans hca3
   replace hca4 := (hb.cell (World.block_lt_of_cell? _ _ hca4)).trans hca4
   replace hca5 := (hb.cell (World.block_lt_of_cell? _ _ hca5)).trans hca5
   replace hca6 := (hb.cell (World.block_lt_of_cell? _ _ hca6)).trans hca6
   generalize W5.drew = W7 at *
   clear hb
   refine sP (i := 1) (N := some 35) (lm 9 2) ?_
   refine sP (i := 3) (N := some 37) (lm 9 10) ?_
   refine sP (i := 5) (N := some 39) (lm 9 42) ?_
   refine take_ (i := 0) (N := some 34) (v := ?_) (a' := ?_) (lm 9 43) rfl rfl (by kernel_rfl) (fun _ _ _ h => h) (Or.inl ⟨by rfl, ?_⟩) hHeld ?_ ?_
   rotate_left
   ·rintro w' ⟨s0, s1, s2, s3, s4, s5, s6, s7, s8, s9⟩
    go_simp
    with_reducible rfl
   rotate_left
   ·simp only [Act.put, List.setIfInBounds_toArray, List.set_cons_zero, List.set_cons_succ, i64_w, i32_w]
    rfl
   refine take_ (i := 2) (N := some 36) (v := ?_) (a' := ?_) (lm 9 47) rfl rfl (by kernel_rfl) (fun _ _ _ h => h) (Or.inl ⟨by rfl, ?_⟩) hHeld ?_ ?_
   rotate_left
   ·rintro w' ⟨s0, s1, s2, s3, s4, s5, s6, s7, s8, s9⟩
    go_simp
    with_reducible rfl
   rotate_left
   ·simp only [Act.put, List.setIfInBounds_toArray, List.set_cons_zero, List.set_cons_succ, i64_w, i32_w]
    rfl
   refine take_ (i := 4) (N := some 38) (v := ?_) (a' := ?_) (lm 9 63) rfl rfl (by kernel_rfl) (fun _ _ _ h => h) (Or.inl ⟨by rfl, ?_⟩) hHeld ?_ ?_
   rotate_left
   ·rintro w' ⟨s0, s1, s2, s3, s4, s5, s6, s7, s8, s9⟩
    go_simp
    with_reducible rfl
   rotate_left
   ·simp only [Act.put, List.setIfInBounds_toArray, List.set_cons_zero, List.set_cons_succ, i64_w, i32_w]
    rfl
   refine one_ (i := 6) (N := some 40) (lm 9 127) rfl rfl (by kernel_rfl) (by decide) (fun K hK => ?_)
   refine goesV_ Try.func70 (by kernel_rfl) rfl #[.pointer (some ⟨gw, 0, none⟩), .agg #[.int .i64 (pad y 0), .int .i64 (pad y 1), .int .i64 (pad y 2), .int .i64 (pad y 3), .int .i64 (pad y 4), .int .i64 (pad y 5), .int .i64 (pad y 6)], .int .i64 ab] (by rfl) rfl rfl (by rfl) (by simp only [List.map_toArray, List.map_cons, List.map_nil]; rfl) ?_
   with_reducible refine (missed_calls (pad y) ab (HK.out.below HB1.out) (Kd.C_below HR1.out HB1.out) HN1.out).mono ?_
   rintro e W8 ⟨rfl, hb⟩
   refine ⟨_, rfl, ?_⟩
   replace hcl := (hb.cell (World.block_lt_of_cell? _ _ hcl)).trans hcl
   replace hch := (hb.cell (World.block_lt_of_cell? _ _ hch)).trans hch
   replace hcf := (hb.cell (World.block_lt_of_cell? _ _ hcf)).trans hcf
   replace hca0 := (hb.cell (World.block_lt_of_cell? _ _ hca0)).trans hca0
   replace hca1 := (hb.cell (World.block_lt_of_cell? _ _ hca1)).trans hca1
   replace hca2 := (hb.cell (World.block_lt_of_cell? _ _ hca2)).trans hca2
   replace hca3 := (hb.cell (World.block_lt_of_cell? _ _ hca3)).trans hca3
   replace hca4 := (hb.cell (World.block_lt_of_cell? _ _ hca4)).trans hca4
   replace hca5 := (hb.cell (World.block_lt_of_cell? _ _ hca5)).trans hca5
   replace hca6 := (hb.cell (World.block_lt_of_cell? _ _ hca6)).trans hca6
   replace HB1 := Aside0.mk (below_step HB1.out hb)
   replace BKg8 := Aside0.mk (blk_below BKg8.out hb)
   replace BKg10 := Aside0.mk (blk_below BKg10.out hb)
   clear hb
   refine hK.out _ _ ⟨hcl, hch, hcf, hca0, hca1, hca2, hca3, hca4, hca5, hca6⟩ (fun hHeld => ?_)
   clear hK K
   refine sN ?_
   refine one_ (i := 7) (N := some 41) (lm 9 255) rfl rfl (by kernel_rfl) (by decide) (fun K hK => ?_)
   refine goes_ Try.func97 (by kernel_rfl) rfl #[.agg #[.int .i64 rl, .int .i64 rh], .int .i64 (missN l1 (pad y) ab)] (by rfl) rfl rfl (by simp only [List.map_toArray, List.map_cons, List.map_nil]; rfl) ?_
   with_reducible refine (wider_calls rl rh (missN l1 (pad y) ab) W8).mono ?_
   rintro e W9 ⟨rfl, hb⟩
   refine ⟨_, rfl, ?_⟩
   replace hcl := (hb.cell (World.block_lt_of_cell? _ _ hcl)).trans hcl
   replace hch := (hb.cell (World.block_lt_of_cell? _ _ hch)).trans hch
   replace hcf := (hb.cell (World.block_lt_of_cell? _ _ hcf)).trans hcf
   replace hca0 := (hb.cell (World.block_lt_of_cell? _ _ hca0)).trans hca0
   replace hca1 := (hb.cell (World.block_lt_of_cell? _ _ hca1)).trans hca1
   replace hca2 := (hb.cell (World.block_lt_of_cell? _ _ hca2)).trans hca2
   replace hca3 := (hb.cell (World.block_lt_of_cell? _ _ hca3)).trans hca3
   replace hca4 := (hb.cell (World.block_lt_of_cell? _ _ hca4)).trans hca4
   replace hca5 := (hb.cell (World.block_lt_of_cell? _ _ hca5)).trans hca5
   replace hca6 := (hb.cell (World.block_lt_of_cell? _ _ hca6)).trans hca6
   replace HB1 := Aside0.mk (below_step HB1.out hb)
   replace BKg8 := Aside0.mk (blk_below BKg8.out hb)
   replace BKg10 := Aside0.mk (blk_below BKg10.out hb)
   clear hb
   refine hK.out _ _ ⟨hcl, hch, hcf, hca0, hca1, hca2, hca3, hca4, hca5, hca6⟩ (fun hHeld => ?_)
   clear hK K
   refine sN ?_
   refine last_ (i := 8) (N := none) (lm 9 511) rfl rfl (by kernel_rfl) (by decide) (fun K hK => ?_)
   have hf0 : W9.frozen? ⟨g8, 0, none⟩ = false := blk_frozen BKg8.out 0
   have hf1 : W9.frozen? ⟨g8, 1, none⟩ = false := blk_frozen BKg8.out 1
   refine skip_ (w1 := ?_) (by rfl) rfl ?_ ?_
   rotate_left
   ·go_simp
    rfl
   refine hK.out _ _ ?_
   clear hK K
   refine done_ (by kernel_rfl) ?_
   go_wp2
   obtain ⟨ny, hny⟩ : ∃ n, missN l1 (pad y) ab = n := ⟨_, rfl⟩
   have HNY := Aside0.mk hny
   clear hny
   have HB9 := Aside0.mk ((HB1.out.setCell (p := ⟨g8, 0, none⟩) (by rw [← HZ8.out]; exact Nat.le_refl _) (.int .i64 (mn rl (missN l1 (pad y) ab)))).setCell (p := ⟨g8, 1, none⟩) (by rw [← HZ8.out]; exact Nat.le_refl _) (.int .i64 (mx rh (missN l1 (pad y) ab))))
   have BK9 := Aside0.mk (blk_put (blk_put BKg8.out 0 (.int .i64 (mn rl (missN l1 (pad y) ab))) rfl) 1 (.int .i64 (mx rh (missN l1 (pad y) ab))) rfl)
   go_roundg k1
   case measure => omega
   case rel => exact ⟨m + 1, by go_num, ⟨by have := HM.out; omega⟩, HB9, ⟨by rw [HTK.out, List.foldl_append, List.foldl_cons, List.foldl_nil, HRL.out, HRH.out]; exact BK9.out⟩⟩
  ·obtain rfl : m = nt := by have := HM.out; omega
   have hl0 := sc 0 BKg8
   have hl1 := sc 1 BKg8
   have BK6 := Aside0.mk (blk_below BKg6.out HB1.out)
   have hf0 := blk_frozen BK6.out 0
   have hf1 := blk_frozen BK6.out 1
   have hx0 := sc 0 BK6
   have hx1 := sc 1 BK6
   go_wp2
   have hbk := blk_put (blk_put BK6.out 0 (.int .i64 rl) rfl) 1 (.int .i64 rh) rfl
   refine bodyPost_ret (results_cell_row rfl _ _ g6 55 #[.int .i64 rl, .int .i64 rh] (0, 0) _ rfl hbk Try.underlying55 rfl (by kernel_rfl)) rfl ?_
   have hbs : boundsL (fun x => missN l1 (pad x) ab) (truthsL l0 l1 wg) = (rl, rh) := by
    unfold boundsL
    rw [HTS.out, HY0.out, show (fun x => missN l1 (pad x) ab) y0 = n0 from HN0_.out, ← HRL.out, ← HRH.out, List.take_of_length_le (by rw [← HTS.out, HNT2.out]; exact Nat.le_refl _)]
   exact ⟨by rw [hbs], ((below_step HB.out HB1.out).setCell (p := ⟨g6, 0, none⟩) GEg6.out _).setCell (p := ⟨g6, 1, none⟩) GEg6.out _⟩
end Go.Proofs.Ytnbbbeghgomnoaa.X
namespace Go.Proofs.Ytnbbbeghgomnoaa.X
open Go.RowKit Go.Proofs.YtnbbbeghgomnoaaW.PrintWords Go.Proofs.YtnbbbeghgomnoaaW.PrintLast Go.Proofs.YtnbbbeghgomnoaaW.PrintMore
set_option maxHeartbeats 4000000 in
set_option maxRecDepth 100000 in
theorem Astray_e {A0 : Option Addr} {c0 : Nat} {l0 : List S109} {A1 : Option Addr} {c1 : Nat} {l1 : List S110} (wg : Int) {w : World} (ht : Tab A0 c0 l0 A1 c1 l1 w) (he : askE l0 l1 wg ≠ 0) :
  Calls Try.prog 37 #[.agg #[.slice A0 l0.length c0, .slice A1 l1.length c1, .int .i64 wg]] w fun e w' => e = .returned (.tuple #[.agg #[.int .i64 0, .int .i64 0], .int .i64 (askE l0 l1 wg)]) ∧ Below w.heap.size w w' := by
 have hu35 := Try.underlying35
 have hu55 := Try.underlying55
 have HT := Aside0.mk ht
 have HE := Aside0.mk he
 clear ht he
 have HB := Aside0.mk (Below.refl w.heap.size w)
 go_enter Try.func37, Try.ntmps37
 go_wp2_with (first | ((with_reducible refine gate_dst (N := 1) rfl ?_); refine sbox (N := 1) #[.slice A0 l0.length c0, .slice A1 l1.length c1, .int .i64 wg] 35 ?_; intro g1 hg W_ hbox hb; have GEg1 := Aside0.mk (by rw [hg]; exact HB.out.size : w.heap.size ≤ g1); replace HB := Aside0.mk (below_step HB.out hb); have BKg1 := Aside0.mk hbox; clear hb hbox hg; have hcz0 := sc 0 BKg1; have hcz1 := sc 1 BKg1; have hcz2 := sc 2 BKg1) | ((with_reducible refine gate_dst (N := 2) rfl ?_); refine sbox (N := 2) #[.int .i64 0, .int .i64 0] 55 ?_; intro g2 hg W_ hbox hb; have GEg2 := Aside0.mk (by rw [hg]; exact HB.out.size : w.heap.size ≤ g2); replace BKg1 := Aside0.mk (blk_below BKg1.out hb); replace HB := Aside0.mk (below_step HB.out hb); have BKg2 := Aside0.mk hbox; clear hb hbox hg; have hcz0 := sc 0 BKg1; have hcz1 := sc 1 BKg1; have hcz2 := sc 2 BKg1) | (go_at_call 68; go_must (refine (asked_e wg (HT.out.below HB.out) HE.out).mono ?_; rintro e W_ ⟨rfl, hb⟩; replace BKg1 := Aside0.mk (blk_below BKg1.out hb); replace BKg2 := Aside0.mk (blk_below BKg2.out hb); replace HB := Aside0.mk (below_step HB.out hb); try (clear hcz0 hcz1 hcz2); clear hb; have he := HE.out; generalize hec : askE l0 l1 wg = ec at *; have hne : (ec == (0 : Int)) = false := (by simpa using he); have hcx0 := sc 0 BKg2; have hcx1 := sc 1 BKg2; have hf0 := blk_frozen BKg2.out 0; have hf1 := blk_frozen BKg2.out 1)))
 have hbk := blk_put (blk_put BKg2.out 0 (.int .i64 0) rfl) 1 (.int .i64 0) rfl
 have h0 : ((W_.setCell ⟨g2, 0, none⟩ (.int .i64 0)).setCell ⟨g2, 1, none⟩ (.int .i64 0)).cell? ⟨g2, 0, none⟩ = some (.int .i64 0) := (blk_cell hbk 0).trans rfl
 have h1 : ((W_.setCell ⟨g2, 0, none⟩ (.int .i64 0)).setCell ⟨g2, 1, none⟩ (.int .i64 0)).cell? ⟨g2, 1, none⟩ = some (.int .i64 0) := (blk_cell hbk 1).trans rfl
 refine bodyPost_ret (v := .tuple #[.agg #[.int .i64 0, .int .i64 0], .int .i64 ec]) (by simp [results, Try.f37, go_sem, h0, h1]) rfl ?_
 exact ⟨by rw [hec], (HB.out.setCell (p := ⟨g2, 0, none⟩) GEg2.out _).setCell (p := ⟨g2, 1, none⟩) GEg2.out _⟩
set_option maxHeartbeats 4000000 in
set_option maxRecDepth 100000 in
theorem Astray_ok {A0 : Option Addr} {c0 : Nat} {l0 : List S109} {A1 : Option Addr} {c1 : Nat} {l1 : List S110} (wg : Int) {w : World} (ht : Tab A0 c0 l0 A1 c1 l1 w) (he : askE l0 l1 wg = 0) :
  Calls Try.prog 37 #[.agg #[.slice A0 l0.length c0, .slice A1 l1.length c1, .int .i64 wg]] w fun e w' => e = .returned (.tuple #[.agg #[.int .i64 (boundsL (fun x => lostN l1 (pad x)) (truthsL l0 l1 wg)).1, .int .i64 (boundsL (fun x => lostN l1 (pad x)) (truthsL l0 l1 wg)).2], .int .i64 0]) ∧ Below w.heap.size w w' := by
 have hu35 := Try.underlying35
 have hu55 := Try.underlying55
 have HT := Aside0.mk ht
 have HE := Aside0.mk he
 clear ht he
 obtain ⟨hck, htn⟩ := askE_zero HE.out
 have HTN := Aside0.mk htn
 have HN1 := Aside0.mk (checkT_zero hck).n1
 have HTL := Aside0.mk (truths_len wg (checkT_zero hck).n0 (checkT_zero hck).n1)
 clear hck htn
 have HB := Aside0.mk (Below.refl w.heap.size w)
 go_enter Try.func37, Try.ntmps37
 go_wp2_with (first | ((with_reducible refine gate_dst (N := 1) rfl ?_); refine sbox (N := 1) #[.slice A0 l0.length c0, .slice A1 l1.length c1, .int .i64 wg] 35 ?_; intro g1 hg W_ hbox hb; have GEg1 := Aside0.mk (by rw [hg]; exact HB.out.size : w.heap.size ≤ g1); replace HB := Aside0.mk (below_step HB.out hb); have BKg1 := Aside0.mk hbox; clear hb hbox hg; have hcz0 := sc 0 BKg1; have hcz1 := sc 1 BKg1; have hcz2 := sc 2 BKg1) | ((with_reducible refine gate_dst (N := 2) rfl ?_); refine sbox (N := 2) #[.int .i64 0, .int .i64 0] 55 ?_; intro g2 hg W_ hbox hb; have GEg2 := Aside0.mk (by rw [hg]; exact HB.out.size : w.heap.size ≤ g2); replace BKg1 := Aside0.mk (blk_below BKg1.out hb); replace HB := Aside0.mk (below_step HB.out hb); have BKg2 := Aside0.mk hbox; clear hb hbox hg; have hcz0 := sc 0 BKg1; have hcz1 := sc 1 BKg1; have hcz2 := sc 2 BKg1) | (go_at_call 68; go_must (refine (asked_ok wg (HT.out.below HB.out) HE.out).mono ?_; rintro e W_ ⟨gw, gm, At, ct, rfl, hwk, hb⟩; replace BKg1 := Aside0.mk (blk_below BKg1.out hb); replace BKg2 := Aside0.mk (blk_below BKg2.out hb); replace HB := Aside0.mk (below_step HB.out hb); try (clear hcz0 hcz1 hcz2); have HK := Aside0.mk hwk; clear hb hwk)) | (go_at_call 71; go_must (refine (bounds_lost 0 HK.out (HT.out.below HB.out).r1 HN1.out HTN.out HTL.out).mono ?_; rintro e W_ ⟨rfl, hb⟩; replace BKg1 := Aside0.mk (blk_below BKg1.out hb); replace BKg2 := Aside0.mk (blk_below BKg2.out hb); replace HB := Aside0.mk (below_step HB.out hb); have hcx0 := sc 0 BKg2; have hcx1 := sc 1 BKg2; have hf0 := blk_frozen BKg2.out 0; have hf1 := blk_frozen BKg2.out 1; generalize hrl : (boundsL (fun x => lostN l1 (pad x)) (truthsL l0 l1 wg)).1 = rl at *; generalize hrh : (boundsL (fun x => lostN l1 (pad x)) (truthsL l0 l1 wg)).2 = rh at *; clear hb)))
 have hbk := blk_put (blk_put BKg2.out 0 (.int .i64 rl) rfl) 1 (.int .i64 rh) rfl
 have h0 := (blk_cell hbk 0)
 have h1 := (blk_cell hbk 1)
 refine bodyPost_ret (v := .tuple #[.agg #[.int .i64 rl, .int .i64 rh], .int .i64 0]) (by simp [results, Try.f37, go_sem, h0, h1]) rfl ?_
 exact ⟨by rw [hrl, hrh], (HB.out.setCell (p := ⟨g2, 0, none⟩) GEg2.out _).setCell (p := ⟨g2, 1, none⟩) GEg2.out _⟩
end Go.Proofs.Ytnbbbeghgomnoaa.X
namespace Go.Proofs.Ytnbbbeghgomnoaa.X
open Go.RowKit Go.Proofs.YtnbbbeghgomnoaaW.PrintWords Go.Proofs.YtnbbbeghgomnoaaW.PrintLast Go.Proofs.YtnbbbeghgomnoaaW.PrintMore
set_option maxHeartbeats 4000000 in
set_option maxRecDepth 100000 in
theorem Whose_e {A0 : Option Addr} {c0 : Nat} {l0 : List S109} {A1 : Option Addr} {c1 : Nat} {l1 : List S110} (wg : Int) {w : World} (ht : Tab A0 c0 l0 A1 c1 l1 w) (he : askE l0 l1 wg ≠ 0) :
  Calls Try.prog 22 #[.agg #[.slice A0 l0.length c0, .slice A1 l1.length c1, .int .i64 wg]] w fun e w' => e = .returned (.tuple #[.slice none 0 0, .int .i64 (askE l0 l1 wg)]) ∧ Below w.heap.size w w' := by
 have hu35 := Try.underlying35
 have hu55 := Try.underlying55
 have HT := Aside0.mk ht
 have HE := Aside0.mk he
 clear ht he
 have HB := Aside0.mk (Below.refl w.heap.size w)
 go_enter Try.func22, Try.ntmps22
 go_wp2_with (first | ((with_reducible refine gate_dst (N := 1) rfl ?_); refine sbox (N := 1) #[.slice A0 l0.length c0, .slice A1 l1.length c1, .int .i64 wg] 35 ?_; intro g1 hg W_ hbox hb; have GEg1 := Aside0.mk (by rw [hg]; exact HB.out.size : w.heap.size ≤ g1); replace HB := Aside0.mk (below_step HB.out hb); have BKg1 := Aside0.mk hbox; clear hb hbox hg; have hcz0 := sc 0 BKg1; have hcz1 := sc 1 BKg1; have hcz2 := sc 2 BKg1) | (go_at_call 68; go_must (refine (asked_e wg (HT.out.below HB.out) HE.out).mono ?_; rintro e W_ ⟨rfl, hb⟩; replace BKg1 := Aside0.mk (blk_below BKg1.out hb); replace HB := Aside0.mk (below_step HB.out hb); try (clear hcz0 hcz1 hcz2); clear hb; have he := HE.out; generalize hec : askE l0 l1 wg = ec at *; have hne : (ec == (0 : Int)) = false := (by simpa using he))))
 go_ret2
 exact ⟨by rw [hec]; rfl, HB.out⟩
set_option maxHeartbeats 4000000 in
set_option maxRecDepth 100000 in
theorem Misses_e {A0 : Option Addr} {c0 : Nat} {l0 : List S109} {A1 : Option Addr} {c1 : Nat} {l1 : List S110} (wg : Int) {w : World} (ht : Tab A0 c0 l0 A1 c1 l1 w) (he : askE l0 l1 wg ≠ 0) :
  Calls Try.prog 27 #[.agg #[.slice A0 l0.length c0, .slice A1 l1.length c1, .int .i64 wg]] w fun e w' => e = .returned (.tuple #[.slice none 0 0, .int .i64 (askE l0 l1 wg)]) ∧ Below w.heap.size w w' := by
 have hu35 := Try.underlying35
 have hu55 := Try.underlying55
 have HT := Aside0.mk ht
 have HE := Aside0.mk he
 clear ht he
 have HB := Aside0.mk (Below.refl w.heap.size w)
 go_enter Try.func27, Try.ntmps27
 go_wp2_with (first | ((with_reducible refine gate_dst (N := 1) rfl ?_); refine sbox (N := 1) #[.slice A0 l0.length c0, .slice A1 l1.length c1, .int .i64 wg] 35 ?_; intro g1 hg W_ hbox hb; have GEg1 := Aside0.mk (by rw [hg]; exact HB.out.size : w.heap.size ≤ g1); replace HB := Aside0.mk (below_step HB.out hb); have BKg1 := Aside0.mk hbox; clear hb hbox hg; have hcz0 := sc 0 BKg1; have hcz1 := sc 1 BKg1; have hcz2 := sc 2 BKg1) | (go_at_call 68; go_must (refine (asked_e wg (HT.out.below HB.out) HE.out).mono ?_; rintro e W_ ⟨rfl, hb⟩; replace BKg1 := Aside0.mk (blk_below BKg1.out hb); replace HB := Aside0.mk (below_step HB.out hb); try (clear hcz0 hcz1 hcz2); clear hb; have he := HE.out; generalize hec : askE l0 l1 wg = ec at *; have hne : (ec == (0 : Int)) = false := (by simpa using he))))
 go_ret2
 exact ⟨by rw [hec]; rfl, HB.out⟩
set_option maxHeartbeats 4000000 in
set_option maxRecDepth 100000 in
theorem Fewest_e {A0 : Option Addr} {c0 : Nat} {l0 : List S109} {A1 : Option Addr} {c1 : Nat} {l1 : List S110} (wg : Int) {w : World} (ht : Tab A0 c0 l0 A1 c1 l1 w) (he : askE l0 l1 wg ≠ 0) :
  Calls Try.prog 38 #[.agg #[.slice A0 l0.length c0, .slice A1 l1.length c1, .int .i64 wg]] w fun e w' => e = .returned (.tuple #[.slice none 0 0, .int .i64 (askE l0 l1 wg)]) ∧ Below w.heap.size w w' := by
 have hu35 := Try.underlying35
 have hu55 := Try.underlying55
 have HT := Aside0.mk ht
 have HE := Aside0.mk he
 clear ht he
 have HB := Aside0.mk (Below.refl w.heap.size w)
 go_enter Try.func38, Try.ntmps38
 go_wp2_with (first | ((with_reducible refine gate_dst (N := 1) rfl ?_); refine sbox (N := 1) #[.slice A0 l0.length c0, .slice A1 l1.length c1, .int .i64 wg] 35 ?_; intro g1 hg W_ hbox hb; have GEg1 := Aside0.mk (by rw [hg]; exact HB.out.size : w.heap.size ≤ g1); replace HB := Aside0.mk (below_step HB.out hb); have BKg1 := Aside0.mk hbox; clear hb hbox hg; have hcz0 := sc 0 BKg1; have hcz1 := sc 1 BKg1; have hcz2 := sc 2 BKg1) | (go_at_call 68; go_must (refine (asked_e wg (HT.out.below HB.out) HE.out).mono ?_; rintro e W_ ⟨rfl, hb⟩; replace BKg1 := Aside0.mk (blk_below BKg1.out hb); replace HB := Aside0.mk (below_step HB.out hb); try (clear hcz0 hcz1 hcz2); clear hb; have he := HE.out; generalize hec : askE l0 l1 wg = ec at *; have hne : (ec == (0 : Int)) = false := (by simpa using he))))
 go_ret2
 exact ⟨by rw [hec]; rfl, HB.out⟩
set_option maxHeartbeats 4000000 in
set_option maxRecDepth 100000 in
theorem Moves_e {A0 : Option Addr} {c0 : Nat} {l0 : List S109} {A1 : Option Addr} {c1 : Nat} {l1 : List S110} (wg : Int) {w : World} (ht : Tab A0 c0 l0 A1 c1 l1 w) (he : askE l0 l1 wg ≠ 0) :
  Calls Try.prog 39 #[.agg #[.slice A0 l0.length c0, .slice A1 l1.length c1, .int .i64 wg]] w fun e w' => e = .returned (.tuple #[.slice none 0 0, .int .i64 (askE l0 l1 wg)]) ∧ Below w.heap.size w w' := by
 have hu35 := Try.underlying35
 have hu55 := Try.underlying55
 have HT := Aside0.mk ht
 have HE := Aside0.mk he
 clear ht he
 have HB := Aside0.mk (Below.refl w.heap.size w)
 go_enter Try.func39, Try.ntmps39
 go_wp2_with (first | ((with_reducible refine gate_dst (N := 1) rfl ?_); refine sbox (N := 1) #[.slice A0 l0.length c0, .slice A1 l1.length c1, .int .i64 wg] 35 ?_; intro g1 hg W_ hbox hb; have GEg1 := Aside0.mk (by rw [hg]; exact HB.out.size : w.heap.size ≤ g1); replace HB := Aside0.mk (below_step HB.out hb); have BKg1 := Aside0.mk hbox; clear hb hbox hg; have hcz0 := sc 0 BKg1; have hcz1 := sc 1 BKg1; have hcz2 := sc 2 BKg1) | (go_at_call 68; go_must (refine (asked_e wg (HT.out.below HB.out) HE.out).mono ?_; rintro e W_ ⟨rfl, hb⟩; replace BKg1 := Aside0.mk (blk_below BKg1.out hb); replace HB := Aside0.mk (below_step HB.out hb); try (clear hcz0 hcz1 hcz2); clear hb; have he := HE.out; generalize hec : askE l0 l1 wg = ec at *; have hne : (ec == (0 : Int)) = false := (by simpa using he))))
 go_ret2
 exact ⟨by rw [hec]; rfl, HB.out⟩
set_option maxHeartbeats 4000000 in
set_option maxRecDepth 100000 in
theorem Look_e {A0 : Option Addr} {c0 : Nat} {l0 : List S109} {A1 : Option Addr} {c1 : Nat} {l1 : List S110} (wg : Int) {w : World} (ht : Tab A0 c0 l0 A1 c1 l1 w) (he : askE l0 l1 wg ≠ 0) :
  Calls Try.prog 29 #[.agg #[.slice A0 l0.length c0, .slice A1 l1.length c1, .int .i64 wg]] w fun e w' => e = .returned (.tuple #[.int .i64 0, .int .i64 0, .int .i64 (askE l0 l1 wg)]) ∧ Below w.heap.size w w' := by
 have hu35 := Try.underlying35
 have hu55 := Try.underlying55
 have HT := Aside0.mk ht
 have HE := Aside0.mk he
 clear ht he
 have HB := Aside0.mk (Below.refl w.heap.size w)
 go_enter Try.func29, Try.ntmps29
 go_wp2_with (first | ((with_reducible refine gate_dst (N := 1) rfl ?_); refine sbox (N := 1) #[.slice A0 l0.length c0, .slice A1 l1.length c1, .int .i64 wg] 35 ?_; intro g1 hg W_ hbox hb; have GEg1 := Aside0.mk (by rw [hg]; exact HB.out.size : w.heap.size ≤ g1); replace HB := Aside0.mk (below_step HB.out hb); have BKg1 := Aside0.mk hbox; clear hb hbox hg; have hcz0 := sc 0 BKg1; have hcz1 := sc 1 BKg1; have hcz2 := sc 2 BKg1) | (go_at_call 68; go_must (refine (asked_e wg (HT.out.below HB.out) HE.out).mono ?_; rintro e W_ ⟨rfl, hb⟩; replace BKg1 := Aside0.mk (blk_below BKg1.out hb); replace HB := Aside0.mk (below_step HB.out hb); try (clear hcz0 hcz1 hcz2); clear hb; have he := HE.out; generalize hec : askE l0 l1 wg = ec at *; have hne : (ec == (0 : Int)) = false := (by simpa using he))))
 go_ret3
 exact ⟨by rw [hec]; rfl, HB.out⟩
set_option maxHeartbeats 4000000 in
set_option maxRecDepth 100000 in
theorem First_e {A0 : Option Addr} {c0 : Nat} {l0 : List S109} {A1 : Option Addr} {c1 : Nat} {l1 : List S110} (wg : Int) {w : World} (ht : Tab A0 c0 l0 A1 c1 l1 w) (he : checkT l0 l1 wg ≠ 0) :
  Calls Try.prog 31 #[.agg #[.slice A0 l0.length c0, .slice A1 l1.length c1, .int .i64 wg]] w fun e w' => e = .returned (.tuple #[.int .i64 0, .int .i64 (checkT l0 l1 wg)]) ∧ Below w.heap.size w w' := by
 have hu35 := Try.underlying35
 have hu55 := Try.underlying55
 have HT := Aside0.mk ht
 have HE := Aside0.mk he
 clear ht he
 have HB := Aside0.mk (Below.refl w.heap.size w)
 go_enter Try.func31, Try.ntmps31
 go_wp2_with (first | ((with_reducible refine gate_dst (N := 1) rfl ?_); refine sbox (N := 1) #[.slice A0 l0.length c0, .slice A1 l1.length c1, .int .i64 wg] 35 ?_; intro g1 hg W_ hbox hb; have GEg1 := Aside0.mk (by rw [hg]; exact HB.out.size : w.heap.size ≤ g1); replace HB := Aside0.mk (below_step HB.out hb); have BKg1 := Aside0.mk hbox; clear hb hbox hg; have hcz0 := sc 0 BKg1; have hcz1 := sc 1 BKg1; have hcz2 := sc 2 BKg1) | (go_at_call 61; go_must (refine (check_calls wg (HT.out.below HB.out)).mono ?_; rintro e W_ ⟨rfl, hb⟩; replace BKg1 := Aside0.mk (blk_below BKg1.out hb); replace HB := Aside0.mk (below_step HB.out hb); try (clear hcz0 hcz1 hcz2); clear hb; have he := HE.out; generalize hec : checkT l0 l1 wg = ec at *; have hne : (ec == (0 : Int)) = false := (by simpa using he))))
 go_ret2
 exact ⟨by rw [hec]; rfl, HB.out⟩
set_option maxHeartbeats 4000000 in
set_option maxRecDepth 100000 in
theorem Leave_e {A0 : Option Addr} {c0 : Nat} {l0 : List S109} {A1 : Option Addr} {c1 : Nat} {l1 : List S110} (wg : Int) {w : World} (ht : Tab A0 c0 l0 A1 c1 l1 w) (he : checkT l0 l1 wg ≠ 0) :
  Calls Try.prog 32 #[.agg #[.slice A0 l0.length c0, .slice A1 l1.length c1, .int .i64 wg]] w fun e w' => e = .returned (.tuple #[.slice none 0 0, .int .i64 (checkT l0 l1 wg)]) ∧ Below w.heap.size w w' := by
 have hu35 := Try.underlying35
 have hu55 := Try.underlying55
 have HT := Aside0.mk ht
 have HE := Aside0.mk he
 clear ht he
 have HB := Aside0.mk (Below.refl w.heap.size w)
 go_enter Try.func32, Try.ntmps32
 go_wp2_with (first | ((with_reducible refine gate_dst (N := 1) rfl ?_); refine sbox (N := 1) #[.slice A0 l0.length c0, .slice A1 l1.length c1, .int .i64 wg] 35 ?_; intro g1 hg W_ hbox hb; have GEg1 := Aside0.mk (by rw [hg]; exact HB.out.size : w.heap.size ≤ g1); replace HB := Aside0.mk (below_step HB.out hb); have BKg1 := Aside0.mk hbox; clear hb hbox hg; have hcz0 := sc 0 BKg1; have hcz1 := sc 1 BKg1; have hcz2 := sc 2 BKg1))
 refine wp_scope_straight ?_
 go_wp2_with (first | (go_at_call 61; go_must (refine (check_calls wg (HT.out.below HB.out)).mono ?_; rintro e W_ ⟨rfl, hb⟩; replace BKg1 := Aside0.mk (blk_below BKg1.out hb); replace HB := Aside0.mk (below_step HB.out hb); try (clear hcz0 hcz1 hcz2); clear hb; have he := HE.out; generalize hec : checkT l0 l1 wg = ec at *; have hne : (ec == (0 : Int)) = false := (by simpa using he))))
 simp only [Exit.noGoto]
 go_ret2
 exact ⟨by rw [hec]; rfl, HB.out⟩
end Go.Proofs.Ytnbbbeghgomnoaa.X
namespace Go.Proofs.Ytnbbbeghgomnoaa.X
open Go.RowKit Go.Proofs.YtnbbbeghgomnoaaW.PrintWords Go.Proofs.YtnbbbeghgomnoaaW.PrintLast Go.Proofs.YtnbbbeghgomnoaaW.PrintMore
def verdL (r : Int × Int) : Int := if 0 < r.1 then 1 else if r.2 = 0 then 2 else 3
def missL (l1 : List S110) (ts : List (List Int)) (m : Nat) : List Int := (List.range m).map fun (k : Nat) => verdL (boundsL (fun x => missN l1 (pad x) (k : Int)) ts)
theorem missL_len (l1 : List S110) (ts : List (List Int)) (m : Nat) : (missL l1 ts m).length = m := by simp [missL]
theorem missL_succ (l1 : List S110) (ts : List (List Int)) (m : Nat) : missL l1 ts (m + 1) = missL l1 ts m ++ [verdL (boundsL (fun x => missN l1 (pad x) (m : Int)) ts)] := by
 unfold missL
 rw [List.range_succ, List.map_append]; rfl
set_option maxHeartbeats 4000000 in
set_option maxRecDepth 100000 in
theorem Misses_ok {A0 : Option Addr} {c0 : Nat} {l0 : List S109} {A1 : Option Addr} {c1 : Nat} {l1 : List S110} (wg : Int) {w : World} (ht : Tab A0 c0 l0 A1 c1 l1 w) (he : askE l0 l1 wg = 0) :
  Calls Try.prog 27 #[.agg #[.slice A0 l0.length c0, .slice A1 l1.length c1, .int .i64 wg]] w fun e w' => ∃ v, e = .returned (.tuple #[v, .int .i64 0]) ∧ Kd.R (Kd.int .i64) 3 w' w.heap.size (fun _ => True) v (missL l1 (truthsL l0 l1 wg) l0.length) ∧ Below w.heap.size w w' := by
 have hu35 := Try.underlying35
 have hu55 := Try.underlying55
 have HT := Aside0.mk ht
 have HE := Aside0.mk he
 clear ht he
 obtain ⟨hck, htn⟩ := askE_zero HE.out
 have HTN := Aside0.mk htn
 have HN0 := Aside0.mk (checkT_zero hck).n0
 have HN1 := Aside0.mk (checkT_zero hck).n1
 have HTL := Aside0.mk (truths_len wg (checkT_zero hck).n0 (checkT_zero hck).n1)
 clear hck htn
 have HB := Aside0.mk (Below.refl w.heap.size w)
 go_enter Try.func27, Try.ntmps27
 go_wp2_with (first | ((with_reducible refine gate_dst (N := 1) rfl ?_); refine sbox (N := 1) #[.slice A0 l0.length c0, .slice A1 l1.length c1, .int .i64 wg] 35 ?_; intro g1 hg W_ hbox hb; have GEg1 := Aside0.mk (by rw [hg]; exact HB.out.size : w.heap.size ≤ g1); replace HB := Aside0.mk (below_step HB.out hb); have BKg1 := Aside0.mk hbox; clear hb hbox hg; have hcz0 := sc 0 BKg1; have hcz1 := sc 1 BKg1; have hcz2 := sc 2 BKg1) | (go_at_call 68; go_must (refine (asked_ok wg (HT.out.below HB.out) HE.out).mono ?_; rintro e W_ ⟨gw, gm, At, ct, rfl, hwk, hb⟩; replace BKg1 := Aside0.mk (blk_below BKg1.out hb); replace HB := Aside0.mk (below_step HB.out hb); try (clear hcz0 hcz1 hcz2); have HK := Aside0.mk hwk; clear hb hwk; have hcz0 := sc 0 BKg1; have hcz1 := sc 1 BKg1; have hcz2 := sc 2 BKg1)))
 obtain ⟨W1, hW1⟩ : ∃ W1 : World, W1 = W_ := ⟨_, rfl⟩
 subst hW1
 clear hcz0 hcz1 hcz2
 have HZ1 := Aside0.mk HB.out.size
 go_loopg [6, 21] l0.length (fun kq v6 v21 w' => ∃ m : Nat, v21 = .int .i64 (m : Int) ∧ Aside0 (m + kq = l0.length) ∧ Aside0 (Kd.R (Kd.int .i64) 3 w' W1.heap.size (fun _ => True) v6 (missL l1 (truthsL l0 l1 wg) m)) ∧ Aside0 (Below W1.heap.size W1 w'))
 case atStart => exact ⟨0, rfl, ⟨Nat.zero_add _⟩, ⟨Kd.R_nil _ _ _ _ _⟩, ⟨Below.refl _ _⟩⟩
 case round =>
  obtain ⟨m, rfl, HM, HO, HB1⟩ := hrel
  have hn0 := HN0.out
  by_cases hlt : m < l0.length
  ·cases gk with
   | zero => have := HM.out; omega
   | succ k1 =>
   obtain ⟨r, hr⟩ : ∃ r, boundsL (fun x => missN l1 (pad x) (m : Int)) (truthsL l0 l1 wg) = r := ⟨_, rfl⟩
   have HVD := Aside0.mk (show verdL (boundsL (fun x => missN l1 (pad x) (m : Int)) (truthsL l0 l1 wg)) = verdL r from by rw [hr])
   have HRR := Aside0.mk hr
   clear hr
   obtain ⟨rl, rh⟩ := r
   by_cases h1 : 0 < rl
   ·have h1d : decide (0 < rl) = true := by simpa using h1
    have HV := Aside0.mk (show verdL (rl, rh) = 1 from by unfold verdL; rw [if_pos h1])
    go_wp2_with (first | (go_at_call 71; go_must (refine (bounds_missed (m : Int) (HK.out.below HB1.out) (Kd.C_below HT.out.r1 (below_step HB.out HB1.out)) HN1.out HTN.out HTL.out).mono ?_; rintro e W_ ⟨rfl, hb⟩; replace HB1 := Aside0.mk (below_step HB1.out hb); replace HO := Aside0.mk (Kd.R_below HO.out hb); clear hb; rw [HRR.out])) | ((with_reducible refine gate_builtin (b := .append) (xs := #[.tmp 36, .tmp 38]) rfl ?_); go_must (at_builtin; refine Kd.R_append (Kd.int .i64) (w0 := W1) W1.heap.size rfl (.tmp 36) (.tmp 38) 39 3 (.int .i64 0) 8 rfl Try.underlying39 info3 rfl (by decide) (by omega) u6 (missL l1 (truthsL l0 l1 wg) m) 1 [.int .i64 (1)] (fun _ => True) (fun _ => False) rfl (congrArg (fun n => Value.slice (some ⟨n, 0, none⟩) 1 1) (World.size_alloc _ _).symm) ?aP (fun _ hk => hk.elim) ?aF ?aO ?aB ?aS ?aL ?_; (case aP => exact rfl); (case aB => exact (by repeat (first | exact HB1.out | apply below_alloc | apply pw_below_drewN | apply below_drew1))); (case aF => exact (fun _ _ => trivial)); (case aO => exact (sR HO)); (case aS => exact (by repeat (first | exact HB1.out | apply below_alloc | apply pw_below_drewN | apply below_drew1) : Below W1.heap.size W1 _).size); (case aL => exact (by rw [missL_len]; omega)); intro v39 W_ ho hb hg hat; have HO_ := Aside0.mk ho; have HB_ := Aside0.mk hb; clear ho hb hg hat HO HB1; have HO := HO_; have HB1 := HB_; clear HO_ HB_)))
    go_roundg k1
    case measure => omega
    case rel => exact ⟨m + 1, by go_num, ⟨by have := HM.out; omega⟩, ⟨by rw [missL_succ, HVD.out, HV.out]; exact HO.out⟩, HB1⟩
   ·have h1d : decide (0 < rl) = false := by simpa using h1
    by_cases h2 : rh = 0
    ·have h2d : (rh == 0) = true := by simpa using h2
     have HV := Aside0.mk (show verdL (rl, rh) = 2 from by unfold verdL; rw [if_neg h1, if_pos h2])
     go_wp2_with (first | (go_at_call 71; go_must (refine (bounds_missed (m : Int) (HK.out.below HB1.out) (Kd.C_below HT.out.r1 (below_step HB.out HB1.out)) HN1.out HTN.out HTL.out).mono ?_; rintro e W_ ⟨rfl, hb⟩; replace HB1 := Aside0.mk (below_step HB1.out hb); replace HO := Aside0.mk (Kd.R_below HO.out hb); clear hb; rw [HRR.out])) | ((with_reducible refine gate_builtin (b := .append) (xs := #[.tmp 36, .tmp 38]) rfl ?_); go_must (at_builtin; refine Kd.R_append (Kd.int .i64) (w0 := W1) W1.heap.size rfl (.tmp 36) (.tmp 38) 39 3 (.int .i64 0) 8 rfl Try.underlying39 info3 rfl (by decide) (by omega) u6 (missL l1 (truthsL l0 l1 wg) m) 2 [.int .i64 (2)] (fun _ => True) (fun _ => False) rfl (congrArg (fun n => Value.slice (some ⟨n, 0, none⟩) 1 1) (World.size_alloc _ _).symm) ?aP (fun _ hk => hk.elim) ?aF ?aO ?aB ?aS ?aL ?_; (case aP => exact rfl); (case aB => exact (by repeat (first | exact HB1.out | apply below_alloc | apply pw_below_drewN | apply below_drew1))); (case aF => exact (fun _ _ => trivial)); (case aO => exact (sR HO)); (case aS => exact (by repeat (first | exact HB1.out | apply below_alloc | apply pw_below_drewN | apply below_drew1) : Below W1.heap.size W1 _).size); (case aL => exact (by rw [missL_len]; omega)); intro v39 W_ ho hb hg hat; have HO_ := Aside0.mk ho; have HB_ := Aside0.mk hb; clear ho hb hg hat HO HB1; have HO := HO_; have HB1 := HB_; clear HO_ HB_)))
     go_roundg k1
     case measure => omega
     case rel => exact ⟨m + 1, by go_num, ⟨by have := HM.out; omega⟩, ⟨by rw [missL_succ, HVD.out, HV.out]; exact HO.out⟩, HB1⟩
    ·have h2d : (rh == 0) = false := by simpa using h2
     have HV := Aside0.mk (show verdL (rl, rh) = 3 from by unfold verdL; rw [if_neg h1, if_neg h2])
     go_wp2_with (first | (go_at_call 71; go_must (refine (bounds_missed (m : Int) (HK.out.below HB1.out) (Kd.C_below HT.out.r1 (below_step HB.out HB1.out)) HN1.out HTN.out HTL.out).mono ?_; rintro e W_ ⟨rfl, hb⟩; replace HB1 := Aside0.mk (below_step HB1.out hb); replace HO := Aside0.mk (Kd.R_below HO.out hb); clear hb; rw [HRR.out])) | ((with_reducible refine gate_builtin (b := .append) (xs := #[.tmp 36, .tmp 38]) rfl ?_); go_must (at_builtin; refine Kd.R_append (Kd.int .i64) (w0 := W1) W1.heap.size rfl (.tmp 36) (.tmp 38) 39 3 (.int .i64 0) 8 rfl Try.underlying39 info3 rfl (by decide) (by omega) u6 (missL l1 (truthsL l0 l1 wg) m) 3 [.int .i64 (3)] (fun _ => True) (fun _ => False) rfl (congrArg (fun n => Value.slice (some ⟨n, 0, none⟩) 1 1) (World.size_alloc _ _).symm) ?aP (fun _ hk => hk.elim) ?aF ?aO ?aB ?aS ?aL ?_; (case aP => exact rfl); (case aB => exact (by repeat (first | exact HB1.out | apply below_alloc | apply pw_below_drewN | apply below_drew1))); (case aF => exact (fun _ _ => trivial)); (case aO => exact (sR HO)); (case aS => exact (by repeat (first | exact HB1.out | apply below_alloc | apply pw_below_drewN | apply below_drew1) : Below W1.heap.size W1 _).size); (case aL => exact (by rw [missL_len]; omega)); intro v39 W_ ho hb hg hat; have HO_ := Aside0.mk ho; have HB_ := Aside0.mk hb; clear ho hb hg hat HO HB1; have HO := HO_; have HB1 := HB_; clear HO_ HB_)))
     go_roundg k1
     case measure => omega
     case rel => exact ⟨m + 1, by go_num, ⟨by have := HM.out; omega⟩, ⟨by rw [missL_succ, HVD.out, HV.out]; exact HO.out⟩, HB1⟩
  ·go_wp2
   go_ret2
   obtain rfl : m = l0.length := by have := HM.out; omega
   exact ⟨_, rfl, Kd.R_lower HO.out HZ1.out, below_step HB.out HB1.out⟩
end Go.Proofs.Ytnbbbeghgomnoaa.X
namespace Go.Proofs.Ytnbbbeghgomnoaa.X
open Go.RowKit Go.Proofs.YtnbbbeghgomnoaaW.PrintWords Go.Proofs.YtnbbbeghgomnoaaW.PrintLast Go.Proofs.YtnbbbeghgomnoaaW.PrintMore
def mostL (n1 : Nat) (ts : List (List Int)) (i : Int) (m : Nat) : Int := (List.range m).foldl (fun a (k : Nat) => mx a (manyS n1 ts i (k : Int))) 0
theorem mostL_succ (n1 : Nat) (ts : List (List Int)) (i : Int) (m : Nat) : mostL n1 ts i (m + 1) = mx (mostL n1 ts i m) (manyS n1 ts i (m : Int)) := by
 unfold mostL
 rw [List.range_succ, List.foldl_append]; rfl
def lookL (n0 n1 : Nat) (ts : List (List Int)) (m : Nat) : Int × Int := (List.range m).foldl (fun r (i : Nat) => if mostL n1 ts (i : Int) n0 < r.2 then ((i : Int), mostL n1 ts (i : Int) n0) else r) (0, (ts.length : Int) + 1)
theorem lookL_succ (n0 n1 : Nat) (ts : List (List Int)) (m : Nat) : lookL n0 n1 ts (m + 1) = if mostL n1 ts (m : Int) n0 < (lookL n0 n1 ts m).2 then ((m : Int), mostL n1 ts (m : Int) n0) else lookL n0 n1 ts m := by
 unfold lookL
 rw [List.range_succ, List.foldl_append]; rfl
attribute [local go_sem] max2_int min2_int max_two min_two
set_option maxHeartbeats 4000000 in
set_option maxRecDepth 100000 in
theorem Look_none {A0 : Option Addr} {c0 : Nat} {l0 : List S109} {A1 : Option Addr} {c1 : Nat} {l1 : List S110} (wg : Int) {w : World} (ht : Tab A0 c0 l0 A1 c1 l1 w) (he : askE l0 l1 wg = 0) (hp : l1.length = 0) :
  Calls Try.prog 29 #[.agg #[.slice A0 l0.length c0, .slice A1 l1.length c1, .int .i64 wg]] w fun e w' => e = .returned (.tuple #[.int .i64 0, .int .i64 0, .int .i64 7]) ∧ Below w.heap.size w w' := by
 have hu35 := Try.underlying35
 have hu55 := Try.underlying55
 have HT := Aside0.mk ht
 have HE := Aside0.mk he
 have hpd : ((l1.length : Int) == 0) = true := (by rw [hp]; rfl)
 clear ht he hp
 obtain ⟨hck, htn⟩ := askE_zero HE.out
 have HTN := Aside0.mk htn
 have HN0 := Aside0.mk (checkT_zero hck).n0
 have HN1 := Aside0.mk (checkT_zero hck).n1
 have HTL := Aside0.mk (truths_len wg (checkT_zero hck).n0 (checkT_zero hck).n1)
 clear hck htn
 have HB := Aside0.mk (Below.refl w.heap.size w)
 go_enter Try.func29, Try.ntmps29
 go_wp2_with (first | ((with_reducible refine gate_dst (N := 1) rfl ?_); refine sbox (N := 1) #[.slice A0 l0.length c0, .slice A1 l1.length c1, .int .i64 wg] 35 ?_; intro g1 hg W_ hbox hb; have GEg1 := Aside0.mk (by rw [hg]; exact HB.out.size : w.heap.size ≤ g1); replace HB := Aside0.mk (below_step HB.out hb); have BKg1 := Aside0.mk hbox; clear hb hbox hg; have hcz0 := sc 0 BKg1; have hcz1 := sc 1 BKg1; have hcz2 := sc 2 BKg1) | (go_at_call 68; go_must (refine (asked_ok wg (HT.out.below HB.out) HE.out).mono ?_; rintro e W_ ⟨gw, gm, At, ct, rfl, hwk, hb⟩; replace BKg1 := Aside0.mk (blk_below BKg1.out hb); replace HB := Aside0.mk (below_step HB.out hb); try (clear hcz0 hcz1 hcz2); have HK := Aside0.mk hwk; clear hb hwk; have hcz0 := sc 0 BKg1; have hcz1 := sc 1 BKg1; have hcz2 := sc 2 BKg1)))
 go_ret3
 exact ⟨rfl, HB.out⟩
set_option maxHeartbeats 4000000 in
set_option maxRecDepth 100000 in
theorem Look_ok {A0 : Option Addr} {c0 : Nat} {l0 : List S109} {A1 : Option Addr} {c1 : Nat} {l1 : List S110} (wg : Int) {w : World} (ht : Tab A0 c0 l0 A1 c1 l1 w) (he : askE l0 l1 wg = 0) (hp : l1.length ≠ 0) :
  Calls Try.prog 29 #[.agg #[.slice A0 l0.length c0, .slice A1 l1.length c1, .int .i64 wg]] w fun e w' => e = .returned (.tuple #[.int .i64 (lookL l0.length l1.length (truthsL l0 l1 wg) l1.length).1, .int .i64 (lookL l0.length l1.length (truthsL l0 l1 wg) l1.length).2, .int .i64 0]) ∧ Below w.heap.size w w' := by
 have hu35 := Try.underlying35
 have hu55 := Try.underlying55
 have HT := Aside0.mk ht
 have HE := Aside0.mk he
 have hpd : ((l1.length : Int) == 0) = false := (by simp; intro h; exact hp (by rw [h]; rfl))
 clear ht he hp
 obtain ⟨hck, htn⟩ := askE_zero HE.out
 have HTN := Aside0.mk htn
 have HN0 := Aside0.mk (checkT_zero hck).n0
 have HN1 := Aside0.mk (checkT_zero hck).n1
 have HTL := Aside0.mk (truths_len wg (checkT_zero hck).n0 (checkT_zero hck).n1)
 clear hck htn
 have HB := Aside0.mk (Below.refl w.heap.size w)
 go_enter Try.func29, Try.ntmps29
 go_wp2_with (first | ((with_reducible refine gate_dst (N := 1) rfl ?_); refine sbox (N := 1) #[.slice A0 l0.length c0, .slice A1 l1.length c1, .int .i64 wg] 35 ?_; intro g1 hg W_ hbox hb; have GEg1 := Aside0.mk (by rw [hg]; exact HB.out.size : w.heap.size ≤ g1); replace HB := Aside0.mk (below_step HB.out hb); have BKg1 := Aside0.mk hbox; clear hb hbox hg; have hcz0 := sc 0 BKg1; have hcz1 := sc 1 BKg1; have hcz2 := sc 2 BKg1) | (go_at_call 68; go_must (refine (asked_ok wg (HT.out.below HB.out) HE.out).mono ?_; rintro e W_ ⟨gw, gm, At, ct, rfl, hwk, hb⟩; replace BKg1 := Aside0.mk (blk_below BKg1.out hb); replace HB := Aside0.mk (below_step HB.out hb); try (clear hcz0 hcz1 hcz2); have HK := Aside0.mk hwk; obtain ⟨nt, hnt⟩ : ∃ nt : Nat, (truthsL l0 l1 wg).length = nt := ⟨_, rfl⟩; have hct : W_.cell? ⟨gw, 3, none⟩ = some (.slice At nt ct) := (blk_cell hwk.kw 3).trans (by rw [← hnt]; rfl); have hcm : W_.cell? ⟨gw, 4, none⟩ = some (.map (some gm)) := (blk_cell hwk.kw 4).trans rfl; have hntl : nt ≤ 78125 := (by rw [← hnt]; exact HTL.out); have HNT := Aside0.mk hnt; clear hnt; clear hb hwk; have hcz0 := sc 0 BKg1; have hcz1 := sc 1 BKg1; have hcz2 := sc 2 BKg1)))
 obtain ⟨W1, hW1⟩ : ∃ W1 : World, W1 = W_ := ⟨_, rfl⟩
 subst hW1
 have hn1 := HN1.out
 have hn0 := HN0.out
 go_loopg [2, 3, 30] l1.length (fun kq v2 v3 v30 w' => ∃ m : Nat, v30 = .int .i64 (m : Int) ∧ v2 = .int .i64 (lookL l0.length l1.length (truthsL l0 l1 wg) m).1 ∧ v3 = .int .i64 (lookL l0.length l1.length (truthsL l0 l1 wg) m).2 ∧ Aside0 (m + kq = l1.length) ∧ w' = W1)
 case atStart => exact ⟨0, rfl, rfl, (by rw [show (lookL l0.length l1.length (truthsL l0 l1 wg) 0).2 = (nt : Int) + 1 from by rw [← HNT.out]; rfl]), ⟨Nat.zero_add _⟩, rfl⟩
 case round =>
  obtain ⟨m, rfl, rfl, rfl, HM, hw_⟩ := hrel
  subst hw_
  have HLS := Aside0.mk (lookL_succ l0.length l1.length (truthsL l0 l1 wg) m)
  generalize hlk : lookL l0.length l1.length (truthsL l0 l1 wg) m = lk at *
  have HLK := Aside0.mk hlk
  clear hlk
  obtain ⟨lp, ll⟩ := lk
  dsimp only
  by_cases hlt : m < l1.length
  ·cases gk with
   | zero => have := HM.out; omega
   | succ k1 =>
   go_wp2
   go_loopg [7, 36] l0.length (fun kq v7 v36 w' => ∃ k : Nat, v36 = .int .i64 (k : Int) ∧ v7 = .int .i64 (mostL l1.length (truthsL l0 l1 wg) (m : Int) k) ∧ Aside0 (k + kq = l0.length) ∧ w' = wr)
   case atStart => exact ⟨0, rfl, rfl, ⟨Nat.zero_add _⟩, rfl⟩
   case round =>
    obtain ⟨k, rfl, rfl, HM2, hw_⟩ := hrel
    subst hw_
    have HMS := Aside0.mk (mostL_succ l1.length (truthsL l0 l1 wg) (m : Int) k)
    generalize hml : mostL l1.length (truthsL l0 l1 wg) (m : Int) k = ml at *
    have HML := Aside0.mk hml
    clear hml
    by_cases hlt2 : k < l0.length
    ·cases gk with
     | zero => have := HM2.out; omega
     | succ k2 =>
     obtain ⟨L, hmp, hgl⟩ := HK.out.mp
     have hlu := lookup_run wr gm L ((m : Int), (k : Int)) hmp
     rw [hgl] at hlu
     unfold spv at hlu
     dsimp only at hlu
     generalize manyS l1.length (truthsL l0 l1 wg) (m : Int) (k : Int) = cv at *
     obtain ⟨mm, hmm⟩ : ∃ mm, (if ml < cv then cv else ml) = mm := ⟨_, rfl⟩
     have HMM := Aside0.mk hmm
     clear hmp hgl
     go_wp2
     go_roundg k2
     case measure => omega
     case rel => exact ⟨k + 1, by go_num, by rw [HMS.out, show mx ml cv = mm from HMM.out], ⟨by have := HM2.out; omega⟩, rfl⟩
    ·obtain rfl : k = l0.length := by have := HM2.out; omega
     by_cases hl : ml < ll
     ·have hld : decide (ml < ll) = true := by simpa using hl
      go_wp2
      go_roundg k1
      case measure => omega
      case rel => exact ⟨m + 1, by go_num, by rw [HLS.out, HML.out, if_pos hl], by rw [HLS.out, HML.out, if_pos hl], ⟨by have := HM.out; omega⟩, rfl⟩
     ·have hld : decide (ml < ll) = false := by simpa using hl
      have HLL := Aside0.mk hl
      clear hl
      go_wp2
      go_roundg k1
      case measure => omega
      case rel => exact ⟨m + 1, by go_num, by rw [HLS.out, HML.out, if_neg (by have := HLL.out; omega)], by rw [HLS.out, HML.out, if_neg (by have := HLL.out; omega)], ⟨by have := HM.out; omega⟩, rfl⟩
  ·go_wp2
   go_ret3
   obtain rfl : m = l1.length := by have := HM.out; omega
   exact ⟨by rw [HLK.out]; rfl, HB.out⟩
end Go.Proofs.Ytnbbbeghgomnoaa.X
namespace Go.Proofs.Ytnbbbeghgomnoaa.X
open Go.RowKit Go.Proofs.YtnbbbeghgomnoaaW.PrintWords Go.Proofs.YtnbbbeghgomnoaaW.PrintLast Go.Proofs.YtnbbbeghgomnoaaW.PrintMore
def knil : Kd Unit := Kd.scalar (fun _ => .slice none 0 0) (fun _ => rfl)
structure WhO (b go n cap i : Nat) (rows : Nat → List Int) (W : World) : Prop where
 bg : b ≤ go
 nc : n ≤ cap
 cm : cap ≤ maxLen
 ex : ∃ cur : Array Value, W.heap[go]? = some (.cells cur 39 (0, 0)) ∧ cur.size = cap ∧ (∀ j, j < i → ∃ u, cur[j]? = some u ∧ Kd.R (Kd.int .i64) 3 W b (fun k => k ≠ go) u (rows j)) ∧ ∀ j, i ≤ j → j < n → cur[j]? = some (.slice none 0 0)
structure WhI (b go n cap i : Nat) (rows : Nat → List Int) (vc : Value) (cr : List Int) (W : World) : Prop where
 bg : b ≤ go
 nc : n ≤ cap
 cm : cap ≤ maxLen
 ex : ∃ cur : Array Value, W.heap[go]? = some (.cells cur 39 (0, 0)) ∧ cur.size = cap ∧ cur[i]? = some vc ∧ (∀ j, j < i → ∃ u, cur[j]? = some u ∧ Kd.R (Kd.int .i64) 3 W b (fun k => k ≠ go ∧ some k ≠ vc.ownBlock) u (rows j)) ∧ (∀ j, i < j → j < n → cur[j]? = some (.slice none 0 0)) ∧ Kd.R (Kd.int .i64) 3 W b (fun k => k ≠ go) vc cr
theorem WhO.open_ {b go n cap i : Nat} {rows : Nat → List Int} {W : World} (h : WhO b go n cap i rows W) (hi : i < n) : WhI b go n cap i rows (.slice none 0 0) [] W := by
 obtain ⟨cur, h1, h2, h3, h4⟩ := h.ex
 exact ⟨h.bg, h.nc, h.cm, cur, h1, h2, h4 i (Nat.le_refl _) hi, fun j hj => by
  obtain ⟨u, hu, hr⟩ := h3 j hj
  exact ⟨u, hu, Kd.R_mono hr (fun k hk => ⟨hk, by simp [Value.ownBlock]⟩)⟩, fun j hj => h4 j (by omega), Kd.R_nil _ _ _ _ _⟩
theorem WhI.close {b go n cap i : Nat} {rows : Nat → List Int} {vc : Value} {cr : List Int} {W : World} (h : WhI b go n cap i rows vc cr W) (hr : rows i = cr) : WhO b go n cap (i + 1) rows W := by
 obtain ⟨cur, h1, h2, h3, h4, h5, h6⟩ := h.ex
 refine ⟨h.bg, h.nc, h.cm, cur, h1, h2, fun j hj => ?_, fun j hj => h5 j (by omega)⟩
 by_cases he : j = i
 ·subst he; exact ⟨vc, h3, by rw [hr]; exact h6⟩
 ·obtain ⟨u, hu, hr⟩ := h4 j (by omega)
  exact ⟨u, hu, Kd.R_mono hr (fun k hk => hk.1)⟩
theorem WhO.start {b : Nat} {W : World} {v : Value} {n : Nat} (h : knil.R 39 W b (fun _ => True) v (List.replicate n ())) (hn : 0 < n) (rows : Nat → List Int) : ∃ go cap, v = .slice (some ⟨go, 0, none⟩) n cap ∧ WhO b go n cap 0 rows W := by
 have ho := Kd.own_of_R h
 rw [List.length_replicate] at ho
 obtain ⟨h1, h2⟩ := ho
 rcases h2 with ⟨_, h2⟩ | ⟨g, cap, cur, rfl, hb, hh, hc, hm, hs, ht⟩
 ·omega
 ·refine ⟨g, cap, rfl, hb, hc, hm, cur, hh, by omega, fun j hj => absurd hj (by omega), fun j _ hj => ?_⟩
  have : (cur.toList.take (n * 1))[j]? = some (.slice none 0 0) := by
   rw [ht]
   simp [encs, hj]
  rw [List.getElem?_take_of_lt (by omega)] at this
  simpa using this
theorem WhI.below {b go n cap i : Nat} {rows : Nat → List Int} {vc : Value} {cr : List Int} {W W' : World} (h : WhI b go n cap i rows vc cr W) (hb : Below W.heap.size W W') : WhI b go n cap i rows vc cr W' := by
 obtain ⟨cur, h1, h2, h3, h4, h5, h6⟩ := h.ex
 exact ⟨h.bg, h.nc, h.cm, cur, blk_below h1 hb, h2, h3, fun j hj => by
  obtain ⟨u, hu, hr⟩ := h4 j hj
  exact ⟨u, hu, Kd.R_below hr hb⟩, h5, Kd.R_below h6 hb⟩
theorem WhO.below {b go n cap i : Nat} {rows : Nat → List Int} {W W' : World} (h : WhO b go n cap i rows W) (hb : Below W.heap.size W W') : WhO b go n cap i rows W' := by
 obtain ⟨cur, h1, h2, h3, h4⟩ := h.ex
 exact ⟨h.bg, h.nc, h.cm, cur, blk_below h1 hb, h2, fun j hj => by
  obtain ⟨u, hu, hr⟩ := h3 j hj
  exact ⟨u, hu, Kd.R_below hr hb⟩, h4⟩
theorem WhI.put {b go n cap i : Nat} {rows : Nat → List Int} {vc v1 : Value} {cr cr' : List Int} {W w1 : World} (h : WhI b go n cap i rows vc cr W) (hi : i < n) (ho : Kd.R (Kd.int .i64) 3 w1 b (fun k => k ≠ go) v1 cr') (hg : W.grownBy w1 vc.ownBlock) (hat : v1.ownBlock = vc.ownBlock ∨ ∃ b, v1.ownBlock = some b ∧ W.heap.size ≤ b) :
  WhI b go n cap i rows v1 cr' (w1.setCell ⟨go, i, none⟩ v1) := by
 obtain ⟨cur, h1, h2, h3, h4, h5, h6⟩ := h.ex
 have hne : some go ≠ vc.ownBlock := fun e => (h6.1 go e.symm) rfl
 refine ⟨h.bg, h.nc, h.cm, _, blk_set (blk_grown h1 hg hne) i v1, by simpa using h2, ?_, fun j hj => ?_, fun j hj hjn => ?_, Kd.R_far (p := ⟨go, i, none⟩) ho (fun k hk => hk) _⟩
 ·rw [Array.getElem?_setIfInBounds_self]; simp [h2]; have := h.nc; omega
 ·obtain ⟨u, hu, hr⟩ := h4 j hj
  refine ⟨u, ?_, Kd.R_far (p := ⟨go, i, none⟩) (Kd.R_after hr hg hat) (fun k hk => hk.1) _⟩
  rw [Array.getElem?_setIfInBounds_ne (by omega)]; exact hu
 ·rw [Array.getElem?_setIfInBounds_ne (by omega)]; exact h5 j hj hjn
theorem WhI.cell {b go n cap i : Nat} {rows : Nat → List Int} {vc : Value} {cr : List Int} {W : World} (h : WhI b go n cap i rows vc cr W) : W.cell? ⟨go, i, none⟩ = some vc ∧ W.frozen? ⟨go, i, none⟩ = false ∧ Kd.R (Kd.int .i64) 3 W b (fun k => k ≠ go) vc cr ∧ go < W.heap.size := by
 obtain ⟨cur, h1, h2, h3, h4, h5, h6⟩ := h.ex
 exact ⟨(blk_cell h1 i).trans h3, blk_frozen h1 i, h6, blk_lt h1⟩
theorem WhI.grown_cell {b go n cap i : Nat} {rows : Nat → List Int} {vc : Value} {cr : List Int} {W w1 : World} (h : WhI b go n cap i rows vc cr W) (hg : W.grownBy w1 vc.ownBlock) : w1.cell? ⟨go, i, none⟩ = some vc ∧ w1.frozen? ⟨go, i, none⟩ = false := by
 obtain ⟨cur, h1, h2, h3, h4, h5, h6⟩ := h.ex
 have hk := blk_grown h1 hg (fun e => (h6.1 go e.symm) rfl)
 exact ⟨(blk_cell hk i).trans h3, blk_frozen hk i⟩
theorem WhO.done {b go n cap : Nat} {rows : Nat → List Int} {W : World} (h : WhO b go n cap n rows W) : Kd.R (Kd.slice 3 (Kd.int .i64)) 39 W b (fun _ => True) (.slice (some ⟨go, 0, none⟩) n cap) ((List.range n).map rows) := by
 obtain ⟨cur, h1, h2, h3, _⟩ := h.ex
 have hsz : (Kd.slice 3 (Kd.int .i64)).sz = 1 := rfl
 refine ⟨fun _ _ => trivial, cur.toList.take n, ⟨by have := h.nc; rw [hsz]; simp [h2]; omega, .inr ⟨go, cap, cur, by simp, h.bg, h1, by simpa using h.nc, h.cm, by rw [hsz, h2, Nat.mul_one], by rw [hsz]; simp⟩⟩, by have := h.nc; simp [Kd.slice, h2]; omega, fun j p hj => ?_⟩
 have hjn : j < n := by
  have := (List.getElem?_eq_some_iff.1 hj).1
  simpa using this
 obtain ⟨u, hu, hr⟩ := h3 j hjn
 have hp : p = rows j := by
  rw [List.getElem?_map, List.getElem?_range hjn] at hj
  exact (Option.some.inj hj).symm
 subst hp
 refine ⟨u, ?_, Kd.R_mono hr (fun k hk => ⟨trivial, fun e => hk (by simpa [Value.ownBlock] using e)⟩)⟩
 show ((cur.toList.take n).drop (j * 1)).take 1 = [u]
 rw [Nat.mul_one]
 have hlt : j < (cur.toList.take n).length := by have := h.nc; simp [h2]; omega
 rw [List.drop_eq_getElem_cons hlt, List.take_succ_cons, List.take_zero]
 have : (cur.toList.take n)[j]? = some u := by
  rw [List.getElem?_take_of_lt hjn]
  simpa using hu
 rw [List.getElem?_eq_getElem hlt] at this
 rw [Option.some.inj this]
def whoP (n1 : Nat) (ts : List (List Int)) (i : Nat) (k : Nat) : Bool := decide (0 < manyS n1 ts (i : Int) (k : Int))
def whoseL (n0 n1 : Nat) (ts : List (List Int)) : List (List Int) := (List.range n1).map fun i => sel (whoP n1 ts i) n0
end Go.Proofs.Ytnbbbeghgomnoaa.X
namespace Go.Proofs.Ytnbbbeghgomnoaa.X
open Go.RowKit Go.Proofs.YtnbbbeghgomnoaaW.PrintWords Go.Proofs.YtnbbbeghgomnoaaW.PrintLast Go.Proofs.YtnbbbeghgomnoaaW.PrintMore
theorem knil_nil {b : Nat} {W : World} {v : Value} (h : knil.R 39 W b (fun _ => True) v (List.replicate 0 ())) : Kd.R (Kd.slice 3 (Kd.int .i64)) 39 W b (fun _ => True) v [] := by
 have h' : (Kd.scalar (fun (_ : Unit) => Value.slice none 0 0) (fun _ => rfl)).R 39 W b (fun _ => True) v [] := h
 exact ⟨fun _ _ => trivial, [], (show W.ownsRow b 39 1 v 0 [] from Kd.own_of_R h'), by simp, fun j p hj => by simp at hj⟩
set_option maxHeartbeats 4000000 in
set_option maxRecDepth 100000 in
theorem Whose_ok {A0 : Option Addr} {c0 : Nat} {l0 : List S109} {A1 : Option Addr} {c1 : Nat} {l1 : List S110} (wg : Int) {w : World} (ht : Tab A0 c0 l0 A1 c1 l1 w) (he : askE l0 l1 wg = 0) :
  Calls Try.prog 22 #[.agg #[.slice A0 l0.length c0, .slice A1 l1.length c1, .int .i64 wg]] w fun e w' => ∃ v, e = .returned (.tuple #[v, .int .i64 0]) ∧ Kd.R (Kd.slice 3 (Kd.int .i64)) 39 w' w.heap.size (fun _ => True) v (whoseL l0.length l1.length (truthsL l0 l1 wg)) ∧ Below w.heap.size w w' := by
 have hu35 := Try.underlying35
 have hu55 := Try.underlying55
 have HT := Aside0.mk ht
 have HE := Aside0.mk he
 clear ht he
 obtain ⟨hck, htn⟩ := askE_zero HE.out
 have HTN := Aside0.mk htn
 have HN0 := Aside0.mk (checkT_zero hck).n0
 have HN1 := Aside0.mk (checkT_zero hck).n1
 have HTL := Aside0.mk (truths_len wg (checkT_zero hck).n0 (checkT_zero hck).n1)
 clear hck htn
 have hn1 := HN1.out
 have hn0 := HN0.out
 have HB := Aside0.mk (Below.refl w.heap.size w)
 go_enter Try.func22, Try.ntmps22
 go_wp2_with (first | ((with_reducible refine gate_dst (N := 1) rfl ?_); refine sbox (N := 1) #[.slice A0 l0.length c0, .slice A1 l1.length c1, .int .i64 wg] 35 ?_; intro g1 hg W_ hbox hb; have GEg1 := Aside0.mk (by rw [hg]; exact HB.out.size : w.heap.size ≤ g1); replace HB := Aside0.mk (below_step HB.out hb); have BKg1 := Aside0.mk hbox; clear hb hbox hg; have hcz0 := sc 0 BKg1; have hcz1 := sc 1 BKg1; have hcz2 := sc 2 BKg1) | (go_at_call 68; go_must (refine (asked_ok wg (HT.out.below HB.out) HE.out).mono ?_; rintro e W_ ⟨gw, gm, At, ct, rfl, hwk, hb⟩; replace BKg1 := Aside0.mk (blk_below BKg1.out hb); replace HB := Aside0.mk (below_step HB.out hb); try (clear hcz0 hcz1 hcz2); have HK := Aside0.mk hwk; clear hb hwk; have hcz0 := sc 0 BKg1; have hcz1 := sc 1 BKg1; have hcz2 := sc 2 BKg1)) | ((with_reducible refine gate_dst (N := 20) rfl ?_); obtain ⟨W1, hW1⟩ : ∃ W1 : World, W1 = W_ := ⟨_, rfl⟩; subst hW1; go_must (refine Kd.R_make knil _ 39 rfl (N := 20) rfl 28 _ _ rfl (l1.length : Int) rfl rfl Try.underlying28 (.slice none 0 0) 24 info39 rfl (by decide) (by omega) () (ok := fun _ => True) (okp := fun _ => True) rfl (fun _ hk => hk) trivial (by omega) (by omega) (Below.refl _ _) (Nat.le_refl _) ?_; intro v20 Wm ho hb hg hat; rw [Int.toNat_natCast] at ho; have HO20 := Aside0.mk ho; have HBm := Aside0.mk hb; clear ho hb hg hat hcz0 hcz1 hcz2; have hcy0 : Wm.cell? ⟨g1, 0, none⟩ = some (.slice A0 l0.length c0) := (blk_cell (blk_below BKg1.out HBm.out) 0).trans rfl; obtain ⟨An, cn, en⟩ := Kd.R_slice HO20.out; rw [List.length_replicate] at en; subst en)))
 rcases Nat.eq_zero_or_pos l1.length with hz | hpos
 ·go_loopg [23] 0 (fun kq v23 w' => v23 = .int .i64 0 ∧ w' = Wm)
  case atStart => exact ⟨rfl, rfl⟩
  case round =>
   obtain ⟨rfl, hw_⟩ := hrel
   subst hw_
   have hHO := HO20.out
   rw [hz] at hHO
   have HOZ := Aside0.mk (knil_nil hHO)
   have HZ := Aside0.mk hz
   clear hHO
   have hlt : ¬ (0 : Int) < (l1.length : Int) := by omega
   go_wp2
   go_ret2
   refine ⟨_, rfl, ?_, below_step HB.out HBm.out⟩
   have h_ := Kd.R_lower HOZ.out HB.out.size
   rw [show whoseL l0.length 0 (truthsL l0 l1 wg) = [] from rfl]
   exact h_
 ·obtain ⟨go, cap, eg, hwo⟩ := WhO.start HO20.out hpos (fun i => sel (whoP l1.length (truthsL l0 l1 wg) i) l0.length)
  cases eg
  have HWO := Aside0.mk hwo
  have HGO := Aside0.mk hwo.bg
  clear hwo HO20
  go_loopg [23] l1.length (fun kq v23 w' => ∃ i : Nat, v23 = .int .i64 (i : Int) ∧ Aside0 (i + kq = l1.length) ∧ Aside0 (WhO W1.heap.size go l1.length cn i (fun i => sel (whoP l1.length (truthsL l0 l1 wg) i) l0.length) w') ∧ Aside0 (Below W1.heap.size W1 w'))
  case atStart => exact ⟨0, rfl, ⟨Nat.zero_add _⟩, HWO, HBm⟩
  case round =>
   clear HWO HBm hcy0
   obtain ⟨i, rfl, HM, HWO, HB1⟩ := hrel
   by_cases hlt : i < l1.length
   ·cases gk with
    | zero => have := HM.out; omega
    | succ k1 =>
    have hcy0 : wr.cell? ⟨g1, 0, none⟩ = some (.slice A0 l0.length c0) := (blk_cell (blk_below BKg1.out HB1.out) 0).trans rfl
    go_wp2
    go_loopg [29] l0.length (fun kq v29 w' => ∃ (k : Nat) (vc : Value), v29 = .int .i64 (k : Int) ∧ Aside0 (k + kq = l0.length) ∧ Aside0 (WhI W1.heap.size go l1.length cn i (fun i => sel (whoP l1.length (truthsL l0 l1 wg) i) l0.length) vc (sel (whoP l1.length (truthsL l0 l1 wg) i) k) w') ∧ Aside0 (Below W1.heap.size W1 w'))
    case atStart => exact ⟨0, _, rfl, ⟨Nat.zero_add _⟩, ⟨HWO.out.open_ hlt⟩, HB1⟩
    case round =>
     clear HWO HB1 hcy0
     obtain ⟨k, vc, rfl, HM2, HI, HB1⟩ := hrel
     by_cases hlt2 : k < l0.length
     ·cases gk with
      | zero => have := HM2.out; omega
      | succ k2 =>
      have hct : wr.cell? ⟨gw, 4, none⟩ = some (.map (some gm)) := (blk_cell (HK.out.below HB1.out).kw 4).trans rfl
      obtain ⟨L, hmp, hgl⟩ := (HK.out.below HB1.out).mp
      have hlu := lookup_run wr gm L ((i : Int), (k : Int)) hmp
      rw [hgl] at hlu
      unfold spv at hlu
      dsimp only at hlu
      clear hmp hgl
      have HLT := Aside0.mk hlt
      by_cases hp : whoP l1.length (truthsL l0 l1 wg) i k = true
      ·have HP_ := Aside0.mk hp
       have hpd : decide (0 < manyS l1.length (truthsL l0 l1 wg) (i : Int) (k : Int)) = true := hp
       generalize manyS l1.length (truthsL l0 l1 wg) (i : Int) (k : Int) = cv at hlu hpd
       obtain ⟨hx1, hf1, hr1_, hgl_⟩ := HI.out.cell
       obtain ⟨Ac, cc, ec⟩ := Kd.R_slice hr1_
       have HR_ := Aside0.mk hr1_
       have HSL := Aside0.mk (show (sel (whoP l1.length (truthsL l0 l1 wg) i) k).length ≤ 5 from Nat.le_trans (sel_le _ _) (by omega))
       obtain ⟨cr, hcr⟩ : ∃ cr, (sel (whoP l1.length (truthsL l0 l1 wg) i) k).length = cr := ⟨_, rfl⟩
       rw [hcr] at ec
       have HCR := Aside0.mk hcr
       subst ec
       have HGL_ := Aside0.mk hgl_
       clear hr1_ hgl_ hp hcr
       go_wp2_with (first | ((with_reducible refine gate_builtin (b := .append) (xs := #[.tmp 46, .tmp 48]) rfl ?_); go_must (at_builtin; refine Kd.R_append (Kd.int .i64) (w0 := W1) W1.heap.size rfl (.tmp 46) (.tmp 48) 39 3 (.int .i64 0) 8 rfl Try.underlying39 info3 rfl (by decide) (by omega) (.slice Ac cr cc) (sel (whoP l1.length (truthsL l0 l1 wg) i) k) (k : Int) [.int .i64 (k : Int)] (fun k_ => k_ ≠ go) (fun _ => False) rfl rfl ?aP (fun _ hk => hk.elim) ?aF ?aO ?aB ?aS ?aL ?_; (case aP => exact rfl); (case aB => exact (by repeat (first | exact HB1.out | apply below_alloc | apply pw_below_drewN | apply below_drew1))); (case aF => exact (fun k_ hk_ => by have := HGL_.out; omega)); (case aO => exact (sR HR_)); (case aS => exact (by repeat (first | exact HB1.out | apply below_alloc | apply pw_below_drewN | apply below_drew1) : Below W1.heap.size W1 _).size); (case aL => exact (by have := HSL.out; omega)); intro v1 W_ ho hb hg hat; have HP := Aside0.mk (HI.out.put hlt ho hg hat); obtain ⟨Av, cv_, ev1⟩ := Kd.R_slice ho; have HBP := Aside0.mk (hb.setCell (p := ⟨go, i, none⟩) HI.out.bg v1); obtain ⟨hx1, hf1⟩ := HI.out.grown_cell hg; rw [List.length_append, List.length_singleton] at ev1; subst ev1; clear ho hb hg hat)))
       go_roundg k2
       case measure => omega
       case rel => exact ⟨k + 1, _, by go_num, ⟨by have := HM2.out; omega⟩, ⟨by rw [sel_yes _ _ HP_.out]; exact HP.out⟩, HBP⟩
      ·have hp' : whoP l1.length (truthsL l0 l1 wg) i k = false := by simpa using hp
       have HP_ := Aside0.mk hp'
       have hpd : decide (0 < manyS l1.length (truthsL l0 l1 wg) (i : Int) (k : Int)) = false := hp'
       generalize manyS l1.length (truthsL l0 l1 wg) (i : Int) (k : Int) = cv at hlu hpd
       clear hp hp'
       go_wp2
       go_roundg k2
       case measure => omega
       case rel => exact ⟨k + 1, vc, by go_num, ⟨by have := HM2.out; omega⟩, ⟨by rw [sel_no _ _ HP_.out]; exact HI.out⟩, HB1⟩
     ·obtain rfl : k = l0.length := by have := HM2.out; omega
      have HLT := Aside0.mk hlt
      go_wp2
      go_roundg k1
      case measure => omega
      case rel => exact ⟨i + 1, by go_num, ⟨by have := HM.out; omega⟩, ⟨HI.out.close rfl⟩, HB1⟩
   ·obtain rfl : i = l1.length := by have := HM.out; omega
    go_wp2
    go_ret2
    exact ⟨_, rfl, Kd.R_lower HWO.out.done HB.out.size, below_step HB.out HB1.out⟩
end Go.Proofs.Ytnbbbeghgomnoaa.X
namespace Go.Proofs.Ytnbbbeghgomnoaa.X
open Go.RowKit Go.Proofs.YtnbbbeghgomnoaaW.PrintWords Go.Proofs.YtnbbbeghgomnoaaW.PrintLast Go.Proofs.YtnbbbeghgomnoaaW.PrintMore
def bestL (l1 : List S110) (ts : List (List Int)) : List Int := ts.foldl (fun b x => if lostN l1 (pad x) < lostN l1 (pad b) then x else b) (ts.getD 0 [])
set_option maxHeartbeats 4000000 in
set_option maxRecDepth 100000 in
theorem best_calls {A0 : Option Addr} {c0 : Nat} {l0 : List S109} {A1 : Option Addr} {c1 : Nat} {l1 : List S110} {wg : Int} {b gw gm : Nat} {At : Option Addr} {ct : Nat} {w : World} (hk : Wk A0 c0 l0 A1 c1 l1 wg b gw gm At ct w) (hr1 : Kd.C k110 w A1 l1.length l1) (hn1 : l1.length ≤ 7) (hnt : truthsL l0 l1 wg ≠ []) (hntl : (truthsL l0 l1 wg).length ≤ 78125) :
  Calls Try.prog 81 #[.pointer (some ⟨gw, 0, none⟩)] w fun e w' => e = .returned (.agg (ac (pad (bestL l1 (truthsL l0 l1 wg))))) ∧ Below w.heap.size w w' := by
 have hu35 := Try.underlying35
 have hu121 := Try.underlying121
 have hu105 := Try.underlying105
 have HR1 := Aside0.mk hr1
 have HN1 := Aside0.mk hn1
 obtain ⟨ts, hts⟩ : ∃ ts, truthsL l0 l1 wg = ts := ⟨_, rfl⟩
 have HTS := Aside0.mk hts
 have HK := Aside0.mk hk
 obtain ⟨y0, hy0⟩ : ∃ y, ts.getD 0 [] = y := ⟨_, rfl⟩
 obtain ⟨nt, hnt2⟩ : ∃ n, (truthsL l0 l1 wg).length = n := ⟨_, rfl⟩
 have hpos : 0 < nt := by rw [← hnt2]; exact List.length_pos_iff.2 hnt
 have hnl : nt ≤ 78125 := by rw [← hnt2]; exact hntl
 obtain ⟨adt, rfl, hct0, hct1, hct2, hct3, hct4, hct5, hct6⟩ := at_T121 hk.row 0 (by omega)
 rw [show (truthsL l0 l1 wg).getD 0 [] = y0 from by rw [hts]; exact hy0] at hct0 hct1 hct2 hct3 hct4 hct5 hct6
 have hadd : adt.add (0 * 7) = adt := by simp [Addr.add]
 rw [hadd] at hct0 hct1 hct2 hct3 hct4 hct5 hct6
 have hcv : w.cell? ⟨gw, 3, none⟩ = some (.slice (some adt) nt ct) := (blk_cell hk.kw 3).trans (by rw [← hnt2]; rfl)
 have HY0 := Aside0.mk hy0
 have HNT2 := Aside0.mk hnt2
 have HCT := Aside0.mk (And.intro hct0 (And.intro hct1 (And.intro hct2 (And.intro hct3 (And.intro hct4 (And.intro hct5 hct6))))))
 have HCV := Aside0.mk hcv
 clear hk hr1 hn1 hts hy0 hnt2 hadd hct0 hct1 hct2 hct3 hct4 hct5 hct6 hcv hntl hnt
 have HB := Aside0.mk (Below.refl w.heap.size w)
 go_enter Try.func81, Try.ntmps81
 go_wp2_with (first | ((with_reducible refine gate_dst (N := 2) rfl ?_); refine sbox (N := 2) #[.int .i64 0, .int .i64 0, .int .i64 0, .int .i64 0, .int .i64 0, .int .i64 0, .int .i64 0] 121 ?_; intro g2 hg W_ hbox hb; have GEg2 := Aside0.mk (by rw [hg]; exact HB.out.size : w.heap.size ≤ g2); replace HB := Aside0.mk (below_step HB.out hb); have BKg2 := Aside0.mk hbox; clear hb hbox hg; have hct0 : W_.cell? adt = some (.int .i64 (pad y0 0)) := (HB.out.cell (World.block_lt_of_cell? _ _ HCT.out.1)).trans HCT.out.1; have hct1 : W_.cell? ⟨adt.block, adt.off + 1, none⟩ = some (.int .i64 (pad y0 1)) := (HB.out.cell (World.block_lt_of_cell? _ _ HCT.out.2.1)).trans HCT.out.2.1; have hct2 : W_.cell? ⟨adt.block, adt.off + 2, none⟩ = some (.int .i64 (pad y0 2)) := (HB.out.cell (World.block_lt_of_cell? _ _ HCT.out.2.2.1)).trans HCT.out.2.2.1; have hct3 : W_.cell? ⟨adt.block, adt.off + 3, none⟩ = some (.int .i64 (pad y0 3)) := (HB.out.cell (World.block_lt_of_cell? _ _ HCT.out.2.2.2.1)).trans HCT.out.2.2.2.1; have hct4 : W_.cell? ⟨adt.block, adt.off + 4, none⟩ = some (.int .i64 (pad y0 4)) := (HB.out.cell (World.block_lt_of_cell? _ _ HCT.out.2.2.2.2.1)).trans HCT.out.2.2.2.2.1; have hct5 : W_.cell? ⟨adt.block, adt.off + 5, none⟩ = some (.int .i64 (pad y0 5)) := (HB.out.cell (World.block_lt_of_cell? _ _ HCT.out.2.2.2.2.2.1)).trans HCT.out.2.2.2.2.2.1; have hct6 : W_.cell? ⟨adt.block, adt.off + 6, none⟩ = some (.int .i64 (pad y0 6)) := (HB.out.cell (World.block_lt_of_cell? _ _ HCT.out.2.2.2.2.2.2)).trans HCT.out.2.2.2.2.2.2; have hcv : W_.cell? ⟨gw, 3, none⟩ = some (.slice (some adt) nt ct) := (HB.out.cell (World.block_lt_of_cell? _ _ HCV.out)).trans HCV.out; have hcv2 : ∀ o, (W_.alloc o).cell? ⟨gw, 3, none⟩ = some (.slice (some adt) nt ct) := fun o => ((below_alloc HB.out o).cell (World.block_lt_of_cell? _ _ HCV.out)).trans HCV.out))
 have hb := below_alloc (Below.refl W_.heap.size W_) (.cells #[.int .i64 (pad y0 0), .int .i64 (pad y0 1), .int .i64 (pad y0 2), .int .i64 (pad y0 3), .int .i64 (pad y0 4), .int .i64 (pad y0 5), .int .i64 (pad y0 6)] 121)
 have BKg3 := Aside0.mk (heap_alloc_new W_ (.cells #[.int .i64 (pad y0 0), .int .i64 (pad y0 1), .int .i64 (pad y0 2), .int .i64 (pad y0 3), .int .i64 (pad y0 4), .int .i64 (pad y0 5), .int .i64 (pad y0 6)] 121))
 have LT32 := Aside0.mk (blk_lt BKg2.out)
 have GEg3 := Aside0.mk HB.out.size
 have n0_ := Aside0.mk (below_step HB.out hb)
 have n1_ := Aside0.mk (blk_below BKg2.out hb)
 clear HB BKg2 hb hct0 hct1 hct2 hct3 hct4 hct5 hct6 hcv hcv2
 have HB := n0_
 have BKg2 := n1_
 clear n0_ n1_
 generalize W_.alloc (.cells #[.int .i64 (pad y0 0), .int .i64 (pad y0 1), .int .i64 (pad y0 2), .int .i64 (pad y0 3), .int .i64 (pad y0 4), .int .i64 (pad y0 5), .int .i64 (pad y0 6)] 121) = W1 at *
 generalize W_.heap.size = g3 at *
 go_loopg [17] nt (fun kq v17 w' => ∃ m : Nat, v17 = .int .i64 (m : Int) ∧ Aside0 (m + kq = nt) ∧ Aside0 (Below w.heap.size w w') ∧ Aside0 (w'.heap[g2]? = some (.cells #[.int .i64 0, .int .i64 0, .int .i64 0, .int .i64 0, .int .i64 0, .int .i64 0, .int .i64 0] 121 (0, 0))) ∧ Aside0 (w'.heap[g3]? = some (.cells (ac (pad ((ts.take m).foldl (fun b x => if lostN l1 (pad x) < lostN l1 (pad b) then x else b) y0))) 121 (0, 0))))
 case atStart => exact ⟨0, rfl, ⟨Nat.zero_add _⟩, HB, BKg2, BKg3⟩
 case round =>
  clear HB BKg2 BKg3
  obtain ⟨m, rfl, HM, HB, BKg2, BKg3⟩ := hrel
  obtain ⟨bm, hbm⟩ : ∃ bm, (ts.take m).foldl (fun b x => if lostN l1 (pad x) < lostN l1 (pad b) then x else b) y0 = bm := ⟨_, rfl⟩
  rw [hbm] at BKg3
  have HBM := Aside0.mk hbm
  clear hbm
  by_cases hlt : m < nt
  ·cases gk with
   | zero => have := HM.out; omega
   | succ k1 =>
   obtain ⟨adt2, ea, hct0, hct1, hct2, hct3, hct4, hct5, hct6⟩ := at_T121 (Kd.C_below HK.out.row HB.out) m (by have := HNT2.out; omega)
   cases ea
   rw [HTS.out] at hct0 hct1 hct2 hct3 hct4 hct5 hct6
   have hmt : m < ts.length := by rw [← HTS.out, HNT2.out]; exact hlt
   have htk : ts.take (m + 1) = ts.take m ++ [ts.getD m []] := by
    rw [List.take_succ_eq_append_getElem hmt, List.getD_eq_getElem?_getD, List.getElem?_eq_getElem hmt, Option.getD_some]
   have HTK := Aside0.mk htk
   clear htk hmt
   generalize ts.getD m [] = y at *
   have HLT := Aside0.mk hlt
   go_wp2
   have hb := below_alloc (Below.refl wr.heap.size wr) (.cells #[.int .i64 (pad y 0), .int .i64 (pad y 1), .int .i64 (pad y 2), .int .i64 (pad y 3), .int .i64 (pad y 4), .int .i64 (pad y 5), .int .i64 (pad y 6)] 121)
   have BKg5 := Aside0.mk (heap_alloc_new wr (.cells #[.int .i64 (pad y 0), .int .i64 (pad y 1), .int .i64 (pad y 2), .int .i64 (pad y 3), .int .i64 (pad y 4), .int .i64 (pad y 5), .int .i64 (pad y 6)] 121))
   have LT5 := Aside0.mk (And.intro (blk_lt BKg2.out) (blk_lt BKg3.out))
   have n0_ := Aside0.mk (below_step HB.out hb)
   have n1_ := Aside0.mk (blk_below BKg2.out hb)
   have n2_ := Aside0.mk (blk_below BKg3.out hb)
   clear HB BKg2 BKg3 hb hct0 hct1 hct2 hct3 hct4 hct5 hct6
   have HB := n0_
   have BKg2 := n1_
   have BKg3 := n2_
   clear n0_ n1_ n2_
   generalize wr.alloc (.cells #[.int .i64 (pad y 0), .int .i64 (pad y 1), .int .i64 (pad y 2), .int .i64 (pad y 3), .int .i64 (pad y 4), .int .i64 (pad y 5), .int .i64 (pad y 6)] 121) = W5 at *
   generalize wr.heap.size = g5 at *
   have hcy0 : W5.cell? ⟨g5, 0, none⟩ = some (.int .i64 (pad y 0)) := (blk_cell BKg5.out 0).trans rfl
   have hcy1 : W5.cell? ⟨g5, 1, none⟩ = some (.int .i64 (pad y 1)) := (blk_cell BKg5.out 1).trans rfl
   have hcy2 : W5.cell? ⟨g5, 2, none⟩ = some (.int .i64 (pad y 2)) := (blk_cell BKg5.out 2).trans rfl
   have hcy3 : W5.cell? ⟨g5, 3, none⟩ = some (.int .i64 (pad y 3)) := (blk_cell BKg5.out 3).trans rfl
   have hcy4 : W5.cell? ⟨g5, 4, none⟩ = some (.int .i64 (pad y 4)) := (blk_cell BKg5.out 4).trans rfl
   have hcy5 : W5.cell? ⟨g5, 5, none⟩ = some (.int .i64 (pad y 5)) := (blk_cell BKg5.out 5).trans rfl
   have hcy6 : W5.cell? ⟨g5, 6, none⟩ = some (.int .i64 (pad y 6)) := (blk_cell BKg5.out 6).trans rfl
   have hcb0 : W5.cell? ⟨g3, 0, none⟩ = some (.int .i64 (pad bm 0)) := (blk_cell BKg3.out 0).trans rfl
   have hcb1 : W5.cell? ⟨g3, 1, none⟩ = some (.int .i64 (pad bm 1)) := (blk_cell BKg3.out 1).trans rfl
   have hcb2 : W5.cell? ⟨g3, 2, none⟩ = some (.int .i64 (pad bm 2)) := (blk_cell BKg3.out 2).trans rfl
   have hcb3 : W5.cell? ⟨g3, 3, none⟩ = some (.int .i64 (pad bm 3)) := (blk_cell BKg3.out 3).trans rfl
   have hcb4 : W5.cell? ⟨g3, 4, none⟩ = some (.int .i64 (pad bm 4)) := (blk_cell BKg3.out 4).trans rfl
   have hcb5 : W5.cell? ⟨g3, 5, none⟩ = some (.int .i64 (pad bm 5)) := (blk_cell BKg3.out 5).trans rfl
   have hcb6 : W5.cell? ⟨g3, 6, none⟩ = some (.int .i64 (pad bm 6)) := (blk_cell BKg3.out 6).trans rfl
   refine start_ (n := 7) (S := fun w' => w'.cell? ⟨g5, 0, none⟩ = some (.int .i64 (pad y 0)) ∧ w'.cell? ⟨g5, 1, none⟩ = some (.int .i64 (pad y 1)) ∧ w'.cell? ⟨g5, 2, none⟩ = some (.int .i64 (pad y 2)) ∧ w'.cell? ⟨g5, 3, none⟩ = some (.int .i64 (pad y 3)) ∧ w'.cell? ⟨g5, 4, none⟩ = some (.int .i64 (pad y 4)) ∧ w'.cell? ⟨g5, 5, none⟩ = some (.int .i64 (pad y 5)) ∧ w'.cell? ⟨g5, 6, none⟩ = some (.int .i64 (pad y 6)) ∧ w'.cell? ⟨g3, 0, none⟩ = some (.int .i64 (pad bm 0)) ∧ w'.cell? ⟨g3, 1, none⟩ = some (.int .i64 (pad bm 1)) ∧ w'.cell? ⟨g3, 2, none⟩ = some (.int .i64 (pad bm 2)) ∧ w'.cell? ⟨g3, 3, none⟩ = some (.int .i64 (pad bm 3)) ∧ w'.cell? ⟨g3, 4, none⟩ = some (.int .i64 (pad bm 4)) ∧ w'.cell? ⟨g3, 5, none⟩ = some (.int .i64 (pad bm 5)) ∧ w'.cell? ⟨g3, 6, none⟩ = some (.int .i64 (pad bm 6))) (ds := []) #[false, false, false, false, false, false, false] (by kernel_rfl) rfl rfl ⟨hcy0, hcy1, hcy2, hcy3, hcy4, hcy5, hcy6, hcb0, hcb1, hcb2, hcb3, hcb4, hcb5, hcb6⟩ (fun hHeld => ?_)
   have hb := below_drew1 (Below.refl W5.heap.size W5)
   replace BKg2 := Aside0.mk (blk_below BKg2.out hb)
   replace BKg3 := Aside0.mk (blk_below BKg3.out hb)
   replace BKg5 := Aside0.mk (blk_below BKg5.out hb)
   replace HB := Aside0.mk (below_step HB.out hb)
   replace hcy0 := (hb.cell (World.block_lt_of_cell? _ _ hcy0)).trans hcy0
   replace hcy1 := (hb.cell (World.block_lt_of_cell? _ _ hcy1)).trans hcy1
   replace hcy2 := (hb.cell (World.block_lt_of_cell? _ _ hcy2)).trans hcy2
   replace hcy3 := (hb.cell (World.block_lt_of_cell? _ _ hcy3)).trans hcy3
   replace hcy4 := (hb.cell (World.block_lt_of_cell? _ _ hcy4)).trans hcy4
   replace hcy5 := (hb.cell (World.block_lt_of_cell? _ _ hcy5)).trans hcy5
   replace hcy6 := (hb.cell (World.block_lt_of_cell? _ _ hcy6)).trans hcy6
   replace hcb0 := (hb.cell (World.block_lt_of_cell? _ _ hcb0)).trans hcb0
   replace hcb1 := (hb.cell (World.block_lt_of_cell? _ _ hcb1)).trans hcb1
   replace hcb2 := (hb.cell (World.block_lt_of_cell? _ _ hcb2)).trans hcb2
   replace hcb3 := (hb.cell (World.block_lt_of_cell? _ _ hcb3)).trans hcb3
   replace hcb4 := (hb.cell (World.block_lt_of_cell? _ _ hcb4)).trans hcb4
   replace hcb5 := (hb.cell (World.block_lt_of_cell? _ _ hcb5)).trans hcb5
   replace hcb6 := (hb.cell (World.block_lt_of_cell? _ _ hcb6)).trans hcb6
   generalize W5.drew = W6 at *
   clear hb
   refine sP (i := 0) (N := some 21) #[true, false, false, false, false, false, false] ?_
   refine sP (i := 3) (N := some 24) #[true, false, false, true, false, false, false] ?_
   refine take_ (i := 1) (N := some 22) (v := ?_) (a' := ?_) #[true, true, false, true, false, false, false] rfl rfl (by kernel_rfl) (fun _ _ _ h => h) (Or.inl ⟨by rfl, ?_⟩) hHeld ?_ ?_
   rotate_left
   ·rintro w' ⟨s0, s1, s2, s3, s4, s5, s6, s7, s8, s9, s10, s11, s12, s13⟩
    go_simp
    with_reducible rfl
   rotate_left
   ·simp only [Act.put, List.setIfInBounds_toArray, List.set_cons_zero, List.set_cons_succ, i64_w, i32_w]
    rfl
   refine take_ (i := 4) (N := some 25) (v := ?_) (a' := ?_) #[true, true, false, true, true, false, false] rfl rfl (by kernel_rfl) (fun _ _ _ h => h) (Or.inl ⟨by rfl, ?_⟩) hHeld ?_ ?_
   rotate_left
   ·rintro w' ⟨s0, s1, s2, s3, s4, s5, s6, s7, s8, s9, s10, s11, s12, s13⟩
    go_simp
    with_reducible rfl
   rotate_left
   ·simp only [Act.put, List.setIfInBounds_toArray, List.set_cons_zero, List.set_cons_succ, i64_w, i32_w]
    rfl
   refine one_ (i := 2) (N := some 23) #[true, true, true, true, true, false, false] rfl rfl (by kernel_rfl) (by decide) (fun K hK => ?_)
   refine goes_ Try.func80 (by kernel_rfl) rfl #[.pointer (some ⟨gw, 0, none⟩), .agg #[.int .i64 (pad y 0), .int .i64 (pad y 1), .int .i64 (pad y 2), .int .i64 (pad y 3), .int .i64 (pad y 4), .int .i64 (pad y 5), .int .i64 (pad y 6)], .int .i64 0] (by rfl) rfl rfl (by simp only [List.map_toArray, List.map_cons, List.map_nil]; rfl) ?_
   with_reducible refine (lost_calls (pad y) 0 (HK.out.below HB.out) (Kd.C_below HR1.out HB.out) HN1.out).mono ?_
   rintro e W7 ⟨rfl, hb⟩
   refine ⟨_, rfl, ?_⟩
   replace hcy0 := (hb.cell (World.block_lt_of_cell? _ _ hcy0)).trans hcy0
   replace hcy1 := (hb.cell (World.block_lt_of_cell? _ _ hcy1)).trans hcy1
   replace hcy2 := (hb.cell (World.block_lt_of_cell? _ _ hcy2)).trans hcy2
   replace hcy3 := (hb.cell (World.block_lt_of_cell? _ _ hcy3)).trans hcy3
   replace hcy4 := (hb.cell (World.block_lt_of_cell? _ _ hcy4)).trans hcy4
   replace hcy5 := (hb.cell (World.block_lt_of_cell? _ _ hcy5)).trans hcy5
   replace hcy6 := (hb.cell (World.block_lt_of_cell? _ _ hcy6)).trans hcy6
   replace hcb0 := (hb.cell (World.block_lt_of_cell? _ _ hcb0)).trans hcb0
   replace hcb1 := (hb.cell (World.block_lt_of_cell? _ _ hcb1)).trans hcb1
   replace hcb2 := (hb.cell (World.block_lt_of_cell? _ _ hcb2)).trans hcb2
   replace hcb3 := (hb.cell (World.block_lt_of_cell? _ _ hcb3)).trans hcb3
   replace hcb4 := (hb.cell (World.block_lt_of_cell? _ _ hcb4)).trans hcb4
   replace hcb5 := (hb.cell (World.block_lt_of_cell? _ _ hcb5)).trans hcb5
   replace hcb6 := (hb.cell (World.block_lt_of_cell? _ _ hcb6)).trans hcb6
   replace BKg2 := Aside0.mk (blk_below BKg2.out hb)
   replace BKg3 := Aside0.mk (blk_below BKg3.out hb)
   replace BKg5 := Aside0.mk (blk_below BKg5.out hb)
   replace HB := Aside0.mk (below_step HB.out hb)
   clear hb
   refine hK.out _ _ ⟨hcy0, hcy1, hcy2, hcy3, hcy4, hcy5, hcy6, hcb0, hcb1, hcb2, hcb3, hcb4, hcb5, hcb6⟩ (fun hHeld => ?_)
   clear hK K
   refine sN ?_
   refine one_ (i := 5) (N := some 26) #[true, true, true, true, true, true, false] rfl rfl (by kernel_rfl) (by decide) (fun K hK => ?_)
   refine goes_ Try.func80 (by kernel_rfl) rfl #[.pointer (some ⟨gw, 0, none⟩), .agg #[.int .i64 (pad bm 0), .int .i64 (pad bm 1), .int .i64 (pad bm 2), .int .i64 (pad bm 3), .int .i64 (pad bm 4), .int .i64 (pad bm 5), .int .i64 (pad bm 6)], .int .i64 0] (by rfl) rfl rfl (by simp only [List.map_toArray, List.map_cons, List.map_nil]; rfl) ?_
   with_reducible refine (lost_calls (pad bm) 0 (HK.out.below HB.out) (Kd.C_below HR1.out HB.out) HN1.out).mono ?_
   rintro e W8 ⟨rfl, hb⟩
   refine ⟨_, rfl, ?_⟩
   replace hcy0 := (hb.cell (World.block_lt_of_cell? _ _ hcy0)).trans hcy0
   replace hcy1 := (hb.cell (World.block_lt_of_cell? _ _ hcy1)).trans hcy1
   replace hcy2 := (hb.cell (World.block_lt_of_cell? _ _ hcy2)).trans hcy2
   replace hcy3 := (hb.cell (World.block_lt_of_cell? _ _ hcy3)).trans hcy3
   replace hcy4 := (hb.cell (World.block_lt_of_cell? _ _ hcy4)).trans hcy4
   replace hcy5 := (hb.cell (World.block_lt_of_cell? _ _ hcy5)).trans hcy5
   replace hcy6 := (hb.cell (World.block_lt_of_cell? _ _ hcy6)).trans hcy6
   replace hcb0 := (hb.cell (World.block_lt_of_cell? _ _ hcb0)).trans hcb0
   replace hcb1 := (hb.cell (World.block_lt_of_cell? _ _ hcb1)).trans hcb1
   replace hcb2 := (hb.cell (World.block_lt_of_cell? _ _ hcb2)).trans hcb2
   replace hcb3 := (hb.cell (World.block_lt_of_cell? _ _ hcb3)).trans hcb3
   replace hcb4 := (hb.cell (World.block_lt_of_cell? _ _ hcb4)).trans hcb4
   replace hcb5 := (hb.cell (World.block_lt_of_cell? _ _ hcb5)).trans hcb5
   replace hcb6 := (hb.cell (World.block_lt_of_cell? _ _ hcb6)).trans hcb6
   replace BKg2 := Aside0.mk (blk_below BKg2.out hb)
   replace BKg3 := Aside0.mk (blk_below BKg3.out hb)
   replace BKg5 := Aside0.mk (blk_below BKg5.out hb)
   replace HB := Aside0.mk (below_step HB.out hb)
   clear hb
   refine hK.out _ _ ⟨hcy0, hcy1, hcy2, hcy3, hcy4, hcy5, hcy6, hcb0, hcb1, hcb2, hcb3, hcb4, hcb5, hcb6⟩ (fun hHeld => ?_)
   clear hK K
   refine sN ?_
   refine sP (i := 6) (N := some 27) #[true, true, true, true, true, true, true] ?_
   refine done_ (by kernel_rfl) ?_
   have HST := Aside0.mk (show (ts.take (m + 1)).foldl (fun b x => if lostN l1 (pad x) < lostN l1 (pad b) then x else b) y0 = if lostN l1 (pad y) < lostN l1 (pad bm) then y else bm from by rw [HTK.out, List.foldl_append, HBM.out]; rfl)
   by_cases hl : lostN l1 (pad y) < lostN l1 (pad bm)
   ·have hld : decide (lostN l1 (pad y) < lostN l1 (pad bm)) = true := by simpa using hl
    rw [if_pos hl] at HST
    generalize lostN l1 (pad y) = n1 at *
    generalize lostN l1 (pad bm) = n2 at *
    have hne : g2 ≠ g3 := by have := LT32.out; omega
    have HNE := Aside0.mk hne
    clear hne
    go_wp2_with (first | ((with_reducible refine gate_store (t := 121) (p := 3) rfl ?_); go_must (refine wpList_store_row rfl 121 _ _ rfl g3 (ac (pad y)) rfl rfl 121 (ac (pad bm)) BKg3.out rfl rfl (ac_one _) ?_; have HB9 := Aside0.mk (below_setRow HB.out GEg3.out (ac (pad y))); have BK9 := Aside0.mk (setRow_heap W8 g3 _ (ac (pad y)) _ _ BKg3.out); have BK29 := Aside0.mk ((setRow_other W8 g3 g2 (ac (pad y)) HNE.out).trans BKg2.out); generalize W8.setRow g3 (ac (pad y)) = W9 at *)))
    go_roundg k1
    case measure => omega
    case rel => exact ⟨m + 1, by go_num, ⟨by have := HM.out; omega⟩, HB9, BK29, ⟨by rw [HST.out]; exact BK9.out⟩⟩
   ·have hld : decide (lostN l1 (pad y) < lostN l1 (pad bm)) = false := by simpa using hl
    rw [if_neg hl] at HST
    have hl2 : ¬ (lostN l1 (pad y) < lostN l1 (pad bm)) := hl
    clear hl
    generalize lostN l1 (pad y) = n1 at *
    generalize lostN l1 (pad bm) = n2 at *
    go_wp2
    go_roundg k1
    case measure => omega
    case rel => exact ⟨m + 1, by go_num, ⟨by have := HM.out; omega⟩, HB, BKg2, ⟨by rw [HST.out]; exact BKg3.out⟩⟩
  ·obtain rfl : m = nt := by have := HM.out; omega
   have hcb0 : wr.cell? ⟨g3, 0, none⟩ = some (.int .i64 (pad bm 0)) := (blk_cell BKg3.out 0).trans rfl
   have hcb1 : wr.cell? ⟨g3, 1, none⟩ = some (.int .i64 (pad bm 1)) := (blk_cell BKg3.out 1).trans rfl
   have hcb2 : wr.cell? ⟨g3, 2, none⟩ = some (.int .i64 (pad bm 2)) := (blk_cell BKg3.out 2).trans rfl
   have hcb3 : wr.cell? ⟨g3, 3, none⟩ = some (.int .i64 (pad bm 3)) := (blk_cell BKg3.out 3).trans rfl
   have hcb4 : wr.cell? ⟨g3, 4, none⟩ = some (.int .i64 (pad bm 4)) := (blk_cell BKg3.out 4).trans rfl
   have hcb5 : wr.cell? ⟨g3, 5, none⟩ = some (.int .i64 (pad bm 5)) := (blk_cell BKg3.out 5).trans rfl
   have hcb6 : wr.cell? ⟨g3, 6, none⟩ = some (.int .i64 (pad bm 6)) := (blk_cell BKg3.out 6).trans rfl
   go_wp2_with (first | ((with_reducible refine gate_store (t := 121) (p := 2) rfl ?_); go_must (refine wpList_store_row rfl 121 _ _ rfl g2 (ac (pad bm)) rfl rfl 121 (#[.int .i64 0, .int .i64 0, .int .i64 0, .int .i64 0, .int .i64 0, .int .i64 0, .int .i64 0]) BKg2.out rfl rfl (ac_one _) ?_; have HB9 := Aside0.mk (below_setRow HB.out GEg2.out (ac (pad bm))); have BK9 := Aside0.mk (setRow_heap wr g2 _ (ac (pad bm)) _ _ BKg2.out); generalize wr.setRow g2 (ac (pad bm)) = W9 at *)))
   have hbk := BK9.out
   refine bodyPost_ret (results_cell_row rfl _ _ g2 121 (ac (pad bm)) (0, 0) _ rfl hbk Try.underlying121 rfl (by kernel_rfl)) rfl ?_
   have hbs : bestL l1 (truthsL l0 l1 wg) = bm := by
    unfold bestL
    rw [HTS.out, HY0.out, ← HBM.out, List.take_of_length_le (by rw [← HTS.out, HNT2.out]; exact Nat.le_refl _)]
   exact ⟨by rw [hbs], HB9.out⟩
end Go.Proofs.Ytnbbbeghgomnoaa.X
namespace Go.Proofs.Ytnbbbeghgomnoaa.X
open Go.RowKit Go.Proofs.YtnbbbeghgomnoaaW.PrintWords Go.Proofs.YtnbbbeghgomnoaaW.PrintLast Go.Proofs.YtnbbbeghgomnoaaW.PrintMore
set_option maxHeartbeats 4000000 in
set_option maxRecDepth 100000 in
theorem clone_calls (A : Option Addr) (c : Nat) (l : List Int) (w : World) (hr : Kd.C (Kd.int .i64) w A l.length l) (hl : l.length ≤ 1000000) :
  Calls Try.prog 74 #[.slice A l.length c] w fun e w' => ∃ v, e = .returned v ∧ Kd.R (Kd.int .i64) 3 w' w.heap.size (fun _ => True) v l ∧ Below w.heap.size w w' := by
 have HR := Aside0.mk hr
 have HL := Aside0.mk hl
 have HB := Aside0.mk (Below.refl w.heap.size w)
 have heq : ∀ (w' : World) (A : Option Addr) (n c : Nat), (binOp .eql 39 (.slice A n c) (.slice none 0 0)).run Try.prog w' = .ok (.bool A.isNone) w' := fun w' A n c => Go.Lib.run_eql_slice_nil w' 39 3 A n c 0 0 Try.underlying39
 cases A with
 | none =>
  have hz : l = [] := by
   rcases Nat.eq_zero_or_pos l.length with h | h
   ·exact List.length_eq_zero_iff.1 h
   ·obtain ⟨ad, e, _⟩ := hr.2.2 h
    cases e
  subst hz
  clear hr hl
  go_enter Try.func74, Try.ntmps74
  go_wp2
  go_ret
  exact ⟨_, rfl, Kd.R_nil _ _ _ _ _, HB.out⟩
 | some ad =>
  clear hr hl
  go_enter Try.func74, Try.ntmps74
  go_wp2_with (first | ((with_reducible refine gate_dst (N := 5) rfl ?_); go_must (refine Kd.R_lit (Kd.int .i64) (w0 := w) w.heap.size 3 rfl (N := 5) rfl (xs := []) (inner := []) (ok := fun _ => True) (okp := fun _ => True) (by first | (go_simp; done) | (go_simp; rfl)) (Reps.none _ _) (fun _ hk => hk) trivial HB.out HB.out.size (by simp) ?_; intro v5 W_ ho hb hg hat; have HO5 := Aside0.mk ho; clear HB; have HB := Aside0.mk hb; clear ho hb hg hat)) | ((with_reducible refine gate_builtin (b := .append) (xs := #[.tmp 5, .tmp 6]) rfl ?_); at_builtin; go_must (refine Kd.R_append_row (Value.int .i64) (0 : Int) (w0 := w) w.heap.size rfl (.tmp 5) (.tmp 6) 39 3 (.int .i64 0) 8 rfl Try.underlying39 info3 rfl (by omega) v5 [] l (some ad) l.length c (fun _ => True) rfl rfl (fun _ _ => trivial) HO5.out (Kd.C_below HR.out HB.out) HB.out HB.out.size (by have := HL.out; simp; omega) ?_; intro v7 W_ ho hb hg hat; have HO7 := Aside0.mk ho; clear HB; have HB := Aside0.mk hb; clear ho hb hg hat)))
  go_ret
  exact ⟨_, rfl, HO7.out, HB.out⟩
set_option maxHeartbeats 4000000 in
set_option maxRecDepth 100000 in
theorem list_calls (A : Option Addr) (c : Nat) (l : List Int) (w : World) (hr : Kd.C (Kd.int .i64) w A l.length l) (hl : l.length ≤ 1000000) :
  Calls Try.prog 41 #[.slice A l.length c] w fun e w' => ∃ v, e = .returned v ∧ Kd.R (Kd.int .i64) 3 w' w.heap.size (fun _ => True) v l ∧ Below w.heap.size w w' := by
 have HR := Aside0.mk hr
 have HL := Aside0.mk hl
 have HB := Aside0.mk (Below.refl w.heap.size w)
 clear hr hl
 go_enter Try.func41, Try.ntmps41
 go_wp2_with (first | ((with_reducible refine gate_builtin (b := .append) (xs := #[.const (.slice none 0 0), .tmp 3]) rfl ?_); at_builtin; go_must (refine Kd.R_append_row (Value.int .i64) (0 : Int) (w0 := w) w.heap.size rfl (.const (.slice none 0 0)) (.tmp 3) 39 3 (.int .i64 0) 8 rfl Try.underlying39 info3 rfl (by omega) (.slice none 0 0) [] l A l.length c (fun _ => True) rfl rfl (fun _ _ => trivial) (Kd.R_nil _ _ _ _ _) (Kd.C_below HR.out HB.out) HB.out HB.out.size (by have := HL.out; simp; omega) ?_; intro v7 W_ ho hb hg hat; have HO7 := Aside0.mk ho; clear HB; have HB := Aside0.mk hb; clear ho hb hg hat)))
 go_ret
 exact ⟨_, rfl, HO7.out, HB.out⟩
end Go.Proofs.Ytnbbbeghgomnoaa.X
