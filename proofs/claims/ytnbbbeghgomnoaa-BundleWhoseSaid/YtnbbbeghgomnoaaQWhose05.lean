/-
  Words and walks that the proof of BundleWhose leans on, part 5 of 7.
-/
import Derived.Test.YtnbbbeghgomnoaaQWhose04
set_option linter.unusedVariables false
set_option linter.unusedSimpArgs false
namespace Go.Proofs.Ytnbbbeghgomnoaa.X
open Go.RowKit Go.Proofs.YtnbbbeghgomnoaaW.PrintWords Go.Proofs.YtnbbbeghgomnoaaW.PrintLast Go.Proofs.YtnbbbeghgomnoaaW.PrintMore
section
variable {P : Program} {ops : Array Oper} {Q : Exit → Act → World → Prop}
theorem goesV_ {oi : Oper} {N : Option Tmp} {a : Act} {w : World} {K : Act → World → Prop} {f : FuncId} {fn : Func} {c : Operand} {ao : Array Operand} {ts : Array TypeId} (hf : P.funcs[f]? = some fn) (hname : (fn.name == "runtime.NumGoroutine") = false) (hb : fn.body.isSome = true) (args : Array Value)
  (hw : Region.wanted oi (yielded ops a.tmps) = true) (hN : oi.dst = N) (hop : oi.op = .call { callee := .value c, args := ao, argTypes := ts }) (hc : a.eval c = .func (.func f) #[] #[]) (hargs : ao.map a.eval = args)
  (h : Calls P f args w fun e w' => ∃ v, e = .returned v ∧ K (a.put N v) w') : if Region.wanted oi (yielded ops a.tmps) = true then Oper.wp P oi a w K Q else K (a.put N undef) w := by
 refine call_ f args hw hN ?_ h
 have he := enters_ hf hname hb args w
 unfold execOp
 simp [hop, resolve, hc, Deferred.ofValue, invoke, hargs, he]
end
def boundsL (g : List Int → Int) (ts : List (List Int)) : Int × Int := ts.foldl (fun r x => (mn r.1 (g x), mx r.2 (g x))) (g (ts.getD 0 []), g (ts.getD 0 []))
set_option maxHeartbeats 4000000 in
set_option maxRecDepth 100000 in
theorem bounds_lost {A0 : Option Addr} {c0 : Nat} {l0 : List S109} {A1 : Option Addr} {c1 : Nat} {l1 : List S110} {wg : Int} {b gw gm : Nat} {At : Option Addr} {ct : Nat} (ab : Int) {w : World} (hk : Wk A0 c0 l0 A1 c1 l1 wg b gw gm At ct w) (hr1 : Kd.C k110 w A1 l1.length l1) (hn1 : l1.length ≤ 7) (hnt : truthsL l0 l1 wg ≠ []) (hntl : (truthsL l0 l1 wg).length ≤ 78125) :
  Calls Try.prog 71 #[.agg #[.func (.func 80) #[] #[]], .pointer (some ⟨gw, 0, none⟩), .int .i64 ab] w fun e w' => e = .returned (.agg #[.int .i64 (boundsL (fun x => lostN l1 (pad x)) (truthsL l0 l1 wg)).1, .int .i64 (boundsL (fun x => lostN l1 (pad x)) (truthsL l0 l1 wg)).2]) ∧ Below w.heap.size w w' := by
 have hu35 := Try.underlying35
 have hu55 := Try.underlying55
 have hu121 := Try.underlying121
 have hu105 := Try.underlying105
 have hu115 := Try.underlying115
 have HR1 := Aside0.mk hr1
 have HN1 := Aside0.mk hn1
 have HNT := Aside0.mk hntl
 obtain ⟨ts, hts⟩ : ∃ ts, truthsL l0 l1 wg = ts := ⟨_, rfl⟩
 have HTS := Aside0.mk hts
 have HK := Aside0.mk hk
 obtain ⟨y0, hy0⟩ : ∃ y, ts.getD 0 [] = y := ⟨_, rfl⟩
 obtain ⟨nt, hnt2⟩ : ∃ n, (truthsL l0 l1 wg).length = n := ⟨_, rfl⟩
 have hpos : 0 < nt := by rw [← hnt2]; exact List.length_pos_iff.2 hnt
 have hnl : nt ≤ 78125 := by rw [← hnt2]; exact hntl
 obtain ⟨adt, rfl, hct0, hct1, hct2, hct3, hct4, hct5, hct6⟩ := at_T121 hk.row 0 (by omega)
 rw [show (truthsL l0 l1 wg).getD 0 [] = y0 from by rw [hts]; exact hy0] at hct0 hct1 hct2 hct3 hct4 hct5 hct6
 have hadd : adt.add (0 * 7) = adt := by simp [Addr.add]
 rw [hadd] at hct0 hct1 hct2 hct3 hct4 hct5 hct6
 have hcv : w.cell? ⟨gw, 3, none⟩ = some (.slice (some adt) nt ct) := (blk_cell hk.kw 3).trans (by rw [← hnt2]; rfl)
 have HY0 := Aside0.mk hy0
 have HNT2 := Aside0.mk hnt2
 have HCT := Aside0.mk (And.intro hct0 (And.intro hct1 (And.intro hct2 (And.intro hct3 (And.intro hct4 (And.intro hct5 hct6))))))
 have HCV := Aside0.mk hcv
 clear hk hr1 hn1 hts hy0 hnt2 hadd hct0 hct1 hct2 hct3 hct4 hct5 hct6 hcv hntl hnt
 have HB := Aside0.mk (Below.refl w.heap.size w)
 go_enter Try.func71, Try.ntmps71
 go_wp2_with (first | ((with_reducible refine gate_dst (N := 3) rfl ?_); refine box_event ?hg (N := 3) ?hd (cs := #[.func (.func 80) #[] #[]]) (t := 115) ?hr ?_; (case hd => rfl); (case hg => rfl); (case hr => first | (go_simp; done) | (go_simp; rfl)); intro g3 hg W_ hbox hb; have GEg3 := Aside0.mk (by rw [hg]; exact HB.out.size : w.heap.size ≤ g3); replace HK := Aside0.mk (HK.out.below hb); replace HR1 := Aside0.mk (Kd.C_below HR1.out hb); replace HB := Aside0.mk (below_step HB.out hb); have BKg3 := Aside0.mk hbox; clear hb hbox hg) | ((with_reducible refine gate_dst (N := 6) rfl ?_); refine sbox (N := 6) #[.int .i64 0, .int .i64 0] 55 ?_; intro g6 hg W_ hbox hb; have GEg6 := Aside0.mk (by rw [hg]; exact HB.out.size : w.heap.size ≤ g6); replace HK := Aside0.mk (HK.out.below hb); replace HR1 := Aside0.mk (Kd.C_below HR1.out hb); replace BKg3 := Aside0.mk (blk_below BKg3.out hb); replace HB := Aside0.mk (below_step HB.out hb); have BKg6 := Aside0.mk hbox; clear hb hbox hg))
 obtain ⟨hct0, hct1, hct2, hct3, hct4, hct5, hct6⟩ := HCT.out
 replace hct0 := (HB.out.cell (World.block_lt_of_cell? _ _ hct0)).trans hct0
 replace hct1 := (HB.out.cell (World.block_lt_of_cell? _ _ hct1)).trans hct1
 replace hct2 := (HB.out.cell (World.block_lt_of_cell? _ _ hct2)).trans hct2
 replace hct3 := (HB.out.cell (World.block_lt_of_cell? _ _ hct3)).trans hct3
 replace hct4 := (HB.out.cell (World.block_lt_of_cell? _ _ hct4)).trans hct4
 replace hct5 := (HB.out.cell (World.block_lt_of_cell? _ _ hct5)).trans hct5
 replace hct6 := (HB.out.cell (World.block_lt_of_cell? _ _ hct6)).trans hct6
 have hcv := (HB.out.cell (World.block_lt_of_cell? _ _ HCV.out)).trans HCV.out
 have hcf := sc 0 BKg3
 refine start_ (n := 12) (S := fun w' => w'.cell? ⟨g3, 0, none⟩ = some (.func (.func 80) #[] #[]) ∧ w'.cell? ⟨gw, 3, none⟩ = some (.slice (some adt) nt ct) ∧ w'.cell? adt = some (.int .i64 (pad y0 0)) ∧ w'.cell? ⟨adt.block, adt.off + 1, none⟩ = some (.int .i64 (pad y0 1)) ∧ w'.cell? ⟨adt.block, adt.off + 2, none⟩ = some (.int .i64 (pad y0 2)) ∧ w'.cell? ⟨adt.block, adt.off + 3, none⟩ = some (.int .i64 (pad y0 3)) ∧ w'.cell? ⟨adt.block, adt.off + 4, none⟩ = some (.int .i64 (pad y0 4)) ∧ w'.cell? ⟨adt.block, adt.off + 5, none⟩ = some (.int .i64 (pad y0 5)) ∧ w'.cell? ⟨adt.block, adt.off + 6, none⟩ = some (.int .i64 (pad y0 6))) (ds := []) (lm 12 0) (by kernel_rfl) rfl (by kernel_rfl) ⟨hcf, hcv, hct0, hct1, hct2, hct3, hct4, hct5, hct6⟩ (fun hHeld => ?_)
 have hb := below_drew1 (Below.refl W_.heap.size W_)
 replace HK := Aside0.mk (HK.out.below hb)
 replace HR1 := Aside0.mk (Kd.C_below HR1.out hb)
 replace BKg3 := Aside0.mk (blk_below BKg3.out hb)
 replace BKg6 := Aside0.mk (blk_below BKg6.out hb)
 replace HB := Aside0.mk (below_step HB.out hb)
 replace hcf := (hb.cell (World.block_lt_of_cell? _ _ hcf)).trans hcf
 replace hcv := (hb.cell (World.block_lt_of_cell? _ _ hcv)).trans hcv
 replace hct0 := (hb.cell (World.block_lt_of_cell? _ _ hct0)).trans hct0
 replace hct1 := (hb.cell (World.block_lt_of_cell? _ _ hct1)).trans hct1
 replace hct2 := (hb.cell (World.block_lt_of_cell? _ _ hct2)).trans hct2
 replace hct3 := (hb.cell (World.block_lt_of_cell? _ _ hct3)).trans hct3
 replace hct4 := (hb.cell (World.block_lt_of_cell? _ _ hct4)).trans hct4
 replace hct5 := (hb.cell (World.block_lt_of_cell? _ _ hct5)).trans hct5
 replace hct6 := (hb.cell (World.block_lt_of_cell? _ _ hct6)).trans hct6
 generalize W_.drew = W2 at *
 clear hb
 refine sP (i := 0) (N := some 11) (lm 12 1) ?_
 refine sP (i := 2) (N := some 13) (lm 12 5) ?_
 refine sP (i := 3) (N := some 14) (lm 12 13) ?_
 refine sP (i := 4) (N := some 15) (lm 12 29) ?_
 refine sP (i := 5) (N := some 16) (lm 12 61) ?_
 refine sP (i := 9) (N := some 20) (lm 12 573) ?_
 refine take_ (i := 1) (N := some 12) (v := ?_) (a' := ?_) (lm 12 575) rfl rfl (by kernel_rfl) (fun _ _ _ h => h) (Or.inl ⟨by rfl, ?_⟩) hHeld ?_ ?_
 rotate_left
 ·rintro w' ⟨s0, s1, s2, s3, s4, s5, s6, s7, s8⟩
  go_simp
  with_reducible rfl
 rotate_left
 ·simp only [Act.put, List.setIfInBounds_toArray, List.set_cons_zero, List.set_cons_succ, i64_w, i32_w]
  rfl
 refine take_ (i := 6) (N := some 17) (v := ?_) (a' := ?_) (lm 12 639) rfl rfl (by kernel_rfl) (fun _ _ _ h => h) (Or.inl ⟨by rfl, ?_⟩) hHeld ?_ ?_
 rotate_left
 ·rintro w' ⟨s0, s1, s2, s3, s4, s5, s6, s7, s8⟩
  go_simp
  with_reducible rfl
 rotate_left
 ·simp only [Act.put, List.setIfInBounds_toArray, List.set_cons_zero, List.set_cons_succ, i64_w, i32_w]
  rfl
 refine sP (i := 7) (N := some 18) (lm 12 767) ?_
 refine take_ (i := 8) (N := some 19) (v := ?_) (a' := ?_) (lm 12 1023) rfl rfl (by kernel_rfl) (fun _ _ _ h => h) (Or.inl ⟨by rfl, ?_⟩) hHeld ?_ ?_
 rotate_left
 ·rintro w' ⟨s0, s1, s2, s3, s4, s5, s6, s7, s8⟩
  go_simp
  with_reducible rfl
 rotate_left
 ·simp only [Act.put, List.setIfInBounds_toArray, List.set_cons_zero, List.set_cons_succ, i64_w, i32_w]
  rfl
 refine one_ (i := 10) (N := some 21) (lm 12 2047) rfl rfl (by kernel_rfl) (by decide) (fun K hK => ?_)
 refine goesV_ Try.func80 (by kernel_rfl) rfl #[.pointer (some ⟨gw, 0, none⟩), .agg #[.int .i64 (pad y0 0), .int .i64 (pad y0 1), .int .i64 (pad y0 2), .int .i64 (pad y0 3), .int .i64 (pad y0 4), .int .i64 (pad y0 5), .int .i64 (pad y0 6)], .int .i64 ab] (by rfl) rfl rfl (by rfl) (by simp only [List.map_toArray, List.map_cons, List.map_nil]; rfl) ?_
 with_reducible refine (lost_calls (pad y0) ab HK.out HR1.out HN1.out).mono ?_
 rintro e W3 ⟨rfl, hb⟩
 refine ⟨_, rfl, ?_⟩
 replace hcf := (hb.cell (World.block_lt_of_cell? _ _ hcf)).trans hcf
 replace hcv := (hb.cell (World.block_lt_of_cell? _ _ hcv)).trans hcv
 replace hct0 := (hb.cell (World.block_lt_of_cell? _ _ hct0)).trans hct0
 replace hct1 := (hb.cell (World.block_lt_of_cell? _ _ hct1)).trans hct1
 replace hct2 := (hb.cell (World.block_lt_of_cell? _ _ hct2)).trans hct2
 replace hct3 := (hb.cell (World.block_lt_of_cell? _ _ hct3)).trans hct3
 replace hct4 := (hb.cell (World.block_lt_of_cell? _ _ hct4)).trans hct4
 replace hct5 := (hb.cell (World.block_lt_of_cell? _ _ hct5)).trans hct5
 replace hct6 := (hb.cell (World.block_lt_of_cell? _ _ hct6)).trans hct6
 replace HK := Aside0.mk (HK.out.below hb)
 replace HR1 := Aside0.mk (Kd.C_below HR1.out hb)
 replace BKg3 := Aside0.mk (blk_below BKg3.out hb)
 replace BKg6 := Aside0.mk (blk_below BKg6.out hb)
 replace HB := Aside0.mk (below_step HB.out hb)
 clear hb
 refine hK.out _ _ ⟨hcf, hcv, hct0, hct1, hct2, hct3, hct4, hct5, hct6⟩ (fun hHeld => ?_)
 clear hK K
 refine sN ?_
 refine sP (i := 11) (N := some 7) (lm 12 4095) ?_
 refine done_ (by kernel_rfl) ?_
 clear hct0 hct1 hct2 hct3 hct4 hct5 hct6
 obtain ⟨n0, hn0_⟩ : ∃ n0, lostN l1 (pad y0) = n0 := ⟨_, rfl⟩
 have HN0_ := Aside0.mk hn0_
 rw [hn0_]
 clear hn0_
 have hne : g3 < W3.heap.size ∧ g6 < W3.heap.size := ⟨blk_lt BKg3.out, blk_lt BKg6.out⟩
 have HNE := Aside0.mk hne
 clear hne
 have hcv2 : ∀ o, (W3.alloc o).cell? ⟨gw, 3, none⟩ = some (.slice (some adt) nt ct) := fun o => (blk_cell (blk_alloc HK.out.kw o) 3).trans (by rw [← HNT2.out]; rfl)
 go_wp2
 clear hcv2 hcv hcf
 generalize hg8 : W3.heap.size = g8
 have HZ8 := Aside0.mk hg8
 have HB1 := Aside0.mk (below_alloc (Below.refl W3.heap.size W3) (.cells #[.int .i64 n0, .int .i64 n0] 55))
 have BKg8 := Aside0.mk (show (W3.alloc (.cells #[.int .i64 n0, .int .i64 n0] 55)).heap[g8]? = some (.cells #[.int .i64 n0, .int .i64 n0] 55 (0, 0)) from by rw [← hg8]; exact heap_alloc_new W3 _)
 clear hg8
 generalize W3.alloc (.cells #[.int .i64 n0, .int .i64 n0] 55) = W1 at *
 go_loopg [30] nt (fun kq v30 w' => ∃ m : Nat, v30 = .int .i64 (m : Int) ∧ Aside0 (m + kq = nt) ∧ Aside0 (Below W3.heap.size W3 w') ∧ Aside0 (w'.heap[g8]? = some (.cells #[.int .i64 ((ts.take m).foldl (fun r x => (mn r.1 (lostN l1 (pad x)), mx r.2 (lostN l1 (pad x)))) (n0, n0)).1, .int .i64 ((ts.take m).foldl (fun r x => (mn r.1 (lostN l1 (pad x)), mx r.2 (lostN l1 (pad x)))) (n0, n0)).2] 55 (0, 0))))
 case atStart => exact ⟨0, rfl, ⟨Nat.zero_add _⟩, HB1, BKg8⟩
 case round =>
  clear BKg8 HB1
  obtain ⟨m, rfl, HM, HB1, BKg8⟩ := hrel
  obtain ⟨rl, hrl⟩ : ∃ r, ((ts.take m).foldl (fun r x => (mn r.1 (lostN l1 (pad x)), mx r.2 (lostN l1 (pad x)))) (n0, n0)).1 = r := ⟨_, rfl⟩
  obtain ⟨rh, hrh⟩ : ∃ r, ((ts.take m).foldl (fun r x => (mn r.1 (lostN l1 (pad x)), mx r.2 (lostN l1 (pad x)))) (n0, n0)).2 = r := ⟨_, rfl⟩
  rw [hrl, hrh] at BKg8
  have HRL := Aside0.mk hrl
  have HRH := Aside0.mk hrh
  clear hrl hrh
  by_cases hlt : m < nt
  ·cases gk with
   | zero => have := HM.out; omega
   | succ k1 =>
   obtain ⟨adt2, ea, hct0, hct1, hct2, hct3, hct4, hct5, hct6⟩ := at_T121 (Kd.C_below HK.out.row HB1.out) m (by have := HNT2.out; omega)
   cases ea
   rw [HTS.out] at hct0 hct1 hct2 hct3 hct4 hct5 hct6
   have hmt : m < ts.length := by rw [← HTS.out, HNT2.out]; exact hlt
   have htk : ts.take (m + 1) = ts.take m ++ [ts.getD m []] := by
    rw [List.take_succ_eq_append_getElem hmt, List.getD_eq_getElem?_getD, List.getElem?_eq_getElem hmt, Option.getD_some]
   have HTK := Aside0.mk htk
   clear htk hmt
   generalize ts.getD m [] = y at *
   go_wp2
   have hb := below_alloc (Below.refl wr.heap.size wr) (.cells #[.int .i64 (pad y 0), .int .i64 (pad y 1), .int .i64 (pad y 2), .int .i64 (pad y 3), .int .i64 (pad y 4), .int .i64 (pad y 5), .int .i64 (pad y 6)] 121)
   have BKg10 := Aside0.mk (heap_alloc_new wr (.cells #[.int .i64 (pad y 0), .int .i64 (pad y 1), .int .i64 (pad y 2), .int .i64 (pad y 3), .int .i64 (pad y 4), .int .i64 (pad y 5), .int .i64 (pad y 6)] 121))
   have LT8 := Aside0.mk (blk_lt BKg8.out)
   replace HB1 := Aside0.mk (below_step HB1.out hb)
   replace BKg8 := Aside0.mk (blk_below BKg8.out hb)
   clear hb
   generalize wr.alloc (.cells #[.int .i64 (pad y 0), .int .i64 (pad y 1), .int .i64 (pad y 2), .int .i64 (pad y 3), .int .i64 (pad y 4), .int .i64 (pad y 5), .int .i64 (pad y 6)] 121) = W5 at *
   clear hct0 hct1 hct2 hct3 hct4 hct5 hct6
   generalize wr.heap.size = g10 at *
   have hcl := sc 0 BKg8
   have hch := sc 1 BKg8
   have hcf : W5.cell? ⟨g3, 0, none⟩ = some (.func (.func 80) #[] #[]) := (blk_cell (blk_below BKg3.out HB1.out) 0).trans rfl
   have hca0 := sc 0 BKg10
   have hca1 := sc 1 BKg10
   have hca2 := sc 2 BKg10
   have hca3 := sc 3 BKg10
   have hca4 := sc 4 BKg10
   have hca5 := sc 5 BKg10
   have hca6 := sc 6 BKg10
   refine start_ (n := 9) (S := fun w' => w'.cell? ⟨g8, 0, none⟩ = some (.int .i64 rl) ∧ w'.cell? ⟨g8, 1, none⟩ = some (.int .i64 rh) ∧ w'.cell? ⟨g3, 0, none⟩ = some (.func (.func 80) #[] #[]) ∧ w'.cell? ⟨g10, 0, none⟩ = some (.int .i64 (pad y 0)) ∧ w'.cell? ⟨g10, 1, none⟩ = some (.int .i64 (pad y 1)) ∧ w'.cell? ⟨g10, 2, none⟩ = some (.int .i64 (pad y 2)) ∧ w'.cell? ⟨g10, 3, none⟩ = some (.int .i64 (pad y 3)) ∧ w'.cell? ⟨g10, 4, none⟩ = some (.int .i64 (pad y 4)) ∧ w'.cell? ⟨g10, 5, none⟩ = some (.int .i64 (pad y 5)) ∧ w'.cell? ⟨g10, 6, none⟩ = some (.int .i64 (pad y 6))) (ds := [8]) (lm 9 0) (by kernel_rfl) rfl (by kernel_rfl) ⟨hcl, hch, hcf, hca0, hca1, hca2, hca3, hca4, hca5, hca6⟩ (fun hHeld => ?_)
   have hb := below_drew1 (Below.refl W5.heap.size W5)
   replace HB1 := Aside0.mk (below_step HB1.out hb)
   replace BKg8 := Aside0.mk (blk_below BKg8.out hb)
   replace BKg10 := Aside0.mk (blk_below BKg10.out hb)
   replace hcl := (hb.cell (World.block_lt_of_cell? _ _ hcl)).trans hcl
   replace hch := (hb.cell (World.block_lt_of_cell? _ _ hch)).trans hch
   replace hcf := (hb.cell (World.block_lt_of_cell? _ _ hcf)).trans hcf
   replace hca0 := (hb.cell (World.block_lt_of_cell? _ _ hca0)).trans hca0
   replace hca1 := (hb.cell (World.block_lt_of_cell? _ _ hca1)).trans hca1
   replace hca2 := (hb.cell (World.block_lt_of_cell? _ _ hca2)).trans hca2
   replace hca3 := (hb.cell (World.block_lt_of_cell? _ _ hca3)).trans hca3
   replace hca4 := (hb.cell (World.block_lt_of_cell? _ _ hca4)).trans hca4
   replace hca5 := (hb.cell (World.block_lt_of_cell? _ _ hca5)).trans hca5
   replace hca6 := (hb.cell (World.block_lt_of_cell? _ _ hca6)).trans hca6
   generalize W5.drew = W7 at *
   clear hb
   refine sP (i := 1) (N := some 35) (lm 9 2) ?_
   refine sP (i := 3) (N := some 37) (lm 9 10) ?_
   refine sP (i := 5) (N := some 39) (lm 9 42) ?_
   refine take_ (i := 0) (N := some 34) (v := ?_) (a' := ?_) (lm 9 43) rfl rfl (by kernel_rfl) (fun _ _ _ h => h) (Or.inl ⟨by rfl, ?_⟩) hHeld ?_ ?_
   rotate_left
   ·rintro w' ⟨s0, s1, s2, s3, s4, s5, s6, s7, s8, s9⟩
    go_simp
    with_reducible rfl
   rotate_left
   ·simp only [Act.put, List.setIfInBounds_toArray, List.set_cons_zero, List.set_cons_succ, i64_w, i32_w]
    rfl
   refine take_ (i := 2) (N := some 36) (v := ?_) (a' := ?_) (lm 9 47) rfl rfl (by kernel_rfl) (fun _ _ _ h => h) (Or.inl ⟨by rfl, ?_⟩) hHeld ?_ ?_
   rotate_left
   ·rintro w' ⟨s0, s1, s2, s3, s4, s5, s6, s7, s8, s9⟩
    go_simp
    with_reducible rfl
   rotate_left
   ·simp only [Act.put, List.setIfInBounds_toArray, List.set_cons_zero, List.set_cons_succ, i64_w, i32_w]
    rfl
   refine take_ (i := 4) (N := some 38) (v := ?_) (a' := ?_) (lm 9 63) rfl rfl (by kernel_rfl) (fun _ _ _ h => h) (Or.inl ⟨by rfl, ?_⟩) hHeld ?_ ?_
   rotate_left
   ·rintro w' ⟨s0, s1, s2, s3, s4, s5, s6, s7, s8, s9⟩
    go_simp
    with_reducible rfl
   rotate_left
   ·simp only [Act.put, List.setIfInBounds_toArray, List.set_cons_zero, List.set_cons_succ, i64_w, i32_w]
    rfl
   refine one_ (i := 6) (N := some 40) (lm 9 127) rfl rfl (by kernel_rfl) (by decide) (fun K hK => ?_)
   refine goesV_ Try.func80 (by kernel_rfl) rfl #[.pointer (some ⟨gw, 0, none⟩), .agg #[.int .i64 (pad y 0), .int .i64 (pad y 1), .int .i64 (pad y 2), .int .i64 (pad y 3), .int .i64 (pad y 4), .int .i64 (pad y 5), .int .i64 (pad y 6)], .int .i64 ab] (by rfl) rfl rfl (by rfl) (by simp only [List.map_toArray, List.map_cons, List.map_nil]; rfl) ?_
   with_reducible refine (lost_calls (pad y) ab (HK.out.below HB1.out) (Kd.C_below HR1.out HB1.out) HN1.out).mono ?_
   rintro e W8 ⟨rfl, hb⟩
   refine ⟨_, rfl, ?_⟩
   replace hcl := (hb.cell (World.block_lt_of_cell? _ _ hcl)).trans hcl
   replace hch := (hb.cell (World.block_lt_of_cell? _ _ hch)).trans hch
   replace hcf := (hb.cell (World.block_lt_of_cell? _ _ hcf)).trans hcf
   replace hca0 := (hb.cell (World.block_lt_of_cell? _ _ hca0)).trans hca0
   replace hca1 := (hb.cell (World.block_lt_of_cell? _ _ hca1)).trans hca1
   replace hca2 := (hb.cell (World.block_lt_of_cell? _ _ hca2)).trans hca2
   replace hca3 := (hb.cell (World.block_lt_of_cell? _ _ hca3)).trans hca3
   replace hca4 := (hb.cell (World.block_lt_of_cell? _ _ hca4)).trans hca4
   replace hca5 := (hb.cell (World.block_lt_of_cell? _ _ hca5)).trans hca5
   replace hca6 := (hb.cell (World.block_lt_of_cell? _ _ hca6)).trans hca6
   replace HB1 := Aside0.mk (below_step HB1.out hb)
   replace BKg8 := Aside0.mk (blk_below BKg8.out hb)
   replace BKg10 := Aside0.mk (blk_below BKg10.out hb)
   clear hb
   refine hK.out _ _ ⟨hcl, hch, hcf, hca0, hca1, hca2, hca3, hca4, hca5, hca6⟩ (fun hHeld => ?_)
   clear hK K
   refine sN ?_
   refine one_ (i := 7) (N := some 41) (lm 9 255) rfl rfl (by kernel_rfl) (by decide) (fun K hK => ?_)
   refine goes_ Try.func97 (by kernel_rfl) rfl #[.agg #[.int .i64 rl, .int .i64 rh], .int .i64 (lostN l1 (pad y))] (by rfl) rfl rfl (by simp only [List.map_toArray, List.map_cons, List.map_nil]; rfl) ?_
   with_reducible refine (wider_calls rl rh (lostN l1 (pad y)) W8).mono ?_
   rintro e W9 ⟨rfl, hb⟩
   refine ⟨_, rfl, ?_⟩
   replace hcl := (hb.cell (World.block_lt_of_cell? _ _ hcl)).trans hcl
   replace hch := (hb.cell (World.block_lt_of_cell? _ _ hch)).trans hch
   replace hcf := (hb.cell (World.block_lt_of_cell? _ _ hcf)).trans hcf
   replace hca0 := (hb.cell (World.block_lt_of_cell? _ _ hca0)).trans hca0
   replace hca1 := (hb.cell (World.block_lt_of_cell? _ _ hca1)).trans hca1
   replace hca2 := (hb.cell (World.block_lt_of_cell? _ _ hca2)).trans hca2
   replace hca3 := (hb.cell (World.block_lt_of_cell? _ _ hca3)).trans hca3
   replace hca4 := (hb.cell (World.block_lt_of_cell? _ _ hca4)).trans hca4
   replace hca5 := (hb.cell (World.block_lt_of_cell? _ _ hca5)).trans hca5
   replace hca6 := (hb.cell (World.block_lt_of_cell? _ _ hca6)).trans hca6
   replace HB1 := Aside0.mk (below_step HB1.out hb)
   replace BKg8 := Aside0.mk (blk_below BKg8.out hb)
   replace BKg10 := Aside0.mk (blk_below BKg10.out hb)
   clear hb
   refine hK.out _ _ ⟨hcl, hch, hcf, hca0, hca1, hca2, hca3, hca4, hca5, hca6⟩ (fun hHeld => ?_)
   clear hK K
   refine sN ?_
   refine last_ (i := 8) (N := none) (lm 9 511) rfl rfl (by kernel_rfl) (by decide) (fun K hK => ?_)
   have hf0 : W9.frozen? ⟨g8, 0, none⟩ = false := blk_frozen BKg8.out 0
   have hf1 : W9.frozen? ⟨g8, 1, none⟩ = false := blk_frozen BKg8.out 1
   refine skip_ (w1 := ?_) (by rfl) rfl ?_ ?_
   rotate_left
   ·go_simp
    rfl
   refine hK.out _ _ ?_
   clear hK K
   refine done_ (by kernel_rfl) ?_
   go_wp2
   obtain ⟨ny, hny⟩ : ∃ n, lostN l1 (pad y) = n := ⟨_, rfl⟩
   have HNY := Aside0.mk hny
   clear hny
   have HB9 := Aside0.mk ((HB1.out.setCell (p := ⟨g8, 0, none⟩) (by rw [← HZ8.out]; exact Nat.le_refl _) (.int .i64 (mn rl (lostN l1 (pad y))))).setCell (p := ⟨g8, 1, none⟩) (by rw [← HZ8.out]; exact Nat.le_refl _) (.int .i64 (mx rh (lostN l1 (pad y)))))
   have BK9 := Aside0.mk (blk_put (blk_put BKg8.out 0 (.int .i64 (mn rl (lostN l1 (pad y)))) rfl) 1 (.int .i64 (mx rh (lostN l1 (pad y)))) rfl)
   go_roundg k1
   case measure => omega
   case rel => exact ⟨m + 1, by go_num, ⟨by have := HM.out; omega⟩, HB9, ⟨by rw [HTK.out, List.foldl_append, List.foldl_cons, List.foldl_nil, HRL.out, HRH.out]; exact BK9.out⟩⟩
  ·obtain rfl : m = nt := by have := HM.out; omega
   have hl0 := sc 0 BKg8
   have hl1 := sc 1 BKg8
   have BK6 := Aside0.mk (blk_below BKg6.out HB1.out)
   have hf0 := blk_frozen BK6.out 0
   have hf1 := blk_frozen BK6.out 1
   have hx0 := sc 0 BK6
   have hx1 := sc 1 BK6
   go_wp2
   have hbk := blk_put (blk_put BK6.out 0 (.int .i64 rl) rfl) 1 (.int .i64 rh) rfl
   refine bodyPost_ret (results_cell_row rfl _ _ g6 55 #[.int .i64 rl, .int .i64 rh] (0, 0) _ rfl hbk Try.underlying55 rfl (by kernel_rfl)) rfl ?_
   have hbs : boundsL (fun x => lostN l1 (pad x)) (truthsL l0 l1 wg) = (rl, rh) := by
    unfold boundsL
    rw [HTS.out, HY0.out, show (fun x => lostN l1 (pad x)) y0 = n0 from HN0_.out, ← HRL.out, ← HRH.out, List.take_of_length_le (by rw [← HTS.out, HNT2.out]; exact Nat.le_refl _)]
   exact ⟨by rw [hbs], ((below_step HB.out HB1.out).setCell (p := ⟨g6, 0, none⟩) GEg6.out _).setCell (p := ⟨g6, 1, none⟩) GEg6.out _⟩
set_option maxHeartbeats 4000000 in
set_option maxRecDepth 100000 in
theorem bounds_missed {A0 : Option Addr} {c0 : Nat} {l0 : List S109} {A1 : Option Addr} {c1 : Nat} {l1 : List S110} {wg : Int} {b gw gm : Nat} {At : Option Addr} {ct : Nat} (ab : Int) {w : World} (hk : Wk A0 c0 l0 A1 c1 l1 wg b gw gm At ct w) (hr1 : Kd.C k110 w A1 l1.length l1) (hn1 : l1.length ≤ 7) (hnt : truthsL l0 l1 wg ≠ []) (hntl : (truthsL l0 l1 wg).length ≤ 78125) :
  Calls Try.prog 71 #[.agg #[.func (.func 70) #[] #[]], .pointer (some ⟨gw, 0, none⟩), .int .i64 ab] w fun e w' => e = .returned (.agg #[.int .i64 (boundsL (fun x => missN l1 (pad x) ab) (truthsL l0 l1 wg)).1, .int .i64 (boundsL (fun x => missN l1 (pad x) ab) (truthsL l0 l1 wg)).2]) ∧ Below w.heap.size w w' := by
 have hu35 := Try.underlying35
 have hu55 := Try.underlying55
 have hu121 := Try.underlying121
 have hu105 := Try.underlying105
 have hu115 := Try.underlying115
 have HR1 := Aside0.mk hr1
 have HN1 := Aside0.mk hn1
 have HNT := Aside0.mk hntl
 obtain ⟨ts, hts⟩ : ∃ ts, truthsL l0 l1 wg = ts := ⟨_, rfl⟩
 have HTS := Aside0.mk hts
 have HK := Aside0.mk hk
 obtain ⟨y0, hy0⟩ : ∃ y, ts.getD 0 [] = y := ⟨_, rfl⟩
 obtain ⟨nt, hnt2⟩ : ∃ n, (truthsL l0 l1 wg).length = n := ⟨_, rfl⟩
 have hpos : 0 < nt := by rw [← hnt2]; exact List.length_pos_iff.2 hnt
 have hnl : nt ≤ 78125 := by rw [← hnt2]; exact hntl
 obtain ⟨adt, rfl, hct0, hct1, hct2, hct3, hct4, hct5, hct6⟩ := at_T121 hk.row 0 (by omega)
 rw [show (truthsL l0 l1 wg).getD 0 [] = y0 from by rw [hts]; exact hy0] at hct0 hct1 hct2 hct3 hct4 hct5 hct6
 have hadd : adt.add (0 * 7) = adt := by simp [Addr.add]
 rw [hadd] at hct0 hct1 hct2 hct3 hct4 hct5 hct6
 have hcv : w.cell? ⟨gw, 3, none⟩ = some (.slice (some adt) nt ct) := (blk_cell hk.kw 3).trans (by rw [← hnt2]; rfl)
 have HY0 := Aside0.mk hy0
 have HNT2 := Aside0.mk hnt2
 have HCT := Aside0.mk (And.intro hct0 (And.intro hct1 (And.intro hct2 (And.intro hct3 (And.intro hct4 (And.intro hct5 hct6))))))
 have HCV := Aside0.mk hcv
 clear hk hr1 hn1 hts hy0 hnt2 hadd hct0 hct1 hct2 hct3 hct4 hct5 hct6 hcv hntl hnt
 have HB := Aside0.mk (Below.refl w.heap.size w)
 go_enter Try.func71, Try.ntmps71
 go_wp2_with (first | ((with_reducible refine gate_dst (N := 3) rfl ?_); refine box_event ?hg (N := 3) ?hd (cs := #[.func (.func 70) #[] #[]]) (t := 115) ?hr ?_; (case hd => rfl); (case hg => rfl); (case hr => first | (go_simp; done) | (go_simp; rfl)); intro g3 hg W_ hbox hb; have GEg3 := Aside0.mk (by rw [hg]; exact HB.out.size : w.heap.size ≤ g3); replace HK := Aside0.mk (HK.out.below hb); replace HR1 := Aside0.mk (Kd.C_below HR1.out hb); replace HB := Aside0.mk (below_step HB.out hb); have BKg3 := Aside0.mk hbox; clear hb hbox hg) | ((with_reducible refine gate_dst (N := 6) rfl ?_); refine sbox (N := 6) #[.int .i64 0, .int .i64 0] 55 ?_; intro g6 hg W_ hbox hb; have GEg6 := Aside0.mk (by rw [hg]; exact HB.out.size : w.heap.size ≤ g6); replace HK := Aside0.mk (HK.out.below hb); replace HR1 := Aside0.mk (Kd.C_below HR1.out hb); replace BKg3 := Aside0.mk (blk_below BKg3.out hb); replace HB := Aside0.mk (below_step HB.out hb); have BKg6 := Aside0.mk hbox; clear hb hbox hg))
 obtain ⟨hct0, hct1, hct2, hct3, hct4, hct5, hct6⟩ := HCT.out
 replace hct0 := (HB.out.cell (World.block_lt_of_cell? _ _ hct0)).trans hct0
 replace hct1 := (HB.out.cell (World.block_lt_of_cell? _ _ hct1)).trans hct1
 replace hct2 := (HB.out.cell (World.block_lt_of_cell? _ _ hct2)).trans hct2
 replace hct3 := (HB.out.cell (World.block_lt_of_cell? _ _ hct3)).trans hct3
 replace hct4 := (HB.out.cell (World.block_lt_of_cell? _ _ hct4)).trans hct4
 replace hct5 := (HB.out.cell (World.block_lt_of_cell? _ _ hct5)).trans hct5
 replace hct6 := (HB.out.cell (World.block_lt_of_cell? _ _ hct6)).trans hct6
 have hcv := (HB.out.cell (World.block_lt_of_cell? _ _ HCV.out)).trans HCV.out
 have hcf := sc 0 BKg3
 refine start_ (n := 12) (S := fun w' => w'.cell? ⟨g3, 0, none⟩ = some (.func (.func 70) #[] #[]) ∧ w'.cell? ⟨gw, 3, none⟩ = some (.slice (some adt) nt ct) ∧ w'.cell? adt = some (.int .i64 (pad y0 0)) ∧ w'.cell? ⟨adt.block, adt.off + 1, none⟩ = some (.int .i64 (pad y0 1)) ∧ w'.cell? ⟨adt.block, adt.off + 2, none⟩ = some (.int .i64 (pad y0 2)) ∧ w'.cell? ⟨adt.block, adt.off + 3, none⟩ = some (.int .i64 (pad y0 3)) ∧ w'.cell? ⟨adt.block, adt.off + 4, none⟩ = some (.int .i64 (pad y0 4)) ∧ w'.cell? ⟨adt.block, adt.off + 5, none⟩ = some (.int .i64 (pad y0 5)) ∧ w'.cell? ⟨adt.block, adt.off + 6, none⟩ = some (.int .i64 (pad y0 6))) (ds := []) (lm 12 0) (by kernel_rfl) rfl (by kernel_rfl) ⟨hcf, hcv, hct0, hct1, hct2, hct3, hct4, hct5, hct6⟩ (fun hHeld => ?_)
 have hb := below_drew1 (Below.refl W_.heap.size W_)
 replace HK := Aside0.mk (HK.out.below hb)
 replace HR1 := Aside0.mk (Kd.C_below HR1.out hb)
 replace BKg3 := Aside0.mk (blk_below BKg3.out hb)
 replace BKg6 := Aside0.mk (blk_below BKg6.out hb)
 replace HB := Aside0.mk (below_step HB.out hb)
 replace hcf := (hb.cell (World.block_lt_of_cell? _ _ hcf)).trans hcf
 replace hcv := (hb.cell (World.block_lt_of_cell? _ _ hcv)).trans hcv
 replace hct0 := (hb.cell (World.block_lt_of_cell? _ _ hct0)).trans hct0
 replace hct1 := (hb.cell (World.block_lt_of_cell? _ _ hct1)).trans hct1
 replace hct2 := (hb.cell (World.block_lt_of_cell? _ _ hct2)).trans hct2
 replace hct3 := (hb.cell (World.block_lt_of_cell? _ _ hct3)).trans hct3
 replace hct4 := (hb.cell (World.block_lt_of_cell? _ _ hct4)).trans hct4
 replace hct5 := (hb.cell (World.block_lt_of_cell? _ _ hct5)).trans hct5
 replace hct6 := (hb.cell (World.block_lt_of_cell? _ _ hct6)).trans hct6
 generalize W_.drew = W2 at *
 clear hb
 refine sP (i := 0) (N := some 11) (lm 12 1) ?_
 refine sP (i := 2) (N := some 13) (lm 12 5) ?_
 refine sP (i := 3) (N := some 14) (lm 12 13) ?_
 refine sP (i := 4) (N := some 15) (lm 12 29) ?_
 refine sP (i := 5) (N := some 16) (lm 12 61) ?_
 refine sP (i := 9) (N := some 20) (lm 12 573) ?_
 refine take_ (i := 1) (N := some 12) (v := ?_) (a' := ?_) (lm 12 575) rfl rfl (by kernel_rfl) (fun _ _ _ h => h) (Or.inl ⟨by rfl, ?_⟩) hHeld ?_ ?_
 rotate_left
 ·rintro w' ⟨s0, s1, s2, s3, s4, s5, s6, s7, s8⟩
  go_simp
  with_reducible rfl
 rotate_left
 ·simp only [Act.put, List.setIfInBounds_toArray, List.set_cons_zero, List.set_cons_succ, i64_w, i32_w]
  rfl
 refine take_ (i := 6) (N := some 17) (v := ?_) (a' := ?_) (lm 12 639) rfl rfl (by kernel_rfl) (fun _ _ _ h => h) (Or.inl ⟨by rfl, ?_⟩) hHeld ?_ ?_
 rotate_left
 ·rintro w' ⟨s0, s1, s2, s3, s4, s5, s6, s7, s8⟩
  go_simp
  with_reducible rfl
 rotate_left
 ·simp only [Act.put, List.setIfInBounds_toArray, List.set_cons_zero, List.set_cons_succ, i64_w, i32_w]
  rfl
 refine sP (i := 7) (N := some 18) (lm 12 767) ?_
 refine take_ (i := 8) (N := some 19) (v := ?_) (a' := ?_) (lm 12 1023) rfl rfl (by kernel_rfl) (fun _ _ _ h => h) (Or.inl ⟨by rfl, ?_⟩) hHeld ?_ ?_
 rotate_left
 ·rintro w' ⟨s0, s1, s2, s3, s4, s5, s6, s7, s8⟩
  go_simp
  with_reducible rfl
 rotate_left
 ·simp only [Act.put, List.setIfInBounds_toArray, List.set_cons_zero, List.set_cons_succ, i64_w, i32_w]
  rfl
 refine one_ (i := 10) (N := some 21) (lm 12 2047) rfl rfl (by kernel_rfl) (by decide) (fun K hK => ?_)
 refine goesV_ Try.func70 (by kernel_rfl) rfl #[.pointer (some ⟨gw, 0, none⟩), .agg #[.int .i64 (pad y0 0), .int .i64 (pad y0 1), .int .i64 (pad y0 2), .int .i64 (pad y0 3), .int .i64 (pad y0 4), .int .i64 (pad y0 5), .int .i64 (pad y0 6)], .int .i64 ab] (by rfl) rfl rfl (by rfl) (by simp only [List.map_toArray, List.map_cons, List.map_nil]; rfl) ?_
 with_reducible refine (missed_calls (pad y0) ab HK.out HR1.out HN1.out).mono ?_
 rintro e W3 ⟨rfl, hb⟩
 refine ⟨_, rfl, ?_⟩
 replace hcf := (hb.cell (World.block_lt_of_cell? _ _ hcf)).trans hcf
 replace hcv := (hb.cell (World.block_lt_of_cell? _ _ hcv)).trans hcv
 replace hct0 := (hb.cell (World.block_lt_of_cell? _ _ hct0)).trans hct0
 replace hct1 := (hb.cell (World.block_lt_of_cell? _ _ hct1)).trans hct1
 replace hct2 := (hb.cell (World.block_lt_of_cell? _ _ hct2)).trans hct2
 replace hct3 := (hb.cell (World.block_lt_of_cell? _ _ hct3)).trans hct3
 replace hct4 := (hb.cell (World.block_lt_of_cell? _ _ hct4)).trans hct4
 replace hct5 := (hb.cell (World.block_lt_of_cell? _ _ hct5)).trans hct5
 replace hct6 := (hb.cell (World.block_lt_of_cell? _ _ hct6)).trans hct6
 replace HK := Aside0.mk (HK.out.below hb)
 replace HR1 := Aside0.mk (Kd.C_below HR1.out hb)
 replace BKg3 := Aside0.mk (blk_below BKg3.out hb)
 replace BKg6 := Aside0.mk (blk_below BKg6.out hb)
 replace HB := Aside0.mk (below_step HB.out hb)
 clear hb
 refine hK.out _ _ ⟨hcf, hcv, hct0, hct1, hct2, hct3, hct4, hct5, hct6⟩ (fun hHeld => ?_)
 clear hK K
 refine sN ?_
 refine sP (i := 11) (N := some 7) (lm 12 4095) ?_
 refine done_ (by kernel_rfl) ?_
 clear hct0 hct1 hct2 hct3 hct4 hct5 hct6
 obtain ⟨n0, hn0_⟩ : ∃ n0, missN l1 (pad y0) ab = n0 := ⟨_, rfl⟩
 have HN0_ := Aside0.mk hn0_
 rw [hn0_]
 clear hn0_
 have hne : g3 < W3.heap.size ∧ g6 < W3.heap.size := ⟨blk_lt BKg3.out, blk_lt BKg6.out⟩
 have HNE := Aside0.mk hne
 clear hne
 have hcv2 : ∀ o, (W3.alloc o).cell? ⟨gw, 3, none⟩ = some (.slice (some adt) nt ct) := fun o => (blk_cell (blk_alloc HK.out.kw o) 3).trans (by rw [← HNT2.out]; rfl)
 go_wp2
 clear hcv2 hcv hcf
 generalize hg8 : W3.heap.size = g8
 have HZ8 := Aside0.mk hg8
 have HB1 := Aside0.mk (below_alloc (Below.refl W3.heap.size W3) (.cells #[.int .i64 n0, .int .i64 n0] 55))
 have BKg8 := Aside0.mk (show (W3.alloc (.cells #[.int .i64 n0, .int .i64 n0] 55)).heap[g8]? = some (.cells #[.int .i64 n0, .int .i64 n0] 55 (0, 0)) from by rw [← hg8]; exact heap_alloc_new W3 _)
 clear hg8
 generalize W3.alloc (.cells #[.int .i64 n0, .int .i64 n0] 55) = W1 at *
 go_loopg [30] nt (fun kq v30 w' => ∃ m : Nat, v30 = .int .i64 (m : Int) ∧ Aside0 (m + kq = nt) ∧ Aside0 (Below W3.heap.size W3 w') ∧ Aside0 (w'.heap[g8]? = some (.cells #[.int .i64 ((ts.take m).foldl (fun r x => (mn r.1 (missN l1 (pad x) ab), mx r.2 (missN l1 (pad x) ab))) (n0, n0)).1, .int .i64 ((ts.take m).foldl (fun r x => (mn r.1 (missN l1 (pad x) ab), mx r.2 (missN l1 (pad x) ab))) (n0, n0)).2] 55 (0, 0))))
 case atStart => exact ⟨0, rfl, ⟨Nat.zero_add _⟩, HB1, BKg8⟩
 case round =>
  clear BKg8 HB1
  obtain ⟨m, rfl, HM, HB1, BKg8⟩ := hrel
  obtain ⟨rl, hrl⟩ : ∃ r, ((ts.take m).foldl (fun r x => (mn r.1 (missN l1 (pad x) ab), mx r.2 (missN l1 (pad x) ab))) (n0, n0)).1 = r := ⟨_, rfl⟩
  obtain ⟨rh, hrh⟩ : ∃ r, ((ts.take m).foldl (fun r x => (mn r.1 (missN l1 (pad x) ab), mx r.2 (missN l1 (pad x) ab))) (n0, n0)).2 = r := ⟨_, rfl⟩
  rw [hrl, hrh] at BKg8
  have HRL := Aside0.mk hrl
  have HRH := Aside0.mk hrh
  clear hrl hrh
  by_cases hlt : m < nt
  ·cases gk with
   | zero => have := HM.out; omega
   | succ k1 =>
   obtain ⟨adt2, ea, hct0, hct1, hct2, hct3, hct4, hct5, hct6⟩ := at_T121 (Kd.C_below HK.out.row HB1.out) m (by have := HNT2.out; omega)
   cases ea
   rw [HTS.out] at hct0 hct1 hct2 hct3 hct4 hct5 hct6
   have hmt : m < ts.length := by rw [← HTS.out, HNT2.out]; exact hlt
   have htk : ts.take (m + 1) = ts.take m ++ [ts.getD m []] := by
    rw [List.take_succ_eq_append_getElem hmt, List.getD_eq_getElem?_getD, List.getElem?_eq_getElem hmt, Option.getD_some]
   have HTK := Aside0.mk htk
   clear htk hmt
   generalize ts.getD m [] = y at *
   go_wp2
   have hb := below_alloc (Below.refl wr.heap.size wr) (.cells #[.int .i64 (pad y 0), .int .i64 (pad y 1), .int .i64 (pad y 2), .int .i64 (pad y 3), .int .i64 (pad y 4), .int .i64 (pad y 5), .int .i64 (pad y 6)] 121)
   have BKg10 := Aside0.mk (heap_alloc_new wr (.cells #[.int .i64 (pad y 0), .int .i64 (pad y 1), .int .i64 (pad y 2), .int .i64 (pad y 3), .int .i64 (pad y 4), .int .i64 (pad y 5), .int .i64 (pad y 6)] 121))
   have LT8 := Aside0.mk (blk_lt BKg8.out)
   replace HB1 := Aside0.mk (below_step HB1.out hb)
   replace BKg8 := Aside0.mk (blk_below BKg8.out hb)
   clear hb
   generalize wr.alloc (.cells #[.int .i64 (pad y 0), .int .i64 (pad y 1), .int .i64 (pad y 2), .int .i64 (pad y 3), .int .i64 (pad y 4), .int .i64 (pad y 5), .int .i64 (pad y 6)] 121) = W5 at *
   clear hct0 hct1 hct2 hct3 hct4 hct5 hct6
   generalize wr.heap.size = g10 at *
   have hcl := sc 0 BKg8
   have hch := sc 1 BKg8
   have hcf : W5.cell? ⟨g3, 0, none⟩ = some (.func (.func 70) #[] #[]) := (blk_cell (blk_below BKg3.out HB1.out) 0).trans rfl
   have hca0 := sc 0 BKg10
   have hca1 := sc 1 BKg10
   have hca2 := sc 2 BKg10
   have hca3 := sc 3 BKg10
   have hca4 := sc 4 BKg10
   have hca5 := sc 5 BKg10
   have hca6 := sc 6 BKg10
   refine start_ (n := 9) (S := fun w' => w'.cell? ⟨g8, 0, none⟩ = some (.int .i64 rl) ∧ w'.cell? ⟨g8, 1, none⟩ = some (.int .i64 rh) ∧ w'.cell? ⟨g3, 0, none⟩ = some (.func (.func 70) #[] #[]) ∧ w'.cell? ⟨g10, 0, none⟩ = some (.int .i64 (pad y 0)) ∧ w'.cell? ⟨g10, 1, none⟩ = some (.int .i64 (pad y 1)) ∧ w'.cell? ⟨g10, 2, none⟩ = some (.int .i64 (pad y 2)) ∧ w'.cell? ⟨g10, 3, none⟩ = some (.int .i64 (pad y 3)) ∧ w'.cell? ⟨g10, 4, none⟩ = some (.int .i64 (pad y 4)) ∧ w'.cell? ⟨g10, 5, none⟩ = some (.int .i64 (pad y 5)) ∧ w'.cell? ⟨g10, 6, none⟩ = some (.int .i64 (pad y 6))) (ds := [8]) (lm 9 0) (by kernel_rfl) rfl (by kernel_rfl) ⟨hcl, hch, hcf, hca0, hca1, hca2, hca3, hca4, hca5, hca6⟩ (fun hHeld => ?_)
   have hb := below_drew1 (Below.refl W5.heap.size W5)
   replace HB1 := Aside0.mk (below_step HB1.out hb)
   replace BKg8 := Aside0.mk (blk_below BKg8.out hb)
   replace BKg10 := Aside0.mk (blk_below BKg10.out hb)
   replace hcl := (hb.cell (World.block_lt_of_cell? _ _ hcl)).trans hcl
   replace hch := (hb.cell (World.block_lt_of_cell? _ _ hch)).trans hch
   replace hcf := (hb.cell (World.block_lt_of_cell? _ _ hcf)).trans hcf
   replace hca0 := (hb.cell (World.block_lt_of_cell? _ _ hca0)).trans hca0
   replace hca1 := (hb.cell (World.block_lt_of_cell? _ _ hca1)).trans hca1
   replace hca2 := (hb.cell (World.block_lt_of_cell? _ _ hca2)).trans hca2
   replace hca3 := (hb.cell (World.block_lt_of_cell? _ _ hca3)).trans hca3
   replace hca4 := (hb.cell (World.block_lt_of_cell? _ _ hca4)).trans hca4
   replace hca5 := (hb.cell (World.block_lt_of_cell? _ _ hca5)).trans hca5
   replace hca6 := (hb.cell (World.block_lt_of_cell? _ _ hca6)).trans hca6
   generalize W5.drew = W7 at *
   clear hb
   refine sP (i := 1) (N := some 35) (lm 9 2) ?_
   refine sP (i := 3) (N := some 37) (lm 9 10) ?_
   refine sP (i := 5) (N := some 39) (lm 9 42) ?_
   refine take_ (i := 0) (N := some 34) (v := ?_) (a' := ?_) (lm 9 43) rfl rfl (by kernel_rfl) (fun _ _ _ h => h) (Or.inl ⟨by rfl, ?_⟩) hHeld ?_ ?_
   rotate_left
   ·rintro w' ⟨s0, s1, s2, s3, s4, s5, s6, s7, s8, s9⟩
    go_simp
    with_reducible rfl
   rotate_left
   ·simp only [Act.put, List.setIfInBounds_toArray, List.set_cons_zero, List.set_cons_succ, i64_w, i32_w]
    rfl
   refine take_ (i := 2) (N := some 36) (v := ?_) (a' := ?_) (lm 9 47) rfl rfl (by kernel_rfl) (fun _ _ _ h => h) (Or.inl ⟨by rfl, ?_⟩) hHeld ?_ ?_
   rotate_left
   ·rintro w' ⟨s0, s1, s2, s3, s4, s5, s6, s7, s8, s9⟩
    go_simp
    with_reducible rfl
   rotate_left
   ·simp only [Act.put, List.setIfInBounds_toArray, List.set_cons_zero, List.set_cons_succ, i64_w, i32_w]
    rfl
   refine take_ (i := 4) (N := some 38) (v := ?_) (a' := ?_) (lm 9 63) rfl rfl (by kernel_rfl) (fun _ _ _ h => h) (Or.inl ⟨by rfl, ?_⟩) hHeld ?_ ?_
   rotate_left
   ·rintro w' ⟨s0, s1, s2, s3, s4, s5, s6, s7, s8, s9⟩
    go_simp
    with_reducible rfl
   rotate_left
   ·simp only [Act.put, List.setIfInBounds_toArray, List.set_cons_zero, List.set_cons_succ, i64_w, i32_w]
    rfl
   refine one_ (i := 6) (N := some 40) (lm 9 127) rfl rfl (by kernel_rfl) (by decide) (fun K hK => ?_)
   refine goesV_ Try.func70 (by kernel_rfl) rfl #[.pointer (some ⟨gw, 0, none⟩), .agg #[.int .i64 (pad y 0), .int .i64 (pad y 1), .int .i64 (pad y 2), .int .i64 (pad y 3), .int .i64 (pad y 4), .int .i64 (pad y 5), .int .i64 (pad y 6)], .int .i64 ab] (by rfl) rfl rfl (by rfl) (by simp only [List.map_toArray, List.map_cons, List.map_nil]; rfl) ?_
   with_reducible refine (missed_calls (pad y) ab (HK.out.below HB1.out) (Kd.C_below HR1.out HB1.out) HN1.out).mono ?_
   rintro e W8 ⟨rfl, hb⟩
   refine ⟨_, rfl, ?_⟩
   replace hcl := (hb.cell (World.block_lt_of_cell? _ _ hcl)).trans hcl
   replace hch := (hb.cell (World.block_lt_of_cell? _ _ hch)).trans hch
   replace hcf := (hb.cell (World.block_lt_of_cell? _ _ hcf)).trans hcf
   replace hca0 := (hb.cell (World.block_lt_of_cell? _ _ hca0)).trans hca0
   replace hca1 := (hb.cell (World.block_lt_of_cell? _ _ hca1)).trans hca1
   replace hca2 := (hb.cell (World.block_lt_of_cell? _ _ hca2)).trans hca2
   replace hca3 := (hb.cell (World.block_lt_of_cell? _ _ hca3)).trans hca3
   replace hca4 := (hb.cell (World.block_lt_of_cell? _ _ hca4)).trans hca4
   replace hca5 := (hb.cell (World.block_lt_of_cell? _ _ hca5)).trans hca5
   replace hca6 := (hb.cell (World.block_lt_of_cell? _ _ hca6)).trans hca6
   replace HB1 := Aside0.mk (below_step HB1.out hb)
   replace BKg8 := Aside0.mk (blk_below BKg8.out hb)
   replace BKg10 := Aside0.mk (blk_below BKg10.out hb)
   clear hb
   refine hK.out _ _ ⟨hcl, hch, hcf, hca0, hca1, hca2, hca3, hca4, hca5, hca6⟩ (fun hHeld => ?_)
   clear hK K
   refine sN ?_
   refine one_ (i := 7) (N := some 41) (lm 9 255) rfl rfl (by kernel_rfl) (by decide) (fun K hK => ?_)
   refine goes_ Try.func97 (by kernel_rfl) rfl #[.agg #[.int .i64 rl, .int .i64 rh], .int .i64 (missN l1 (pad y) ab)] (by rfl) rfl rfl (by simp only [List.map_toArray, List.map_cons, List.map_nil]; rfl) ?_
   with_reducible refine (wider_calls rl rh (missN l1 (pad y) ab) W8).mono ?_
   rintro e W9 ⟨rfl, hb⟩
   refine ⟨_, rfl, ?_⟩
   replace hcl := (hb.cell (World.block_lt_of_cell? _ _ hcl)).trans hcl
   replace hch := (hb.cell (World.block_lt_of_cell? _ _ hch)).trans hch
   replace hcf := (hb.cell (World.block_lt_of_cell? _ _ hcf)).trans hcf
   replace hca0 := (hb.cell (World.block_lt_of_cell? _ _ hca0)).trans hca0
   replace hca1 := (hb.cell (World.block_lt_of_cell? _ _ hca1)).trans hca1
   replace hca2 := (hb.cell (World.block_lt_of_cell? _ _ hca2)).trans hca2
   replace hca3 := (hb.cell (World.block_lt_of_cell? _ _ hca3)).trans hca3
   replace hca4 := (hb.cell (World.block_lt_of_cell? _ _ hca4)).trans hca4
   replace hca5 := (hb.cell (World.block_lt_of_cell? _ _ hca5)).trans hca5
   replace hca6 := (hb.cell (World.block_lt_of_cell? _ _ hca6)).trans hca6
   replace HB1 := Aside0.mk (below_step HB1.out hb)
   replace BKg8 := Aside0.mk (blk_below BKg8.out hb)
   replace BKg10 := Aside0.mk (blk_below BKg10.out hb)
   clear hb
   refine hK.out _ _ ⟨hcl, hch, hcf, hca0, hca1, hca2, hca3, hca4, hca5, hca6⟩ (fun hHeld => ?_)
   clear hK K
   refine sN ?_
   refine last_ (i := 8) (N := none) (lm 9 511) rfl rfl (by kernel_rfl) (by decide) (fun K hK => ?_)
   have hf0 : W9.frozen? ⟨g8, 0, none⟩ = false := blk_frozen BKg8.out 0
   have hf1 : W9.frozen? ⟨g8, 1, none⟩ = false := blk_frozen BKg8.out 1
   refine skip_ (w1 := ?_) (by rfl) rfl ?_ ?_
   rotate_left
   ·go_simp
    rfl
   refine hK.out _ _ ?_
   clear hK K
   refine done_ (by kernel_rfl) ?_
   go_wp2
   obtain ⟨ny, hny⟩ : ∃ n, missN l1 (pad y) ab = n := ⟨_, rfl⟩
   have HNY := Aside0.mk hny
   clear hny
   have HB9 := Aside0.mk ((HB1.out.setCell (p := ⟨g8, 0, none⟩) (by rw [← HZ8.out]; exact Nat.le_refl _) (.int .i64 (mn rl (missN l1 (pad y) ab)))).setCell (p := ⟨g8, 1, none⟩) (by rw [← HZ8.out]; exact Nat.le_refl _) (.int .i64 (mx rh (missN l1 (pad y) ab))))
   have BK9 := Aside0.mk (blk_put (blk_put BKg8.out 0 (.int .i64 (mn rl (missN l1 (pad y) ab))) rfl) 1 (.int .i64 (mx rh (missN l1 (pad y) ab))) rfl)
   go_roundg k1
   case measure => omega
   case rel => exact ⟨m + 1, by go_num, ⟨by have := HM.out; omega⟩, HB9, ⟨by rw [HTK.out, List.foldl_append, List.foldl_cons, List.foldl_nil, HRL.out, HRH.out]; exact BK9.out⟩⟩
  ·obtain rfl : m = nt := by have := HM.out; omega
   have hl0 := sc 0 BKg8
   have hl1 := sc 1 BKg8
   have BK6 := Aside0.mk (blk_below BKg6.out HB1.out)
   have hf0 := blk_frozen BK6.out 0
   have hf1 := blk_frozen BK6.out 1
   have hx0 := sc 0 BK6
   have hx1 := sc 1 BK6
   go_wp2
   have hbk := blk_put (blk_put BK6.out 0 (.int .i64 rl) rfl) 1 (.int .i64 rh) rfl
   refine bodyPost_ret (results_cell_row rfl _ _ g6 55 #[.int .i64 rl, .int .i64 rh] (0, 0) _ rfl hbk Try.underlying55 rfl (by kernel_rfl)) rfl ?_
   have hbs : boundsL (fun x => missN l1 (pad x) ab) (truthsL l0 l1 wg) = (rl, rh) := by
    unfold boundsL
    rw [HTS.out, HY0.out, show (fun x => missN l1 (pad x) ab) y0 = n0 from HN0_.out, ← HRL.out, ← HRH.out, List.take_of_length_le (by rw [← HTS.out, HNT2.out]; exact Nat.le_refl _)]
   exact ⟨by rw [hbs], ((below_step HB.out HB1.out).setCell (p := ⟨g6, 0, none⟩) GEg6.out _).setCell (p := ⟨g6, 1, none⟩) GEg6.out _⟩
end Go.Proofs.Ytnbbbeghgomnoaa.X
namespace Go.Proofs.Ytnbbbeghgomnoaa.X
open Go.RowKit Go.Proofs.YtnbbbeghgomnoaaW.PrintWords Go.Proofs.YtnbbbeghgomnoaaW.PrintLast Go.Proofs.YtnbbbeghgomnoaaW.PrintMore
set_option maxHeartbeats 4000000 in
set_option maxRecDepth 100000 in
theorem Astray_e {A0 : Option Addr} {c0 : Nat} {l0 : List S109} {A1 : Option Addr} {c1 : Nat} {l1 : List S110} (wg : Int) {w : World} (ht : Tab A0 c0 l0 A1 c1 l1 w) (he : askE l0 l1 wg ≠ 0) :
  Calls Try.prog 37 #[.agg #[.slice A0 l0.length c0, .slice A1 l1.length c1, .int .i64 wg]] w fun e w' => e = .returned (.tuple #[.agg #[.int .i64 0, .int .i64 0], .int .i64 (askE l0 l1 wg)]) ∧ Below w.heap.size w w' := by
 have hu35 := Try.underlying35
 have hu55 := Try.underlying55
 have HT := Aside0.mk ht
 have HE := Aside0.mk he
 clear ht he
 have HB := Aside0.mk (Below.refl w.heap.size w)
 go_enter Try.func37, Try.ntmps37
 go_wp2_with (first | ((with_reducible refine gate_dst (N := 1) rfl ?_); refine sbox (N := 1) #[.slice A0 l0.length c0, .slice A1 l1.length c1, .int .i64 wg] 35 ?_; intro g1 hg W_ hbox hb; have GEg1 := Aside0.mk (by rw [hg]; exact HB.out.size : w.heap.size ≤ g1); replace HB := Aside0.mk (below_step HB.out hb); have BKg1 := Aside0.mk hbox; clear hb hbox hg; have hcz0 := sc 0 BKg1; have hcz1 := sc 1 BKg1; have hcz2 := sc 2 BKg1) | ((with_reducible refine gate_dst (N := 2) rfl ?_); refine sbox (N := 2) #[.int .i64 0, .int .i64 0] 55 ?_; intro g2 hg W_ hbox hb; have GEg2 := Aside0.mk (by rw [hg]; exact HB.out.size : w.heap.size ≤ g2); replace BKg1 := Aside0.mk (blk_below BKg1.out hb); replace HB := Aside0.mk (below_step HB.out hb); have BKg2 := Aside0.mk hbox; clear hb hbox hg; have hcz0 := sc 0 BKg1; have hcz1 := sc 1 BKg1; have hcz2 := sc 2 BKg1) | (go_at_call 68; go_must (refine (asked_e wg (HT.out.below HB.out) HE.out).mono ?_; rintro e W_ ⟨rfl, hb⟩; replace BKg1 := Aside0.mk (blk_below BKg1.out hb); replace BKg2 := Aside0.mk (blk_below BKg2.out hb); replace HB := Aside0.mk (below_step HB.out hb); try (clear hcz0 hcz1 hcz2); clear hb; have he := HE.out; generalize hec : askE l0 l1 wg = ec at *; have hne : (ec == (0 : Int)) = false := (by simpa using he); have hcx0 := sc 0 BKg2; have hcx1 := sc 1 BKg2; have hf0 := blk_frozen BKg2.out 0; have hf1 := blk_frozen BKg2.out 1)))
 have hbk := blk_put (blk_put BKg2.out 0 (.int .i64 0) rfl) 1 (.int .i64 0) rfl
 have h0 : ((W_.setCell ⟨g2, 0, none⟩ (.int .i64 0)).setCell ⟨g2, 1, none⟩ (.int .i64 0)).cell? ⟨g2, 0, none⟩ = some (.int .i64 0) := (blk_cell hbk 0).trans rfl
 have h1 : ((W_.setCell ⟨g2, 0, none⟩ (.int .i64 0)).setCell ⟨g2, 1, none⟩ (.int .i64 0)).cell? ⟨g2, 1, none⟩ = some (.int .i64 0) := (blk_cell hbk 1).trans rfl
 refine bodyPost_ret (v := .tuple #[.agg #[.int .i64 0, .int .i64 0], .int .i64 ec]) (by simp [results, Try.f37, go_sem, h0, h1]) rfl ?_
 exact ⟨by rw [hec], (HB.out.setCell (p := ⟨g2, 0, none⟩) GEg2.out _).setCell (p := ⟨g2, 1, none⟩) GEg2.out _⟩
set_option maxHeartbeats 4000000 in
set_option maxRecDepth 100000 in
theorem Astray_ok {A0 : Option Addr} {c0 : Nat} {l0 : List S109} {A1 : Option Addr} {c1 : Nat} {l1 : List S110} (wg : Int) {w : World} (ht : Tab A0 c0 l0 A1 c1 l1 w) (he : askE l0 l1 wg = 0) :
  Calls Try.prog 37 #[.agg #[.slice A0 l0.length c0, .slice A1 l1.length c1, .int .i64 wg]] w fun e w' => e = .returned (.tuple #[.agg #[.int .i64 (boundsL (fun x => lostN l1 (pad x)) (truthsL l0 l1 wg)).1, .int .i64 (boundsL (fun x => lostN l1 (pad x)) (truthsL l0 l1 wg)).2], .int .i64 0]) ∧ Below w.heap.size w w' := by
 have hu35 := Try.underlying35
 have hu55 := Try.underlying55
 have HT := Aside0.mk ht
 have HE := Aside0.mk he
 clear ht he
 obtain ⟨hck, htn⟩ := askE_zero HE.out
 have HTN := Aside0.mk htn
 have HN1 := Aside0.mk (checkT_zero hck).n1
 have HTL := Aside0.mk (truths_len wg (checkT_zero hck).n0 (checkT_zero hck).n1)
 clear hck htn
 have HB := Aside0.mk (Below.refl w.heap.size w)
 go_enter Try.func37, Try.ntmps37
 go_wp2_with (first | ((with_reducible refine gate_dst (N := 1) rfl ?_); refine sbox (N := 1) #[.slice A0 l0.length c0, .slice A1 l1.length c1, .int .i64 wg] 35 ?_; intro g1 hg W_ hbox hb; have GEg1 := Aside0.mk (by rw [hg]; exact HB.out.size : w.heap.size ≤ g1); replace HB := Aside0.mk (below_step HB.out hb); have BKg1 := Aside0.mk hbox; clear hb hbox hg; have hcz0 := sc 0 BKg1; have hcz1 := sc 1 BKg1; have hcz2 := sc 2 BKg1) | ((with_reducible refine gate_dst (N := 2) rfl ?_); refine sbox (N := 2) #[.int .i64 0, .int .i64 0] 55 ?_; intro g2 hg W_ hbox hb; have GEg2 := Aside0.mk (by rw [hg]; exact HB.out.size : w.heap.size ≤ g2); replace BKg1 := Aside0.mk (blk_below BKg1.out hb); replace HB := Aside0.mk (below_step HB.out hb); have BKg2 := Aside0.mk hbox; clear hb hbox hg; have hcz0 := sc 0 BKg1; have hcz1 := sc 1 BKg1; have hcz2 := sc 2 BKg1) | (go_at_call 68; go_must (refine (asked_ok wg (HT.out.below HB.out) HE.out).mono ?_; rintro e W_ ⟨gw, gm, At, ct, rfl, hwk, hb⟩; replace BKg1 := Aside0.mk (blk_below BKg1.out hb); replace BKg2 := Aside0.mk (blk_below BKg2.out hb); replace HB := Aside0.mk (below_step HB.out hb); try (clear hcz0 hcz1 hcz2); have HK := Aside0.mk hwk; clear hb hwk)) | (go_at_call 71; go_must (refine (bounds_lost 0 HK.out (HT.out.below HB.out).r1 HN1.out HTN.out HTL.out).mono ?_; rintro e W_ ⟨rfl, hb⟩; replace BKg1 := Aside0.mk (blk_below BKg1.out hb); replace BKg2 := Aside0.mk (blk_below BKg2.out hb); replace HB := Aside0.mk (below_step HB.out hb); have hcx0 := sc 0 BKg2; have hcx1 := sc 1 BKg2; have hf0 := blk_frozen BKg2.out 0; have hf1 := blk_frozen BKg2.out 1; generalize hrl : (boundsL (fun x => lostN l1 (pad x)) (truthsL l0 l1 wg)).1 = rl at *; generalize hrh : (boundsL (fun x => lostN l1 (pad x)) (truthsL l0 l1 wg)).2 = rh at *; clear hb)))
 have hbk := blk_put (blk_put BKg2.out 0 (.int .i64 rl) rfl) 1 (.int .i64 rh) rfl
 have h0 := (blk_cell hbk 0)
 have h1 := (blk_cell hbk 1)
 refine bodyPost_ret (v := .tuple #[.agg #[.int .i64 rl, .int .i64 rh], .int .i64 0]) (by simp [results, Try.f37, go_sem, h0, h1]) rfl ?_
 exact ⟨by rw [hrl, hrh], (HB.out.setCell (p := ⟨g2, 0, none⟩) GEg2.out _).setCell (p := ⟨g2, 1, none⟩) GEg2.out _⟩
end Go.Proofs.Ytnbbbeghgomnoaa.X
namespace Go.Proofs.Ytnbbbeghgomnoaa.X
open Go.RowKit Go.Proofs.YtnbbbeghgomnoaaW.PrintWords Go.Proofs.YtnbbbeghgomnoaaW.PrintLast Go.Proofs.YtnbbbeghgomnoaaW.PrintMore
set_option maxHeartbeats 4000000 in
set_option maxRecDepth 100000 in
theorem Whose_e {A0 : Option Addr} {c0 : Nat} {l0 : List S109} {A1 : Option Addr} {c1 : Nat} {l1 : List S110} (wg : Int) {w : World} (ht : Tab A0 c0 l0 A1 c1 l1 w) (he : askE l0 l1 wg ≠ 0) :
  Calls Try.prog 22 #[.agg #[.slice A0 l0.length c0, .slice A1 l1.length c1, .int .i64 wg]] w fun e w' => e = .returned (.tuple #[.slice none 0 0, .int .i64 (askE l0 l1 wg)]) ∧ Below w.heap.size w w' := by
 have hu35 := Try.underlying35
 have hu55 := Try.underlying55
 have HT := Aside0.mk ht
 have HE := Aside0.mk he
 clear ht he
 have HB := Aside0.mk (Below.refl w.heap.size w)
 go_enter Try.func22, Try.ntmps22
 go_wp2_with (first | ((with_reducible refine gate_dst (N := 1) rfl ?_); refine sbox (N := 1) #[.slice A0 l0.length c0, .slice A1 l1.length c1, .int .i64 wg] 35 ?_; intro g1 hg W_ hbox hb; have GEg1 := Aside0.mk (by rw [hg]; exact HB.out.size : w.heap.size ≤ g1); replace HB := Aside0.mk (below_step HB.out hb); have BKg1 := Aside0.mk hbox; clear hb hbox hg; have hcz0 := sc 0 BKg1; have hcz1 := sc 1 BKg1; have hcz2 := sc 2 BKg1) | (go_at_call 68; go_must (refine (asked_e wg (HT.out.below HB.out) HE.out).mono ?_; rintro e W_ ⟨rfl, hb⟩; replace BKg1 := Aside0.mk (blk_below BKg1.out hb); replace HB := Aside0.mk (below_step HB.out hb); try (clear hcz0 hcz1 hcz2); clear hb; have he := HE.out; generalize hec : askE l0 l1 wg = ec at *; have hne : (ec == (0 : Int)) = false := (by simpa using he))))
 go_ret2
 exact ⟨by rw [hec]; rfl, HB.out⟩
set_option maxHeartbeats 4000000 in
set_option maxRecDepth 100000 in
theorem Misses_e {A0 : Option Addr} {c0 : Nat} {l0 : List S109} {A1 : Option Addr} {c1 : Nat} {l1 : List S110} (wg : Int) {w : World} (ht : Tab A0 c0 l0 A1 c1 l1 w) (he : askE l0 l1 wg ≠ 0) :
  Calls Try.prog 27 #[.agg #[.slice A0 l0.length c0, .slice A1 l1.length c1, .int .i64 wg]] w fun e w' => e = .returned (.tuple #[.slice none 0 0, .int .i64 (askE l0 l1 wg)]) ∧ Below w.heap.size w w' := by
 have hu35 := Try.underlying35
 have hu55 := Try.underlying55
 have HT := Aside0.mk ht
 have HE := Aside0.mk he
 clear ht he
 have HB := Aside0.mk (Below.refl w.heap.size w)
 go_enter Try.func27, Try.ntmps27
 go_wp2_with (first | ((with_reducible refine gate_dst (N := 1) rfl ?_); refine sbox (N := 1) #[.slice A0 l0.length c0, .slice A1 l1.length c1, .int .i64 wg] 35 ?_; intro g1 hg W_ hbox hb; have GEg1 := Aside0.mk (by rw [hg]; exact HB.out.size : w.heap.size ≤ g1); replace HB := Aside0.mk (below_step HB.out hb); have BKg1 := Aside0.mk hbox; clear hb hbox hg; have hcz0 := sc 0 BKg1; have hcz1 := sc 1 BKg1; have hcz2 := sc 2 BKg1) | (go_at_call 68; go_must (refine (asked_e wg (HT.out.below HB.out) HE.out).mono ?_; rintro e W_ ⟨rfl, hb⟩; replace BKg1 := Aside0.mk (blk_below BKg1.out hb); replace HB := Aside0.mk (below_step HB.out hb); try (clear hcz0 hcz1 hcz2); clear hb; have he := HE.out; generalize hec : askE l0 l1 wg = ec at *; have hne : (ec == (0 : Int)) = false := (by simpa using he))))
 go_ret2
 exact ⟨by rw [hec]; rfl, HB.out⟩
set_option maxHeartbeats 4000000 in
set_option maxRecDepth 100000 in
theorem Fewest_e {A0 : Option Addr} {c0 : Nat} {l0 : List S109} {A1 : Option Addr} {c1 : Nat} {l1 : List S110} (wg : Int) {w : World} (ht : Tab A0 c0 l0 A1 c1 l1 w) (he : askE l0 l1 wg ≠ 0) :
  Calls Try.prog 38 #[.agg #[.slice A0 l0.length c0, .slice A1 l1.length c1, .int .i64 wg]] w fun e w' => e = .returned (.tuple #[.slice none 0 0, .int .i64 (askE l0 l1 wg)]) ∧ Below w.heap.size w w' := by
 have hu35 := Try.underlying35
 have hu55 := Try.underlying55
 have HT := Aside0.mk ht
 have HE := Aside0.mk he
 clear ht he
 have HB := Aside0.mk (Below.refl w.heap.size w)
 go_enter Try.func38, Try.ntmps38
 go_wp2_with (first | ((with_reducible refine gate_dst (N := 1) rfl ?_); refine sbox (N := 1) #[.slice A0 l0.length c0, .slice A1 l1.length c1, .int .i64 wg] 35 ?_; intro g1 hg W_ hbox hb; have GEg1 := Aside0.mk (by rw [hg]; exact HB.out.size : w.heap.size ≤ g1); replace HB := Aside0.mk (below_step HB.out hb); have BKg1 := Aside0.mk hbox; clear hb hbox hg; have hcz0 := sc 0 BKg1; have hcz1 := sc 1 BKg1; have hcz2 := sc 2 BKg1) | (go_at_call 68; go_must (refine (asked_e wg (HT.out.below HB.out) HE.out).mono ?_; rintro e W_ ⟨rfl, hb⟩; replace BKg1 := Aside0.mk (blk_below BKg1.out hb); replace HB := Aside0.mk (below_step HB.out hb); try (clear hcz0 hcz1 hcz2); clear hb; have he := HE.out; generalize hec : askE l0 l1 wg = ec at *; have hne : (ec == (0 : Int)) = false := (by simpa using he))))
 go_ret2
 exact ⟨by rw [hec]; rfl, HB.out⟩
set_option maxHeartbeats 4000000 in
set_option maxRecDepth 100000 in
theorem Moves_e {A0 : Option Addr} {c0 : Nat} {l0 : List S109} {A1 : Option Addr} {c1 : Nat} {l1 : List S110} (wg : Int) {w : World} (ht : Tab A0 c0 l0 A1 c1 l1 w) (he : askE l0 l1 wg ≠ 0) :
  Calls Try.prog 39 #[.agg #[.slice A0 l0.length c0, .slice A1 l1.length c1, .int .i64 wg]] w fun e w' => e = .returned (.tuple #[.slice none 0 0, .int .i64 (askE l0 l1 wg)]) ∧ Below w.heap.size w w' := by
 have hu35 := Try.underlying35
 have hu55 := Try.underlying55
 have HT := Aside0.mk ht
 have HE := Aside0.mk he
 clear ht he
 have HB := Aside0.mk (Below.refl w.heap.size w)
 go_enter Try.func39, Try.ntmps39
 go_wp2_with (first | ((with_reducible refine gate_dst (N := 1) rfl ?_); refine sbox (N := 1) #[.slice A0 l0.length c0, .slice A1 l1.length c1, .int .i64 wg] 35 ?_; intro g1 hg W_ hbox hb; have GEg1 := Aside0.mk (by rw [hg]; exact HB.out.size : w.heap.size ≤ g1); replace HB := Aside0.mk (below_step HB.out hb); have BKg1 := Aside0.mk hbox; clear hb hbox hg; have hcz0 := sc 0 BKg1; have hcz1 := sc 1 BKg1; have hcz2 := sc 2 BKg1) | (go_at_call 68; go_must (refine (asked_e wg (HT.out.below HB.out) HE.out).mono ?_; rintro e W_ ⟨rfl, hb⟩; replace BKg1 := Aside0.mk (blk_below BKg1.out hb); replace HB := Aside0.mk (below_step HB.out hb); try (clear hcz0 hcz1 hcz2); clear hb; have he := HE.out; generalize hec : askE l0 l1 wg = ec at *; have hne : (ec == (0 : Int)) = false := (by simpa using he))))
 go_ret2
 exact ⟨by rw [hec]; rfl, HB.out⟩
set_option maxHeartbeats 4000000 in
set_option maxRecDepth 100000 in
theorem Look_e {A0 : Option Addr} {c0 : Nat} {l0 : List S109} {A1 : Option Addr} {c1 : Nat} {l1 : List S110} (wg : Int) {w : World} (ht : Tab A0 c0 l0 A1 c1 l1 w) (he : askE l0 l1 wg ≠ 0) :
  Calls Try.prog 29 #[.agg #[.slice A0 l0.length c0, .slice A1 l1.length c1, .int .i64 wg]] w fun e w' => e = .returned (.tuple #[.int .i64 0, .int .i64 0, .int .i64 (askE l0 l1 wg)]) ∧ Below w.heap.size w w' := by
 have hu35 := Try.underlying35
 have hu55 := Try.underlying55
 have HT := Aside0.mk ht
 have HE := Aside0.mk he
 clear ht he
 have HB := Aside0.mk (Below.refl w.heap.size w)
 go_enter Try.func29, Try.ntmps29
 go_wp2_with (first | ((with_reducible refine gate_dst (N := 1) rfl ?_); refine sbox (N := 1) #[.slice A0 l0.length c0, .slice A1 l1.length c1, .int .i64 wg] 35 ?_; intro g1 hg W_ hbox hb; have GEg1 := Aside0.mk (by rw [hg]; exact HB.out.size : w.heap.size ≤ g1); replace HB := Aside0.mk (below_step HB.out hb); have BKg1 := Aside0.mk hbox; clear hb hbox hg; have hcz0 := sc 0 BKg1; have hcz1 := sc 1 BKg1; have hcz2 := sc 2 BKg1) | (go_at_call 68; go_must (refine (asked_e wg (HT.out.below HB.out) HE.out).mono ?_; rintro e W_ ⟨rfl, hb⟩; replace BKg1 := Aside0.mk (blk_below BKg1.out hb); replace HB := Aside0.mk (below_step HB.out hb); try (clear hcz0 hcz1 hcz2); clear hb; have he := HE.out; generalize hec : askE l0 l1 wg = ec at *; have hne : (ec == (0 : Int)) = false := (by simpa using he))))
 go_ret3
 exact ⟨by rw [hec]; rfl, HB.out⟩
set_option maxHeartbeats 4000000 in
set_option maxRecDepth 100000 in
theorem First_e {A0 : Option Addr} {c0 : Nat} {l0 : List S109} {A1 : Option Addr} {c1 : Nat} {l1 : List S110} (wg : Int) {w : World} (ht : Tab A0 c0 l0 A1 c1 l1 w) (he : checkT l0 l1 wg ≠ 0) :
  Calls Try.prog 31 #[.agg #[.slice A0 l0.length c0, .slice A1 l1.length c1, .int .i64 wg]] w fun e w' => e = .returned (.tuple #[.int .i64 0, .int .i64 (checkT l0 l1 wg)]) ∧ Below w.heap.size w w' := by
 have hu35 := Try.underlying35
 have hu55 := Try.underlying55
 have HT := Aside0.mk ht
 have HE := Aside0.mk he
 clear ht he
 have HB := Aside0.mk (Below.refl w.heap.size w)
 go_enter Try.func31, Try.ntmps31
 go_wp2_with (first | ((with_reducible refine gate_dst (N := 1) rfl ?_); refine sbox (N := 1) #[.slice A0 l0.length c0, .slice A1 l1.length c1, .int .i64 wg] 35 ?_; intro g1 hg W_ hbox hb; have GEg1 := Aside0.mk (by rw [hg]; exact HB.out.size : w.heap.size ≤ g1); replace HB := Aside0.mk (below_step HB.out hb); have BKg1 := Aside0.mk hbox; clear hb hbox hg; have hcz0 := sc 0 BKg1; have hcz1 := sc 1 BKg1; have hcz2 := sc 2 BKg1) | (go_at_call 61; go_must (refine (check_calls wg (HT.out.below HB.out)).mono ?_; rintro e W_ ⟨rfl, hb⟩; replace BKg1 := Aside0.mk (blk_below BKg1.out hb); replace HB := Aside0.mk (below_step HB.out hb); try (clear hcz0 hcz1 hcz2); clear hb; have he := HE.out; generalize hec : checkT l0 l1 wg = ec at *; have hne : (ec == (0 : Int)) = false := (by simpa using he))))
 go_ret2
 exact ⟨by rw [hec]; rfl, HB.out⟩
set_option maxHeartbeats 4000000 in
set_option maxRecDepth 100000 in
theorem Leave_e {A0 : Option Addr} {c0 : Nat} {l0 : List S109} {A1 : Option Addr} {c1 : Nat} {l1 : List S110} (wg : Int) {w : World} (ht : Tab A0 c0 l0 A1 c1 l1 w) (he : checkT l0 l1 wg ≠ 0) :
  Calls Try.prog 32 #[.agg #[.slice A0 l0.length c0, .slice A1 l1.length c1, .int .i64 wg]] w fun e w' => e = .returned (.tuple #[.slice none 0 0, .int .i64 (checkT l0 l1 wg)]) ∧ Below w.heap.size w w' := by
 have hu35 := Try.underlying35
 have hu55 := Try.underlying55
 have HT := Aside0.mk ht
 have HE := Aside0.mk he
 clear ht he
 have HB := Aside0.mk (Below.refl w.heap.size w)
 go_enter Try.func32, Try.ntmps32
 go_wp2_with (first | ((with_reducible refine gate_dst (N := 1) rfl ?_); refine sbox (N := 1) #[.slice A0 l0.length c0, .slice A1 l1.length c1, .int .i64 wg] 35 ?_; intro g1 hg W_ hbox hb; have GEg1 := Aside0.mk (by rw [hg]; exact HB.out.size : w.heap.size ≤ g1); replace HB := Aside0.mk (below_step HB.out hb); have BKg1 := Aside0.mk hbox; clear hb hbox hg; have hcz0 := sc 0 BKg1; have hcz1 := sc 1 BKg1; have hcz2 := sc 2 BKg1))
 refine wp_scope_straight ?_
 go_wp2_with (first | (go_at_call 61; go_must (refine (check_calls wg (HT.out.below HB.out)).mono ?_; rintro e W_ ⟨rfl, hb⟩; replace BKg1 := Aside0.mk (blk_below BKg1.out hb); replace HB := Aside0.mk (below_step HB.out hb); try (clear hcz0 hcz1 hcz2); clear hb; have he := HE.out; generalize hec : checkT l0 l1 wg = ec at *; have hne : (ec == (0 : Int)) = false := (by simpa using he))))
 simp only [Exit.noGoto]
 go_ret2
 exact ⟨by rw [hec]; rfl, HB.out⟩
end Go.Proofs.Ytnbbbeghgomnoaa.X
namespace Go.Proofs.Ytnbbbeghgomnoaa.X
open Go.RowKit Go.Proofs.YtnbbbeghgomnoaaW.PrintWords Go.Proofs.YtnbbbeghgomnoaaW.PrintLast Go.Proofs.YtnbbbeghgomnoaaW.PrintMore
def verdL (r : Int × Int) : Int := if 0 < r.1 then 1 else if r.2 = 0 then 2 else 3
def missL (l1 : List S110) (ts : List (List Int)) (m : Nat) : List Int := (List.range m).map fun (k : Nat) => verdL (boundsL (fun x => missN l1 (pad x) (k : Int)) ts)
theorem missL_len (l1 : List S110) (ts : List (List Int)) (m : Nat) : (missL l1 ts m).length = m := by simp [missL]
theorem missL_succ (l1 : List S110) (ts : List (List Int)) (m : Nat) : missL l1 ts (m + 1) = missL l1 ts m ++ [verdL (boundsL (fun x => missN l1 (pad x) (m : Int)) ts)] := by
 unfold missL
 rw [List.range_succ, List.map_append]; rfl
set_option maxHeartbeats 4000000 in
set_option maxRecDepth 100000 in
theorem Misses_ok {A0 : Option Addr} {c0 : Nat} {l0 : List S109} {A1 : Option Addr} {c1 : Nat} {l1 : List S110} (wg : Int) {w : World} (ht : Tab A0 c0 l0 A1 c1 l1 w) (he : askE l0 l1 wg = 0) :
  Calls Try.prog 27 #[.agg #[.slice A0 l0.length c0, .slice A1 l1.length c1, .int .i64 wg]] w fun e w' => ∃ v, e = .returned (.tuple #[v, .int .i64 0]) ∧ Kd.R (Kd.int .i64) 3 w' w.heap.size (fun _ => True) v (missL l1 (truthsL l0 l1 wg) l0.length) ∧ Below w.heap.size w w' := by
 have hu35 := Try.underlying35
 have hu55 := Try.underlying55
 have HT := Aside0.mk ht
 have HE := Aside0.mk he
 clear ht he
 obtain ⟨hck, htn⟩ := askE_zero HE.out
 have HTN := Aside0.mk htn
 have HN0 := Aside0.mk (checkT_zero hck).n0
 have HN1 := Aside0.mk (checkT_zero hck).n1
 have HTL := Aside0.mk (truths_len wg (checkT_zero hck).n0 (checkT_zero hck).n1)
 clear hck htn
 have HB := Aside0.mk (Below.refl w.heap.size w)
 go_enter Try.func27, Try.ntmps27
 go_wp2_with (first | ((with_reducible refine gate_dst (N := 1) rfl ?_); refine sbox (N := 1) #[.slice A0 l0.length c0, .slice A1 l1.length c1, .int .i64 wg] 35 ?_; intro g1 hg W_ hbox hb; have GEg1 := Aside0.mk (by rw [hg]; exact HB.out.size : w.heap.size ≤ g1); replace HB := Aside0.mk (below_step HB.out hb); have BKg1 := Aside0.mk hbox; clear hb hbox hg; have hcz0 := sc 0 BKg1; have hcz1 := sc 1 BKg1; have hcz2 := sc 2 BKg1) | (go_at_call 68; go_must (refine (asked_ok wg (HT.out.below HB.out) HE.out).mono ?_; rintro e W_ ⟨gw, gm, At, ct, rfl, hwk, hb⟩; replace BKg1 := Aside0.mk (blk_below BKg1.out hb); replace HB := Aside0.mk (below_step HB.out hb); try (clear hcz0 hcz1 hcz2); have HK := Aside0.mk hwk; clear hb hwk; have hcz0 := sc 0 BKg1; have hcz1 := sc 1 BKg1; have hcz2 := sc 2 BKg1)))
 obtain ⟨W1, hW1⟩ : ∃ W1 : World, W1 = W_ := ⟨_, rfl⟩
 subst hW1
 clear hcz0 hcz1 hcz2
 have HZ1 := Aside0.mk HB.out.size
 go_loopg [6, 21] l0.length (fun kq v6 v21 w' => ∃ m : Nat, v21 = .int .i64 (m : Int) ∧ Aside0 (m + kq = l0.length) ∧ Aside0 (Kd.R (Kd.int .i64) 3 w' W1.heap.size (fun _ => True) v6 (missL l1 (truthsL l0 l1 wg) m)) ∧ Aside0 (Below W1.heap.size W1 w'))
 case atStart => exact ⟨0, rfl, ⟨Nat.zero_add _⟩, ⟨Kd.R_nil _ _ _ _ _⟩, ⟨Below.refl _ _⟩⟩
 case round =>
  obtain ⟨m, rfl, HM, HO, HB1⟩ := hrel
  have hn0 := HN0.out
  by_cases hlt : m < l0.length
  ·cases gk with
   | zero => have := HM.out; omega
   | succ k1 =>
   obtain ⟨r, hr⟩ : ∃ r, boundsL (fun x => missN l1 (pad x) (m : Int)) (truthsL l0 l1 wg) = r := ⟨_, rfl⟩
   have HVD := Aside0.mk (show verdL (boundsL (fun x => missN l1 (pad x) (m : Int)) (truthsL l0 l1 wg)) = verdL r from by rw [hr])
   have HRR := Aside0.mk hr
   clear hr
   obtain ⟨rl, rh⟩ := r
   by_cases h1 : 0 < rl
   ·have h1d : decide (0 < rl) = true := by simpa using h1
    have HV := Aside0.mk (show verdL (rl, rh) = 1 from by unfold verdL; rw [if_pos h1])
    go_wp2_with (first | (go_at_call 71; go_must (refine (bounds_missed (m : Int) (HK.out.below HB1.out) (Kd.C_below HT.out.r1 (below_step HB.out HB1.out)) HN1.out HTN.out HTL.out).mono ?_; rintro e W_ ⟨rfl, hb⟩; replace HB1 := Aside0.mk (below_step HB1.out hb); replace HO := Aside0.mk (Kd.R_below HO.out hb); clear hb; rw [HRR.out])) | ((with_reducible refine gate_builtin (b := .append) (xs := #[.tmp 36, .tmp 38]) rfl ?_); go_must (at_builtin; refine Kd.R_append (Kd.int .i64) (w0 := W1) W1.heap.size rfl (.tmp 36) (.tmp 38) 39 3 (.int .i64 0) 8 rfl Try.underlying39 info3 rfl (by decide) (by omega) u6 (missL l1 (truthsL l0 l1 wg) m) 1 [.int .i64 (1)] (fun _ => True) (fun _ => False) rfl (congrArg (fun n => Value.slice (some ⟨n, 0, none⟩) 1 1) (World.size_alloc _ _).symm) ?aP (fun _ hk => hk.elim) ?aF ?aO ?aB ?aS ?aL ?_; (case aP => exact rfl); (case aB => exact (by repeat (first | exact HB1.out | apply below_alloc | apply pw_below_drewN | apply below_drew1))); (case aF => exact (fun _ _ => trivial)); (case aO => exact (sR HO)); (case aS => exact (by repeat (first | exact HB1.out | apply below_alloc | apply pw_below_drewN | apply below_drew1) : Below W1.heap.size W1 _).size); (case aL => exact (by rw [missL_len]; omega)); intro v39 W_ ho hb hg hat; have HO_ := Aside0.mk ho; have HB_ := Aside0.mk hb; clear ho hb hg hat HO HB1; have HO := HO_; have HB1 := HB_; clear HO_ HB_)))
    go_roundg k1
    case measure => omega
    case rel => exact ⟨m + 1, by go_num, ⟨by have := HM.out; omega⟩, ⟨by rw [missL_succ, HVD.out, HV.out]; exact HO.out⟩, HB1⟩
   ·have h1d : decide (0 < rl) = false := by simpa using h1
    by_cases h2 : rh = 0
    ·have h2d : (rh == 0) = true := by simpa using h2
     have HV := Aside0.mk (show verdL (rl, rh) = 2 from by unfold verdL; rw [if_neg h1, if_pos h2])
     go_wp2_with (first | (go_at_call 71; go_must (refine (bounds_missed (m : Int) (HK.out.below HB1.out) (Kd.C_below HT.out.r1 (below_step HB.out HB1.out)) HN1.out HTN.out HTL.out).mono ?_; rintro e W_ ⟨rfl, hb⟩; replace HB1 := Aside0.mk (below_step HB1.out hb); replace HO := Aside0.mk (Kd.R_below HO.out hb); clear hb; rw [HRR.out])) | ((with_reducible refine gate_builtin (b := .append) (xs := #[.tmp 36, .tmp 38]) rfl ?_); go_must (at_builtin; refine Kd.R_append (Kd.int .i64) (w0 := W1) W1.heap.size rfl (.tmp 36) (.tmp 38) 39 3 (.int .i64 0) 8 rfl Try.underlying39 info3 rfl (by decide) (by omega) u6 (missL l1 (truthsL l0 l1 wg) m) 2 [.int .i64 (2)] (fun _ => True) (fun _ => False) rfl (congrArg (fun n => Value.slice (some ⟨n, 0, none⟩) 1 1) (World.size_alloc _ _).symm) ?aP (fun _ hk => hk.elim) ?aF ?aO ?aB ?aS ?aL ?_; (case aP => exact rfl); (case aB => exact (by repeat (first | exact HB1.out | apply below_alloc | apply pw_below_drewN | apply below_drew1))); (case aF => exact (fun _ _ => trivial)); (case aO => exact (sR HO)); (case aS => exact (by repeat (first | exact HB1.out | apply below_alloc | apply pw_below_drewN | apply below_drew1) : Below W1.heap.size W1 _).size); (case aL => exact (by rw [missL_len]; omega)); intro v39 W_ ho hb hg hat; have HO_ := Aside0.mk ho; have HB_ := Aside0.mk hb; clear ho hb hg hat HO HB1; have HO := HO_; have HB1 := HB_; clear HO_ HB_)))
     go_roundg k1
     case measure => omega
     case rel => exact ⟨m + 1, by go_num, ⟨by have := HM.out; omega⟩, ⟨by rw [missL_succ, HVD.out, HV.out]; exact HO.out⟩, HB1⟩
    ·have h2d : (rh == 0) = false := by simpa using h2
     have HV := Aside0.mk (show verdL (rl, rh) = 3 from by unfold verdL; rw [if_neg h1, if_neg h2])
     go_wp2_with (first | (go_at_call 71; go_must (refine (bounds_missed (m : Int) (HK.out.below HB1.out) (Kd.C_below HT.out.r1 (below_step HB.out HB1.out)) HN1.out HTN.out HTL.out).mono ?_; rintro e W_ ⟨rfl, hb⟩; replace HB1 := Aside0.mk (below_step HB1.out hb); replace HO := Aside0.mk (Kd.R_below HO.out hb); clear hb; rw [HRR.out])) | ((with_reducible refine gate_builtin (b := .append) (xs := #[.tmp 36, .tmp 38]) rfl ?_); go_must (at_builtin; refine Kd.R_append (Kd.int .i64) (w0 := W1) W1.heap.size rfl (.tmp 36) (.tmp 38) 39 3 (.int .i64 0) 8 rfl Try.underlying39 info3 rfl (by decide) (by omega) u6 (missL l1 (truthsL l0 l1 wg) m) 3 [.int .i64 (3)] (fun _ => True) (fun _ => False) rfl (congrArg (fun n => Value.slice (some ⟨n, 0, none⟩) 1 1) (World.size_alloc _ _).symm) ?aP (fun _ hk => hk.elim) ?aF ?aO ?aB ?aS ?aL ?_; (case aP => exact rfl); (case aB => exact (by repeat (first | exact HB1.out | apply below_alloc | apply pw_below_drewN | apply below_drew1))); (case aF => exact (fun _ _ => trivial)); (case aO => exact (sR HO)); (case aS => exact (by repeat (first | exact HB1.out | apply below_alloc | apply pw_below_drewN | apply below_drew1) : Below W1.heap.size W1 _).size); (case aL => exact (by rw [missL_len]; omega)); intro v39 W_ ho hb hg hat; have HO_ := Aside0.mk ho; have HB_ := Aside0.mk hb; clear ho hb hg hat HO HB1; have HO := HO_; have HB1 := HB_; clear HO_ HB_)))
     go_roundg k1
     case measure => omega
     case rel => exact ⟨m + 1, by go_num, ⟨by have := HM.out; omega⟩, ⟨by rw [missL_succ, HVD.out, HV.out]; exact HO.out⟩, HB1⟩
  ·go_wp2
   go_ret2
   obtain rfl : m = l0.length := by have := HM.out; omega
   exact ⟨_, rfl, Kd.R_lower HO.out HZ1.out, below_step HB.out HB1.out⟩
end Go.Proofs.Ytnbbbeghgomnoaa.X
namespace Go.Proofs.Ytnbbbeghgomnoaa.X
open Go.RowKit Go.Proofs.YtnbbbeghgomnoaaW.PrintWords Go.Proofs.YtnbbbeghgomnoaaW.PrintLast Go.Proofs.YtnbbbeghgomnoaaW.PrintMore
def mostL (n1 : Nat) (ts : List (List Int)) (i : Int) (m : Nat) : Int := (List.range m).foldl (fun a (k : Nat) => mx a (manyS n1 ts i (k : Int))) 0
theorem mostL_succ (n1 : Nat) (ts : List (List Int)) (i : Int) (m : Nat) : mostL n1 ts i (m + 1) = mx (mostL n1 ts i m) (manyS n1 ts i (m : Int)) := by
 unfold mostL
 rw [List.range_succ, List.foldl_append]; rfl
def lookL (n0 n1 : Nat) (ts : List (List Int)) (m : Nat) : Int × Int := (List.range m).foldl (fun r (i : Nat) => if mostL n1 ts (i : Int) n0 < r.2 then ((i : Int), mostL n1 ts (i : Int) n0) else r) (0, (ts.length : Int) + 1)
theorem lookL_succ (n0 n1 : Nat) (ts : List (List Int)) (m : Nat) : lookL n0 n1 ts (m + 1) = if mostL n1 ts (m : Int) n0 < (lookL n0 n1 ts m).2 then ((m : Int), mostL n1 ts (m : Int) n0) else lookL n0 n1 ts m := by
 unfold lookL
 rw [List.range_succ, List.foldl_append]; rfl
attribute [local go_sem] max2_int min2_int max_two min_two
set_option maxHeartbeats 4000000 in
set_option maxRecDepth 100000 in
theorem Look_none {A0 : Option Addr} {c0 : Nat} {l0 : List S109} {A1 : Option Addr} {c1 : Nat} {l1 : List S110} (wg : Int) {w : World} (ht : Tab A0 c0 l0 A1 c1 l1 w) (he : askE l0 l1 wg = 0) (hp : l1.length = 0) :
  Calls Try.prog 29 #[.agg #[.slice A0 l0.length c0, .slice A1 l1.length c1, .int .i64 wg]] w fun e w' => e = .returned (.tuple #[.int .i64 0, .int .i64 0, .int .i64 7]) ∧ Below w.heap.size w w' := by
 have hu35 := Try.underlying35
 have hu55 := Try.underlying55
 have HT := Aside0.mk ht
 have HE := Aside0.mk he
 have hpd : ((l1.length : Int) == 0) = true := (by rw [hp]; rfl)
 clear ht he hp
 obtain ⟨hck, htn⟩ := askE_zero HE.out
 have HTN := Aside0.mk htn
 have HN0 := Aside0.mk (checkT_zero hck).n0
 have HN1 := Aside0.mk (checkT_zero hck).n1
 have HTL := Aside0.mk (truths_len wg (checkT_zero hck).n0 (checkT_zero hck).n1)
 clear hck htn
 have HB := Aside0.mk (Below.refl w.heap.size w)
 go_enter Try.func29, Try.ntmps29
 go_wp2_with (first | ((with_reducible refine gate_dst (N := 1) rfl ?_); refine sbox (N := 1) #[.slice A0 l0.length c0, .slice A1 l1.length c1, .int .i64 wg] 35 ?_; intro g1 hg W_ hbox hb; have GEg1 := Aside0.mk (by rw [hg]; exact HB.out.size : w.heap.size ≤ g1); replace HB := Aside0.mk (below_step HB.out hb); have BKg1 := Aside0.mk hbox; clear hb hbox hg; have hcz0 := sc 0 BKg1; have hcz1 := sc 1 BKg1; have hcz2 := sc 2 BKg1) | (go_at_call 68; go_must (refine (asked_ok wg (HT.out.below HB.out) HE.out).mono ?_; rintro e W_ ⟨gw, gm, At, ct, rfl, hwk, hb⟩; replace BKg1 := Aside0.mk (blk_below BKg1.out hb); replace HB := Aside0.mk (below_step HB.out hb); try (clear hcz0 hcz1 hcz2); have HK := Aside0.mk hwk; clear hb hwk; have hcz0 := sc 0 BKg1; have hcz1 := sc 1 BKg1; have hcz2 := sc 2 BKg1)))
 go_ret3
 exact ⟨rfl, HB.out⟩
set_option maxHeartbeats 4000000 in
set_option maxRecDepth 100000 in
theorem Look_ok {A0 : Option Addr} {c0 : Nat} {l0 : List S109} {A1 : Option Addr} {c1 : Nat} {l1 : List S110} (wg : Int) {w : World} (ht : Tab A0 c0 l0 A1 c1 l1 w) (he : askE l0 l1 wg = 0) (hp : l1.length ≠ 0) :
  Calls Try.prog 29 #[.agg #[.slice A0 l0.length c0, .slice A1 l1.length c1, .int .i64 wg]] w fun e w' => e = .returned (.tuple #[.int .i64 (lookL l0.length l1.length (truthsL l0 l1 wg) l1.length).1, .int .i64 (lookL l0.length l1.length (truthsL l0 l1 wg) l1.length).2, .int .i64 0]) ∧ Below w.heap.size w w' := by
 have hu35 := Try.underlying35
 have hu55 := Try.underlying55
 have HT := Aside0.mk ht
 have HE := Aside0.mk he
 have hpd : ((l1.length : Int) == 0) = false := (by simp; intro h; exact hp (by rw [h]; rfl))
 clear ht he hp
 obtain ⟨hck, htn⟩ := askE_zero HE.out
 have HTN := Aside0.mk htn
 have HN0 := Aside0.mk (checkT_zero hck).n0
 have HN1 := Aside0.mk (checkT_zero hck).n1
 have HTL := Aside0.mk (truths_len wg (checkT_zero hck).n0 (checkT_zero hck).n1)
 clear hck htn
 have HB := Aside0.mk (Below.refl w.heap.size w)
 go_enter Try.func29, Try.ntmps29
 go_wp2_with (first | ((with_reducible refine gate_dst (N := 1) rfl ?_); refine sbox (N := 1) #[.slice A0 l0.length c0, .slice A1 l1.length c1, .int .i64 wg] 35 ?_; intro g1 hg W_ hbox hb; have GEg1 := Aside0.mk (by rw [hg]; exact HB.out.size : w.heap.size ≤ g1); replace HB := Aside0.mk (below_step HB.out hb); have BKg1 := Aside0.mk hbox; clear hb hbox hg; have hcz0 := sc 0 BKg1; have hcz1 := sc 1 BKg1; have hcz2 := sc 2 BKg1) | (go_at_call 68; go_must (refine (asked_ok wg (HT.out.below HB.out) HE.out).mono ?_; rintro e W_ ⟨gw, gm, At, ct, rfl, hwk, hb⟩; replace BKg1 := Aside0.mk (blk_below BKg1.out hb); replace HB := Aside0.mk (below_step HB.out hb); try (clear hcz0 hcz1 hcz2); have HK := Aside0.mk hwk; obtain ⟨nt, hnt⟩ : ∃ nt : Nat, (truthsL l0 l1 wg).length = nt := ⟨_, rfl⟩; have hct : W_.cell? ⟨gw, 3, none⟩ = some (.slice At nt ct) := (blk_cell hwk.kw 3).trans (by rw [← hnt]; rfl); have hcm : W_.cell? ⟨gw, 4, none⟩ = some (.map (some gm)) := (blk_cell hwk.kw 4).trans rfl; have hntl : nt ≤ 78125 := (by rw [← hnt]; exact HTL.out); have HNT := Aside0.mk hnt; clear hnt; clear hb hwk; have hcz0 := sc 0 BKg1; have hcz1 := sc 1 BKg1; have hcz2 := sc 2 BKg1)))
 obtain ⟨W1, hW1⟩ : ∃ W1 : World, W1 = W_ := ⟨_, rfl⟩
 subst hW1
 have hn1 := HN1.out
 have hn0 := HN0.out
 go_loopg [2, 3, 30] l1.length (fun kq v2 v3 v30 w' => ∃ m : Nat, v30 = .int .i64 (m : Int) ∧ v2 = .int .i64 (lookL l0.length l1.length (truthsL l0 l1 wg) m).1 ∧ v3 = .int .i64 (lookL l0.length l1.length (truthsL l0 l1 wg) m).2 ∧ Aside0 (m + kq = l1.length) ∧ w' = W1)
 case atStart => exact ⟨0, rfl, rfl, (by rw [show (lookL l0.length l1.length (truthsL l0 l1 wg) 0).2 = (nt : Int) + 1 from by rw [← HNT.out]; rfl]), ⟨Nat.zero_add _⟩, rfl⟩
 case round =>
  obtain ⟨m, rfl, rfl, rfl, HM, hw_⟩ := hrel
  subst hw_
  have HLS := Aside0.mk (lookL_succ l0.length l1.length (truthsL l0 l1 wg) m)
  generalize hlk : lookL l0.length l1.length (truthsL l0 l1 wg) m = lk at *
  have HLK := Aside0.mk hlk
  clear hlk
  obtain ⟨lp, ll⟩ := lk
  dsimp only
  by_cases hlt : m < l1.length
  ·cases gk with
   | zero => have := HM.out; omega
   | succ k1 =>
   go_wp2
   go_loopg [7, 36] l0.length (fun kq v7 v36 w' => ∃ k : Nat, v36 = .int .i64 (k : Int) ∧ v7 = .int .i64 (mostL l1.length (truthsL l0 l1 wg) (m : Int) k) ∧ Aside0 (k + kq = l0.length) ∧ w' = wr)
   case atStart => exact ⟨0, rfl, rfl, ⟨Nat.zero_add _⟩, rfl⟩
   case round =>
    obtain ⟨k, rfl, rfl, HM2, hw_⟩ := hrel
    subst hw_
    have HMS := Aside0.mk (mostL_succ l1.length (truthsL l0 l1 wg) (m : Int) k)
    generalize hml : mostL l1.length (truthsL l0 l1 wg) (m : Int) k = ml at *
    have HML := Aside0.mk hml
    clear hml
    by_cases hlt2 : k < l0.length
    ·cases gk with
     | zero => have := HM2.out; omega
     | succ k2 =>
     obtain ⟨L, hmp, hgl⟩ := HK.out.mp
     have hlu := lookup_run wr gm L ((m : Int), (k : Int)) hmp
     rw [hgl] at hlu
     unfold spv at hlu
     dsimp only at hlu
     generalize manyS l1.length (truthsL l0 l1 wg) (m : Int) (k : Int) = cv at *
     obtain ⟨mm, hmm⟩ : ∃ mm, (if ml < cv then cv else ml) = mm := ⟨_, rfl⟩
     have HMM := Aside0.mk hmm
     clear hmp hgl
     go_wp2
     go_roundg k2
     case measure => omega
     case rel => exact ⟨k + 1, by go_num, by rw [HMS.out, show mx ml cv = mm from HMM.out], ⟨by have := HM2.out; omega⟩, rfl⟩
    ·obtain rfl : k = l0.length := by have := HM2.out; omega
     by_cases hl : ml < ll
     ·have hld : decide (ml < ll) = true := by simpa using hl
      go_wp2
      go_roundg k1
      case measure => omega
      case rel => exact ⟨m + 1, by go_num, by rw [HLS.out, HML.out, if_pos hl], by rw [HLS.out, HML.out, if_pos hl], ⟨by have := HM.out; omega⟩, rfl⟩
     ·have hld : decide (ml < ll) = false := by simpa using hl
      have HLL := Aside0.mk hl
      clear hl
      go_wp2
      go_roundg k1
      case measure => omega
      case rel => exact ⟨m + 1, by go_num, by rw [HLS.out, HML.out, if_neg (by have := HLL.out; omega)], by rw [HLS.out, HML.out, if_neg (by have := HLL.out; omega)], ⟨by have := HM.out; omega⟩, rfl⟩
  ·go_wp2
   go_ret3
   obtain rfl : m = l1.length := by have := HM.out; omega
   exact ⟨by rw [HLK.out]; rfl, HB.out⟩
end Go.Proofs.Ytnbbbeghgomnoaa.X
namespace Go.Proofs.Ytnbbbeghgomnoaa.X
open Go.RowKit Go.Proofs.YtnbbbeghgomnoaaW.PrintWords Go.Proofs.YtnbbbeghgomnoaaW.PrintLast Go.Proofs.YtnbbbeghgomnoaaW.PrintMore
def knil : Kd Unit := Kd.scalar (fun _ => .slice none 0 0) (fun _ => rfl)
structure WhO (b go n cap i : Nat) (rows : Nat → List Int) (W : World) : Prop where
 bg : b ≤ go
 nc : n ≤ cap
 cm : cap ≤ maxLen
 ex : ∃ cur : Array Value, W.heap[go]? = some (.cells cur 39 (0, 0)) ∧ cur.size = cap ∧ (∀ j, j < i → ∃ u, cur[j]? = some u ∧ Kd.R (Kd.int .i64) 3 W b (fun k => k ≠ go) u (rows j)) ∧ ∀ j, i ≤ j → j < n → cur[j]? = some (.slice none 0 0)
structure WhI (b go n cap i : Nat) (rows : Nat → List Int) (vc : Value) (cr : List Int) (W : World) : Prop where
 bg : b ≤ go
 nc : n ≤ cap
 cm : cap ≤ maxLen
 ex : ∃ cur : Array Value, W.heap[go]? = some (.cells cur 39 (0, 0)) ∧ cur.size = cap ∧ cur[i]? = some vc ∧ (∀ j, j < i → ∃ u, cur[j]? = some u ∧ Kd.R (Kd.int .i64) 3 W b (fun k => k ≠ go ∧ some k ≠ vc.ownBlock) u (rows j)) ∧ (∀ j, i < j → j < n → cur[j]? = some (.slice none 0 0)) ∧ Kd.R (Kd.int .i64) 3 W b (fun k => k ≠ go) vc cr
theorem WhO.open_ {b go n cap i : Nat} {rows : Nat → List Int} {W : World} (h : WhO b go n cap i rows W) (hi : i < n) : WhI b go n cap i rows (.slice none 0 0) [] W := by
 obtain ⟨cur, h1, h2, h3, h4⟩ := h.ex
 exact ⟨h.bg, h.nc, h.cm, cur, h1, h2, h4 i (Nat.le_refl _) hi, fun j hj => by
  obtain ⟨u, hu, hr⟩ := h3 j hj
  exact ⟨u, hu, Kd.R_mono hr (fun k hk => ⟨hk, by simp [Value.ownBlock]⟩)⟩, fun j hj => h4 j (by omega), Kd.R_nil _ _ _ _ _⟩
theorem WhI.close {b go n cap i : Nat} {rows : Nat → List Int} {vc : Value} {cr : List Int} {W : World} (h : WhI b go n cap i rows vc cr W) (hr : rows i = cr) : WhO b go n cap (i + 1) rows W := by
 obtain ⟨cur, h1, h2, h3, h4, h5, h6⟩ := h.ex
 refine ⟨h.bg, h.nc, h.cm, cur, h1, h2, fun j hj => ?_, fun j hj => h5 j (by omega)⟩
 by_cases he : j = i
 ·subst he; exact ⟨vc, h3, by rw [hr]; exact h6⟩
 ·obtain ⟨u, hu, hr⟩ := h4 j (by omega)
  exact ⟨u, hu, Kd.R_mono hr (fun k hk => hk.1)⟩
theorem WhO.start {b : Nat} {W : World} {v : Value} {n : Nat} (h : knil.R 39 W b (fun _ => True) v (List.replicate n ())) (hn : 0 < n) (rows : Nat → List Int) : ∃ go cap, v = .slice (some ⟨go, 0, none⟩) n cap ∧ WhO b go n cap 0 rows W := by
 have ho := Kd.own_of_R h
 rw [List.length_replicate] at ho
 obtain ⟨h1, h2⟩ := ho
 rcases h2 with ⟨_, h2⟩ | ⟨g, cap, cur, rfl, hb, hh, hc, hm, hs, ht⟩
 ·omega
 ·refine ⟨g, cap, rfl, hb, hc, hm, cur, hh, by omega, fun j hj => absurd hj (by omega), fun j _ hj => ?_⟩
  have : (cur.toList.take (n * 1))[j]? = some (.slice none 0 0) := by
   rw [ht]
   simp [encs, hj]
  rw [List.getElem?_take_of_lt (by omega)] at this
  simpa using this
theorem WhI.below {b go n cap i : Nat} {rows : Nat → List Int} {vc : Value} {cr : List Int} {W W' : World} (h : WhI b go n cap i rows vc cr W) (hb : Below W.heap.size W W') : WhI b go n cap i rows vc cr W' := by
 obtain ⟨cur, h1, h2, h3, h4, h5, h6⟩ := h.ex
 exact ⟨h.bg, h.nc, h.cm, cur, blk_below h1 hb, h2, h3, fun j hj => by
  obtain ⟨u, hu, hr⟩ := h4 j hj
  exact ⟨u, hu, Kd.R_below hr hb⟩, h5, Kd.R_below h6 hb⟩
theorem WhO.below {b go n cap i : Nat} {rows : Nat → List Int} {W W' : World} (h : WhO b go n cap i rows W) (hb : Below W.heap.size W W') : WhO b go n cap i rows W' := by
 obtain ⟨cur, h1, h2, h3, h4⟩ := h.ex
 exact ⟨h.bg, h.nc, h.cm, cur, blk_below h1 hb, h2, fun j hj => by
  obtain ⟨u, hu, hr⟩ := h3 j hj
  exact ⟨u, hu, Kd.R_below hr hb⟩, h4⟩
theorem WhI.put {b go n cap i : Nat} {rows : Nat → List Int} {vc v1 : Value} {cr cr' : List Int} {W w1 : World} (h : WhI b go n cap i rows vc cr W) (hi : i < n) (ho : Kd.R (Kd.int .i64) 3 w1 b (fun k => k ≠ go) v1 cr') (hg : W.grownBy w1 vc.ownBlock) (hat : v1.ownBlock = vc.ownBlock ∨ ∃ b, v1.ownBlock = some b ∧ W.heap.size ≤ b) :
  WhI b go n cap i rows v1 cr' (w1.setCell ⟨go, i, none⟩ v1) := by
 obtain ⟨cur, h1, h2, h3, h4, h5, h6⟩ := h.ex
 have hne : some go ≠ vc.ownBlock := fun e => (h6.1 go e.symm) rfl
 refine ⟨h.bg, h.nc, h.cm, _, blk_set (blk_grown h1 hg hne) i v1, by simpa using h2, ?_, fun j hj => ?_, fun j hj hjn => ?_, Kd.R_far (p := ⟨go, i, none⟩) ho (fun k hk => hk) _⟩
 ·rw [Array.getElem?_setIfInBounds_self]; simp [h2]; have := h.nc; omega
 ·obtain ⟨u, hu, hr⟩ := h4 j hj
  refine ⟨u, ?_, Kd.R_far (p := ⟨go, i, none⟩) (Kd.R_after hr hg hat) (fun k hk => hk.1) _⟩
  rw [Array.getElem?_setIfInBounds_ne (by omega)]; exact hu
 ·rw [Array.getElem?_setIfInBounds_ne (by omega)]; exact h5 j hj hjn
theorem WhI.cell {b go n cap i : Nat} {rows : Nat → List Int} {vc : Value} {cr : List Int} {W : World} (h : WhI b go n cap i rows vc cr W) : W.cell? ⟨go, i, none⟩ = some vc ∧ W.frozen? ⟨go, i, none⟩ = false ∧ Kd.R (Kd.int .i64) 3 W b (fun k => k ≠ go) vc cr ∧ go < W.heap.size := by
 obtain ⟨cur, h1, h2, h3, h4, h5, h6⟩ := h.ex
 exact ⟨(blk_cell h1 i).trans h3, blk_frozen h1 i, h6, blk_lt h1⟩
theorem WhI.grown_cell {b go n cap i : Nat} {rows : Nat → List Int} {vc : Value} {cr : List Int} {W w1 : World} (h : WhI b go n cap i rows vc cr W) (hg : W.grownBy w1 vc.ownBlock) : w1.cell? ⟨go, i, none⟩ = some vc ∧ w1.frozen? ⟨go, i, none⟩ = false := by
 obtain ⟨cur, h1, h2, h3, h4, h5, h6⟩ := h.ex
 have hk := blk_grown h1 hg (fun e => (h6.1 go e.symm) rfl)
 exact ⟨(blk_cell hk i).trans h3, blk_frozen hk i⟩
theorem WhO.done {b go n cap : Nat} {rows : Nat → List Int} {W : World} (h : WhO b go n cap n rows W) : Kd.R (Kd.slice 3 (Kd.int .i64)) 39 W b (fun _ => True) (.slice (some ⟨go, 0, none⟩) n cap) ((List.range n).map rows) := by
 obtain ⟨cur, h1, h2, h3, _⟩ := h.ex
 have hsz : (Kd.slice 3 (Kd.int .i64)).sz = 1 := rfl
 refine ⟨fun _ _ => trivial, cur.toList.take n, ⟨by have := h.nc; rw [hsz]; simp [h2]; omega, .inr ⟨go, cap, cur, by simp, h.bg, h1, by simpa using h.nc, h.cm, by rw [hsz, h2, Nat.mul_one], by rw [hsz]; simp⟩⟩, by have := h.nc; simp [Kd.slice, h2]; omega, fun j p hj => ?_⟩
 have hjn : j < n := by
  have := (List.getElem?_eq_some_iff.1 hj).1
  simpa using this
 obtain ⟨u, hu, hr⟩ := h3 j hjn
 have hp : p = rows j := by
  rw [List.getElem?_map, List.getElem?_range hjn] at hj
  exact (Option.some.inj hj).symm
 subst hp
 refine ⟨u, ?_, Kd.R_mono hr (fun k hk => ⟨trivial, fun e => hk (by simpa [Value.ownBlock] using e)⟩)⟩
 show ((cur.toList.take n).drop (j * 1)).take 1 = [u]
 rw [Nat.mul_one]
 have hlt : j < (cur.toList.take n).length := by have := h.nc; simp [h2]; omega
 rw [List.drop_eq_getElem_cons hlt, List.take_succ_cons, List.take_zero]
 have : (cur.toList.take n)[j]? = some u := by
  rw [List.getElem?_take_of_lt hjn]
  simpa using hu
 rw [List.getElem?_eq_getElem hlt] at this
 rw [Option.some.inj this]
def whoP (n1 : Nat) (ts : List (List Int)) (i : Nat) (k : Nat) : Bool := decide (0 < manyS n1 ts (i : Int) (k : Int))
def whoseL (n0 n1 : Nat) (ts : List (List Int)) : List (List Int) := (List.range n1).map fun i => sel (whoP n1 ts i) n0
end Go.Proofs.Ytnbbbeghgomnoaa.X
namespace Go.Proofs.Ytnbbbeghgomnoaa.X
open Go.RowKit Go.Proofs.YtnbbbeghgomnoaaW.PrintWords Go.Proofs.YtnbbbeghgomnoaaW.PrintLast Go.Proofs.YtnbbbeghgomnoaaW.PrintMore
theorem knil_nil {b : Nat} {W : World} {v : Value} (h : knil.R 39 W b (fun _ => True) v (List.replicate 0 ())) : Kd.R (Kd.slice 3 (Kd.int .i64)) 39 W b (fun _ => True) v [] := by
 have h' : (Kd.scalar (fun (_ : Unit) => Value.slice none 0 0) (fun _ => rfl)).R 39 W b (fun _ => True) v [] := h
 exact ⟨fun _ _ => trivial, [], (show W.ownsRow b 39 1 v 0 [] from Kd.own_of_R h'), by simp, fun j p hj => by simp at hj⟩
set_option maxHeartbeats 4000000 in
set_option maxRecDepth 100000 in
theorem Whose_ok {A0 : Option Addr} {c0 : Nat} {l0 : List S109} {A1 : Option Addr} {c1 : Nat} {l1 : List S110} (wg : Int) {w : World} (ht : Tab A0 c0 l0 A1 c1 l1 w) (he : askE l0 l1 wg = 0) :
  Calls Try.prog 22 #[.agg #[.slice A0 l0.length c0, .slice A1 l1.length c1, .int .i64 wg]] w fun e w' => ∃ v, e = .returned (.tuple #[v, .int .i64 0]) ∧ Kd.R (Kd.slice 3 (Kd.int .i64)) 39 w' w.heap.size (fun _ => True) v (whoseL l0.length l1.length (truthsL l0 l1 wg)) ∧ Below w.heap.size w w' := by
 have hu35 := Try.underlying35
 have hu55 := Try.underlying55
 have HT := Aside0.mk ht
 have HE := Aside0.mk he
 clear ht he
 obtain ⟨hck, htn⟩ := askE_zero HE.out
 have HTN := Aside0.mk htn
 have HN0 := Aside0.mk (checkT_zero hck).n0
 have HN1 := Aside0.mk (checkT_zero hck).n1
 have HTL := Aside0.mk (truths_len wg (checkT_zero hck).n0 (checkT_zero hck).n1)
 clear hck htn
 have hn1 := HN1.out
 have hn0 := HN0.out
 have HB := Aside0.mk (Below.refl w.heap.size w)
 go_enter Try.func22, Try.ntmps22
 go_wp2_with (first | ((with_reducible refine gate_dst (N := 1) rfl ?_); refine sbox (N := 1) #[.slice A0 l0.length c0, .slice A1 l1.length c1, .int .i64 wg] 35 ?_; intro g1 hg W_ hbox hb; have GEg1 := Aside0.mk (by rw [hg]; exact HB.out.size : w.heap.size ≤ g1); replace HB := Aside0.mk (below_step HB.out hb); have BKg1 := Aside0.mk hbox; clear hb hbox hg; have hcz0 := sc 0 BKg1; have hcz1 := sc 1 BKg1; have hcz2 := sc 2 BKg1) | (go_at_call 68; go_must (refine (asked_ok wg (HT.out.below HB.out) HE.out).mono ?_; rintro e W_ ⟨gw, gm, At, ct, rfl, hwk, hb⟩; replace BKg1 := Aside0.mk (blk_below BKg1.out hb); replace HB := Aside0.mk (below_step HB.out hb); try (clear hcz0 hcz1 hcz2); have HK := Aside0.mk hwk; clear hb hwk; have hcz0 := sc 0 BKg1; have hcz1 := sc 1 BKg1; have hcz2 := sc 2 BKg1)) | ((with_reducible refine gate_dst (N := 20) rfl ?_); obtain ⟨W1, hW1⟩ : ∃ W1 : World, W1 = W_ := ⟨_, rfl⟩; subst hW1; go_must (refine Kd.R_make knil _ 39 rfl (N := 20) rfl 28 _ _ rfl (l1.length : Int) rfl rfl Try.underlying28 (.slice none 0 0) 24 info39 rfl (by decide) (by omega) () (ok := fun _ => True) (okp := fun _ => True) rfl (fun _ hk => hk) trivial (by omega) (by omega) (Below.refl _ _) (Nat.le_refl _) ?_; intro v20 Wm ho hb hg hat; rw [Int.toNat_natCast] at ho; have HO20 := Aside0.mk ho; have HBm := Aside0.mk hb; clear ho hb hg hat hcz0 hcz1 hcz2; have hcy0 : Wm.cell? ⟨g1, 0, none⟩ = some (.slice A0 l0.length c0) := (blk_cell (blk_below BKg1.out HBm.out) 0).trans rfl; obtain ⟨An, cn, en⟩ := Kd.R_slice HO20.out; rw [List.length_replicate] at en; subst en)))
 rcases Nat.eq_zero_or_pos l1.length with hz | hpos
 ·go_loopg [23] 0 (fun kq v23 w' => v23 = .int .i64 0 ∧ w' = Wm)
  case atStart => exact ⟨rfl, rfl⟩
  case round =>
   obtain ⟨rfl, hw_⟩ := hrel
   subst hw_
   have hHO := HO20.out
   rw [hz] at hHO
   have HOZ := Aside0.mk (knil_nil hHO)
   have HZ := Aside0.mk hz
   clear hHO
   have hlt : ¬ (0 : Int) < (l1.length : Int) := by omega
   go_wp2
   go_ret2
   refine ⟨_, rfl, ?_, below_step HB.out HBm.out⟩
   have h_ := Kd.R_lower HOZ.out HB.out.size
   rw [show whoseL l0.length 0 (truthsL l0 l1 wg) = [] from rfl]
   exact h_
 ·obtain ⟨go, cap, eg, hwo⟩ := WhO.start HO20.out hpos (fun i => sel (whoP l1.length (truthsL l0 l1 wg) i) l0.length)
  cases eg
  have HWO := Aside0.mk hwo
  have HGO := Aside0.mk hwo.bg
  clear hwo HO20
  go_loopg [23] l1.length (fun kq v23 w' => ∃ i : Nat, v23 = .int .i64 (i : Int) ∧ Aside0 (i + kq = l1.length) ∧ Aside0 (WhO W1.heap.size go l1.length cn i (fun i => sel (whoP l1.length (truthsL l0 l1 wg) i) l0.length) w') ∧ Aside0 (Below W1.heap.size W1 w'))
  case atStart => exact ⟨0, rfl, ⟨Nat.zero_add _⟩, HWO, HBm⟩
  case round =>
   clear HWO HBm hcy0
   obtain ⟨i, rfl, HM, HWO, HB1⟩ := hrel
   by_cases hlt : i < l1.length
   ·cases gk with
    | zero => have := HM.out; omega
    | succ k1 =>
    have hcy0 : wr.cell? ⟨g1, 0, none⟩ = some (.slice A0 l0.length c0) := (blk_cell (blk_below BKg1.out HB1.out) 0).trans rfl
    go_wp2
    go_loopg [29] l0.length (fun kq v29 w' => ∃ (k : Nat) (vc : Value), v29 = .int .i64 (k : Int) ∧ Aside0 (k + kq = l0.length) ∧ Aside0 (WhI W1.heap.size go l1.length cn i (fun i => sel (whoP l1.length (truthsL l0 l1 wg) i) l0.length) vc (sel (whoP l1.length (truthsL l0 l1 wg) i) k) w') ∧ Aside0 (Below W1.heap.size W1 w'))
    case atStart => exact ⟨0, _, rfl, ⟨Nat.zero_add _⟩, ⟨HWO.out.open_ hlt⟩, HB1⟩
    case round =>
     clear HWO HB1 hcy0
     obtain ⟨k, vc, rfl, HM2, HI, HB1⟩ := hrel
     by_cases hlt2 : k < l0.length
     ·cases gk with
      | zero => have := HM2.out; omega
      | succ k2 =>
      have hct : wr.cell? ⟨gw, 4, none⟩ = some (.map (some gm)) := (blk_cell (HK.out.below HB1.out).kw 4).trans rfl
      obtain ⟨L, hmp, hgl⟩ := (HK.out.below HB1.out).mp
      have hlu := lookup_run wr gm L ((i : Int), (k : Int)) hmp
      rw [hgl] at hlu
      unfold spv at hlu
      dsimp only at hlu
      clear hmp hgl
      have HLT := Aside0.mk hlt
      by_cases hp : whoP l1.length (truthsL l0 l1 wg) i k = true
      ·have HP_ := Aside0.mk hp
       have hpd : decide (0 < manyS l1.length (truthsL l0 l1 wg) (i : Int) (k : Int)) = true := hp
       generalize manyS l1.length (truthsL l0 l1 wg) (i : Int) (k : Int) = cv at hlu hpd
       obtain ⟨hx1, hf1, hr1_, hgl_⟩ := HI.out.cell
       obtain ⟨Ac, cc, ec⟩ := Kd.R_slice hr1_
       have HR_ := Aside0.mk hr1_
       have HSL := Aside0.mk (show (sel (whoP l1.length (truthsL l0 l1 wg) i) k).length ≤ 5 from Nat.le_trans (sel_le _ _) (by omega))
       obtain ⟨cr, hcr⟩ : ∃ cr, (sel (whoP l1.length (truthsL l0 l1 wg) i) k).length = cr := ⟨_, rfl⟩
       rw [hcr] at ec
       have HCR := Aside0.mk hcr
       subst ec
       have HGL_ := Aside0.mk hgl_
       clear hr1_ hgl_ hp hcr
       go_wp2_with (first | ((with_reducible refine gate_builtin (b := .append) (xs := #[.tmp 46, .tmp 48]) rfl ?_); go_must (at_builtin; refine Kd.R_append (Kd.int .i64) (w0 := W1) W1.heap.size rfl (.tmp 46) (.tmp 48) 39 3 (.int .i64 0) 8 rfl Try.underlying39 info3 rfl (by decide) (by omega) (.slice Ac cr cc) (sel (whoP l1.length (truthsL l0 l1 wg) i) k) (k : Int) [.int .i64 (k : Int)] (fun k_ => k_ ≠ go) (fun _ => False) rfl rfl ?aP (fun _ hk => hk.elim) ?aF ?aO ?aB ?aS ?aL ?_; (case aP => exact rfl); (case aB => exact (by repeat (first | exact HB1.out | apply below_alloc | apply pw_below_drewN | apply below_drew1))); (case aF => exact (fun k_ hk_ => by have := HGL_.out; omega)); (case aO => exact (sR HR_)); (case aS => exact (by repeat (first | exact HB1.out | apply below_alloc | apply pw_below_drewN | apply below_drew1) : Below W1.heap.size W1 _).size); (case aL => exact (by have := HSL.out; omega)); intro v1 W_ ho hb hg hat; have HP := Aside0.mk (HI.out.put hlt ho hg hat); obtain ⟨Av, cv_, ev1⟩ := Kd.R_slice ho; have HBP := Aside0.mk (hb.setCell (p := ⟨go, i, none⟩) HI.out.bg v1); obtain ⟨hx1, hf1⟩ := HI.out.grown_cell hg; rw [List.length_append, List.length_singleton] at ev1; subst ev1; clear ho hb hg hat)))
       go_roundg k2
       case measure => omega
       case rel => exact ⟨k + 1, _, by go_num, ⟨by have := HM2.out; omega⟩, ⟨by rw [sel_yes _ _ HP_.out]; exact HP.out⟩, HBP⟩
      ·have hp' : whoP l1.length (truthsL l0 l1 wg) i k = false := by simpa using hp
       have HP_ := Aside0.mk hp'
       have hpd : decide (0 < manyS l1.length (truthsL l0 l1 wg) (i : Int) (k : Int)) = false := hp'
       generalize manyS l1.length (truthsL l0 l1 wg) (i : Int) (k : Int) = cv at hlu hpd
       clear hp hp'
       go_wp2
       go_roundg k2
       case measure => omega
       case rel => exact ⟨k + 1, vc, by go_num, ⟨by have := HM2.out; omega⟩, ⟨by rw [sel_no _ _ HP_.out]; exact HI.out⟩, HB1⟩
     ·obtain rfl : k = l0.length := by have := HM2.out; omega
      have HLT := Aside0.mk hlt
      go_wp2
      go_roundg k1
      case measure => omega
      case rel => exact ⟨i + 1, by go_num, ⟨by have := HM.out; omega⟩, ⟨HI.out.close rfl⟩, HB1⟩
   ·obtain rfl : i = l1.length := by have := HM.out; omega
    go_wp2
    go_ret2
    exact ⟨_, rfl, Kd.R_lower HWO.out.done HB.out.size, below_step HB.out HB1.out⟩
end Go.Proofs.Ytnbbbeghgomnoaa.X
namespace Go.Proofs.Ytnbbbeghgomnoaa.X
open Go.RowKit Go.Proofs.YtnbbbeghgomnoaaW.PrintWords Go.Proofs.YtnbbbeghgomnoaaW.PrintLast Go.Proofs.YtnbbbeghgomnoaaW.PrintMore
def bestL (l1 : List S110) (ts : List (List Int)) : List Int := ts.foldl (fun b x => if lostN l1 (pad x) < lostN l1 (pad b) then x else b) (ts.getD 0 [])
set_option maxHeartbeats 4000000 in
set_option maxRecDepth 100000 in
theorem best_calls {A0 : Option Addr} {c0 : Nat} {l0 : List S109} {A1 : Option Addr} {c1 : Nat} {l1 : List S110} {wg : Int} {b gw gm : Nat} {At : Option Addr} {ct : Nat} {w : World} (hk : Wk A0 c0 l0 A1 c1 l1 wg b gw gm At ct w) (hr1 : Kd.C k110 w A1 l1.length l1) (hn1 : l1.length ≤ 7) (hnt : truthsL l0 l1 wg ≠ []) (hntl : (truthsL l0 l1 wg).length ≤ 78125) :
  Calls Try.prog 81 #[.pointer (some ⟨gw, 0, none⟩)] w fun e w' => e = .returned (.agg (ac (pad (bestL l1 (truthsL l0 l1 wg))))) ∧ Below w.heap.size w w' := by
 have hu35 := Try.underlying35
 have hu121 := Try.underlying121
 have hu105 := Try.underlying105
 have HR1 := Aside0.mk hr1
 have HN1 := Aside0.mk hn1
 obtain ⟨ts, hts⟩ : ∃ ts, truthsL l0 l1 wg = ts := ⟨_, rfl⟩
 have HTS := Aside0.mk hts
 have HK := Aside0.mk hk
 obtain ⟨y0, hy0⟩ : ∃ y, ts.getD 0 [] = y := ⟨_, rfl⟩
 obtain ⟨nt, hnt2⟩ : ∃ n, (truthsL l0 l1 wg).length = n := ⟨_, rfl⟩
 have hpos : 0 < nt := by rw [← hnt2]; exact List.length_pos_iff.2 hnt
 have hnl : nt ≤ 78125 := by rw [← hnt2]; exact hntl
 obtain ⟨adt, rfl, hct0, hct1, hct2, hct3, hct4, hct5, hct6⟩ := at_T121 hk.row 0 (by omega)
 rw [show (truthsL l0 l1 wg).getD 0 [] = y0 from by rw [hts]; exact hy0] at hct0 hct1 hct2 hct3 hct4 hct5 hct6
 have hadd : adt.add (0 * 7) = adt := by simp [Addr.add]
 rw [hadd] at hct0 hct1 hct2 hct3 hct4 hct5 hct6
 have hcv : w.cell? ⟨gw, 3, none⟩ = some (.slice (some adt) nt ct) := (blk_cell hk.kw 3).trans (by rw [← hnt2]; rfl)
 have HY0 := Aside0.mk hy0
 have HNT2 := Aside0.mk hnt2
 have HCT := Aside0.mk (And.intro hct0 (And.intro hct1 (And.intro hct2 (And.intro hct3 (And.intro hct4 (And.intro hct5 hct6))))))
 have HCV := Aside0.mk hcv
 clear hk hr1 hn1 hts hy0 hnt2 hadd hct0 hct1 hct2 hct3 hct4 hct5 hct6 hcv hntl hnt
 have HB := Aside0.mk (Below.refl w.heap.size w)
 go_enter Try.func81, Try.ntmps81
 go_wp2_with (first | ((with_reducible refine gate_dst (N := 2) rfl ?_); refine sbox (N := 2) #[.int .i64 0, .int .i64 0, .int .i64 0, .int .i64 0, .int .i64 0, .int .i64 0, .int .i64 0] 121 ?_; intro g2 hg W_ hbox hb; have GEg2 := Aside0.mk (by rw [hg]; exact HB.out.size : w.heap.size ≤ g2); replace HB := Aside0.mk (below_step HB.out hb); have BKg2 := Aside0.mk hbox; clear hb hbox hg; have hct0 : W_.cell? adt = some (.int .i64 (pad y0 0)) := (HB.out.cell (World.block_lt_of_cell? _ _ HCT.out.1)).trans HCT.out.1; have hct1 : W_.cell? ⟨adt.block, adt.off + 1, none⟩ = some (.int .i64 (pad y0 1)) := (HB.out.cell (World.block_lt_of_cell? _ _ HCT.out.2.1)).trans HCT.out.2.1; have hct2 : W_.cell? ⟨adt.block, adt.off + 2, none⟩ = some (.int .i64 (pad y0 2)) := (HB.out.cell (World.block_lt_of_cell? _ _ HCT.out.2.2.1)).trans HCT.out.2.2.1; have hct3 : W_.cell? ⟨adt.block, adt.off + 3, none⟩ = some (.int .i64 (pad y0 3)) := (HB.out.cell (World.block_lt_of_cell? _ _ HCT.out.2.2.2.1)).trans HCT.out.2.2.2.1; have hct4 : W_.cell? ⟨adt.block, adt.off + 4, none⟩ = some (.int .i64 (pad y0 4)) := (HB.out.cell (World.block_lt_of_cell? _ _ HCT.out.2.2.2.2.1)).trans HCT.out.2.2.2.2.1; have hct5 : W_.cell? ⟨adt.block, adt.off + 5, none⟩ = some (.int .i64 (pad y0 5)) := (HB.out.cell (World.block_lt_of_cell? _ _ HCT.out.2.2.2.2.2.1)).trans HCT.out.2.2.2.2.2.1; have hct6 : W_.cell? ⟨adt.block, adt.off + 6, none⟩ = some (.int .i64 (pad y0 6)) := (HB.out.cell (World.block_lt_of_cell? _ _ HCT.out.2.2.2.2.2.2)).trans HCT.out.2.2.2.2.2.2; have hcv : W_.cell? ⟨gw, 3, none⟩ = some (.slice (some adt) nt ct) := (HB.out.cell (World.block_lt_of_cell? _ _ HCV.out)).trans HCV.out; have hcv2 : ∀ o, (W_.alloc o).cell? ⟨gw, 3, none⟩ = some (.slice (some adt) nt ct) := fun o => ((below_alloc HB.out o).cell (World.block_lt_of_cell? _ _ HCV.out)).trans HCV.out))
 have hb := below_alloc (Below.refl W_.heap.size W_) (.cells #[.int .i64 (pad y0 0), .int .i64 (pad y0 1), .int .i64 (pad y0 2), .int .i64 (pad y0 3), .int .i64 (pad y0 4), .int .i64 (pad y0 5), .int .i64 (pad y0 6)] 121)
 have BKg3 := Aside0.mk (heap_alloc_new W_ (.cells #[.int .i64 (pad y0 0), .int .i64 (pad y0 1), .int .i64 (pad y0 2), .int .i64 (pad y0 3), .int .i64 (pad y0 4), .int .i64 (pad y0 5), .int .i64 (pad y0 6)] 121))
 have LT32 := Aside0.mk (blk_lt BKg2.out)
 have GEg3 := Aside0.mk HB.out.size
 have n0_ := Aside0.mk (below_step HB.out hb)
 have n1_ := Aside0.mk (blk_below BKg2.out hb)
 clear HB BKg2 hb hct0 hct1 hct2 hct3 hct4 hct5 hct6 hcv hcv2
 have HB := n0_
 have BKg2 := n1_
 clear n0_ n1_
 generalize W_.alloc (.cells #[.int .i64 (pad y0 0), .int .i64 (pad y0 1), .int .i64 (pad y0 2), .int .i64 (pad y0 3), .int .i64 (pad y0 4), .int .i64 (pad y0 5), .int .i64 (pad y0 6)] 121) = W1 at *
 generalize W_.heap.size = g3 at *
 go_loopg [17] nt (fun kq v17 w' => ∃ m : Nat, v17 = .int .i64 (m : Int) ∧ Aside0 (m + kq = nt) ∧ Aside0 (Below w.heap.size w w') ∧ Aside0 (w'.heap[g2]? = some (.cells #[.int .i64 0, .int .i64 0, .int .i64 0, .int .i64 0, .int .i64 0, .int .i64 0, .int .i64 0] 121 (0, 0))) ∧ Aside0 (w'.heap[g3]? = some (.cells (ac (pad ((ts.take m).foldl (fun b x => if lostN l1 (pad x) < lostN l1 (pad b) then x else b) y0))) 121 (0, 0))))
 case atStart => exact ⟨0, rfl, ⟨Nat.zero_add _⟩, HB, BKg2, BKg3⟩
 case round =>
  clear HB BKg2 BKg3
  obtain ⟨m, rfl, HM, HB, BKg2, BKg3⟩ := hrel
  obtain ⟨bm, hbm⟩ : ∃ bm, (ts.take m).foldl (fun b x => if lostN l1 (pad x) < lostN l1 (pad b) then x else b) y0 = bm := ⟨_, rfl⟩
  rw [hbm] at BKg3
  have HBM := Aside0.mk hbm
  clear hbm
  by_cases hlt : m < nt
  ·cases gk with
   | zero => have := HM.out; omega
   | succ k1 =>
   obtain ⟨adt2, ea, hct0, hct1, hct2, hct3, hct4, hct5, hct6⟩ := at_T121 (Kd.C_below HK.out.row HB.out) m (by have := HNT2.out; omega)
   cases ea
   rw [HTS.out] at hct0 hct1 hct2 hct3 hct4 hct5 hct6
   have hmt : m < ts.length := by rw [← HTS.out, HNT2.out]; exact hlt
   have htk : ts.take (m + 1) = ts.take m ++ [ts.getD m []] := by
    rw [List.take_succ_eq_append_getElem hmt, List.getD_eq_getElem?_getD, List.getElem?_eq_getElem hmt, Option.getD_some]
   have HTK := Aside0.mk htk
   clear htk hmt
   generalize ts.getD m [] = y at *
   have HLT := Aside0.mk hlt
   go_wp2
   have hb := below_alloc (Below.refl wr.heap.size wr) (.cells #[.int .i64 (pad y 0), .int .i64 (pad y 1), .int .i64 (pad y 2), .int .i64 (pad y 3), .int .i64 (pad y 4), .int .i64 (pad y 5), .int .i64 (pad y 6)] 121)
   have BKg5 := Aside0.mk (heap_alloc_new wr (.cells #[.int .i64 (pad y 0), .int .i64 (pad y 1), .int .i64 (pad y 2), .int .i64 (pad y 3), .int .i64 (pad y 4), .int .i64 (pad y 5), .int .i64 (pad y 6)] 121))
   have LT5 := Aside0.mk (And.intro (blk_lt BKg2.out) (blk_lt BKg3.out))
   have n0_ := Aside0.mk (below_step HB.out hb)
   have n1_ := Aside0.mk (blk_below BKg2.out hb)
   have n2_ := Aside0.mk (blk_below BKg3.out hb)
   clear HB BKg2 BKg3 hb hct0 hct1 hct2 hct3 hct4 hct5 hct6
   have HB := n0_
   have BKg2 := n1_
   have BKg3 := n2_
   clear n0_ n1_ n2_
   generalize wr.alloc (.cells #[.int .i64 (pad y 0), .int .i64 (pad y 1), .int .i64 (pad y 2), .int .i64 (pad y 3), .int .i64 (pad y 4), .int .i64 (pad y 5), .int .i64 (pad y 6)] 121) = W5 at *
   generalize wr.heap.size = g5 at *
   have hcy0 : W5.cell? ⟨g5, 0, none⟩ = some (.int .i64 (pad y 0)) := (blk_cell BKg5.out 0).trans rfl
   have hcy1 : W5.cell? ⟨g5, 1, none⟩ = some (.int .i64 (pad y 1)) := (blk_cell BKg5.out 1).trans rfl
   have hcy2 : W5.cell? ⟨g5, 2, none⟩ = some (.int .i64 (pad y 2)) := (blk_cell BKg5.out 2).trans rfl
   have hcy3 : W5.cell? ⟨g5, 3, none⟩ = some (.int .i64 (pad y 3)) := (blk_cell BKg5.out 3).trans rfl
   have hcy4 : W5.cell? ⟨g5, 4, none⟩ = some (.int .i64 (pad y 4)) := (blk_cell BKg5.out 4).trans rfl
   have hcy5 : W5.cell? ⟨g5, 5, none⟩ = some (.int .i64 (pad y 5)) := (blk_cell BKg5.out 5).trans rfl
   have hcy6 : W5.cell? ⟨g5, 6, none⟩ = some (.int .i64 (pad y 6)) := (blk_cell BKg5.out 6).trans rfl
   have hcb0 : W5.cell? ⟨g3, 0, none⟩ = some (.int .i64 (pad bm 0)) := (blk_cell BKg3.out 0).trans rfl
   have hcb1 : W5.cell? ⟨g3, 1, none⟩ = some (.int .i64 (pad bm 1)) := (blk_cell BKg3.out 1).trans rfl
   have hcb2 : W5.cell? ⟨g3, 2, none⟩ = some (.int .i64 (pad bm 2)) := (blk_cell BKg3.out 2).trans rfl
   have hcb3 : W5.cell? ⟨g3, 3, none⟩ = some (.int .i64 (pad bm 3)) := (blk_cell BKg3.out 3).trans rfl
   have hcb4 : W5.cell? ⟨g3, 4, none⟩ = some (.int .i64 (pad bm 4)) := (blk_cell BKg3.out 4).trans rfl
   have hcb5 : W5.cell? ⟨g3, 5, none⟩ = some (.int .i64 (pad bm 5)) := (blk_cell BKg3.out 5).trans rfl
   have hcb6 : W5.cell? ⟨g3, 6, none⟩ = some (.int .i64 (pad bm 6)) := (blk_cell BKg3.out 6).trans rfl
   refine start_ (n := 7) (S := fun w' => w'.cell? ⟨g5, 0, none⟩ = some (.int .i64 (pad y 0)) ∧ w'.cell? ⟨g5, 1, none⟩ = some (.int .i64 (pad y 1)) ∧ w'.cell? ⟨g5, 2, none⟩ = some (.int .i64 (pad y 2)) ∧ w'.cell? ⟨g5, 3, none⟩ = some (.int .i64 (pad y 3)) ∧ w'.cell? ⟨g5, 4, none⟩ = some (.int .i64 (pad y 4)) ∧ w'.cell? ⟨g5, 5, none⟩ = some (.int .i64 (pad y 5)) ∧ w'.cell? ⟨g5, 6, none⟩ = some (.int .i64 (pad y 6)) ∧ w'.cell? ⟨g3, 0, none⟩ = some (.int .i64 (pad bm 0)) ∧ w'.cell? ⟨g3, 1, none⟩ = some (.int .i64 (pad bm 1)) ∧ w'.cell? ⟨g3, 2, none⟩ = some (.int .i64 (pad bm 2)) ∧ w'.cell? ⟨g3, 3, none⟩ = some (.int .i64 (pad bm 3)) ∧ w'.cell? ⟨g3, 4, none⟩ = some (.int .i64 (pad bm 4)) ∧ w'.cell? ⟨g3, 5, none⟩ = some (.int .i64 (pad bm 5)) ∧ w'.cell? ⟨g3, 6, none⟩ = some (.int .i64 (pad bm 6))) (ds := []) #[false, false, false, false, false, false, false] (by kernel_rfl) rfl rfl ⟨hcy0, hcy1, hcy2, hcy3, hcy4, hcy5, hcy6, hcb0, hcb1, hcb2, hcb3, hcb4, hcb5, hcb6⟩ (fun hHeld => ?_)
   have hb := below_drew1 (Below.refl W5.heap.size W5)
   replace BKg2 := Aside0.mk (blk_below BKg2.out hb)
   replace BKg3 := Aside0.mk (blk_below BKg3.out hb)
   replace BKg5 := Aside0.mk (blk_below BKg5.out hb)
   replace HB := Aside0.mk (below_step HB.out hb)
   replace hcy0 := (hb.cell (World.block_lt_of_cell? _ _ hcy0)).trans hcy0
   replace hcy1 := (hb.cell (World.block_lt_of_cell? _ _ hcy1)).trans hcy1
   replace hcy2 := (hb.cell (World.block_lt_of_cell? _ _ hcy2)).trans hcy2
   replace hcy3 := (hb.cell (World.block_lt_of_cell? _ _ hcy3)).trans hcy3
   replace hcy4 := (hb.cell (World.block_lt_of_cell? _ _ hcy4)).trans hcy4
   replace hcy5 := (hb.cell (World.block_lt_of_cell? _ _ hcy5)).trans hcy5
   replace hcy6 := (hb.cell (World.block_lt_of_cell? _ _ hcy6)).trans hcy6
   replace hcb0 := (hb.cell (World.block_lt_of_cell? _ _ hcb0)).trans hcb0
   replace hcb1 := (hb.cell (World.block_lt_of_cell? _ _ hcb1)).trans hcb1
   replace hcb2 := (hb.cell (World.block_lt_of_cell? _ _ hcb2)).trans hcb2
   replace hcb3 := (hb.cell (World.block_lt_of_cell? _ _ hcb3)).trans hcb3
   replace hcb4 := (hb.cell (World.block_lt_of_cell? _ _ hcb4)).trans hcb4
   replace hcb5 := (hb.cell (World.block_lt_of_cell? _ _ hcb5)).trans hcb5
   replace hcb6 := (hb.cell (World.block_lt_of_cell? _ _ hcb6)).trans hcb6
   generalize W5.drew = W6 at *
   clear hb
   refine sP (i := 0) (N := some 21) #[true, false, false, false, false, false, false] ?_
   refine sP (i := 3) (N := some 24) #[true, false, false, true, false, false, false] ?_
   refine take_ (i := 1) (N := some 22) (v := ?_) (a' := ?_) #[true, true, false, true, false, false, false] rfl rfl (by kernel_rfl) (fun _ _ _ h => h) (Or.inl ⟨by rfl, ?_⟩) hHeld ?_ ?_
   rotate_left
   ·rintro w' ⟨s0, s1, s2, s3, s4, s5, s6, s7, s8, s9, s10, s11, s12, s13⟩
    go_simp
    with_reducible rfl
   rotate_left
   ·simp only [Act.put, List.setIfInBounds_toArray, List.set_cons_zero, List.set_cons_succ, i64_w, i32_w]
    rfl
   refine take_ (i := 4) (N := some 25) (v := ?_) (a' := ?_) #[true, true, false, true, true, false, false] rfl rfl (by kernel_rfl) (fun _ _ _ h => h) (Or.inl ⟨by rfl, ?_⟩) hHeld ?_ ?_
   rotate_left
   ·rintro w' ⟨s0, s1, s2, s3, s4, s5, s6, s7, s8, s9, s10, s11, s12, s13⟩
    go_simp
    with_reducible rfl
   rotate_left
   ·simp only [Act.put, List.setIfInBounds_toArray, List.set_cons_zero, List.set_cons_succ, i64_w, i32_w]
    rfl
   refine one_ (i := 2) (N := some 23) #[true, true, true, true, true, false, false] rfl rfl (by kernel_rfl) (by decide) (fun K hK => ?_)
   refine goes_ Try.func80 (by kernel_rfl) rfl #[.pointer (some ⟨gw, 0, none⟩), .agg #[.int .i64 (pad y 0), .int .i64 (pad y 1), .int .i64 (pad y 2), .int .i64 (pad y 3), .int .i64 (pad y 4), .int .i64 (pad y 5), .int .i64 (pad y 6)], .int .i64 0] (by rfl) rfl rfl (by simp only [List.map_toArray, List.map_cons, List.map_nil]; rfl) ?_
   with_reducible refine (lost_calls (pad y) 0 (HK.out.below HB.out) (Kd.C_below HR1.out HB.out) HN1.out).mono ?_
   rintro e W7 ⟨rfl, hb⟩
   refine ⟨_, rfl, ?_⟩
   replace hcy0 := (hb.cell (World.block_lt_of_cell? _ _ hcy0)).trans hcy0
   replace hcy1 := (hb.cell (World.block_lt_of_cell? _ _ hcy1)).trans hcy1
   replace hcy2 := (hb.cell (World.block_lt_of_cell? _ _ hcy2)).trans hcy2
   replace hcy3 := (hb.cell (World.block_lt_of_cell? _ _ hcy3)).trans hcy3
   replace hcy4 := (hb.cell (World.block_lt_of_cell? _ _ hcy4)).trans hcy4
   replace hcy5 := (hb.cell (World.block_lt_of_cell? _ _ hcy5)).trans hcy5
   replace hcy6 := (hb.cell (World.block_lt_of_cell? _ _ hcy6)).trans hcy6
   replace hcb0 := (hb.cell (World.block_lt_of_cell? _ _ hcb0)).trans hcb0
   replace hcb1 := (hb.cell (World.block_lt_of_cell? _ _ hcb1)).trans hcb1
   replace hcb2 := (hb.cell (World.block_lt_of_cell? _ _ hcb2)).trans hcb2
   replace hcb3 := (hb.cell (World.block_lt_of_cell? _ _ hcb3)).trans hcb3
   replace hcb4 := (hb.cell (World.block_lt_of_cell? _ _ hcb4)).trans hcb4
   replace hcb5 := (hb.cell (World.block_lt_of_cell? _ _ hcb5)).trans hcb5
   replace hcb6 := (hb.cell (World.block_lt_of_cell? _ _ hcb6)).trans hcb6
   replace BKg2 := Aside0.mk (blk_below BKg2.out hb)
   replace BKg3 := Aside0.mk (blk_below BKg3.out hb)
   replace BKg5 := Aside0.mk (blk_below BKg5.out hb)
   replace HB := Aside0.mk (below_step HB.out hb)
   clear hb
   refine hK.out _ _ ⟨hcy0, hcy1, hcy2, hcy3, hcy4, hcy5, hcy6, hcb0, hcb1, hcb2, hcb3, hcb4, hcb5, hcb6⟩ (fun hHeld => ?_)
   clear hK K
   refine sN ?_
   refine one_ (i := 5) (N := some 26) #[true, true, true, true, true, true, false] rfl rfl (by kernel_rfl) (by decide) (fun K hK => ?_)
   refine goes_ Try.func80 (by kernel_rfl) rfl #[.pointer (some ⟨gw, 0, none⟩), .agg #[.int .i64 (pad bm 0), .int .i64 (pad bm 1), .int .i64 (pad bm 2), .int .i64 (pad bm 3), .int .i64 (pad bm 4), .int .i64 (pad bm 5), .int .i64 (pad bm 6)], .int .i64 0] (by rfl) rfl rfl (by simp only [List.map_toArray, List.map_cons, List.map_nil]; rfl) ?_
   with_reducible refine (lost_calls (pad bm) 0 (HK.out.below HB.out) (Kd.C_below HR1.out HB.out) HN1.out).mono ?_
   rintro e W8 ⟨rfl, hb⟩
   refine ⟨_, rfl, ?_⟩
   replace hcy0 := (hb.cell (World.block_lt_of_cell? _ _ hcy0)).trans hcy0
   replace hcy1 := (hb.cell (World.block_lt_of_cell? _ _ hcy1)).trans hcy1
   replace hcy2 := (hb.cell (World.block_lt_of_cell? _ _ hcy2)).trans hcy2
   replace hcy3 := (hb.cell (World.block_lt_of_cell? _ _ hcy3)).trans hcy3
   replace hcy4 := (hb.cell (World.block_lt_of_cell? _ _ hcy4)).trans hcy4
   replace hcy5 := (hb.cell (World.block_lt_of_cell? _ _ hcy5)).trans hcy5
   replace hcy6 := (hb.cell (World.block_lt_of_cell? _ _ hcy6)).trans hcy6
   replace hcb0 := (hb.cell (World.block_lt_of_cell? _ _ hcb0)).trans hcb0
   replace hcb1 := (hb.cell (World.block_lt_of_cell? _ _ hcb1)).trans hcb1
   replace hcb2 := (hb.cell (World.block_lt_of_cell? _ _ hcb2)).trans hcb2
   replace hcb3 := (hb.cell (World.block_lt_of_cell? _ _ hcb3)).trans hcb3
   replace hcb4 := (hb.cell (World.block_lt_of_cell? _ _ hcb4)).trans hcb4
   replace hcb5 := (hb.cell (World.block_lt_of_cell? _ _ hcb5)).trans hcb5
   replace hcb6 := (hb.cell (World.block_lt_of_cell? _ _ hcb6)).trans hcb6
   replace BKg2 := Aside0.mk (blk_below BKg2.out hb)
   replace BKg3 := Aside0.mk (blk_below BKg3.out hb)
   replace BKg5 := Aside0.mk (blk_below BKg5.out hb)
   replace HB := Aside0.mk (below_step HB.out hb)
   clear hb
   refine hK.out _ _ ⟨hcy0, hcy1, hcy2, hcy3, hcy4, hcy5, hcy6, hcb0, hcb1, hcb2, hcb3, hcb4, hcb5, hcb6⟩ (fun hHeld => ?_)
   clear hK K
   refine sN ?_
   refine sP (i := 6) (N := some 27) #[true, true, true, true, true, true, true] ?_
   refine done_ (by kernel_rfl) ?_
   have HST := Aside0.mk (show (ts.take (m + 1)).foldl (fun b x => if lostN l1 (pad x) < lostN l1 (pad b) then x else b) y0 = if lostN l1 (pad y) < lostN l1 (pad bm) then y else bm from by rw [HTK.out, List.foldl_append, HBM.out]; rfl)
   by_cases hl : lostN l1 (pad y) < lostN l1 (pad bm)
   ·have hld : decide (lostN l1 (pad y) < lostN l1 (pad bm)) = true := by simpa using hl
    rw [if_pos hl] at HST
    generalize lostN l1 (pad y) = n1 at *
    generalize lostN l1 (pad bm) = n2 at *
    have hne : g2 ≠ g3 := by have := LT32.out; omega
    have HNE := Aside0.mk hne
    clear hne
    go_wp2_with (first | ((with_reducible refine gate_store (t := 121) (p := 3) rfl ?_); go_must (refine wpList_store_row rfl 121 _ _ rfl g3 (ac (pad y)) rfl rfl 121 (ac (pad bm)) BKg3.out rfl rfl (ac_one _) ?_; have HB9 := Aside0.mk (below_setRow HB.out GEg3.out (ac (pad y))); have BK9 := Aside0.mk (setRow_heap W8 g3 _ (ac (pad y)) _ _ BKg3.out); have BK29 := Aside0.mk ((setRow_other W8 g3 g2 (ac (pad y)) HNE.out).trans BKg2.out); generalize W8.setRow g3 (ac (pad y)) = W9 at *)))
    go_roundg k1
    case measure => omega
    case rel => exact ⟨m + 1, by go_num, ⟨by have := HM.out; omega⟩, HB9, BK29, ⟨by rw [HST.out]; exact BK9.out⟩⟩
   ·have hld : decide (lostN l1 (pad y) < lostN l1 (pad bm)) = false := by simpa using hl
    rw [if_neg hl] at HST
    have hl2 : ¬ (lostN l1 (pad y) < lostN l1 (pad bm)) := hl
    clear hl
    generalize lostN l1 (pad y) = n1 at *
    generalize lostN l1 (pad bm) = n2 at *
    go_wp2
    go_roundg k1
    case measure => omega
    case rel => exact ⟨m + 1, by go_num, ⟨by have := HM.out; omega⟩, HB, BKg2, ⟨by rw [HST.out]; exact BKg3.out⟩⟩
  ·obtain rfl : m = nt := by have := HM.out; omega
   have hcb0 : wr.cell? ⟨g3, 0, none⟩ = some (.int .i64 (pad bm 0)) := (blk_cell BKg3.out 0).trans rfl
   have hcb1 : wr.cell? ⟨g3, 1, none⟩ = some (.int .i64 (pad bm 1)) := (blk_cell BKg3.out 1).trans rfl
   have hcb2 : wr.cell? ⟨g3, 2, none⟩ = some (.int .i64 (pad bm 2)) := (blk_cell BKg3.out 2).trans rfl
   have hcb3 : wr.cell? ⟨g3, 3, none⟩ = some (.int .i64 (pad bm 3)) := (blk_cell BKg3.out 3).trans rfl
   have hcb4 : wr.cell? ⟨g3, 4, none⟩ = some (.int .i64 (pad bm 4)) := (blk_cell BKg3.out 4).trans rfl
   have hcb5 : wr.cell? ⟨g3, 5, none⟩ = some (.int .i64 (pad bm 5)) := (blk_cell BKg3.out 5).trans rfl
   have hcb6 : wr.cell? ⟨g3, 6, none⟩ = some (.int .i64 (pad bm 6)) := (blk_cell BKg3.out 6).trans rfl
   go_wp2_with (first | ((with_reducible refine gate_store (t := 121) (p := 2) rfl ?_); go_must (refine wpList_store_row rfl 121 _ _ rfl g2 (ac (pad bm)) rfl rfl 121 (#[.int .i64 0, .int .i64 0, .int .i64 0, .int .i64 0, .int .i64 0, .int .i64 0, .int .i64 0]) BKg2.out rfl rfl (ac_one _) ?_; have HB9 := Aside0.mk (below_setRow HB.out GEg2.out (ac (pad bm))); have BK9 := Aside0.mk (setRow_heap wr g2 _ (ac (pad bm)) _ _ BKg2.out); generalize wr.setRow g2 (ac (pad bm)) = W9 at *)))
   have hbk := BK9.out
   refine bodyPost_ret (results_cell_row rfl _ _ g2 121 (ac (pad bm)) (0, 0) _ rfl hbk Try.underlying121 rfl (by kernel_rfl)) rfl ?_
   have hbs : bestL l1 (truthsL l0 l1 wg) = bm := by
    unfold bestL
    rw [HTS.out, HY0.out, ← HBM.out, List.take_of_length_le (by rw [← HTS.out, HNT2.out]; exact Nat.le_refl _)]
   exact ⟨by rw [hbs], HB9.out⟩
end Go.Proofs.Ytnbbbeghgomnoaa.X
namespace Go.Proofs.Ytnbbbeghgomnoaa.X
open Go.RowKit Go.Proofs.YtnbbbeghgomnoaaW.PrintWords Go.Proofs.YtnbbbeghgomnoaaW.PrintLast Go.Proofs.YtnbbbeghgomnoaaW.PrintMore
set_option maxHeartbeats 4000000 in
set_option maxRecDepth 100000 in
theorem clone_calls (A : Option Addr) (c : Nat) (l : List Int) (w : World) (hr : Kd.C (Kd.int .i64) w A l.length l) (hl : l.length ≤ 1000000) :
  Calls Try.prog 74 #[.slice A l.length c] w fun e w' => ∃ v, e = .returned v ∧ Kd.R (Kd.int .i64) 3 w' w.heap.size (fun _ => True) v l ∧ Below w.heap.size w w' := by
 have HR := Aside0.mk hr
 have HL := Aside0.mk hl
 have HB := Aside0.mk (Below.refl w.heap.size w)
 have heq : ∀ (w' : World) (A : Option Addr) (n c : Nat), (binOp .eql 39 (.slice A n c) (.slice none 0 0)).run Try.prog w' = .ok (.bool A.isNone) w' := fun w' A n c => Go.Lib.run_eql_slice_nil w' 39 3 A n c 0 0 Try.underlying39
 cases A with
 | none =>
  have hz : l = [] := by
   rcases Nat.eq_zero_or_pos l.length with h | h
   ·exact List.length_eq_zero_iff.1 h
   ·obtain ⟨ad, e, _⟩ := hr.2.2 h
    cases e
  subst hz
  clear hr hl
  go_enter Try.func74, Try.ntmps74
  go_wp2
  go_ret
  exact ⟨_, rfl, Kd.R_nil _ _ _ _ _, HB.out⟩
 | some ad =>
  clear hr hl
  go_enter Try.func74, Try.ntmps74
  go_wp2_with (first | ((with_reducible refine gate_dst (N := 5) rfl ?_); go_must (refine Kd.R_lit (Kd.int .i64) (w0 := w) w.heap.size 3 rfl (N := 5) rfl (xs := []) (inner := []) (ok := fun _ => True) (okp := fun _ => True) (by first | (go_simp; done) | (go_simp; rfl)) (Reps.none _ _) (fun _ hk => hk) trivial HB.out HB.out.size (by simp) ?_; intro v5 W_ ho hb hg hat; have HO5 := Aside0.mk ho; clear HB; have HB := Aside0.mk hb; clear ho hb hg hat)) | ((with_reducible refine gate_builtin (b := .append) (xs := #[.tmp 5, .tmp 6]) rfl ?_); at_builtin; go_must (refine Kd.R_append_row (Value.int .i64) (0 : Int) (w0 := w) w.heap.size rfl (.tmp 5) (.tmp 6) 39 3 (.int .i64 0) 8 rfl Try.underlying39 info3 rfl (by omega) v5 [] l (some ad) l.length c (fun _ => True) rfl rfl (fun _ _ => trivial) HO5.out (Kd.C_below HR.out HB.out) HB.out HB.out.size (by have := HL.out; simp; omega) ?_; intro v7 W_ ho hb hg hat; have HO7 := Aside0.mk ho; clear HB; have HB := Aside0.mk hb; clear ho hb hg hat)))
  go_ret
  exact ⟨_, rfl, HO7.out, HB.out⟩
set_option maxHeartbeats 4000000 in
set_option maxRecDepth 100000 in
theorem list_calls (A : Option Addr) (c : Nat) (l : List Int) (w : World) (hr : Kd.C (Kd.int .i64) w A l.length l) (hl : l.length ≤ 1000000) :
  Calls Try.prog 41 #[.slice A l.length c] w fun e w' => ∃ v, e = .returned v ∧ Kd.R (Kd.int .i64) 3 w' w.heap.size (fun _ => True) v l ∧ Below w.heap.size w w' := by
 have HR := Aside0.mk hr
 have HL := Aside0.mk hl
 have HB := Aside0.mk (Below.refl w.heap.size w)
 clear hr hl
 go_enter Try.func41, Try.ntmps41
 go_wp2_with (first | ((with_reducible refine gate_builtin (b := .append) (xs := #[.const (.slice none 0 0), .tmp 3]) rfl ?_); at_builtin; go_must (refine Kd.R_append_row (Value.int .i64) (0 : Int) (w0 := w) w.heap.size rfl (.const (.slice none 0 0)) (.tmp 3) 39 3 (.int .i64 0) 8 rfl Try.underlying39 info3 rfl (by omega) (.slice none 0 0) [] l A l.length c (fun _ => True) rfl rfl (fun _ _ => trivial) (Kd.R_nil _ _ _ _ _) (Kd.C_below HR.out HB.out) HB.out HB.out.size (by have := HL.out; simp; omega) ?_; intro v7 W_ ho hb hg hat; have HO7 := Aside0.mk ho; clear HB; have HB := Aside0.mk hb; clear ho hb hg hat)))
 go_ret
 exact ⟨_, rfl, HO7.out, HB.out⟩
end Go.Proofs.Ytnbbbeghgomnoaa.X
namespace Go.Proofs.Ytnbbbeghgomnoaa.X
open Go.RowKit Go.Proofs.YtnbbbeghgomnoaaW.PrintWords Go.Proofs.YtnbbbeghgomnoaaW.PrintLast Go.Proofs.YtnbbbeghgomnoaaW.PrintMore
theorem clone_n {A : Option Addr} {c n : Nat} {l : List Int} {w : World} (hn : l.length = n) (hr : Kd.C (Kd.int .i64) w A n l) (hl : n ≤ 1000000) :
  Calls Try.prog 74 #[.slice A n c] w fun e w' => ∃ v, e = .returned v ∧ Kd.R (Kd.int .i64) 3 w' w.heap.size (fun _ => True) v l ∧ Below w.heap.size w w' := by
 subst hn
 exact clone_calls A c l w hr hl
theorem reads_ac {W : World} {g : Nat} {x : List Int} (h : W.heap[g]? = some (.cells (ac (pad x)) 121 (0, 0))) (hx : x.length ≤ 7) : Kd.C (Kd.int .i64) W (some ⟨g, 0, none⟩) x.length x := by
 refine ⟨rfl, by omega, fun _ => ⟨_, rfl, fun j p hj => ⟨[.int .i64 p], rfl, rfl, fun i u hu => ?_⟩⟩⟩
 have hjl := (List.getElem?_eq_some_iff.1 hj).1
 have hi : i = 0 := by
  have := (List.getElem?_eq_some_iff.1 hu).1
  simp at this; exact this
 subst hi
 have hu' : Value.int .i64 p = u := by simpa using hu
 subst hu'
 have hp : pad x j = p := by unfold pad; rw [List.getD_eq_getElem?_getD, hj]; rfl
 have := (blk_cell h j).trans (ac_get (pad x) j (by omega))
 rw [hp] at this
 show W.cell? (Addr.add ⟨g, 0, none⟩ (j * 1 + 0)) = _
 rw [Nat.mul_one, Nat.add_zero]
 have ha : Addr.add ⟨g, 0, none⟩ j = ⟨g, j, none⟩ := by
  cases j with
  | zero => rfl
  | succ j => simp [Addr.add]
 rw [ha]
 exact this
theorem slice121 (n : Nat) (h : n ≤ 7) (w : World) (g : Nat) : (Instr.sliceAt 121 (.pointer (some ⟨g, 0, none⟩)) none (some (.int .i64 (n : Int))) none).run Try.prog w = .ok (.slice (some ⟨g, 0, none⟩) n 7) w := by
 have hl : Try.prog.arrayLen 121 = 7 := by kernel_rfl
 have he : Try.prog.elem 121 = 3 := by kernel_rfl
 have ht : Try.prog.underlying 121 = some (.array (Try.prog.arrayLen 121) (Try.prog.elem 121)) := by rw [hl, he]; exact Try.underlying121
 rw [run_sliceAt_array_h w 121 ⟨g, 0, none⟩ ht .i64 (n : Int) (by omega) (by rw [hl]; omega), hl, he]
 obtain ⟨i, hi, _⟩ := Option.map_eq_some_iff.1 info3
 rw [run_sizeOf w hi]
 simp only [Result.andThen_ok, slicedAt]
 simp
 rfl
theorem best_mem (l1 : List S110) (ts : List (List Int)) (h : ts ≠ []) : bestL l1 ts ∈ ts := by
 have main : ∀ (l : List (List Int)) (b : List Int), b ∈ ts → (∀ x ∈ l, x ∈ ts) → l.foldl (fun b x => if lostN l1 (pad x) < lostN l1 (pad b) then x else b) b ∈ ts := by
  intro l
  induction l with
  | nil => intro b hb _; exact hb
  | cons x r ih =>
   intro b hb hl
   rw [List.foldl_cons]
   refine ih _ ?_ (fun y hy => hl y (by simp [hy]))
   split
   ·exact hl x (by simp)
   ·exact hb
 refine main ts _ ?_ (fun x hx => hx)
 cases ts with
 | nil => exact absurd rfl h
 | cons a r => simp
theorem best_len {l0 : List S109} {l1 : List S110} {wg : Int} (h : truthsL l0 l1 wg ≠ []) : (bestL l1 (truthsL l0 l1 wg)).length = l1.length :=
 ((allL_mem l0 l1 _).1 (truths_mem (best_mem l1 _ h))).1
set_option maxHeartbeats 4000000 in
set_option maxRecDepth 100000 in
theorem Fewest_ok {A0 : Option Addr} {c0 : Nat} {l0 : List S109} {A1 : Option Addr} {c1 : Nat} {l1 : List S110} (wg : Int) {w : World} (ht : Tab A0 c0 l0 A1 c1 l1 w) (he : askE l0 l1 wg = 0) :
  Calls Try.prog 38 #[.agg #[.slice A0 l0.length c0, .slice A1 l1.length c1, .int .i64 wg]] w fun e w' => ∃ v, e = .returned (.tuple #[v, .int .i64 0]) ∧ Kd.R (Kd.int .i64) 3 w' w.heap.size (fun _ => True) v (bestL l1 (truthsL l0 l1 wg)) ∧ Below w.heap.size w w' := by
 have hu35 := Try.underlying35
 have hu55 := Try.underlying55
 have HT := Aside0.mk ht
 have HE := Aside0.mk he
 clear ht he
 obtain ⟨hck, htn⟩ := askE_zero HE.out
 have HTN := Aside0.mk htn
 have HN0 := Aside0.mk (checkT_zero hck).n0
 have HN1 := Aside0.mk (checkT_zero hck).n1
 have HTL := Aside0.mk (truths_len wg (checkT_zero hck).n0 (checkT_zero hck).n1)
 have HBL := Aside0.mk (best_len htn)
 clear hck htn
 have hu121 := Try.underlying121
 have hn1 := HN1.out
 have HB := Aside0.mk (Below.refl w.heap.size w)
 go_enter Try.func38, Try.ntmps38
 go_wp2_with (first | ((with_reducible refine gate_dst (N := 1) rfl ?_); refine sbox (N := 1) #[.slice A0 l0.length c0, .slice A1 l1.length c1, .int .i64 wg] 35 ?_; intro g1 hg W_ hbox hb; have GEg1 := Aside0.mk (by rw [hg]; exact HB.out.size : w.heap.size ≤ g1); replace HB := Aside0.mk (below_step HB.out hb); have BKg1 := Aside0.mk hbox; clear hb hbox hg; have hcz0 := sc 0 BKg1; have hcz1 := sc 1 BKg1; have hcz2 := sc 2 BKg1) | (go_at_call 68; go_must (refine (asked_ok wg (HT.out.below HB.out) HE.out).mono ?_; rintro e W_ ⟨gw, gm, At, ct, rfl, hwk, hb⟩; replace BKg1 := Aside0.mk (blk_below BKg1.out hb); replace HB := Aside0.mk (below_step HB.out hb); try (clear hcz0 hcz1 hcz2); have HK := Aside0.mk hwk; clear hb hwk; have hcz0 := sc 0 BKg1; have hcz1 := sc 1 BKg1; have hcz2 := sc 2 BKg1)) | (go_at_call 81; go_must (refine (best_calls HK.out (HT.out.below HB.out).r1 HN1.out HTN.out HTL.out).mono ?_; rintro e W_ ⟨rfl, hb⟩; replace BKg1 := Aside0.mk (blk_below BKg1.out hb); replace HB := Aside0.mk (below_step HB.out hb); clear hb hcz0 hcz1 hcz2; generalize hbx : bestL l1 (truthsL l0 l1 wg) = bx at *; unfold ac; have hcy1 : ∀ o, (W_.alloc o).cell? ⟨g1, 1, none⟩ = some (.slice A1 l1.length c1) := fun o => (blk_cell (blk_alloc BKg1.out o) 1).trans rfl; have hsl := slice121 l1.length HN1.out)) | (go_at_call 74; go_must (have hbk := heap_alloc_new W_ (.cells (ac (pad bx)) 121); refine (clone_n (l := bx) HBL.out (by rw [← HBL.out]; exact reads_ac hbk (by rw [HBL.out]; exact HN1.out)) (by omega)).mono ?_; rintro e W3 ⟨v, rfl, ho, hb⟩; have HO := Aside0.mk ho; have HB3 := Aside0.mk (below_step (below_alloc HB.out _) hb); clear ho hb)))
 go_ret2
 exact ⟨_, rfl, by rw [hbx]; exact Kd.R_lower HO.out (below_alloc HB.out _).size, HB3.out⟩
end Go.Proofs.Ytnbbbeghgomnoaa.X
namespace Go.Proofs.Ytnbbbeghgomnoaa.X
open Go.RowKit Go.Proofs.YtnbbbeghgomnoaaW.PrintWords Go.Proofs.YtnbbbeghgomnoaaW.PrintLast Go.Proofs.YtnbbbeghgomnoaaW.PrintMore
def moveL (l1 : List S110) (x : List Int) (i : Int) : S69 := ⟨i, (l1.getD i.toNat z110).f1, pad x i.toNat⟩
def movesL (l1 : List S110) (x : List Int) : List S69 := (sel (off l1 (pad x)) l1.length).map (moveL l1 x)
set_option maxHeartbeats 4000000 in
set_option maxRecDepth 100000 in
theorem Moves_ok {A0 : Option Addr} {c0 : Nat} {l0 : List S109} {A1 : Option Addr} {c1 : Nat} {l1 : List S110} (wg : Int) {w : World} (ht : Tab A0 c0 l0 A1 c1 l1 w) (he : askE l0 l1 wg = 0) :
  Calls Try.prog 39 #[.agg #[.slice A0 l0.length c0, .slice A1 l1.length c1, .int .i64 wg]] w fun e w' => ∃ v, e = .returned (.tuple #[v, .int .i64 0]) ∧ Kd.R k69 69 w' w.heap.size (fun _ => True) v (movesL l1 (bestL l1 (truthsL l0 l1 wg))) ∧ Below w.heap.size w w' := by
 have hu35 := Try.underlying35
 have hu55 := Try.underlying55
 have HT := Aside0.mk ht
 have HE := Aside0.mk he
 clear ht he
 obtain ⟨hck, htn⟩ := askE_zero HE.out
 have HTN := Aside0.mk htn
 have HN0 := Aside0.mk (checkT_zero hck).n0
 have HN1 := Aside0.mk (checkT_zero hck).n1
 have HTL := Aside0.mk (truths_len wg (checkT_zero hck).n0 (checkT_zero hck).n1)
 clear hck htn
 have hu121 := Try.underlying121
 have hu105 := Try.underlying105
 have hu110 := Try.underlying110
 have hn1 := HN1.out
 have HB := Aside0.mk (Below.refl w.heap.size w)
 go_enter Try.func39, Try.ntmps39
 go_wp2_with (first | ((with_reducible refine gate_dst (N := 1) rfl ?_); refine sbox (N := 1) #[.slice A0 l0.length c0, .slice A1 l1.length c1, .int .i64 wg] 35 ?_; intro g1 hg W_ hbox hb; have GEg1 := Aside0.mk (by rw [hg]; exact HB.out.size : w.heap.size ≤ g1); replace HB := Aside0.mk (below_step HB.out hb); have BKg1 := Aside0.mk hbox; clear hb hbox hg; have hcz0 := sc 0 BKg1; have hcz1 := sc 1 BKg1; have hcz2 := sc 2 BKg1) | (go_at_call 68; go_must (refine (asked_ok wg (HT.out.below HB.out) HE.out).mono ?_; rintro e W_ ⟨gw, gm, At, ct, rfl, hwk, hb⟩; replace BKg1 := Aside0.mk (blk_below BKg1.out hb); replace HB := Aside0.mk (below_step HB.out hb); try (clear hcz0 hcz1 hcz2); have HK := Aside0.mk hwk; clear hb hwk; have hcz0 := sc 0 BKg1; have hcz1 := sc 1 BKg1; have hcz2 := sc 2 BKg1)) | (go_at_call 81; go_must (refine (best_calls HK.out (HT.out.below HB.out).r1 HN1.out HTN.out HTL.out).mono ?_; rintro e W_ ⟨rfl, hb⟩; replace BKg1 := Aside0.mk (blk_below BKg1.out hb); replace HB := Aside0.mk (below_step HB.out hb); have HK2 := Aside0.mk (HK.out.below hb); clear HK; have HK := HK2; clear HK2; clear hb hcz0 hcz1 hcz2; generalize hbx : bestL l1 (truthsL l0 l1 wg) = bx at *; unfold ac)))
 have BKg6 := Aside0.mk (show (W_.alloc (.cells #[.int .i64 (pad bx 0), .int .i64 (pad bx 1), .int .i64 (pad bx 2), .int .i64 (pad bx 3), .int .i64 (pad bx 4), .int .i64 (pad bx 5), .int .i64 (pad bx 6)] 121)).heap[W_.heap.size]? = some (.cells #[.int .i64 (pad bx 0), .int .i64 (pad bx 1), .int .i64 (pad bx 2), .int .i64 (pad bx 3), .int .i64 (pad bx 4), .int .i64 (pad bx 5), .int .i64 (pad bx 6)] 121 (0, 0)) from heap_alloc_new W_ _)
 have hb := below_alloc (Below.refl W_.heap.size W_) (.cells #[.int .i64 (pad bx 0), .int .i64 (pad bx 1), .int .i64 (pad bx 2), .int .i64 (pad bx 3), .int .i64 (pad bx 4), .int .i64 (pad bx 5), .int .i64 (pad bx 6)] 121)
 have HBX := HB
 replace BKg1 := Aside0.mk (blk_below BKg1.out hb)
 replace HK := Aside0.mk (HK.out.below hb)
 replace HB := Aside0.mk (below_step HB.out hb)
 have GE6 := Aside0.mk (show w.heap.size ≤ W_.heap.size from HBX.out.size)
 clear hb HBX
 generalize W_.alloc (.cells #[.int .i64 (pad bx 0), .int .i64 (pad bx 1), .int .i64 (pad bx 2), .int .i64 (pad bx 3), .int .i64 (pad bx 4), .int .i64 (pad bx 5), .int .i64 (pad bx 6)] 121) = W5 at *
 generalize W_.heap.size = g6 at *
 have hcw0 : W5.cell? ⟨gw, 0, none⟩ = some (.slice A0 l0.length c0) := (blk_cell HK.out.kw 0).trans rfl
 have hcw1 : W5.cell? ⟨gw, 1, none⟩ = some (.slice A1 l1.length c1) := (blk_cell HK.out.kw 1).trans rfl
 have hcw2 : W5.cell? ⟨gw, 2, none⟩ = some (.int .i64 wg) := (blk_cell HK.out.kw 2).trans rfl
 have hca0 := sc 0 BKg6
 have hca1 := sc 1 BKg6
 have hca2 := sc 2 BKg6
 have hca3 := sc 3 BKg6
 have hca4 := sc 4 BKg6
 have hca5 := sc 5 BKg6
 have hca6 := sc 6 BKg6
 refine start_ (n := 8) (S := fun w' => w'.cell? ⟨gw, 0, none⟩ = some (.slice A0 l0.length c0) ∧ w'.cell? ⟨gw, 1, none⟩ = some (.slice A1 l1.length c1) ∧ w'.cell? ⟨gw, 2, none⟩ = some (.int .i64 wg) ∧ w'.cell? ⟨g6, 0, none⟩ = some (.int .i64 (pad bx 0)) ∧ w'.cell? ⟨g6, 1, none⟩ = some (.int .i64 (pad bx 1)) ∧ w'.cell? ⟨g6, 2, none⟩ = some (.int .i64 (pad bx 2)) ∧ w'.cell? ⟨g6, 3, none⟩ = some (.int .i64 (pad bx 3)) ∧ w'.cell? ⟨g6, 4, none⟩ = some (.int .i64 (pad bx 4)) ∧ w'.cell? ⟨g6, 5, none⟩ = some (.int .i64 (pad bx 5)) ∧ w'.cell? ⟨g6, 6, none⟩ = some (.int .i64 (pad bx 6))) (ds := []) (lm 8 0) (by kernel_rfl) rfl (by kernel_rfl) ⟨hcw0, hcw1, hcw2, hca0, hca1, hca2, hca3, hca4, hca5, hca6⟩ (fun hHeld => ?_)
 have hb := below_drew1 (Below.refl W5.heap.size W5)
 replace BKg1 := Aside0.mk (blk_below BKg1.out hb)
 replace HK := Aside0.mk (HK.out.below hb)
 replace BKg6 := Aside0.mk (blk_below BKg6.out hb)
 replace HB := Aside0.mk (below_step HB.out hb)
 replace hcw0 := (hb.cell (World.block_lt_of_cell? _ _ hcw0)).trans hcw0
 replace hcw1 := (hb.cell (World.block_lt_of_cell? _ _ hcw1)).trans hcw1
 replace hcw2 := (hb.cell (World.block_lt_of_cell? _ _ hcw2)).trans hcw2
 replace hca0 := (hb.cell (World.block_lt_of_cell? _ _ hca0)).trans hca0
 replace hca1 := (hb.cell (World.block_lt_of_cell? _ _ hca1)).trans hca1
 replace hca2 := (hb.cell (World.block_lt_of_cell? _ _ hca2)).trans hca2
 replace hca3 := (hb.cell (World.block_lt_of_cell? _ _ hca3)).trans hca3
 replace hca4 := (hb.cell (World.block_lt_of_cell? _ _ hca4)).trans hca4
 replace hca5 := (hb.cell (World.block_lt_of_cell? _ _ hca5)).trans hca5
 replace hca6 := (hb.cell (World.block_lt_of_cell? _ _ hca6)).trans hca6
 generalize W5.drew = W6 at *
 clear hb
 refine sP (i := 0) (N := some 20) (lm 8 1) ?_
 refine sP (i := 1) (N := some 21) (lm 8 3) ?_
 refine sP (i := 2) (N := some 22) (lm 8 7) ?_
 refine sP (i := 7) (N := some 27) (lm 8 135) ?_
 refine take_ (i := 3) (N := some 23) (v := ?_) (a' := ?_) (lm 8 143) rfl rfl (by kernel_rfl) (fun _ _ _ h => h) (Or.inl ⟨by rfl, ?_⟩) hHeld ?_ ?_
 rotate_left
 ·rintro w' ⟨s0, s1, s2, s3, s4, s5, s6, s7, s8, s9⟩
  go_simp
  with_reducible rfl
 rotate_left
 ·simp only [Act.put, List.setIfInBounds_toArray, List.set_cons_zero, List.set_cons_succ, i64_w, i32_w]
  rfl
 refine take_ (i := 4) (N := some 24) (v := ?_) (a' := ?_) (lm 8 159) rfl rfl (by kernel_rfl) (fun _ _ _ h => h) (Or.inl ⟨by rfl, ?_⟩) hHeld ?_ ?_
 rotate_left
 ·rintro w' ⟨s0, s1, s2, s3, s4, s5, s6, s7, s8, s9⟩
  go_simp
  with_reducible rfl
 rotate_left
 ·simp only [Act.put, List.setIfInBounds_toArray, List.set_cons_zero, List.set_cons_succ, i64_w, i32_w]
  rfl
 refine one_ (i := 5) (N := some 25) (lm 8 191) rfl rfl (by kernel_rfl) (by decide) (fun K hK => ?_)
 refine goes_ Try.func82 (by kernel_rfl) rfl #[.agg #[.slice A0 l0.length c0, .slice A1 l1.length c1, .int .i64 wg], .agg #[.int .i64 (pad bx 0), .int .i64 (pad bx 1), .int .i64 (pad bx 2), .int .i64 (pad bx 3), .int .i64 (pad bx 4), .int .i64 (pad bx 5), .int .i64 (pad bx 6)]] (by rfl) rfl rfl (by simp only [List.map_toArray, List.map_cons, List.map_nil]; rfl) ?_
 with_reducible refine (astray_calls A0 c0 l0 A1 c1 l1 wg (pad bx) W6 (HT.out.below HB.out).r1 HN1.out).mono ?_
 rintro e W3 ⟨v25, rfl, ho, hb⟩
 refine ⟨_, rfl, ?_⟩
 replace hcw0 := (hb.cell (World.block_lt_of_cell? _ _ hcw0)).trans hcw0
 replace hcw1 := (hb.cell (World.block_lt_of_cell? _ _ hcw1)).trans hcw1
 replace hcw2 := (hb.cell (World.block_lt_of_cell? _ _ hcw2)).trans hcw2
 replace hca0 := (hb.cell (World.block_lt_of_cell? _ _ hca0)).trans hca0
 replace hca1 := (hb.cell (World.block_lt_of_cell? _ _ hca1)).trans hca1
 replace hca2 := (hb.cell (World.block_lt_of_cell? _ _ hca2)).trans hca2
 replace hca3 := (hb.cell (World.block_lt_of_cell? _ _ hca3)).trans hca3
 replace hca4 := (hb.cell (World.block_lt_of_cell? _ _ hca4)).trans hca4
 replace hca5 := (hb.cell (World.block_lt_of_cell? _ _ hca5)).trans hca5
 replace hca6 := (hb.cell (World.block_lt_of_cell? _ _ hca6)).trans hca6
 replace BKg1 := Aside0.mk (blk_below BKg1.out hb)
 replace HK := Aside0.mk (HK.out.below hb)
 replace BKg6 := Aside0.mk (blk_below BKg6.out hb)
 replace HB := Aside0.mk (below_step HB.out hb)
 have HO := Aside0.mk ho
 clear ho
 obtain ⟨Ao, co, eo_⟩ := Kd.R_slice HO.out
 subst eo_
 clear hb
 refine hK.out _ _ ⟨hcw0, hcw1, hcw2, hca0, hca1, hca2, hca3, hca4, hca5, hca6⟩ (fun hHeld => ?_)
 clear hK K
 refine sN ?_
 refine sP (i := 6) (N := some 26) (lm 8 255) ?_
 refine done_ (by kernel_rfl) ?_
 clear hcw0 hcw1 hcw2 hca0 hca1 hca2 hca3 hca4 hca5 hca6
 obtain ⟨nn, hnn⟩ : ∃ nn : Nat, (sel (off l1 (pad bx)) l1.length).length = nn := ⟨_, rfl⟩
 have HNN := Aside0.mk hnn
 have hnl : nn ≤ 7 := by rw [← hnn]; exact Nat.le_trans (sel_le _ _) HN1.out
 rw [hnn]
 clear hnn
 obtain ⟨W1, hW1⟩ : ∃ W1 : World, W1 = W3 := ⟨_, rfl⟩
 subst hW1
 have HLG := Aside0.mk (And.intro (blk_lt BKg1.out) (blk_lt BKg6.out))
 go_wp2
 go_loopg [7, 27] nn (fun kq v7 v27 w' => ∃ m : Nat, v27 = .int .i64 (m : Int) ∧ Aside0 (m + kq = nn) ∧ Aside0 (Kd.R k69 69 w' W1.heap.size (fun _ => True) v7 (((sel (off l1 (pad bx)) l1.length).take m).map (moveL l1 bx))) ∧ Aside0 (Below W1.heap.size W1 w'))
 case atStart => exact ⟨0, rfl, ⟨Nat.zero_add _⟩, ⟨Kd.R_nil _ _ _ _ _⟩, ⟨Below.refl _ _⟩⟩
 case round =>
  obtain ⟨m, rfl, HM, HO7, HB1⟩ := hrel
  by_cases hlt : m < nn
  ·cases gk with
   | zero => have := HM.out; omega
   | succ k1 =>
   obtain ⟨ado, eo, hxo⟩ := Kd.at_int (Kd.C_below (Kd.R_reads' HO.out).2.2 HB1.out) (m : Int) (by omega) (by have := HNN.out; omega)
   subst eo
   have hlm : m < (sel (off l1 (pad bx)) l1.length).length := by have := HNN.out; omega
   obtain ⟨i, hi, hil⟩ : ∃ i : Nat, (sel (off l1 (pad bx)) l1.length)[m] = (i : Int) ∧ i < l1.length := by
    obtain ⟨k, hk, _, hx⟩ := (sel_mem (off l1 (pad bx)) l1.length _).1 (List.getElem_mem hlm)
    exact ⟨k, hx, hk⟩
   have hrd : rd (sel (off l1 (pad bx)) l1.length) (m : Int) = (i : Int) := by
    unfold rd
    rw [Int.toNat_natCast, List.getD_eq_getElem?_getD, List.getElem?_eq_getElem hlm]
    exact hi
   rw [hrd] at hxo
   simp only [Int.toNat_natCast] at hxo
   have htk : (sel (off l1 (pad bx)) l1.length).take (m + 1) = (sel (off l1 (pad bx)) l1.length).take m ++ [(i : Int)] := by
    rw [List.take_succ_eq_append_getElem hlm, hi]
   have HTK := Aside0.mk htk
   have HML := Aside0.mk (show (((sel (off l1 (pad bx)) l1.length).take m).map (moveL l1 bx)).length ≤ 7 from by rw [List.length_map, List.length_take]; omega)
   clear htk hi hlm hrd
   obtain ⟨ad1, A6, c6, e1, _, hcb0, _, _⟩ := at_T110 (HT.out.below HB.out).r1 (i : Int) (by omega) (by omega)
   subst e1
   have hr1 : rd_T110 l1 (i : Int) = l1.getD i z110 := rfl
   rw [hr1] at hcb0
   simp only [Int.toNat_natCast] at hcb0
   have HMV := Aside0.mk (show moveL l1 bx (i : Int) = ⟨(i : Int), (l1.getD i z110).f1, pad bx i⟩ from by unfold moveL; rw [Int.toNat_natCast])
   clear hr1
   generalize (l1.getD i z110).f1 = bu at *
   obtain ⟨ow, how⟩ : ∃ ow, pad bx i = ow := ⟨_, rfl⟩
   have hco0 : W1.cell? ⟨g6, i, none⟩ = some (.int .i64 ow) := (blk_cell BKg6.out i).trans (by rw [← how]; exact ac_get (pad bx) i (by omega))
   rw [how] at HMV
   have hc10 := sc 1 BKg1
   have HL1 := Aside0.mk (And.intro HLG.out.1 (And.intro (World.block_lt_of_cell? _ _ hcb0) HLG.out.2))
   have hc1 := (HB1.out.cell (World.block_lt_of_cell? _ _ hc10)).trans hc10
   have hcb := (HB1.out.cell (World.block_lt_of_cell? _ _ hcb0)).trans hcb0
   have hco := (HB1.out.cell (World.block_lt_of_cell? _ _ hco0)).trans hco0
   clear hc10 hcb0 hco0 how
   have hil7 : (i : Int) < 7 := by omega
   have hiln : (i : Int) < (l1.length : Int) := by omega
   go_wp2_with fail
   refine start_ (n := 15) (S := fun w' => w'.cell? ⟨g1, 1, none⟩ = some (.slice (some ad1) l1.length c1) ∧ w'.cell? ⟨(ad1.add (i * 2)).block, (ad1.add (i * 2)).off + 1, none⟩ = some (.int .i64 bu) ∧ w'.cell? ⟨g6, i, none⟩ = some (.int .i64 ow)) (ds := []) (lm 15 0) (by kernel_rfl) rfl (by kernel_rfl) ⟨hc1, hcb, hco⟩ (fun hHeld => ?_)
   have hb := below_drew1 (Below.refl wr.heap.size wr)
   replace HB1 := Aside0.mk (below_step HB1.out hb)
   replace HO7 := Aside0.mk (Kd.R_below HO7.out hb)
   replace hc1 := (hb.cell (World.block_lt_of_cell? _ _ hc1)).trans hc1
   replace hcb := (hb.cell (World.block_lt_of_cell? _ _ hcb)).trans hcb
   replace hco := (hb.cell (World.block_lt_of_cell? _ _ hco)).trans hco
   generalize wr.drew = W7 at *
   clear hb
   refine sP (i := 0) (N := some 31) (lm 15 1) ?_
   refine sP (i := 1) (N := some 32) (lm 15 3) ?_
   refine sP (i := 2) (N := some 33) (lm 15 7) ?_
   refine sP (i := 4) (N := some 35) (lm 15 23) ?_
   refine sP (i := 8) (N := some 39) (lm 15 279) ?_
   refine sP (i := 9) (N := some 40) (lm 15 791) ?_
   refine take_ (i := 3) (N := some 34) (v := ?_) (a' := ?_) (lm 15 799) rfl rfl (by kernel_rfl) (fun _ _ _ h => h) (Or.inl ⟨by rfl, ?_⟩) hHeld ?_ ?_
   rotate_left
   ·rintro w' ⟨s0, s1, s2⟩
    go_simp
    with_reducible rfl
   rotate_left
   ·simp only [Act.put, List.setIfInBounds_toArray, List.set_cons_zero, List.set_cons_succ, i64_w, i32_w]
    rfl
   refine sP (i := 5) (N := some 36) (lm 15 831) ?_
   refine sP (i := 6) (N := some 37) (lm 15 895) ?_
   refine take_ (i := 7) (N := some 38) (v := ?_) (a' := ?_) (lm 15 1023) rfl rfl (by kernel_rfl) (fun _ _ _ h => h) (Or.inl ⟨by rfl, ?_⟩) hHeld ?_ ?_
   rotate_left
   ·rintro w' ⟨s0, s1, s2⟩
    go_simp
    with_reducible rfl
   rotate_left
   ·simp only [Act.put, List.setIfInBounds_toArray, List.set_cons_zero, List.set_cons_succ, i64_w, i32_w]
    rfl
   refine take_ (i := 10) (N := some 41) (v := ?_) (a' := ?_) (lm 15 2047) rfl rfl (by kernel_rfl) (fun _ _ _ h => h) (Or.inl ⟨by rfl, ?_⟩) hHeld ?_ ?_
   rotate_left
   ·rintro w' ⟨s0, s1, s2⟩
    go_simp
    with_reducible rfl
   rotate_left
   ·simp only [Act.put, List.setIfInBounds_toArray, List.set_cons_zero, List.set_cons_succ, i64_w, i32_w]
    rfl
   refine sP (i := 11) (N := some 42) (lm 15 4095) ?_
   refine one_ (i := 12) (N := some 43) (lm 15 8191) rfl rfl (by kernel_rfl) (by decide) (fun K hK => ?_)
   refine value_ (w1 := ?_) (v := ?_) (by rfl) rfl ?_ ?_
   rotate_left 2
   ·go_simp
    constructor
    ·rfl
    ·rfl
   refine hK.out _ _ ⟨((below_alloc (Below.refl _ _) _).cell (World.block_lt_of_cell? _ _ hc1)).trans hc1, ((below_alloc (Below.refl _ _) _).cell (World.block_lt_of_cell? _ _ hcb)).trans hcb, ((below_alloc (Below.refl _ _) _).cell (World.block_lt_of_cell? _ _ hco)).trans hco⟩ (fun hHeld => ?_)
   clear hK K
   refine sN ?_
   refine one_ (i := 13) (N := some 44) (lm 15 16383) rfl rfl (by kernel_rfl) (by decide) (fun K hK => ?_)
   refine Kd.R_append_step k69 (w0 := W1) W1.heap.size (by rfl) (.tmp 31) (.tmp 43) 58 69 (.agg #[.int .i64 0, .int .i64 0, .int .i64 0]) 24 rfl Try.underlying58 info69 rfl (by decide) (by omega) u7 (((sel (off l1 (pad bx)) l1.length).take m).map (moveL l1 bx)) ⟨(i : Int), bu, ow⟩ [.int .i64 (i : Int), .int .i64 bu, .int .i64 ow] (fun _ => True) (fun _ => False) rfl rfl ?aP (fun _ hk => hk.elim) ?aF ?aO ?aB ?aS ?aL ?_
   (case aP => exact k69_mkM _ _ _ _)
   (case aB => exact HB1.out)
   (case aF => exact fun _ _ => trivial)
   (case aO => exact HO7.out)
   (case aS => exact HB1.out.size)
   (case aL => have := HML.out; omega)
   intro v44 W4 ho hb hg hat
   have hkp : ∀ a v, a.block < W1.heap.size → W7.cell? a = some v → W4.cell? a = some v := fun a v ha hc => by
    have h1 := hg.block a.block (World.block_lt_of_cell? _ _ hc) (row_ne HO7.out ha)
    exact (World.cell?_of_block h1).trans hc
   have HO8 := Aside0.mk ho
   have HB8 := Aside0.mk hb
   have hc1' := hkp ⟨g1, 1, none⟩ _ HL1.out.1 hc1
   have hcb' := hkp ⟨(ad1.add (i * 2)).block, (ad1.add (i * 2)).off + 1, none⟩ _ HL1.out.2.1 hcb
   have hco' := hkp ⟨g6, i, none⟩ _ HL1.out.2.2 hco
   clear ho hb hg hat hkp HO7 HB1
   have HO7 := HO8
   have HB1 := HB8
   clear HO8 HB8
   refine hK.out _ _ ⟨hc1', hcb', hco'⟩ (fun hHeld => ?_)
   clear hK K
   refine sN ?_
   refine sP (i := 14) (N := some 7) (lm 15 32767) ?_
   refine done_ (by kernel_rfl) ?_
   go_wp2
   go_roundg k1
   case measure => omega
   case rel => exact ⟨m + 1, by go_num, ⟨by have := HM.out; omega⟩, ⟨by rw [HTK.out, List.map_append, List.map_cons, List.map_nil, HMV.out]; exact HO7.out⟩, HB1⟩
  ·obtain rfl : m = nn := by have := HM.out; omega
   go_wp2
   go_ret2
   refine ⟨_, rfl, ?_, below_step HB.out HB1.out⟩
   rw [hbx]
   have h_ := Kd.R_lower HO7.out HB.out.size
   rw [List.take_of_length_le (by rw [HNN.out]; exact Nat.le_refl _)] at h_
   exact h_
end Go.Proofs.Ytnbbbeghgomnoaa.X
namespace Go.Proofs.Ytnbbbeghgomnoaa.X
open Go.RowKit Go.Proofs.YtnbbbeghgomnoaaW.PrintWords Go.Proofs.YtnbbbeghgomnoaaW.PrintLast Go.Proofs.YtnbbbeghgomnoaaW.PrintMore
def aft (n : Nat) : List Int := (List.range n).map fun (k : Nat) => (k : Int)
theorem aft_len (n : Nat) : (aft n).length = n := by simp [aft]
theorem aft_succ (n : Nat) : aft (n + 1) = aft n ++ [(n : Int)] := by unfold aft; rw [List.range_succ, List.map_append]; rfl
def firstP (l0 : List S109) (l1 : List S110) (w : Nat) : Bool := !possL l0 l1 ((aft l0.length).drop (w + 1))
def firstL (l0 : List S109) (l1 : List S110) : Int × Int := match (List.range l0.length).find? (firstP l0 l1) with | some w => ((w : Int), 0) | none => (0, 7)
theorem find_range (p : Nat → Bool) (n m : Nat) (hm : m < n) (h : ∀ k, k < m → p k = false) (hp : p m = true) : (List.range n).find? p = some m := by
 rw [List.find?_range_eq_some]
 exact ⟨hp, by simpa using hm, fun j hj => by simpa using h j hj⟩
theorem cut39 {A : Option Addr} {c : Nat} {xs : List Int} {w : World} (h : Kd.C (Kd.int .i64) w A xs.length xs) (hc : xs.length ≤ c) (j : Nat) (hj : j ≤ xs.length) :
  ∃ A', (∀ W : World, (Instr.slice 39 (.slice A xs.length c) (some (.int .i64 (j : Int))) none none).run Try.prog W = .ok (.slice A' (xs.length - j) (c - j)) W) ∧ Kd.C (Kd.int .i64) w A' (xs.length - j) (xs.drop j) ∧ xs.length - j ≤ c - j := by
 obtain ⟨i, hi, hs⟩ := Option.map_eq_some_iff.1 info3
 simp only [Prod.mk.injEq] at hs
 have h1 := cut_from 39 3 .i64 Try.underlying39 hi 1 hs.2.1 A xs.length c (j : Int) (by omega) (by omega)
 have h2 := Kd.C_drop h hj hc
 rw [List.length_drop] at h2
 exact ⟨_, fun W => by rw [h1 W, Int.toNat_natCast]; rfl, h2, by omega⟩
theorem poss_n {A0 : Option Addr} {c0 : Nat} {l0 : List S109} {A1 : Option Addr} {c1 : Nat} {l1 : List S110} (wg : Int) {Ao : Option Addr} {co n : Nat} {outl : List Int} {w : World} (ht : Tab A0 c0 l0 A1 c1 l1 w) (hn1 : l1.length ≤ 7) (hn : outl.length = n) (hro : Kd.C (Kd.int .i64) w Ao n outl) (hco : n ≤ co) (hlo : n ≤ 1000000) :
  Calls Try.prog 72 #[.agg #[.slice A0 l0.length c0, .slice A1 l1.length c1, .int .i64 wg], .slice Ao n co] w fun e w' => e = .returned (.bool (possL l0 l1 outl)) ∧ Below w.heap.size w w' := by
 subst hn
 exact possible_calls A0 c0 l0 A1 c1 l1 wg Ao co outl w ht.r0 ht.h0 ht.r1 ht.h1 ht.n0 hn1 ht.ms hro hco (by omega)
set_option maxHeartbeats 4000000 in
set_option maxRecDepth 100000 in
theorem First_ok {A0 : Option Addr} {c0 : Nat} {l0 : List S109} {A1 : Option Addr} {c1 : Nat} {l1 : List S110} (wg : Int) {w : World} (ht : Tab A0 c0 l0 A1 c1 l1 w) (he : checkT l0 l1 wg = 0) :
  Calls Try.prog 31 #[.agg #[.slice A0 l0.length c0, .slice A1 l1.length c1, .int .i64 wg]] w fun e w' => e = .returned (.tuple #[.int .i64 (firstL l0 l1).1, .int .i64 (firstL l0 l1).2]) ∧ Below w.heap.size w w' := by
 have hu35 := Try.underlying35
 have hu55 := Try.underlying55
 have HT := Aside0.mk ht
 have HE := Aside0.mk he
 have HN0 := Aside0.mk (checkT_zero he).n0
 have HN1 := Aside0.mk (checkT_zero he).n1
 have hn0 := HN0.out
 clear ht he
 have HB := Aside0.mk (Below.refl w.heap.size w)
 go_enter Try.func31, Try.ntmps31
 go_wp2_with (first | ((with_reducible refine gate_dst (N := 1) rfl ?_); refine sbox (N := 1) #[.slice A0 l0.length c0, .slice A1 l1.length c1, .int .i64 wg] 35 ?_; intro g1 hg W_ hbox hb; have GEg1 := Aside0.mk (by rw [hg]; exact HB.out.size : w.heap.size ≤ g1); replace HB := Aside0.mk (below_step HB.out hb); have BKg1 := Aside0.mk hbox; clear hb hbox hg; have hcz0 := sc 0 BKg1; have hcz1 := sc 1 BKg1; have hcz2 := sc 2 BKg1) | (go_at_call 61; go_must (refine (check_calls wg (HT.out.below HB.out)).mono ?_; rintro e W_ ⟨rfl, hb⟩; replace BKg1 := Aside0.mk (blk_below BKg1.out hb); replace HB := Aside0.mk (below_step HB.out hb); clear hb; rw [HE.out]; clear hcz0 hcz1 hcz2; have hcz0 := sc 0 BKg1; have hcz1 := sc 1 BKg1; have hcz2 := sc 2 BKg1)))
 obtain ⟨W1, hW1⟩ : ∃ W1 : World, W1 = W_ := ⟨_, rfl⟩
 subst hW1
 go_loopg [5, 16] l0.length (fun kq v5 v16 w' => ∃ m : Nat, v16 = .int .i64 (m : Int) ∧ Aside0 (m + kq = l0.length) ∧ Aside0 (Kd.R (Kd.int .i64) 3 w' W1.heap.size (fun _ => True) v5 (aft m)) ∧ Aside0 (Below W1.heap.size W1 w'))
 case atStart => exact ⟨0, rfl, ⟨Nat.zero_add _⟩, ⟨Kd.R_nil _ _ _ _ _⟩, ⟨Below.refl _ _⟩⟩
 case round =>
  clear hcz0 hcz1 hcz2
  obtain ⟨m, rfl, HM, HO, HB1⟩ := hrel
  by_cases hlt : m < l0.length
  ·cases gk with
   | zero => have := HM.out; omega
   | succ k1 =>
   go_wp2_with (first | ((with_reducible refine gate_builtin (b := .append) (xs := #[.tmp 19, .tmp 21]) rfl ?_); go_must (at_builtin; refine Kd.R_append (Kd.int .i64) (w0 := W1) W1.heap.size rfl (.tmp 19) (.tmp 21) 39 3 (.int .i64 0) 8 rfl Try.underlying39 info3 rfl (by decide) (by omega) u5 (aft m) (m : Int) [.int .i64 (m : Int)] (fun _ => True) (fun _ => False) rfl rfl ?aP (fun _ hk => hk.elim) ?aF ?aO ?aB ?aS ?aL ?_; (case aP => exact rfl); (case aB => exact (by repeat (first | exact HB1.out | apply below_alloc | apply pw_below_drewN | apply below_drew1))); (case aF => exact (fun _ _ => trivial)); (case aO => exact (sR HO)); (case aS => exact (by repeat (first | exact HB1.out | apply below_alloc | apply pw_below_drewN | apply below_drew1) : Below W1.heap.size W1 _).size); (case aL => exact (by rw [aft_len]; omega)); intro v22 W_ ho hb hg hat; have HO_ := Aside0.mk ho; have HB_ := Aside0.mk hb; clear ho hb hg hat HO HB1; have HO := HO_; have HB1 := HB_; clear HO_ HB_)))
   go_roundg k1
   case measure => omega
   case rel => exact ⟨m + 1, by go_num, ⟨by have := HM.out; omega⟩, ⟨by rw [aft_succ]; exact HO.out⟩, HB1⟩
  ·obtain rfl : m = l0.length := by have := HM.out; omega
   obtain ⟨Aa, ca, ea⟩ := Kd.R_slice HO.out
   rw [aft_len] at ea
   subst ea
   have HC := Aside0.mk (Kd.R_reads' HO.out)
   have hcz0 : wr.cell? ⟨g1, 0, none⟩ = some (.slice A0 l0.length c0) := (blk_cell (blk_below BKg1.out HB1.out) 0).trans rfl
   obtain ⟨W2, hW2⟩ : ∃ W2 : World, W2 = wr := ⟨_, rfl⟩
   subst hW2
   have HBN := Aside0.mk (below_step HB.out HB1.out)
   have BKN := Aside0.mk (blk_below BKg1.out HB1.out)
   clear HB BKg1 HO
   have HB := HBN
   have BKg1 := BKN
   clear HBN BKN HM hlt
   go_wp2
   go_loopg [27] l0.length (fun kq v27 w' => ∃ m : Nat, v27 = .int .i64 (m : Int) ∧ Aside0 (m + kq = l0.length) ∧ Aside0 (∀ k, k < m → firstP l0 l1 k = false) ∧ Aside0 (Below W2.heap.size W2 w'))
   case atStart => exact ⟨0, rfl, ⟨Nat.zero_add _⟩, ⟨fun k hk => absurd hk (by omega)⟩, ⟨Below.refl _ _⟩⟩
   case round =>
    clear hcz0
    obtain ⟨m, rfl, HM, HP, HB2⟩ := hrel
    by_cases hlt : m < l0.length
    ·cases gk with
     | zero => have := HM.out; omega
     | succ k1 =>
     obtain ⟨Ad, hcut, hcd, hld⟩ := cut39 (xs := aft l0.length) (by rw [aft_len]; have h_ := HC.out.2.2; rw [aft_len] at h_; exact h_) (by rw [aft_len]; exact HC.out.2.1) (m + 1) (by rw [aft_len]; omega)
     rw [aft_len] at hcut hcd hld
     have HCD := Aside0.mk hcd
     have HLD := Aside0.mk hld
     clear hcd hld
     have hcut2 : ∀ W : World, (Instr.slice 39 (.slice Aa l0.length ca) (some (.int .i64 ((m : Int) + 1))) none none).run Try.prog W = .ok (.slice Ad (l0.length - (m + 1)) (ca - (m + 1))) W := hcut
     clear hcut
     have hcz0 : wr.cell? ⟨g1, 0, none⟩ = some (.slice A0 l0.length c0) := (blk_cell (blk_below BKg1.out HB2.out) 0).trans rfl
     have hcz1 : wr.cell? ⟨g1, 1, none⟩ = some (.slice A1 l1.length c1) := (blk_cell (blk_below BKg1.out HB2.out) 1).trans rfl
     have hcz2 : wr.cell? ⟨g1, 2, none⟩ = some (.int .i64 wg) := (blk_cell (blk_below BKg1.out HB2.out) 2).trans rfl
     have hwm : wrap64 ((m : Int) + 1) = (m : Int) + 1 := wrap64_id _ (by omega) (by omega)
     have HLT := Aside0.mk hlt
     go_wp2_with fail
     refine start_ (n := 7) (S := fun w' => w'.cell? ⟨g1, 0, none⟩ = some (.slice A0 l0.length c0) ∧ w'.cell? ⟨g1, 1, none⟩ = some (.slice A1 l1.length c1) ∧ w'.cell? ⟨g1, 2, none⟩ = some (.int .i64 wg)) (ds := []) #[false, false, false, false, false, false, false] (by kernel_rfl) rfl rfl ⟨hcz0, hcz1, hcz2⟩ (fun hHeld => ?_)
     have hb := below_drew1 (Below.refl wr.heap.size wr)
     replace HB2 := Aside0.mk (below_step HB2.out hb)
     replace hcz0 := (hb.cell (World.block_lt_of_cell? _ _ hcz0)).trans hcz0
     replace hcz1 := (hb.cell (World.block_lt_of_cell? _ _ hcz1)).trans hcz1
     replace hcz2 := (hb.cell (World.block_lt_of_cell? _ _ hcz2)).trans hcz2
     generalize wr.drew = W4 at *
     clear hb
     refine sP (i := 1) (N := some 31) #[false, true, false, false, false, false, false] ?_
     refine sP (i := 2) (N := some 32) #[false, true, true, false, false, false, false] ?_
     refine sP (i := 3) (N := some 33) #[false, true, true, true, false, false, false] ?_
     refine sP (i := 4) (N := some 34) #[false, true, true, true, true, false, false] ?_
     refine take_ (i := 0) (N := some 30) (v := ?_) (a' := ?_) #[true, true, true, true, true, false, false] rfl rfl (by kernel_rfl) (fun _ _ _ h => h) (Or.inl ⟨by rfl, ?_⟩) hHeld ?_ ?_
     rotate_left
     ·rintro w' ⟨s0, s1, s2⟩
      go_simp
      with_reducible rfl
     rotate_left
     ·simp only [Act.put, List.setIfInBounds_toArray, List.set_cons_zero, List.set_cons_succ, i64_w, i32_w]
      rfl
     refine one_ (i := 5) (N := some 35) #[true, true, true, true, true, true, false] rfl rfl (by kernel_rfl) (by decide) (fun K hK => ?_)
     refine goes_ Try.func72 (by kernel_rfl) rfl #[.agg #[.slice A0 l0.length c0, .slice A1 l1.length c1, .int .i64 wg], .slice Ad (l0.length - (m + 1)) (ca - (m + 1))] (by rfl) rfl rfl (by simp only [List.map_toArray, List.map_cons, List.map_nil]; rfl) ?_
     with_reducible refine (poss_n wg (HT.out.below (below_step HB.out HB2.out)) HN1.out (by rw [List.length_drop, aft_len]) (Kd.C_below HCD.out HB2.out) HLD.out (by omega)).mono ?_
     rintro e W5 ⟨rfl, hb⟩
     refine ⟨_, rfl, ?_⟩
     replace hcz0 := (hb.cell (World.block_lt_of_cell? _ _ hcz0)).trans hcz0
     replace hcz1 := (hb.cell (World.block_lt_of_cell? _ _ hcz1)).trans hcz1
     replace hcz2 := (hb.cell (World.block_lt_of_cell? _ _ hcz2)).trans hcz2
     replace HB2 := Aside0.mk (below_step HB2.out hb)
     clear hb
     refine hK.out _ _ ⟨hcz0, hcz1, hcz2⟩ (fun hHeld => ?_)
     clear hK K
     refine sN ?_
     refine sP (i := 6) (N := some 36) #[true, true, true, true, true, true, true] ?_
     refine done_ (by kernel_rfl) ?_
     have HFP := Aside0.mk (show firstP l0 l1 m = !possL l0 l1 ((aft l0.length).drop (m + 1)) from rfl)
     generalize possL l0 l1 ((aft l0.length).drop (m + 1)) = pb at *
     cases pb with
     | true =>
      go_wp2
      go_roundg k1
      case measure => omega
      case rel => exact ⟨m + 1, by go_num, ⟨by have := HM.out; omega⟩, ⟨fun k hk => by
       by_cases he : k = m
       ·subst he; exact HFP.out
       ·exact HP.out k (by omega)⟩, HB2⟩
     | false =>
      go_wp2
      go_ret2
      refine ⟨?_, below_step HB.out HB2.out⟩
      unfold firstL
      rw [find_range _ _ m HLT.out HP.out HFP.out]
      rfl
    ·obtain rfl : m = l0.length := by have := HM.out; omega
     go_wp2
     go_ret2
     refine ⟨?_, below_step HB.out HB2.out⟩
     unfold firstL
     rw [List.find?_eq_none.2 (fun k hk => by rw [HP.out k (by simpa using hk)]; decide)]
     rfl
end Go.Proofs.Ytnbbbeghgomnoaa.X
namespace Go.Proofs.Ytnbbbeghgomnoaa.X
open Go.RowKit Go.Proofs.YtnbbbeghgomnoaaW.PrintWords Go.Proofs.YtnbbbeghgomnoaaW.PrintLast Go.Proofs.YtnbbbeghgomnoaaW.PrintMore
section
variable {P : Program} {ops : Array Oper} {Q : Exit → Act → World → Prop}
theorem goesC_ {oi : Oper} {N : Option Tmp} {a : Act} {w : World} {K : Act → World → Prop} {f : FuncId} {fn : Func} {c : Operand} {ao : Array Operand} {ts : Array TypeId} {lb : Array Value} (hf : P.funcs[f]? = some fn) (hname : (fn.name == "runtime.NumGoroutine") = false) (hb : fn.body.isSome = true) (args : Array Value)
  (hw : Region.wanted oi (yielded ops a.tmps) = true) (hN : oi.dst = N) (hop : oi.op = .call { callee := .value c, args := ao, argTypes := ts }) (hc : a.eval c = .func (.func f) #[] lb) (hargs : ao.map a.eval ++ lb = args)
  (h : Calls P f args w fun e w' => ∃ v, e = .returned v ∧ K (a.put N v) w') : if Region.wanted oi (yielded ops a.tmps) = true then Oper.wp P oi a w K Q else K (a.put N undef) w := by
 refine call_ f args hw hN ?_ h
 have he := enters_ hf hname hb args w
 unfold execOp
 simp [hop, resolve, hc, Deferred.ofValue, invoke, hargs, he]
end
def combs (n : Nat) : Nat → Nat → List (List Int)
 | 0, _ => [[]]
 | k + 1, frm => (List.range (n - k - frm)).flatMap fun j => (combs n k (frm + j + 1)).map (((frm + j : Nat) : Int) :: ·)
def leaveS (l0 : List S109) (l1 : List S110) (k frm : Nat) (out : List Int) : Option (List Int) := ((combs l0.length k frm).map (out ++ ·)).find? (possL l0 l1)
def Kg (g : Nat) (A B : World) : Prop := KpS (fun k => k < A.heap.size ∧ k ≠ g) A B
theorem Kg.trans {g : Nat} {A B C : World} (h : Kg g A B) (k : Kg g B C) : Kg g A C :=
 ⟨k.os.trans h.os, k.tape.trans h.tape, k.output.trans h.output, Nat.le_trans h.size k.size, fun i hi => (k.block i ⟨Nat.lt_of_lt_of_le hi.1 h.size, hi.2⟩).trans (h.block i hi)⟩
theorem Kg.of_below {g : Nat} {A B : World} (h : Below A.heap.size A B) : Kg g A B := KpS.of_below h fun _ hk => hk.1
theorem Kg.set {g : Nat} {A B : World} (h : Kg g A B) (j : Nat) (u : Value) : Kg g A (B.setCell ⟨g, j, none⟩ u) :=
 ⟨h.os, h.tape, h.output, Nat.le_trans h.size (by simp [World.setCell]), fun k hk => (Below.heap_setCell B ⟨g, j, none⟩ u k hk.2).trans (h.block k hk)⟩
theorem Kg.blk {g k : Nat} {o : Obj} {A B : World} (h : Kg g A B) (hk : A.heap[k]? = some o) (hne : k ≠ g) : B.heap[k]? = some o := (h.block k ⟨blk_lt hk, hne⟩).trans hk
theorem Kg.below {g n : Nat} {A B : World} (h : Kg g A B) (hn : n ≤ A.heap.size) (hg : n ≤ g) : Below n A B := KpS.below h fun k hk => ⟨by omega, by omega⟩
theorem Kg.row {g e base t : Nat} {A B : World} {v : Value} {xs : List Int} {cs : Array Value} (h : Kg g A B) (hr : Kd.R (Kd.int .i64) e A base (fun _ => True) v xs) (hk : A.heap[g]? = some (.cells cs t (0, 0))) (ht : t ≠ e) : Kd.R (Kd.int .i64) e B base (fun _ => True) v xs :=
 Kd.R_mono (Kd.R_move (Kd.R_bound hr) (fun k hb => by
  obtain ⟨_, _, hlt, q, hq, cells, hc⟩ := hb
  refine h.block k ⟨hlt, fun e => ?_⟩
  subst e
  rw [hk] at hc
  simp only [Kd.int, Kd.scalar, List.mem_cons, List.not_mem_nil, or_false] at hq
  subst hq
  injection hc with hc
  injection hc with _ hc
  exact ht hc)) (fun _ _ => trivial)
structure Lv (w0 : World) (A0 : Option Addr) (n0 c0 : Nat) (A1 : Option Addr) (n1 c1 : Nat) (wg : Int) (g1 g5 g6 : Nat) (W : World) : Prop where
 hb : Below w0.heap.size w0 W
 k1 : W.heap[g1]? = some (.cells #[.slice A0 n0 c0, .slice A1 n1 c1, .int .i64 wg] 35 (0, 0))
 k5 : ∃ vf, W.heap[g5]? = some (.cells #[vf] 39 (0, 0)) ∧ ∃ A n c, vf = .slice A n c
 k6 : W.heap[g6]? = some (.cells #[.func (.func 73) #[] #[.pointer (some ⟨g5, 0, none⟩), .pointer (some ⟨g1, 0, none⟩), .pointer (some ⟨g6, 0, none⟩)]] 118 (0, 0))
theorem Lv.step {w0 : World} {A0 : Option Addr} {n0 c0 : Nat} {A1 : Option Addr} {n1 c1 : Nat} {wg : Int} {g1 g5 g6 : Nat} {W W' : World} (h : Lv w0 A0 n0 c0 A1 n1 c1 wg g1 g5 g6 W) (hb : Below W.heap.size W W') : Lv w0 A0 n0 c0 A1 n1 c1 wg g1 g5 g6 W' := by
 obtain ⟨vf, h5, hs⟩ := h.k5
 exact ⟨h.hb.trans (hb.mono h.hb.size), blk_below h.k1 hb, ⟨vf, blk_below h5 hb, hs⟩, blk_below h.k6 hb⟩
end Go.Proofs.Ytnbbbeghgomnoaa.X
namespace Go.Proofs.Ytnbbbeghgomnoaa.X
open Go.RowKit Go.Proofs.YtnbbbeghgomnoaaW.PrintWords Go.Proofs.YtnbbbeghgomnoaaW.PrintLast Go.Proofs.YtnbbbeghgomnoaaW.PrintMore
theorem one_row {W : World} {g : Nat} {x : Int} (h : W.heap[g]? = some (.cells #[.int .i64 x] 3 (0, 0))) : ReadsRow (fun (y : Int) cs => cs = [Value.int .i64 y]) 1 W (some ⟨g, 0, none⟩) 1 [x] := by
 refine ⟨rfl, by decide, fun _ => ⟨_, rfl, fun j p hj => ?_⟩⟩
 have hj0 : j = 0 := by
  have := (List.getElem?_eq_some_iff.1 hj).1
  simp at this; exact this
 subst hj0
 have hp : x = p := by simpa using hj
 subst hp
 refine ⟨[.int .i64 x], rfl, rfl, fun i u hu => ?_⟩
 have hi : i = 0 := by
  have := (List.getElem?_eq_some_iff.1 hu).1
  simp at this; exact this
 subst hi
 have hu' : Value.int .i64 x = u := by simpa using hu
 subst hu'
 exact (blk_cell h 0).trans rfl
def LvPost (w0 : World) (A0 : Option Addr) (c0 : Nat) (l0 : List S109) (A1 : Option Addr) (c1 : Nat) (l1 : List S110) (wg : Int) (g1 g5 g6 : Nat) (r : Option (List Int)) (W : World) (e : Ending) (W' : World) : Prop :=
 Lv w0 A0 l0.length c0 A1 l1.length c1 wg g1 g5 g6 W' ∧ Kg g5 W W' ∧ ((e = .returned (.bool true) ∧ ∃ s A c, r = some s ∧ W'.heap[g5]? = some (.cells #[.slice A s.length c] 39 (0, 0)) ∧ Kd.R (Kd.int .i64) 3 W' w0.heap.size (fun _ => True) (.slice A s.length c) s) ∨ (e = .returned (.bool false) ∧ r = none))
def preS (l0 : List S109) (l1 : List S110) (k frm : Nat) (out : List Int) (j : Nat) : Option (List Int) := (((List.range j).flatMap fun j => (combs l0.length k (frm + j + 1)).map (((frm + j : Nat) : Int) :: ·)).map (out ++ ·)).find? (possL l0 l1)
theorem leaveS_pre (l0 : List S109) (l1 : List S110) (k frm : Nat) (out : List Int) : leaveS l0 l1 (k + 1) frm out = preS l0 l1 k frm out (l0.length - k - frm) := rfl
theorem preS_succ (l0 : List S109) (l1 : List S110) (k frm : Nat) (out : List Int) (j : Nat) : preS l0 l1 k frm out (j + 1) = (preS l0 l1 k frm out j).or (leaveS l0 l1 k (frm + j + 1) (out ++ [((frm + j : Nat) : Int)])) := by
 unfold preS leaveS
 rw [List.range_succ, List.flatMap_append, List.map_append, List.find?_append]
 congr 1
 simp only [List.flatMap_cons, List.flatMap_nil, List.append_nil, List.map_map]
 congr 1
 apply List.map_congr_left
 intro x _
 simp
theorem preS_mono (l0 : List S109) (l1 : List S110) (k frm : Nat) (out : List Int) (j : Nat) (s : List Int) (h : preS l0 l1 k frm out j = some s) : ∀ N, j ≤ N → preS l0 l1 k frm out N = some s := by
 intro N hN
 obtain ⟨d, rfl⟩ : ∃ d, N = j + d := ⟨N - j, by omega⟩
 clear hN
 induction d with
 | zero => exact h
 | succ d ih => rw [show j + (d + 1) = (j + d) + 1 from rfl, preS_succ, ih]; rfl
set_option maxHeartbeats 4000000 in
set_option maxRecDepth 100000 in
theorem leave1_calls (w0 : World) (A0 : Option Addr) (c0 : Nat) (l0 : List S109) (A1 : Option Addr) (c1 : Nat) (l1 : List S110) (wg : Int) (g1 g5 g6 : Nat) (ht : Tab A0 c0 l0 A1 c1 l1 w0) (hn0 : l0.length ≤ 5) (hn1 : l1.length ≤ 7) (hg5 : w0.heap.size ≤ g5) (h51 : g5 ≠ g1) (h56 : g5 ≠ g6) :
  ∀ (k : Nat) (out : List Int) (n : Nat) (Ao : Option Addr) (co : Nat) (frm : Nat) (W : World), out.length = n → n + k ≤ l0.length → frm + k ≤ l0.length + 1 → Lv w0 A0 l0.length c0 A1 l1.length c1 wg g1 g5 g6 W → Kd.R (Kd.int .i64) 3 W w0.heap.size (fun _ => True) (.slice Ao n co) out →
  Calls Try.prog 73 #[.slice Ao n co, .int .i64 (frm : Int), .int .i64 (k : Int), .pointer (some ⟨g5, 0, none⟩), .pointer (some ⟨g1, 0, none⟩), .pointer (some ⟨g6, 0, none⟩)] W (LvPost w0 A0 c0 l0 A1 c1 l1 wg g1 g5 g6 (leaveS l0 l1 k frm out) W) := by
 have hu35 := Try.underlying35
 have HT := Aside0.mk ht
 have HN0 := Aside0.mk hn0
 have HN1 := Aside0.mk hn1
 have HG := Aside0.mk (And.intro hg5 (And.intro h51 h56))
 clear ht hn1 hg5 h51 h56
 intro k
 induction k with
 | zero =>
  intro out n Ao co frm W hol hnl hfl hlv hro
  have HOL := Aside0.mk hol
  have HLV := Aside0.mk hlv
  have HRO := Aside0.mk hro
  obtain ⟨vf, hk5, Af, nf, cf, rfl⟩ := hlv.k5
  have HK5 := Aside0.mk hk5
  have hf5 := blk_frozen hk5 0
  have hx5 : W.cell? ⟨g5, 0, none⟩ = some (.slice Af nf cf) := (blk_cell hk5 0).trans rfl
  have hb5 : Below w0.heap.size w0 (W.setCell ⟨g5, 0, none⟩ (.slice Ao n co)) := hlv.hb.setCell (p := ⟨g5, 0, none⟩) HG.out.1 _
  have HB5 := Aside0.mk hb5
  have hk1 : (W.setCell ⟨g5, 0, none⟩ (.slice Ao n co)).heap[g1]? = some (.cells #[.slice A0 l0.length c0, .slice A1 l1.length c1, .int .i64 wg] 35 (0, 0)) := blk_far hlv.k1 (Ne.symm HG.out.2.1) _
  have HK1 := Aside0.mk hk1
  have hcz0 : (W.setCell ⟨g5, 0, none⟩ (.slice Ao n co)).cell? ⟨g1, 0, none⟩ = some (.slice A0 l0.length c0) := (blk_cell hk1 0).trans rfl
  have hcz1 : (W.setCell ⟨g5, 0, none⟩ (.slice Ao n co)).cell? ⟨g1, 1, none⟩ = some (.slice A1 l1.length c1) := (blk_cell hk1 1).trans rfl
  have hcz2 : (W.setCell ⟨g5, 0, none⟩ (.slice Ao n co)).cell? ⟨g1, 2, none⟩ = some (.int .i64 wg) := (blk_cell hk1 2).trans rfl
  have hkg : Kg g5 W (W.setCell ⟨g5, 0, none⟩ (.slice Ao n co)) := Kg.set (Kg.of_below (Below.refl _ _)) 0 _
  have HKG := Aside0.mk hkg
  have HR5 := Aside0.mk (hkg.row hro hk5 (by decide))
  have HK55 := Aside0.mk (blk_put hk5 0 (.slice Ao n co) rfl)
  have HK6 := Aside0.mk (hkg.blk hlv.k6 (Ne.symm HG.out.2.2))
  clear hol hlv hro hk5 hk1 hb5 hkg hfl
  go_enter Try.func73, Try.ntmps73
  go_wp2_with (go_at_call 72; go_must (refine (poss_n wg (HT.out.below HB5.out) HN1.out HOL.out (by have h_ := (Kd.R_reads' HR5.out); rw [← h_.1] at h_; exact h_.2.2) (Kd.R_reads' HR5.out).2.1 (by omega)).mono ?_; rintro e W3 ⟨rfl, hb⟩; have HB3 := Aside0.mk hb; clear hb))
  go_ret
  have hkg3 : Kg g5 W W3 := Kg.trans HKG.out (Kg.of_below HB3.out)
  have hls : leaveS l0 l1 0 frm out = if possL l0 l1 out = true then some out else none := by
   unfold leaveS combs
   cases hp : possL l0 l1 out <;> simp [List.find?, hp]
  refine ⟨⟨HB5.out.trans (HB3.out.mono HB5.out.size), blk_below HK1.out HB3.out, ⟨_, blk_below HK55.out HB3.out, _, _, _, rfl⟩, blk_below HK6.out HB3.out⟩, hkg3, ?_⟩
  cases hp : possL l0 l1 out with
  | true => exact .inl ⟨by rw [← hp]; rfl, out, Ao, co, by rw [hls, hp]; rfl, by rw [HOL.out]; exact blk_below HK55.out HB3.out, by rw [HOL.out]; exact Kd.R_below HR5.out HB3.out⟩
  | false => exact .inr ⟨by rw [← hp]; rfl, by rw [hls, hp]; rfl⟩
 | succ k ih =>
  intro out n Ao co frm W hol hnl hfl hlv hro
  have HOL := Aside0.mk hol
  have HLV0 := Aside0.mk hlv
  have HRO := Aside0.mk hro
  have HIH := Aside0.mk ih
  have HNL := Aside0.mk (show n ≤ 5 from by omega)
  have HNK := Aside0.mk hnl
  have HKG0 := Aside0.mk (show Kg g5 W W from Kg.of_below (Below.refl _ _))
  have hkz : (((k + 1 : Nat) : Int) == 0) = false := by simp; omega
  have hwn : wrap64 ((l0.length : Int) - ((k : Int) + 1)) = (l0.length : Int) - ((k : Int) + 1) := wrap64_id _ (by omega) (by omega)
  have hwk : wrap64 (((k : Int) + 1) - 1) = (k : Int) := by rw [show ((k : Int) + 1) - 1 = (k : Int) from by omega]; exact wrap64_id _ (by omega) (by omega)
  have hwk2 : wrap64 (k : Int) = (k : Int) := wrap64_id _ (by omega) (by omega)
  clear hol hlv hro ih
  go_enter Try.func73, Try.ntmps73
  go_wp2
  go_loopg [10] (l0.length - k - frm) (fun kq v10 w' => ∃ i : Nat, v10 = .int .i64 (i : Int) ∧ Aside0 (frm ≤ i ∧ kq + i + k = l0.length) ∧ Aside0 (preS l0 l1 k frm out (i - frm) = none) ∧ Aside0 (Lv w0 A0 l0.length c0 A1 l1.length c1 wg g1 g5 g6 w') ∧ Aside0 (Kg g5 W w'))
  case atStart => exact ⟨frm, rfl, ⟨Nat.le_refl _, by omega⟩, ⟨by rw [Nat.sub_self]; rfl⟩, HLV0, HKG0⟩
  case round =>
   clear HKG0
   obtain ⟨i, rfl, HM, HPN, HLV, HKG⟩ := hrel
   have hm := HM.out
   have hcz0 : wr.cell? ⟨g1, 0, none⟩ = some (.slice A0 l0.length c0) := (blk_cell HLV.out.k1 0).trans rfl
   by_cases hlt : i + k < l0.length
   ·cases gk with
    | zero => omega
    | succ k1 =>
    have hlez : (i : Int) ≤ (l0.length : Int) - ((k : Int) + 1) := by omega
    have hwi : wrap64 ((i : Int) + 1) = (i : Int) + 1 := wrap64_id _ (by omega) (by omega)
    have hc6 : wr.cell? ⟨g6, 0, none⟩ = some (.func (.func 73) #[] #[.pointer (some ⟨g5, 0, none⟩), .pointer (some ⟨g1, 0, none⟩), .pointer (some ⟨g6, 0, none⟩)]) := (blk_cell HLV.out.k6 0).trans rfl
    obtain ⟨vf, hk5, _, _, _, hvf⟩ := HLV0.out.k5
    have HR5 := Aside0.mk (HKG.out.row HRO.out hk5 (by decide))
    have HCO := Aside0.mk (show Kd.C (Kd.int .i64) wr Ao n out from by have h_ := (Kd.R_reads' HR5.out); rw [← h_.1] at h_; exact h_.2.2)
    clear hk5 hvf hcz0
    have hcz0 : wr.cell? ⟨g1, 0, none⟩ = some (.slice A0 l0.length c0) := (blk_cell HLV.out.k1 0).trans rfl
    have HLT := Aside0.mk hlt
    go_wp2_with fail
    refine start_ (n := 11) (S := fun w' => w'.cell? ⟨g6, 0, none⟩ = some (.func (.func 73) #[] #[.pointer (some ⟨g5, 0, none⟩), .pointer (some ⟨g1, 0, none⟩), .pointer (some ⟨g6, 0, none⟩)])) (ds := [10]) (lm 11 0) (by kernel_rfl) rfl (by kernel_rfl) (hc6) (fun hHeld => ?_)
    have hb := below_drew1 (Below.refl wr.heap.size wr)
    replace HLV := Aside0.mk (HLV.out.step hb)
    replace HCO := Aside0.mk (Kd.C_below HCO.out hb)
    replace HKG := Aside0.mk (HKG.out.trans (Kg.of_below hb))
    replace hc6 := (hb.cell (World.block_lt_of_cell? _ _ hc6)).trans hc6
    generalize wr.drew = W7 at *
    clear hb
    refine sP (i := 1) (N := some 28) (lm 11 2) ?_
    refine sP (i := 3) (N := some 30) (lm 11 10) ?_
    refine sP (i := 6) (N := some 33) (lm 11 74) ?_
    refine sP (i := 7) (N := some 34) (lm 11 202) ?_
    refine sP (i := 8) (N := some 35) (lm 11 458) ?_
    refine sP (i := 9) (N := some 36) (lm 11 970) ?_
    refine take_ (i := 0) (N := some 27) (v := ?_) (a' := ?_) (lm 11 971) rfl rfl (by kernel_rfl) (fun _ _ _ h => h) (Or.inl ⟨by rfl, ?_⟩) hHeld ?_ ?_
    rotate_left
    ·intro w' s0
     go_simp
     with_reducible rfl
    rotate_left
    ·simp only [Act.put, List.setIfInBounds_toArray, List.set_cons_zero, List.set_cons_succ, i64_w, i32_w]
     rfl
    refine join_ (σ := Option Addr × Nat × Nat) 2 (lm 11 991) (fun s => [(29, .slice s.1 n s.2.1), (31, .slice (some ⟨s.2.2, 0, none⟩) 1 1)]) (fun s w' => w'.cell? ⟨g6, 0, none⟩ = some (.func (.func 73) #[] #[.pointer (some ⟨g5, 0, none⟩), .pointer (some ⟨g1, 0, none⟩), .pointer (some ⟨g6, 0, none⟩)]) ∧ Below W7.heap.size W7 w' ∧ Kd.R (Kd.int .i64) 3 w' W7.heap.size (fun _ => True) (.slice s.1 n s.2.1) out ∧ w'.heap[s.2.2]? = some (.cells #[.int .i64 (i : Int)] 3 (0, 0)) ∧ W7.heap.size ≤ s.2.2) ?_ ?_
    rotate_left
    ·intro hCont
     refine two_ (i := 2) (j := 4) (Ni := some 29) (Nj := some 31) (lm 11 975) (lm 11 987) rfl rfl rfl rfl (by kernel_rfl) (by decide) (by decide) (fun K hK => ?_) (fun K hK => ?_)
     ·skip
      refine goes_ Try.func74 (by kernel_rfl) rfl #[.slice Ao n co] (by rfl) rfl rfl (by simp only [List.map_toArray, List.map_cons, List.map_nil]; rfl) ?_
      with_reducible refine (clone_n HOL.out (Kd.C_below HCO.out (Below.refl _ _)) (by have := HNL.out; omega)).mono ?_
      rintro e W8 ⟨v29, rfl, ho, hb⟩
      refine ⟨_, rfl, ?_⟩
      obtain ⟨A29, c29, e29⟩ := Kd.R_slice ho
      rw [HOL.out] at e29
      subst e29
      refine hK.out _ _ ((hb.cell (World.block_lt_of_cell? _ _ hc6)).trans hc6) (fun hHeld => ?_)
      clear hK K
      refine sN ?_
      refine one_ (i := 4) (N := some 31) (lm 11 991) rfl rfl (by kernel_rfl) (by decide) (fun K hK => ?_)
      refine value_ (w1 := ?_) (v := ?_) (by rfl) rfl ?_ ?_
      rotate_left 2
      ·go_simp
       constructor
       ·rfl
       ·rfl
      refine hK.out _ _ (((below_alloc (Below.refl W8.heap.size W8) _).cell (World.block_lt_of_cell? _ _ ((hb.cell (World.block_lt_of_cell? _ _ hc6)).trans hc6))).trans ((hb.cell (World.block_lt_of_cell? _ _ hc6)).trans hc6)) (fun hHeld => ?_)
      clear hK K
      refine sN ?_
      exact norm_ (by simp only [putAll, Act.put, List.setIfInBounds_toArray, List.set_cons_zero, List.set_cons_succ]) (hCont (A29, c29, W8.heap.size) _ ⟨hHeld, below_alloc hb _, Kd.R_alloc ho _, blk_new W8 _, hb.size⟩)
     ·skip
      refine value_ (w1 := ?_) (v := ?_) (by rfl) rfl ?_ ?_
      rotate_left 2
      ·go_simp
       constructor
       ·rfl
       ·rfl
      refine hK.out _ _ (((below_alloc (Below.refl W7.heap.size W7) _).cell (World.block_lt_of_cell? _ _ hc6)).trans hc6) (fun hHeld => ?_)
      clear hK K
      refine sN ?_
      refine one_ (i := 2) (N := some 29) (lm 11 991) rfl rfl (by kernel_rfl) (by decide) (fun K hK => ?_)
      refine goes_ Try.func74 (by kernel_rfl) rfl #[.slice Ao n co] (by rfl) rfl rfl (by simp only [List.map_toArray, List.map_cons, List.map_nil]; rfl) ?_
      with_reducible refine (clone_n HOL.out (Kd.C_below HCO.out (below_alloc (Below.refl _ _) _)) (by have := HNL.out; omega)).mono ?_
      rintro e W8 ⟨v29, rfl, ho, hb⟩
      refine ⟨_, rfl, ?_⟩
      obtain ⟨A29, c29, e29⟩ := Kd.R_slice ho
      rw [HOL.out] at e29
      subst e29
      refine hK.out _ _ ((hb.cell (World.block_lt_of_cell? _ _ (show (W7.alloc (.cells #[.int .i64 (i : Int)] 3)).cell? ⟨g6, 0, none⟩ = _ from ((below_alloc (Below.refl W7.heap.size W7) _).cell (World.block_lt_of_cell? _ _ hc6)).trans hc6))).trans (((below_alloc (Below.refl W7.heap.size W7) _).cell (World.block_lt_of_cell? _ _ hc6)).trans hc6)) (fun hHeld => ?_)
      clear hK K
      refine sN ?_
      exact norm_ (by simp only [putAll, Act.put, List.setIfInBounds_toArray, List.set_cons_zero, List.set_cons_succ]) (hCont (A29, c29, W7.heap.size) _ ⟨hHeld, below_then0 (below_alloc (Below.refl W7.heap.size W7) _) (hb.mono (by simp)), Kd.R_lower ho (by simp), blk_below (blk_new W7 _) hb, Nat.le_refl _⟩)
    rintro ⟨A29, c29, gb⟩ W8 ⟨hc68, hb8, ho8, hbk8, hge8⟩
    have hHeld : W8.cell? ⟨g6, 0, none⟩ = some (.func (.func 73) #[] #[.pointer (some ⟨g5, 0, none⟩), .pointer (some ⟨g1, 0, none⟩), .pointer (some ⟨g6, 0, none⟩)]) := hc68
    refine norm_ (a' := ?_) ?_ ?_
    rotate_left
    ·simp only [putAll, Act.put, List.setIfInBounds_toArray, List.set_cons_zero, List.set_cons_succ]
     rfl
    refine one_ (i := 5) (N := some 32) (lm 11 1023) rfl rfl (by kernel_rfl) (by decide) (fun K hK => ?_)
    refine Kd.R_append_rows_step (Kd.int .i64) (w0 := W7) W7.heap.size (by rfl) (.tmp 29) (.tmp 31) 39 3 (.int .i64 0) 8 rfl Try.underlying39 info3 rfl (by decide) (by omega) (.slice A29 n c29) out [(i : Int)] (some ⟨gb, 0, none⟩) 1 1 (fun _ => True) (fun _ => False) rfl rfl ho8 (one_row hbk8) (fun x cs h => h) (fun _ h => h.elim) (fun _ _ => trivial) hb8 hb8.size (by have := HNL.out; have := HOL.out; omega) ?_
    intro v32 W9 ho hb hg hat
    obtain ⟨Av, cv, ev⟩ := Kd.R_slice ho
    rw [List.length_append, HOL.out, List.length_singleton] at ev
    subst ev
    have hc69 : W9.cell? ⟨g6, 0, none⟩ = some (.func (.func 73) #[] #[.pointer (some ⟨g5, 0, none⟩), .pointer (some ⟨g1, 0, none⟩), .pointer (some ⟨g6, 0, none⟩)]) := (hb.cell (World.block_lt_of_cell? _ _ hc6)).trans hc6
    refine hK.out _ _ (hc69) (fun hHeld => ?_)
    clear hK K
    refine sN ?_
    refine last_ (i := 10) (N := some 37) (lm 11 2047) rfl rfl (by kernel_rfl) (by decide) (fun K hK => ?_)
    refine goesC_ Try.func73 (by kernel_rfl) rfl #[.slice Av (n + 1) cv, .int .i64 (wrap64 ((i : Int) + 1)), .int .i64 (wrap64 (k : Int)), .pointer (some ⟨g5, 0, none⟩), .pointer (some ⟨g1, 0, none⟩), .pointer (some ⟨g6, 0, none⟩)] (by rfl) rfl rfl (by rfl) (by simp only [List.map_toArray, List.map_cons, List.map_nil, List.append_toArray, List.cons_append, List.nil_append]; rfl) ?_
    rw [hwi, hwk2]
    have hih := HIH.out (out ++ [(i : Int)]) (n + 1) Av cv (i + 1) W9 (by rw [List.length_append, HOL.out]; rfl) (by omega) (by omega) (HLV.out.step hb) (Kd.R_lower ho (by have h1 := HLV.out.hb.size; exact h1))
    refine hih.mono ?_
    rintro e W10 hpost
    obtain ⟨hlv, hkg, hres⟩ := hpost
    have hkg2 := Kg.trans (Kg.of_below hb) hkg
    have he_ : ∃ bb, e = .returned (.bool bb) := by rcases hres with ⟨h, _⟩ | ⟨h, _⟩ <;> exact ⟨_, h⟩
    obtain ⟨bb, rfl⟩ := he_
    refine ⟨_, rfl, ?_⟩
    refine hK.out _ _ ?_
    clear hK K
    refine sN ?_
    refine done_ (by kernel_rfl) ?_
    have HLV1 := Aside0.mk hlv
    have HKG1 := Aside0.mk (Kg.trans HKG.out hkg2)
    have HPS := Aside0.mk (preS_succ l0 l1 k frm out (i - frm))
    rw [show frm + (i - frm) = i from by omega] at HPS
    cases bb with
    | true =>
     have HRES := Aside0.mk (show ∃ s A c, leaveS l0 l1 k (i + 1) (out ++ [(i : Int)]) = some s ∧ W10.heap[g5]? = some (.cells #[.slice A s.length c] 39 (0, 0)) ∧ Kd.R (Kd.int .i64) 3 W10 w0.heap.size (fun _ => True) (.slice A s.length c) s from by
      rcases hres with ⟨_, h⟩ | ⟨h, _⟩
      ·exact h
      ·cases h)
     clear hres hlv hkg hkg2
     go_wp2
     go_ret
     obtain ⟨s, A, c, h1, h2, h3⟩ := HRES.out
     refine ⟨HLV1.out, HKG1.out, .inl ⟨rfl, s, A, c, ?_, h2, h3⟩⟩
     have hp := HPS.out
     rw [HPN.out, h1] at hp
     rw [leaveS_pre]
     exact preS_mono l0 l1 k frm out (i - frm + 1) s hp _ (by have h_ := HM.out; have h__ := HLT.out; omega)
    | false =>
     have HRES := Aside0.mk (show leaveS l0 l1 k (i + 1) (out ++ [(i : Int)]) = none from by
      rcases hres with ⟨h, _⟩ | ⟨_, h⟩
      ·cases h
      ·exact h)
     clear hres hlv hkg hkg2
     go_wp2
     go_roundg k1
     case measure => omega
     case rel => exact ⟨i + 1, by go_num, ⟨by omega, by omega⟩, ⟨by
      have hp := HPS.out
      rw [HPN.out, HRES.out] at hp
      rw [show i + 1 - frm = i - frm + 1 from by have h_ := HM.out; omega]
      exact hp⟩, HLV1, HKG1⟩
   ·have hlez : ¬ (i : Int) ≤ (l0.length : Int) - ((k : Int) + 1) := by omega
    have HLT := Aside0.mk hlt
    go_wp2
    go_ret
    refine ⟨HLV.out, HKG.out, .inr ⟨rfl, ?_⟩⟩
    rw [leaveS_pre, show l0.length - k - frm = i - frm from by have h_ := HM.out; have h__ := HLT.out; omega]
    exact HPN.out
end Go.Proofs.Ytnbbbeghgomnoaa.X
namespace Go.Proofs.Ytnbbbeghgomnoaa.X
open Go.RowKit Go.Proofs.YtnbbbeghgomnoaaW.PrintWords Go.Proofs.YtnbbbeghgomnoaaW.PrintLast Go.Proofs.YtnbbbeghgomnoaaW.PrintMore
theorem combs_full (n : Nat) : ∀ (k frm : Nat), frm + k = n → (List.range' frm k).map (fun (x : Nat) => (x : Int)) ∈ combs n k frm := by
 intro k
 induction k with
 | zero => intro frm _; simp [combs]
 | succ k ih =>
  intro frm h
  have hh := ih (frm + 1) (by omega)
  unfold combs
  rw [show n - k - frm = 1 from by omega]
  simp only [List.range_one, List.flatMap_cons, List.flatMap_nil, List.append_nil, List.range'_succ, List.map_cons]
  exact List.mem_map.2 ⟨_, hh, rfl⟩
theorem allL_ne {l0 : List S109} {l1 : List S110} (h : l1.all (okP l0) = true) : allL l0 l1 ≠ [] := by
 have hp : ∀ i, i < l1.length → optsL l0 l1 i ≠ [] := by
  intro i hi
  have hm : l1.getD i z110 ∈ l1 := by
   rw [List.getD_eq_getElem?_getD, List.getElem?_eq_getElem hi]
   exact List.getElem_mem hi
  have := List.all_eq_true.1 h _ hm
  unfold okP at this
  rw [Bool.and_eq_true, Bool.and_eq_true, decide_eq_true_eq] at this
  intro he
  unfold optsL at he
  rw [he] at this
  exact absurd this.2 (by simp)
 have main : ∀ (d i : Nat), i + d = l1.length → prods (optsL l0 l1) d i ≠ [] := by
  intro d
  induction d with
  | zero => intro i _; simp [prods]
  | succ d ih =>
   intro i hi he
   obtain ⟨a, r, har⟩ := List.exists_cons_of_ne_nil (hp i (by omega))
   obtain ⟨b, s, hbs⟩ := List.exists_cons_of_ne_nil (ih (i + 1) (by omega))
   simp [prods, har, hbs] at he
 exact main l1.length 0 (by omega)
theorem poss_all {l0 : List S109} {l1 : List S110} {outl : List Int} (h : l1.all (okP l0) = true) (ho : ∀ k, k < l0.length → (k : Int) ∈ outl) : possL l0 l1 outl = true := by
 obtain ⟨a, r, har⟩ := List.exists_cons_of_ne_nil (allL_ne h)
 unfold possL
 refine List.any_eq_true.2 ⟨a, by rw [har]; simp, ?_⟩
 unfold condL
 refine List.all_eq_true.2 fun v hv => ?_
 obtain ⟨k, hk, _, rfl⟩ := (sel_mem _ _ _).1 hv
 exact List.contains_iff_mem.2 (ho k hk)
theorem leave_full {l0 : List S109} {l1 : List S110} (h : l1.all (okP l0) = true) : leaveS l0 l1 l0.length 0 [] ≠ none := by
 intro he
 unfold leaveS at he
 have := List.find?_eq_none.1 he ((List.range' 0 l0.length).map fun (x : Nat) => (x : Int)) (List.mem_map.2 ⟨_, combs_full l0.length l0.length 0 (by omega), by simp⟩)
 exact this (poss_all h (fun k hk => List.mem_map.2 ⟨k, by simp [List.mem_range'_1]; exact hk, rfl⟩))
def leaveL (l0 : List S109) (l1 : List S110) : List Int := ((List.range (l0.length + 1)).findSome? fun k => leaveS l0 l1 k 0 []).getD []
theorem leaveL_at {l0 : List S109} {l1 : List S110} (m : Nat) (hm : m ≤ l0.length) (h : ∀ k, k < m → leaveS l0 l1 k 0 [] = none) {s : List Int} (hs : leaveS l0 l1 m 0 [] = some s) : leaveL l0 l1 = s := by
 unfold leaveL
 have main : ∀ (n : Nat), m < n → (List.range n).findSome? (fun k => leaveS l0 l1 k 0 []) = some s := by
  intro n
  induction n with
  | zero => intro h; omega
  | succ n ih =>
   intro hn
   rw [List.range_succ, List.findSome?_append]
   by_cases he : m = n
   ·subst he
    rw [List.findSome?_eq_none_iff.2 (fun k hk => h k (by simpa using hk))]
    simp [hs]
   ·rw [ih (by omega)]; rfl
 rw [main _ (by omega)]; rfl
set_option maxHeartbeats 4000000 in
set_option maxRecDepth 100000 in
theorem Leave_ok {A0 : Option Addr} {c0 : Nat} {l0 : List S109} {A1 : Option Addr} {c1 : Nat} {l1 : List S110} (wg : Int) {w : World} (ht : Tab A0 c0 l0 A1 c1 l1 w) (he : checkT l0 l1 wg = 0) :
  Calls Try.prog 32 #[.agg #[.slice A0 l0.length c0, .slice A1 l1.length c1, .int .i64 wg]] w fun e w' => ∃ v, e = .returned (.tuple #[v, .int .i64 0]) ∧ Kd.R (Kd.int .i64) 3 w' w.heap.size (fun _ => True) v (leaveL l0 l1) ∧ Below w.heap.size w w' := by
 have hu35 := Try.underlying35
 have hu55 := Try.underlying55
 have HT := Aside0.mk ht
 have HE := Aside0.mk he
 have HN0 := Aside0.mk (checkT_zero he).n0
 have HN1 := Aside0.mk (checkT_zero he).n1
 have HPS := Aside0.mk (checkT_zero he).ps
 have hn0 := HN0.out
 clear ht he
 have HB := Aside0.mk (Below.refl w.heap.size w)
 go_enter Try.func32, Try.ntmps32
 go_wp2_with (first | ((with_reducible refine gate_dst (N := 1) rfl ?_); refine sbox (N := 1) #[.slice A0 l0.length c0, .slice A1 l1.length c1, .int .i64 wg] 35 ?_; intro g1 hg W_ hbox hb; have GEg1 := Aside0.mk (by rw [hg]; exact HB.out.size : w.heap.size ≤ g1); replace HB := Aside0.mk (below_step HB.out hb); have BKg1 := Aside0.mk hbox; clear hb hbox hg; have hcz0 := sc 0 BKg1; have hcz1 := sc 1 BKg1; have hcz2 := sc 2 BKg1))
 refine wp_scope_straight ?_
 go_wp2_with (first | (go_at_call 61; go_must (refine (check_calls wg (HT.out.below HB.out)).mono ?_; rintro e W_ ⟨rfl, hb⟩; replace BKg1 := Aside0.mk (blk_below BKg1.out hb); replace HB := Aside0.mk (below_step HB.out hb); clear hb; rw [HE.out]; clear hcz0 hcz1 hcz2)) | ((with_reducible refine gate_dst (N := 5) rfl ?_); refine sbox (N := 5) #[.slice none 0 0] 39 ?_; intro g5 hg W_ hbox hb; have LTg5_g1 := Aside0.mk (by rw [hg]; exact blk_lt BKg1.out : g1 < g5); have GEg5 := Aside0.mk (by rw [hg]; exact HB.out.size : w.heap.size ≤ g5); replace BKg1 := Aside0.mk (blk_below BKg1.out hb); replace HB := Aside0.mk (below_step HB.out hb); have BKg5 := Aside0.mk hbox; clear hb hbox hg) | ((with_reducible refine gate_dst (N := 6) rfl ?_); refine sbox (N := 6) #[.nilFunc] 118 ?_; intro g6 hg W_ hbox hb; have LTg6_g1 := Aside0.mk (by rw [hg]; exact blk_lt BKg1.out : g1 < g6); have LTg6_g5 := Aside0.mk (by rw [hg]; exact blk_lt BKg5.out : g5 < g6); have GEg6 := Aside0.mk (by rw [hg]; exact HB.out.size : w.heap.size ≤ g6); replace BKg1 := Aside0.mk (blk_below BKg1.out hb); replace BKg5 := Aside0.mk (blk_below BKg5.out hb); replace HB := Aside0.mk (below_step HB.out hb); have BKg6 := Aside0.mk hbox; clear hb hbox hg; have hf6 := blk_frozen BKg6.out 0; have hx6 := sc 0 BKg6; have hcz0 : ∀ u, (W_.setCell ⟨g6, 0, none⟩ u).cell? ⟨g1, 0, none⟩ = some (.slice A0 l0.length c0) := fun u => (blk_cell (blk_far (p := ⟨g6, 0, none⟩) BKg1.out (show g1 ≠ g6 by have := LTg6_g1.out; omega) u) 0).trans rfl))
 apply wp_label
 have hlv : Lv w A0 l0.length c0 A1 l1.length c1 wg g1 g5 g6 (W_.setCell ⟨g6, 0, none⟩ (.func (.func 73) #[] #[.pointer (some ⟨g5, 0, none⟩), .pointer (some ⟨g1, 0, none⟩), .pointer (some ⟨g6, 0, none⟩)])) := ⟨HB.out.setCell (p := ⟨g6, 0, none⟩) GEg6.out _, blk_far BKg1.out (show g1 ≠ g6 by have := LTg6_g1.out; omega) _, ⟨_, blk_far BKg5.out (show g5 ≠ g6 by have := LTg6_g5.out; omega) _, none, 0, 0, rfl⟩, blk_put BKg6.out 0 _ rfl⟩
 have HLV := Aside0.mk hlv
 have HNE := Aside0.mk (show w.heap.size ≤ g5 ∧ g5 ≠ g1 ∧ g5 ≠ g6 from ⟨GEg5.out, by have := LTg5_g1.out; omega, by have := LTg6_g5.out; omega⟩)
 have hwn1 : wrap64 ((l0.length : Int) + 1) = (l0.length : Int) + 1 := wrap64_id _ (by omega) (by omega)
 clear hlv hx6 hf6
 go_wp2
 go_loopg [18] (l0.length + 1) (fun kq v18 w' => ∃ m : Nat, v18 = .int .i64 (m : Int) ∧ Aside0 (m + kq = l0.length + 1) ∧ Aside0 (∀ k, k < m → leaveS l0 l1 k 0 [] = none) ∧ Aside0 (Lv w A0 l0.length c0 A1 l1.length c1 wg g1 g5 g6 w'))
 case atStart => exact ⟨0, rfl, ⟨Nat.zero_add _⟩, ⟨fun k hk => absurd hk (by omega)⟩, HLV⟩
 case round =>
  clear HLV hcz0
  obtain ⟨m, rfl, HM, HP, HLV⟩ := hrel
  by_cases hlt : m < l0.length + 1
  ·cases gk with
   | zero => have := HM.out; omega
   | succ k1 =>
   have hltz : (m : Int) < (l0.length : Int) + 1 := by omega
   have hc6 : wr.cell? ⟨g6, 0, none⟩ = some (.func (.func 73) #[] #[.pointer (some ⟨g5, 0, none⟩), .pointer (some ⟨g1, 0, none⟩), .pointer (some ⟨g6, 0, none⟩)]) := (blk_cell HLV.out.k6 0).trans rfl
   have HC := Aside0.mk (leave1_calls w A0 c0 l0 A1 c1 l1 wg g1 g5 g6 HT.out HN0.out HN1.out HNE.out.1 HNE.out.2.1 HNE.out.2.2 m [] 0 none 0 0 wr rfl (by omega) (by omega) HLV.out (Kd.R_nil _ _ _ _ _))
   have HLT := Aside0.mk hlt
   cases hls : leaveS l0 l1 m 0 [] with
   | none =>
    have HLS := Aside0.mk hls
    go_wp2_with (go_at_call 73; go_must (refine HC.out.mono ?_; rintro e W10 ⟨hlv, hkg, hres⟩; have he_ : e = .returned (.bool false) := (by rcases hres with ⟨_, s, _, _, h, _⟩ | ⟨h, _⟩; (rw [HLS.out] at h; cases h); exact h); subst he_; have HLV1 := Aside0.mk hlv; clear hlv hkg hres))
    go_roundg k1
    case measure => omega
    case rel => exact ⟨m + 1, by go_num, ⟨by have := HM.out; omega⟩, ⟨fun k hk => by
     by_cases he : k = m
     ·subst he; exact HLS.out
     ·exact HP.out k (by omega)⟩, HLV1⟩
   | some s =>
    have HLS := Aside0.mk hls
    go_wp2_with (go_at_call 73; go_must (refine HC.out.mono ?_; rintro e W10 ⟨hlv, hkg, hres⟩; have he_ : e = .returned (.bool true) ∧ ∃ A c, W10.heap[g5]? = some (.cells #[.slice A s.length c] 39 (0, 0)) ∧ Kd.R (Kd.int .i64) 3 W10 w.heap.size (fun _ => True) (.slice A s.length c) s := (by rcases hres with ⟨h, s', A, c, h1, h2, h3⟩ | ⟨_, h⟩; (rw [HLS.out] at h1; cases h1; exact ⟨h, A, c, h2, h3⟩); (rw [HLS.out] at h; cases h)); obtain ⟨he2_, A5, c5, hk5, hr5⟩ := he_; subst he2_; have HLV1 := Aside0.mk hlv; have HR5 := Aside0.mk hr5; have hx5 : W10.cell? ⟨g5, 0, none⟩ = some (.slice A5 s.length c5) := (blk_cell hk5 0).trans rfl; clear hlv hkg hres hk5 hr5))
    simp only [Exit.noGoto]
    go_ret2
    exact ⟨_, rfl, by rw [leaveL_at m (by have h_ := HLT.out; omega) HP.out HLS.out]; exact HR5.out, HLV1.out.hb⟩
  ·exfalso
   exact leave_full HPS.out (HP.out l0.length (by have := HM.out; omega))
end Go.Proofs.Ytnbbbeghgomnoaa.X
namespace Go.Proofs.Ytnbbbeghgomnoaa.X
open Go.RowKit Go.Proofs.YtnbbbeghgomnoaaW.PrintWords Go.Proofs.YtnbbbeghgomnoaaW.PrintLast Go.Proofs.YtnbbbeghgomnoaaW.PrintMore
theorem areB_mem {l0 : List S109} {l1 : List S110} {l : List Int} : areB l0 l1 l = true ↔ l ∈ allL l0 l1 := by
 unfold areB ownB
 rw [allL_mem, Bool.and_eq_true, decide_eq_true_eq, List.all_eq_true]
 constructor
 ·rintro ⟨h1, h2⟩
  exact ⟨h1, fun j hj => List.contains_iff_mem.1 (h2 j (by simpa [h1] using hj))⟩
 ·rintro ⟨h1, h2⟩
  exact ⟨h1, fun j hj => List.contains_iff_mem.2 (h2 j (by have := List.mem_range.1 hj; omega))⟩
theorem pad_of {o : Nat → Int} {l : List Int} (h1 : ∀ i, i < l.length → o i = l.getD i 0) (h2 : ∀ i, l.length ≤ i → o i = 0) : o = pad l := by
 funext i
 by_cases h : i < l.length
 ·exact h1 i h
 ·rw [h2 i (by omega)]
  unfold pad
  rw [List.getD_eq_getElem?_getD, List.getElem?_eq_none (by omega)]; rfl
set_option maxHeartbeats 4000000 in
set_option maxRecDepth 100000 in
theorem Play_e {A0 : Option Addr} {c0 : Nat} {l0 : List S109} {A1 : Option Addr} {c1 : Nat} {l1 : List S110} (wg : Int) {Al : Option Addr} {cl : Nat} {l : List Int} {w : World} (ht : Tab A0 c0 l0 A1 c1 l1 w) (hrl : Kd.C (Kd.int .i64) w Al l.length l) (hcl : l.length ≤ cl) (hll : l.length ≤ 1000000) (he : checkT l0 l1 wg ≠ 0) :
  Calls Try.prog 50 #[.agg #[.slice A0 l0.length c0, .slice A1 l1.length c1, .int .i64 wg], .slice Al l.length cl] w fun e w' => e = .returned (.tuple #[.slice none 0 0, .slice none 0 0, .int .i64 (checkT l0 l1 wg)]) ∧ Below w.heap.size w w' := by
 have hu35 := Try.underlying35
 have hu121 := Try.underlying121
 have HT := Aside0.mk ht
 have HRL := Aside0.mk hrl
 have HCL := Aside0.mk hcl
 have HLL := Aside0.mk hll
 clear ht hrl hcl hll
 have HB := Aside0.mk (Below.refl w.heap.size w)
 have HE := Aside0.mk he
 clear he
 go_enter Try.func50, Try.ntmps50
 go_wp2_with (first | ((with_reducible refine gate_dst (N := 2) rfl ?_); refine sbox (N := 2) #[.slice A0 l0.length c0, .slice A1 l1.length c1, .int .i64 wg] 35 ?_; intro g2 hg W_ hbox hb; have GEg2 := Aside0.mk (by rw [hg]; exact HB.out.size : w.heap.size ≤ g2); replace HB := Aside0.mk (below_step HB.out hb); have BKg2 := Aside0.mk hbox; clear hb hbox hg; have hcz0 := sc 0 BKg2; have hcz1 := sc 1 BKg2; have hcz2 := sc 2 BKg2) | (go_at_call 61; go_must (refine (check_calls wg (HT.out.below HB.out)).mono ?_; rintro e W_ ⟨rfl, hb⟩; replace BKg2 := Aside0.mk (blk_below BKg2.out hb); replace HB := Aside0.mk (below_step HB.out hb); try (clear hcz0 hcz1 hcz2); clear hb; have he := HE.out; generalize hec : checkT l0 l1 wg = ec at *; have hne : (ec == (0 : Int)) = false := (by simpa using he))))
 go_ret3
 exact ⟨by rw [hec]; rfl, HB.out⟩
set_option maxHeartbeats 4000000 in
set_option maxRecDepth 100000 in
theorem Play_no {A0 : Option Addr} {c0 : Nat} {l0 : List S109} {A1 : Option Addr} {c1 : Nat} {l1 : List S110} (wg : Int) {Al : Option Addr} {cl : Nat} {l : List Int} {w : World} (ht : Tab A0 c0 l0 A1 c1 l1 w) (hrl : Kd.C (Kd.int .i64) w Al l.length l) (hcl : l.length ≤ cl) (hll : l.length ≤ 1000000) (he : checkT l0 l1 wg = 0) (ha : areB l0 l1 l = false) :
  Calls Try.prog 50 #[.agg #[.slice A0 l0.length c0, .slice A1 l1.length c1, .int .i64 wg], .slice Al l.length cl] w fun e w' => e = .returned (.tuple #[.slice none 0 0, .slice none 0 0, .int .i64 2]) ∧ Below w.heap.size w w' := by
 have hu35 := Try.underlying35
 have hu121 := Try.underlying121
 have HT := Aside0.mk ht
 have HRL := Aside0.mk hrl
 have HCL := Aside0.mk hcl
 have HLL := Aside0.mk hll
 clear ht hrl hcl hll
 have HB := Aside0.mk (Below.refl w.heap.size w)
 have HE := Aside0.mk he
 have HN0 := Aside0.mk (checkT_zero he).n0
 have HN1 := Aside0.mk (checkT_zero he).n1
 have HAB := Aside0.mk ha
 clear he ha
 go_enter Try.func50, Try.ntmps50
 go_wp2_with (first | ((with_reducible refine gate_dst (N := 2) rfl ?_); refine sbox (N := 2) #[.slice A0 l0.length c0, .slice A1 l1.length c1, .int .i64 wg] 35 ?_; intro g2 hg W_ hbox hb; have GEg2 := Aside0.mk (by rw [hg]; exact HB.out.size : w.heap.size ≤ g2); replace HB := Aside0.mk (below_step HB.out hb); have BKg2 := Aside0.mk hbox; clear hb hbox hg; have hcz0 := sc 0 BKg2; have hcz1 := sc 1 BKg2; have hcz2 := sc 2 BKg2) | (go_at_call 61; go_must (refine (check_calls wg (HT.out.below HB.out)).mono ?_; rintro e W_ ⟨rfl, hb⟩; replace BKg2 := Aside0.mk (blk_below BKg2.out hb); replace HB := Aside0.mk (below_step HB.out hb); clear hb hcz0 hcz1 hcz2; rw [HE.out]; have hcz0 := sc 0 BKg2; have hcz1 := sc 1 BKg2; have hcz2 := sc 2 BKg2)) | (go_at_call 83; go_must (refine (listed_calls A0 c0 l0 A1 c1 l1 wg Al cl l _ (HT.out.below HB.out).r0 HT.out.h0 (HT.out.below HB.out).r1 HT.out.h1 (Kd.C_below HRL.out HB.out) HCL.out HT.out.n0 HN1.out HT.out.ms (by have := HLL.out; omega)).mono ?_; rintro e W_ ⟨o, rfl, ho1, ho2, hb⟩; replace BKg2 := Aside0.mk (blk_below BKg2.out hb); replace HB := Aside0.mk (below_step HB.out hb); clear hb hcz0 hcz1 hcz2; have HO1 := Aside0.mk ho1; have HO2 := Aside0.mk ho2; clear ho1 ho2; unfold ac; rw [HAB.out])))
 go_ret3
 exact ⟨rfl, below_alloc HB.out _⟩
set_option maxHeartbeats 4000000 in
set_option maxRecDepth 100000 in
theorem Play_ok {A0 : Option Addr} {c0 : Nat} {l0 : List S109} {A1 : Option Addr} {c1 : Nat} {l1 : List S110} (wg : Int) {Al : Option Addr} {cl : Nat} {l : List Int} {w : World} (ht : Tab A0 c0 l0 A1 c1 l1 w) (hrl : Kd.C (Kd.int .i64) w Al l.length l) (hcl : l.length ≤ cl) (hll : l.length ≤ 1000000) (he : checkT l0 l1 wg = 0) (ha : areB l0 l1 l = true) :
  Calls Try.prog 50 #[.agg #[.slice A0 l0.length c0, .slice A1 l1.length c1, .int .i64 wg], .slice Al l.length cl] w fun e w' => ∃ v1 v2, e = .returned (.tuple #[v1, v2, .int .i64 0]) ∧ Kd.R (Kd.int .i64) 3 w' w.heap.size (fun _ => True) v1 (ownL l0.length l1.length (pad l)) ∧ Kd.R (Kd.int .i64) 3 w' w.heap.size (fun _ => True) v2 (sel (off l1 (pad l)) l1.length) ∧ (∀ k, v1.ownBlock = some k → some k ≠ v2.ownBlock) ∧ Below w.heap.size w w' := by
 have hu35 := Try.underlying35
 have hu121 := Try.underlying121
 have HT := Aside0.mk ht
 have HRL := Aside0.mk hrl
 have HCL := Aside0.mk hcl
 have HLL := Aside0.mk hll
 clear ht hrl hcl hll
 have HB := Aside0.mk (Below.refl w.heap.size w)
 have HE := Aside0.mk he
 have HN0 := Aside0.mk (checkT_zero he).n0
 have HN1 := Aside0.mk (checkT_zero he).n1
 have HAB := Aside0.mk ha
 have HOW := Aside0.mk (allL_owners l0 l1 l (areB_mem.1 ha))
 clear he ha
 go_enter Try.func50, Try.ntmps50
 go_wp2_with (first | ((with_reducible refine gate_dst (N := 2) rfl ?_); refine sbox (N := 2) #[.slice A0 l0.length c0, .slice A1 l1.length c1, .int .i64 wg] 35 ?_; intro g2 hg W_ hbox hb; have GEg2 := Aside0.mk (by rw [hg]; exact HB.out.size : w.heap.size ≤ g2); replace HB := Aside0.mk (below_step HB.out hb); have BKg2 := Aside0.mk hbox; clear hb hbox hg; have hcz0 := sc 0 BKg2; have hcz1 := sc 1 BKg2; have hcz2 := sc 2 BKg2) | (go_at_call 61; go_must (refine (check_calls wg (HT.out.below HB.out)).mono ?_; rintro e W_ ⟨rfl, hb⟩; replace BKg2 := Aside0.mk (blk_below BKg2.out hb); replace HB := Aside0.mk (below_step HB.out hb); clear hb hcz0 hcz1 hcz2; rw [HE.out]; have hcz0 := sc 0 BKg2; have hcz1 := sc 1 BKg2; have hcz2 := sc 2 BKg2)) | (go_at_call 83; go_must (refine (listed_calls A0 c0 l0 A1 c1 l1 wg Al cl l _ (HT.out.below HB.out).r0 HT.out.h0 (HT.out.below HB.out).r1 HT.out.h1 (Kd.C_below HRL.out HB.out) HCL.out HT.out.n0 HN1.out HT.out.ms (by have := HLL.out; omega)).mono ?_; rintro e W_ ⟨o, rfl, ho1, ho2, hb⟩; replace BKg2 := Aside0.mk (blk_below BKg2.out hb); replace HB := Aside0.mk (below_step HB.out hb); clear hb hcz0 hcz1 hcz2; have HO1 := Aside0.mk ho1; have HO2 := Aside0.mk ho2; clear ho1 ho2; have ho_ : o = pad l := pad_of (HO1.out HAB.out) HO2.out; subst ho_; unfold ac; rw [HAB.out])))
 have hb := below_alloc (Below.refl W_.heap.size W_) (.cells #[.int .i64 (pad l 0), .int .i64 (pad l 1), .int .i64 (pad l 2), .int .i64 (pad l 3), .int .i64 (pad l 4), .int .i64 (pad l 5), .int .i64 (pad l 6)] 121)
 have BKg8 := Aside0.mk (heap_alloc_new W_ (.cells #[.int .i64 (pad l 0), .int .i64 (pad l 1), .int .i64 (pad l 2), .int .i64 (pad l 3), .int .i64 (pad l 4), .int .i64 (pad l 5), .int .i64 (pad l 6)] 121))
 replace BKg2 := Aside0.mk (blk_below BKg2.out hb)
 replace HB := Aside0.mk (below_step HB.out hb)
 clear hb
 try (clear hcz0 hcz1 hcz2)
 generalize W_.alloc (.cells #[.int .i64 (pad l 0), .int .i64 (pad l 1), .int .i64 (pad l 2), .int .i64 (pad l 3), .int .i64 (pad l 4), .int .i64 (pad l 5), .int .i64 (pad l 6)] 121) = W5 at *
 generalize W_.heap.size = g8 at *
 have hcz0 := sc 0 BKg2
 have hcz1 := sc 1 BKg2
 have hcz2 := sc 2 BKg2
 have hca0 := sc 0 BKg8
 have hca1 := sc 1 BKg8
 have hca2 := sc 2 BKg8
 have hca3 := sc 3 BKg8
 have hca4 := sc 4 BKg8
 have hca5 := sc 5 BKg8
 have hca6 := sc 6 BKg8
 refine start_ (n := 9) (S := fun w' => w'.cell? ⟨g2, 0, none⟩ = some (.slice A0 l0.length c0) ∧ w'.cell? ⟨g2, 1, none⟩ = some (.slice A1 l1.length c1) ∧ w'.cell? ⟨g2, 2, none⟩ = some (.int .i64 wg) ∧ w'.cell? ⟨g8, 0, none⟩ = some (.int .i64 (pad l 0)) ∧ w'.cell? ⟨g8, 1, none⟩ = some (.int .i64 (pad l 1)) ∧ w'.cell? ⟨g8, 2, none⟩ = some (.int .i64 (pad l 2)) ∧ w'.cell? ⟨g8, 3, none⟩ = some (.int .i64 (pad l 3)) ∧ w'.cell? ⟨g8, 4, none⟩ = some (.int .i64 (pad l 4)) ∧ w'.cell? ⟨g8, 5, none⟩ = some (.int .i64 (pad l 5)) ∧ w'.cell? ⟨g8, 6, none⟩ = some (.int .i64 (pad l 6))) (ds := []) (lm 9 0) (by kernel_rfl) rfl (by kernel_rfl) ⟨hcz0, hcz1, hcz2, hca0, hca1, hca2, hca3, hca4, hca5, hca6⟩ (fun hHeld => ?_)
 have hb := below_drew1 (Below.refl W5.heap.size W5)
 replace BKg2 := Aside0.mk (blk_below BKg2.out hb)
 replace BKg8 := Aside0.mk (blk_below BKg8.out hb)
 replace HB := Aside0.mk (below_step HB.out hb)
 replace hcz0 := (hb.cell (World.block_lt_of_cell? _ _ hcz0)).trans hcz0
 replace hcz1 := (hb.cell (World.block_lt_of_cell? _ _ hcz1)).trans hcz1
 replace hcz2 := (hb.cell (World.block_lt_of_cell? _ _ hcz2)).trans hcz2
 replace hca0 := (hb.cell (World.block_lt_of_cell? _ _ hca0)).trans hca0
 replace hca1 := (hb.cell (World.block_lt_of_cell? _ _ hca1)).trans hca1
 replace hca2 := (hb.cell (World.block_lt_of_cell? _ _ hca2)).trans hca2
 replace hca3 := (hb.cell (World.block_lt_of_cell? _ _ hca3)).trans hca3
 replace hca4 := (hb.cell (World.block_lt_of_cell? _ _ hca4)).trans hca4
 replace hca5 := (hb.cell (World.block_lt_of_cell? _ _ hca5)).trans hca5
 replace hca6 := (hb.cell (World.block_lt_of_cell? _ _ hca6)).trans hca6
 generalize W5.drew = W6 at *
 clear hb
 have HZ6 := Aside0.mk HB.out.size
 refine take_ (i := 0) (N := some 23) (v := ?_) (a' := ?_) (lm 9 1) rfl rfl (by kernel_rfl) (fun _ _ _ h => h) (Or.inl ⟨by rfl, ?_⟩) hHeld ?_ ?_
 rotate_left
 ·rintro w' ⟨s0, s1, s2, s3, s4, s5, s6, s7, s8, s9⟩
  go_simp
  with_reducible rfl
 rotate_left
 ·simp only [Act.put, List.setIfInBounds_toArray, List.set_cons_zero, List.set_cons_succ, i64_w, i32_w]
  rfl
 refine take_ (i := 1) (N := some 24) (v := ?_) (a' := ?_) (lm 9 3) rfl rfl (by kernel_rfl) (fun _ _ _ h => h) (Or.inl ⟨by rfl, ?_⟩) hHeld ?_ ?_
 rotate_left
 ·rintro w' ⟨s0, s1, s2, s3, s4, s5, s6, s7, s8, s9⟩
  go_simp
  with_reducible rfl
 rotate_left
 ·simp only [Act.put, List.setIfInBounds_toArray, List.set_cons_zero, List.set_cons_succ, i64_w, i32_w]
  rfl
 refine take_ (i := 3) (N := some 26) (v := ?_) (a' := ?_) (lm 9 11) rfl rfl (by kernel_rfl) (fun _ _ _ h => h) (Or.inl ⟨by rfl, ?_⟩) hHeld ?_ ?_
 rotate_left
 ·rintro w' ⟨s0, s1, s2, s3, s4, s5, s6, s7, s8, s9⟩
  go_simp
  with_reducible rfl
 rotate_left
 ·simp only [Act.put, List.setIfInBounds_toArray, List.set_cons_zero, List.set_cons_succ, i64_w, i32_w]
  rfl
 refine take_ (i := 4) (N := some 27) (v := ?_) (a' := ?_) (lm 9 27) rfl rfl (by kernel_rfl) (fun _ _ _ h => h) (Or.inl ⟨by rfl, ?_⟩) hHeld ?_ ?_
 rotate_left
 ·rintro w' ⟨s0, s1, s2, s3, s4, s5, s6, s7, s8, s9⟩
  go_simp
  with_reducible rfl
 rotate_left
 ·simp only [Act.put, List.setIfInBounds_toArray, List.set_cons_zero, List.set_cons_succ, i64_w, i32_w]
  rfl
 refine one_ (i := 2) (N := some 25) (lm 9 31) rfl rfl (by kernel_rfl) (by decide) (fun K hK => ?_)
 refine goes_ Try.func84 (by kernel_rfl) rfl #[.agg #[.slice A0 l0.length c0, .slice A1 l1.length c1, .int .i64 wg], .agg #[.int .i64 (pad l 0), .int .i64 (pad l 1), .int .i64 (pad l 2), .int .i64 (pad l 3), .int .i64 (pad l 4), .int .i64 (pad l 5), .int .i64 (pad l 6)]] (by rfl) rfl rfl (by simp only [List.map_toArray, List.map_cons, List.map_nil]; rfl) ?_
 with_reducible refine (own_calls A0 c0 l0.length A1 c1 l1.length wg (pad l) W6 HT.out.n0 HN1.out HOW.out).mono ?_
 rintro e W7 ⟨v25, rfl, ho, hb⟩
 refine ⟨_, rfl, ?_⟩
 replace hcz0 := (hb.cell (World.block_lt_of_cell? _ _ hcz0)).trans hcz0
 replace hcz1 := (hb.cell (World.block_lt_of_cell? _ _ hcz1)).trans hcz1
 replace hcz2 := (hb.cell (World.block_lt_of_cell? _ _ hcz2)).trans hcz2
 replace hca0 := (hb.cell (World.block_lt_of_cell? _ _ hca0)).trans hca0
 replace hca1 := (hb.cell (World.block_lt_of_cell? _ _ hca1)).trans hca1
 replace hca2 := (hb.cell (World.block_lt_of_cell? _ _ hca2)).trans hca2
 replace hca3 := (hb.cell (World.block_lt_of_cell? _ _ hca3)).trans hca3
 replace hca4 := (hb.cell (World.block_lt_of_cell? _ _ hca4)).trans hca4
 replace hca5 := (hb.cell (World.block_lt_of_cell? _ _ hca5)).trans hca5
 replace hca6 := (hb.cell (World.block_lt_of_cell? _ _ hca6)).trans hca6
 replace BKg2 := Aside0.mk (blk_below BKg2.out hb)
 replace BKg8 := Aside0.mk (blk_below BKg8.out hb)
 replace HB := Aside0.mk (below_step HB.out hb)
 have HO4 := Aside0.mk ho
 have HZ7 := Aside0.mk HB.out.size
 have HZ7b := Aside0.mk (Kd.R_lt ho)
 clear ho
 clear hb
 refine hK.out _ _ ⟨hcz0, hcz1, hcz2, hca0, hca1, hca2, hca3, hca4, hca5, hca6⟩ (fun hHeld => ?_)
 clear hK K
 refine sN ?_
 refine one_ (i := 5) (N := some 28) (lm 9 63) rfl rfl (by kernel_rfl) (by decide) (fun K hK => ?_)
 refine goes_ Try.func82 (by kernel_rfl) rfl #[.agg #[.slice A0 l0.length c0, .slice A1 l1.length c1, .int .i64 wg], .agg #[.int .i64 (pad l 0), .int .i64 (pad l 1), .int .i64 (pad l 2), .int .i64 (pad l 3), .int .i64 (pad l 4), .int .i64 (pad l 5), .int .i64 (pad l 6)]] (by rfl) rfl rfl (by simp only [List.map_toArray, List.map_cons, List.map_nil]; rfl) ?_
 with_reducible refine (astray_calls A0 c0 l0 A1 c1 l1 wg (pad l) W7 (HT.out.below HB.out).r1 HN1.out).mono ?_
 rintro e W8 ⟨v28, rfl, ho, hb⟩
 refine ⟨_, rfl, ?_⟩
 replace hcz0 := (hb.cell (World.block_lt_of_cell? _ _ hcz0)).trans hcz0
 replace hcz1 := (hb.cell (World.block_lt_of_cell? _ _ hcz1)).trans hcz1
 replace hcz2 := (hb.cell (World.block_lt_of_cell? _ _ hcz2)).trans hcz2
 replace hca0 := (hb.cell (World.block_lt_of_cell? _ _ hca0)).trans hca0
 replace hca1 := (hb.cell (World.block_lt_of_cell? _ _ hca1)).trans hca1
 replace hca2 := (hb.cell (World.block_lt_of_cell? _ _ hca2)).trans hca2
 replace hca3 := (hb.cell (World.block_lt_of_cell? _ _ hca3)).trans hca3
 replace hca4 := (hb.cell (World.block_lt_of_cell? _ _ hca4)).trans hca4
 replace hca5 := (hb.cell (World.block_lt_of_cell? _ _ hca5)).trans hca5
 replace hca6 := (hb.cell (World.block_lt_of_cell? _ _ hca6)).trans hca6
 replace BKg2 := Aside0.mk (blk_below BKg2.out hb)
 replace BKg8 := Aside0.mk (blk_below BKg8.out hb)
 replace HO4 := Aside0.mk (Kd.R_below HO4.out hb)
 replace HB := Aside0.mk (below_step HB.out hb)
 have HO5 := Aside0.mk ho
 clear ho
 clear hb
 refine hK.out _ _ ⟨hcz0, hcz1, hcz2, hca0, hca1, hca2, hca3, hca4, hca5, hca6⟩ (fun hHeld => ?_)
 clear hK K
 refine sN ?_
 refine sP (i := 6) (N := some 4) (lm 9 127) ?_
 refine sP (i := 7) (N := some 5) (lm 9 255) ?_
 refine sP (i := 8) (N := some 6) (lm 9 511) ?_
 refine done_ (by kernel_rfl) ?_
 go_wp2
 go_ret3
 exact ⟨_, _, rfl, Kd.R_lower HO4.out HZ6.out, Kd.R_lower HO5.out HZ7.out, fun k h1 h2 => by
  have h3 := HZ7b.out k h1
  have h4 := ((Kd.R_bound HO5.out).1 k h2.symm).2.1
  omega, HB.out⟩
end Go.Proofs.Ytnbbbeghgomnoaa.X
namespace Go.Proofs.Ytnbbbeghgomnoaa.X
open Go.RowKit Go.Proofs.YtnbbbeghgomnoaaW.PrintWords Go.Proofs.YtnbbbeghgomnoaaW.PrintLast Go.Proofs.YtnbbbeghgomnoaaW.PrintMore
set_option maxHeartbeats 4000000 in
set_option maxRecDepth 100000 in
theorem ProveTruth_e {A0 : Option Addr} {c0 : Nat} {l0 : List S109} {A1 : Option Addr} {c1 : Nat} {l1 : List S110} (wg : Int) {Al : Option Addr} {cl : Nat} {l : List Int} {w : World} (ht : Tab A0 c0 l0 A1 c1 l1 w) (hrl : Kd.C (Kd.int .i64) w Al l.length l) (hcl : l.length ≤ cl) (hll : l.length ≤ 1000000) (he : checkT l0 l1 wg ≠ 0) :
  Calls Try.prog 60 #[.agg #[.slice A0 l0.length c0, .slice A1 l1.length c1, .int .i64 wg], .slice Al l.length cl] w fun e w' => e = .returned (.bool false) ∧ Below w.heap.size w w' := by
 have hu35 := Try.underlying35
 have hu121 := Try.underlying121
 have HT := Aside0.mk ht
 have HRL := Aside0.mk hrl
 have HCL := Aside0.mk hcl
 have HLL := Aside0.mk hll
 clear ht hrl hcl hll
 have HB := Aside0.mk (Below.refl w.heap.size w)
 have HE := Aside0.mk he
 clear he
 go_enter Try.func60, Try.ntmps60
 go_wp2_with (first | ((with_reducible refine gate_dst (N := 2) rfl ?_); refine sbox (N := 2) #[.slice A0 l0.length c0, .slice A1 l1.length c1, .int .i64 wg] 35 ?_; intro g2 hg W_ hbox hb; have GEg2 := Aside0.mk (by rw [hg]; exact HB.out.size : w.heap.size ≤ g2); replace HB := Aside0.mk (below_step HB.out hb); have BKg2 := Aside0.mk hbox; clear hb hbox hg; have hcz0 := sc 0 BKg2; have hcz1 := sc 1 BKg2; have hcz2 := sc 2 BKg2) | (go_at_call 61; go_must (refine (check_calls wg (HT.out.below HB.out)).mono ?_; rintro e W_ ⟨rfl, hb⟩; replace BKg2 := Aside0.mk (blk_below BKg2.out hb); replace HB := Aside0.mk (below_step HB.out hb); try (clear hcz0 hcz1 hcz2); clear hb; have he := HE.out; generalize hec : checkT l0 l1 wg = ec at *; have hne : (ec == (0 : Int)) = false := (by simpa using he))))
 go_ret
 exact ⟨rfl, HB.out⟩
set_option maxHeartbeats 4000000 in
set_option maxRecDepth 100000 in
theorem ProveTruth_no {A0 : Option Addr} {c0 : Nat} {l0 : List S109} {A1 : Option Addr} {c1 : Nat} {l1 : List S110} (wg : Int) {Al : Option Addr} {cl : Nat} {l : List Int} {w : World} (ht : Tab A0 c0 l0 A1 c1 l1 w) (hrl : Kd.C (Kd.int .i64) w Al l.length l) (hcl : l.length ≤ cl) (hll : l.length ≤ 1000000) (he : checkT l0 l1 wg = 0) (ha : areB l0 l1 l = false) :
  Calls Try.prog 60 #[.agg #[.slice A0 l0.length c0, .slice A1 l1.length c1, .int .i64 wg], .slice Al l.length cl] w fun e w' => e = .returned (.bool false) ∧ Below w.heap.size w w' := by
 have hu35 := Try.underlying35
 have hu121 := Try.underlying121
 have HT := Aside0.mk ht
 have HRL := Aside0.mk hrl
 have HCL := Aside0.mk hcl
 have HLL := Aside0.mk hll
 clear ht hrl hcl hll
 have HB := Aside0.mk (Below.refl w.heap.size w)
 have HE := Aside0.mk he
 have HN0 := Aside0.mk (checkT_zero he).n0
 have HN1 := Aside0.mk (checkT_zero he).n1
 have HAB := Aside0.mk ha
 clear he ha
 go_enter Try.func60, Try.ntmps60
 go_wp2_with (first | ((with_reducible refine gate_dst (N := 2) rfl ?_); refine sbox (N := 2) #[.slice A0 l0.length c0, .slice A1 l1.length c1, .int .i64 wg] 35 ?_; intro g2 hg W_ hbox hb; have GEg2 := Aside0.mk (by rw [hg]; exact HB.out.size : w.heap.size ≤ g2); replace HB := Aside0.mk (below_step HB.out hb); have BKg2 := Aside0.mk hbox; clear hb hbox hg; have hcz0 := sc 0 BKg2; have hcz1 := sc 1 BKg2; have hcz2 := sc 2 BKg2) | (go_at_call 61; go_must (refine (check_calls wg (HT.out.below HB.out)).mono ?_; rintro e W_ ⟨rfl, hb⟩; replace BKg2 := Aside0.mk (blk_below BKg2.out hb); replace HB := Aside0.mk (below_step HB.out hb); clear hb hcz0 hcz1 hcz2; rw [HE.out]; have hcz0 := sc 0 BKg2; have hcz1 := sc 1 BKg2; have hcz2 := sc 2 BKg2)) | (go_at_call 83; go_must (refine (listed_calls A0 c0 l0 A1 c1 l1 wg Al cl l _ (HT.out.below HB.out).r0 HT.out.h0 (HT.out.below HB.out).r1 HT.out.h1 (Kd.C_below HRL.out HB.out) HCL.out HT.out.n0 HN1.out HT.out.ms (by have := HLL.out; omega)).mono ?_; rintro e W_ ⟨o, rfl, ho1, ho2, hb⟩; replace BKg2 := Aside0.mk (blk_below BKg2.out hb); replace HB := Aside0.mk (below_step HB.out hb); clear hb hcz0 hcz1 hcz2; have HO1 := Aside0.mk ho1; have HO2 := Aside0.mk ho2; clear ho1 ho2; unfold ac; rw [HAB.out])))
 have hb := below_alloc (Below.refl W_.heap.size W_) (.cells #[.int .i64 (o 0), .int .i64 (o 1), .int .i64 (o 2), .int .i64 (o 3), .int .i64 (o 4), .int .i64 (o 5), .int .i64 (o 6)] 121)
 have BKg8 := Aside0.mk (heap_alloc_new W_ (.cells #[.int .i64 (o 0), .int .i64 (o 1), .int .i64 (o 2), .int .i64 (o 3), .int .i64 (o 4), .int .i64 (o 5), .int .i64 (o 6)] 121))
 replace BKg2 := Aside0.mk (blk_below BKg2.out hb)
 replace HB := Aside0.mk (below_step HB.out hb)
 clear hb
 try (clear hcz0 hcz1 hcz2)
 generalize W_.alloc (.cells #[.int .i64 (o 0), .int .i64 (o 1), .int .i64 (o 2), .int .i64 (o 3), .int .i64 (o 4), .int .i64 (o 5), .int .i64 (o 6)] 121) = W5 at *
 generalize W_.heap.size = g8 at *
 have hcz0 := sc 0 BKg2
 have hcz1 := sc 1 BKg2
 have hcz2 := sc 2 BKg2
 have hca0 := sc 0 BKg8
 have hca1 := sc 1 BKg8
 have hca2 := sc 2 BKg8
 have hca3 := sc 3 BKg8
 have hca4 := sc 4 BKg8
 have hca5 := sc 5 BKg8
 have hca6 := sc 6 BKg8
 refine start_ (n := 11) (S := fun w' => w'.cell? ⟨g2, 0, none⟩ = some (.slice A0 l0.length c0)) (ds := []) (lm 11 0) (by kernel_rfl) rfl (by kernel_rfl) (hcz0) (fun hHeld => ?_)
 have hb := below_drew1 (Below.refl W5.heap.size W5)
 replace BKg2 := Aside0.mk (blk_below BKg2.out hb)
 replace BKg8 := Aside0.mk (blk_below BKg8.out hb)
 replace HB := Aside0.mk (below_step HB.out hb)
 replace hcz0 := (hb.cell (World.block_lt_of_cell? _ _ hcz0)).trans hcz0
 generalize W5.drew = W6 at *
 clear hb
 refine sP (i := 0) (N := some 16) (lm 11 1) ?_
 refine sP (i := 1) (N := some 17) (lm 11 3) ?_
 refine pure_ (i := 2) (N := some 18) (v := undef) (a' := ?_) (lm 11 7) rfl rfl (by kernel_rfl) (fun _ _ _ h => h) (Or.inr ⟨by rfl, rfl⟩) ?_ ?_
 rotate_left
 ·simp only [Act.put, List.setIfInBounds_toArray, List.set_cons_zero, List.set_cons_succ, i64_w, i32_w]
  rfl
 refine pure_ (i := 3) (N := some 19) (v := undef) (a' := ?_) (lm 11 15) rfl rfl (by kernel_rfl) (fun _ _ _ h => h) (Or.inr ⟨by rfl, rfl⟩) ?_ ?_
 rotate_left
 ·simp only [Act.put, List.setIfInBounds_toArray, List.set_cons_zero, List.set_cons_succ, i64_w, i32_w]
  rfl
 refine pure_ (i := 4) (N := some 20) (v := undef) (a' := ?_) (lm 11 31) rfl rfl (by kernel_rfl) (fun _ _ _ h => h) (Or.inr ⟨by rfl, rfl⟩) ?_ ?_
 rotate_left
 ·simp only [Act.put, List.setIfInBounds_toArray, List.set_cons_zero, List.set_cons_succ, i64_w, i32_w]
  rfl
 refine pure_ (i := 5) (N := some 21) (v := undef) (a' := ?_) (lm 11 63) rfl rfl (by kernel_rfl) (fun _ _ _ h => h) (Or.inr ⟨by rfl, rfl⟩) ?_ ?_
 rotate_left
 ·simp only [Act.put, List.setIfInBounds_toArray, List.set_cons_zero, List.set_cons_succ, i64_w, i32_w]
  rfl
 refine pure_ (i := 6) (N := some 22) (v := undef) (a' := ?_) (lm 11 127) rfl rfl (by kernel_rfl) (fun _ _ _ h => h) (Or.inr ⟨by rfl, rfl⟩) ?_ ?_
 rotate_left
 ·simp only [Act.put, List.setIfInBounds_toArray, List.set_cons_zero, List.set_cons_succ, i64_w, i32_w]
  rfl
 refine pure_ (i := 7) (N := some 23) (v := undef) (a' := ?_) (lm 11 255) rfl rfl (by kernel_rfl) (fun _ _ _ h => h) (Or.inr ⟨by rfl, rfl⟩) ?_ ?_
 rotate_left
 ·simp only [Act.put, List.setIfInBounds_toArray, List.set_cons_zero, List.set_cons_succ, i64_w, i32_w]
  rfl
 refine pure_ (i := 8) (N := some 24) (v := undef) (a' := ?_) (lm 11 511) rfl rfl (by kernel_rfl) (fun _ _ _ h => h) (Or.inr ⟨by rfl, rfl⟩) ?_ ?_
 rotate_left
 ·simp only [Act.put, List.setIfInBounds_toArray, List.set_cons_zero, List.set_cons_succ, i64_w, i32_w]
  rfl
 refine sP (i := 9) (N := some 25) (lm 11 1023) ?_
 refine sP (i := 10) (N := some 4) (lm 11 2047) ?_
 refine done_ (by kernel_rfl) ?_
 go_wp2
 go_ret
 exact ⟨rfl, HB.out⟩
set_option maxHeartbeats 4000000 in
set_option maxRecDepth 100000 in
theorem ProveTruth_ok {A0 : Option Addr} {c0 : Nat} {l0 : List S109} {A1 : Option Addr} {c1 : Nat} {l1 : List S110} (wg : Int) {Al : Option Addr} {cl : Nat} {l : List Int} {w : World} (ht : Tab A0 c0 l0 A1 c1 l1 w) (hrl : Kd.C (Kd.int .i64) w Al l.length l) (hcl : l.length ≤ cl) (hll : l.length ≤ 1000000) (he : checkT l0 l1 wg = 0) (ha : areB l0 l1 l = true) :
  Calls Try.prog 60 #[.agg #[.slice A0 l0.length c0, .slice A1 l1.length c1, .int .i64 wg], .slice Al l.length cl] w fun e w' => e = .returned (.bool (isT l0 l1.length wg l)) ∧ Below w.heap.size w w' := by
 have hu35 := Try.underlying35
 have hu121 := Try.underlying121
 have HT := Aside0.mk ht
 have HRL := Aside0.mk hrl
 have HCL := Aside0.mk hcl
 have HLL := Aside0.mk hll
 clear ht hrl hcl hll
 have HB := Aside0.mk (Below.refl w.heap.size w)
 have HE := Aside0.mk he
 have HN0 := Aside0.mk (checkT_zero he).n0
 have HN1 := Aside0.mk (checkT_zero he).n1
 have HAB := Aside0.mk ha
 have HOW := Aside0.mk (allL_owners l0 l1 l (areB_mem.1 ha))
 clear he ha
 go_enter Try.func60, Try.ntmps60
 go_wp2_with (first | ((with_reducible refine gate_dst (N := 2) rfl ?_); refine sbox (N := 2) #[.slice A0 l0.length c0, .slice A1 l1.length c1, .int .i64 wg] 35 ?_; intro g2 hg W_ hbox hb; have GEg2 := Aside0.mk (by rw [hg]; exact HB.out.size : w.heap.size ≤ g2); replace HB := Aside0.mk (below_step HB.out hb); have BKg2 := Aside0.mk hbox; clear hb hbox hg; have hcz0 := sc 0 BKg2; have hcz1 := sc 1 BKg2; have hcz2 := sc 2 BKg2) | (go_at_call 61; go_must (refine (check_calls wg (HT.out.below HB.out)).mono ?_; rintro e W_ ⟨rfl, hb⟩; replace BKg2 := Aside0.mk (blk_below BKg2.out hb); replace HB := Aside0.mk (below_step HB.out hb); clear hb hcz0 hcz1 hcz2; rw [HE.out]; have hcz0 := sc 0 BKg2; have hcz1 := sc 1 BKg2; have hcz2 := sc 2 BKg2)) | (go_at_call 83; go_must (refine (listed_calls A0 c0 l0 A1 c1 l1 wg Al cl l _ (HT.out.below HB.out).r0 HT.out.h0 (HT.out.below HB.out).r1 HT.out.h1 (Kd.C_below HRL.out HB.out) HCL.out HT.out.n0 HN1.out HT.out.ms (by have := HLL.out; omega)).mono ?_; rintro e W_ ⟨o, rfl, ho1, ho2, hb⟩; replace BKg2 := Aside0.mk (blk_below BKg2.out hb); replace HB := Aside0.mk (below_step HB.out hb); clear hb hcz0 hcz1 hcz2; have HO1 := Aside0.mk ho1; have HO2 := Aside0.mk ho2; clear ho1 ho2; have ho_ : o = pad l := pad_of (HO1.out HAB.out) HO2.out; subst ho_; unfold ac; rw [HAB.out])))
 have hb := below_alloc (Below.refl W_.heap.size W_) (.cells #[.int .i64 (pad l 0), .int .i64 (pad l 1), .int .i64 (pad l 2), .int .i64 (pad l 3), .int .i64 (pad l 4), .int .i64 (pad l 5), .int .i64 (pad l 6)] 121)
 have BKg8 := Aside0.mk (heap_alloc_new W_ (.cells #[.int .i64 (pad l 0), .int .i64 (pad l 1), .int .i64 (pad l 2), .int .i64 (pad l 3), .int .i64 (pad l 4), .int .i64 (pad l 5), .int .i64 (pad l 6)] 121))
 replace BKg2 := Aside0.mk (blk_below BKg2.out hb)
 replace HB := Aside0.mk (below_step HB.out hb)
 clear hb
 try (clear hcz0 hcz1 hcz2)
 generalize W_.alloc (.cells #[.int .i64 (pad l 0), .int .i64 (pad l 1), .int .i64 (pad l 2), .int .i64 (pad l 3), .int .i64 (pad l 4), .int .i64 (pad l 5), .int .i64 (pad l 6)] 121) = W5 at *
 generalize W_.heap.size = g8 at *
 have hcz0 := sc 0 BKg2
 have hcz1 := sc 1 BKg2
 have hcz2 := sc 2 BKg2
 have hca0 := sc 0 BKg8
 have hca1 := sc 1 BKg8
 have hca2 := sc 2 BKg8
 have hca3 := sc 3 BKg8
 have hca4 := sc 4 BKg8
 have hca5 := sc 5 BKg8
 have hca6 := sc 6 BKg8
 refine start_ (n := 11) (S := fun w' => w'.cell? ⟨g2, 0, none⟩ = some (.slice A0 l0.length c0) ∧ w'.cell? ⟨g2, 1, none⟩ = some (.slice A1 l1.length c1) ∧ w'.cell? ⟨g2, 2, none⟩ = some (.int .i64 wg) ∧ w'.cell? ⟨g8, 0, none⟩ = some (.int .i64 (pad l 0)) ∧ w'.cell? ⟨g8, 1, none⟩ = some (.int .i64 (pad l 1)) ∧ w'.cell? ⟨g8, 2, none⟩ = some (.int .i64 (pad l 2)) ∧ w'.cell? ⟨g8, 3, none⟩ = some (.int .i64 (pad l 3)) ∧ w'.cell? ⟨g8, 4, none⟩ = some (.int .i64 (pad l 4)) ∧ w'.cell? ⟨g8, 5, none⟩ = some (.int .i64 (pad l 5)) ∧ w'.cell? ⟨g8, 6, none⟩ = some (.int .i64 (pad l 6))) (ds := []) (lm 11 0) (by kernel_rfl) rfl (by kernel_rfl) ⟨hcz0, hcz1, hcz2, hca0, hca1, hca2, hca3, hca4, hca5, hca6⟩ (fun hHeld => ?_)
 have hb := below_drew1 (Below.refl W5.heap.size W5)
 replace BKg2 := Aside0.mk (blk_below BKg2.out hb)
 replace BKg8 := Aside0.mk (blk_below BKg8.out hb)
 replace HB := Aside0.mk (below_step HB.out hb)
 replace hcz0 := (hb.cell (World.block_lt_of_cell? _ _ hcz0)).trans hcz0
 replace hcz1 := (hb.cell (World.block_lt_of_cell? _ _ hcz1)).trans hcz1
 replace hcz2 := (hb.cell (World.block_lt_of_cell? _ _ hcz2)).trans hcz2
 replace hca0 := (hb.cell (World.block_lt_of_cell? _ _ hca0)).trans hca0
 replace hca1 := (hb.cell (World.block_lt_of_cell? _ _ hca1)).trans hca1
 replace hca2 := (hb.cell (World.block_lt_of_cell? _ _ hca2)).trans hca2
 replace hca3 := (hb.cell (World.block_lt_of_cell? _ _ hca3)).trans hca3
 replace hca4 := (hb.cell (World.block_lt_of_cell? _ _ hca4)).trans hca4
 replace hca5 := (hb.cell (World.block_lt_of_cell? _ _ hca5)).trans hca5
 replace hca6 := (hb.cell (World.block_lt_of_cell? _ _ hca6)).trans hca6
 generalize W5.drew = W6 at *
 clear hb
 refine sP (i := 0) (N := some 16) (lm 11 1) ?_
 refine sP (i := 1) (N := some 17) (lm 11 3) ?_
 refine sP (i := 6) (N := some 22) (lm 11 67) ?_
 refine take_ (i := 2) (N := some 18) (v := ?_) (a' := ?_) (lm 11 71) rfl rfl (by kernel_rfl) (fun _ _ _ h => h) (Or.inl ⟨by rfl, ?_⟩) hHeld ?_ ?_
 rotate_left
 ·rintro w' ⟨s0, s1, s2, s3, s4, s5, s6, s7, s8, s9⟩
  go_simp
  with_reducible rfl
 rotate_left
 ·simp only [Act.put, List.setIfInBounds_toArray, List.set_cons_zero, List.set_cons_succ, i64_w, i32_w]
  rfl
 refine take_ (i := 3) (N := some 19) (v := ?_) (a' := ?_) (lm 11 79) rfl rfl (by kernel_rfl) (fun _ _ _ h => h) (Or.inl ⟨by rfl, ?_⟩) hHeld ?_ ?_
 rotate_left
 ·rintro w' ⟨s0, s1, s2, s3, s4, s5, s6, s7, s8, s9⟩
  go_simp
  with_reducible rfl
 rotate_left
 ·simp only [Act.put, List.setIfInBounds_toArray, List.set_cons_zero, List.set_cons_succ, i64_w, i32_w]
  rfl
 refine take_ (i := 7) (N := some 23) (v := ?_) (a' := ?_) (lm 11 207) rfl rfl (by kernel_rfl) (fun _ _ _ h => h) (Or.inl ⟨by rfl, ?_⟩) hHeld ?_ ?_
 rotate_left
 ·rintro w' ⟨s0, s1, s2, s3, s4, s5, s6, s7, s8, s9⟩
  go_simp
  with_reducible rfl
 rotate_left
 ·simp only [Act.put, List.setIfInBounds_toArray, List.set_cons_zero, List.set_cons_succ, i64_w, i32_w]
  rfl
 refine one_ (i := 4) (N := some 20) (lm 11 223) rfl rfl (by kernel_rfl) (by decide) (fun K hK => ?_)
 refine goes_ Try.func86 (by kernel_rfl) rfl #[.agg #[.slice A0 l0.length c0, .slice A1 l1.length c1, .int .i64 wg], .agg #[.int .i64 (pad l 0), .int .i64 (pad l 1), .int .i64 (pad l 2), .int .i64 (pad l 3), .int .i64 (pad l 4), .int .i64 (pad l 5), .int .i64 (pad l 6)]] (by rfl) rfl rfl (by simp only [List.map_toArray, List.map_cons, List.map_nil]; rfl) ?_
 with_reducible refine (wrong_calls A0 c0 l0 A1 c1 l1 wg (pad l) W6 (HT.out.below HB.out).r0 HT.out.n0 HN1.out HOW.out).mono ?_
 rintro e W7 ⟨v20, rfl, ho, hb⟩
 refine ⟨_, rfl, ?_⟩
 replace hcz0 := (hb.cell (World.block_lt_of_cell? _ _ hcz0)).trans hcz0
 replace hcz1 := (hb.cell (World.block_lt_of_cell? _ _ hcz1)).trans hcz1
 replace hcz2 := (hb.cell (World.block_lt_of_cell? _ _ hcz2)).trans hcz2
 replace hca0 := (hb.cell (World.block_lt_of_cell? _ _ hca0)).trans hca0
 replace hca1 := (hb.cell (World.block_lt_of_cell? _ _ hca1)).trans hca1
 replace hca2 := (hb.cell (World.block_lt_of_cell? _ _ hca2)).trans hca2
 replace hca3 := (hb.cell (World.block_lt_of_cell? _ _ hca3)).trans hca3
 replace hca4 := (hb.cell (World.block_lt_of_cell? _ _ hca4)).trans hca4
 replace hca5 := (hb.cell (World.block_lt_of_cell? _ _ hca5)).trans hca5
 replace hca6 := (hb.cell (World.block_lt_of_cell? _ _ hca6)).trans hca6
 replace BKg2 := Aside0.mk (blk_below BKg2.out hb)
 replace BKg8 := Aside0.mk (blk_below BKg8.out hb)
 replace HB := Aside0.mk (below_step HB.out hb)
 obtain ⟨Ab, cb, eb⟩ := Kd.R_slice ho
 subst eb
 clear ho
 clear hb
 refine hK.out _ _ ⟨hcz0, hcz1, hcz2, hca0, hca1, hca2, hca3, hca4, hca5, hca6⟩ (fun hHeld => ?_)
 clear hK K
 refine sN ?_
 refine sP (i := 5) (N := some 21) (lm 11 255) ?_
 refine sP (i := 8) (N := some 24) (lm 11 511) ?_
 refine sP (i := 9) (N := some 25) (lm 11 1023) ?_
 refine sP (i := 10) (N := some 4) (lm 11 2047) ?_
 refine done_ (by kernel_rfl) ?_
 go_wp2
 go_ret
 exact ⟨rfl, HB.out⟩
def provedT (l0 : List S109) (l1 : List S110) (wg : Int) (l : List Int) : Bool := decide (checkT l0 l1 wg = 0) && (areB l0 l1 l && isT l0 l1.length wg l)
theorem ProveTruth_calls {A0 : Option Addr} {c0 : Nat} {l0 : List S109} {A1 : Option Addr} {c1 : Nat} {l1 : List S110} (wg : Int) {Al : Option Addr} {cl : Nat} {l : List Int} {w : World} (ht : Tab A0 c0 l0 A1 c1 l1 w) (hrl : Kd.C (Kd.int .i64) w Al l.length l) (hcl : l.length ≤ cl) (hll : l.length ≤ 1000000) :
  Calls Try.prog 60 #[.agg #[.slice A0 l0.length c0, .slice A1 l1.length c1, .int .i64 wg], .slice Al l.length cl] w fun e w' => e = .returned (.bool (provedT l0 l1 wg l)) ∧ Below w.heap.size w w' := by
 unfold provedT
 by_cases he : checkT l0 l1 wg = 0
 ·cases ha : areB l0 l1 l with
  | true => rw [decide_eq_true he]; exact ProveTruth_ok wg ht hrl hcl hll he ha
  | false => rw [decide_eq_true he]; exact ProveTruth_no wg ht hrl hcl hll he ha
 ·rw [decide_eq_false he]; exact ProveTruth_e wg ht hrl hcl hll he
end Go.Proofs.Ytnbbbeghgomnoaa.X
namespace Go.Proofs.Ytnbbbeghgomnoaa.X
open Go.RowKit Go.Proofs.YtnbbbeghgomnoaaW.PrintWords Go.Proofs.YtnbbbeghgomnoaaW.PrintLast Go.Proofs.YtnbbbeghgomnoaaW.PrintMore
set_option maxHeartbeats 4000000 in
set_option maxRecDepth 100000 in
theorem ProveFewest_no {A0 : Option Addr} {c0 : Nat} {l0 : List S109} {A1 : Option Addr} {c1 : Nat} {l1 : List S110} (wg : Int) {Al : Option Addr} {cl : Nat} {l : List Int} {w : World} (ht : Tab A0 c0 l0 A1 c1 l1 w) (hrl : Kd.C (Kd.int .i64) w Al l.length l) (hcl : l.length ≤ cl) (hll : l.length ≤ 1000000) (mny : Int) (he : checkT l0 l1 wg = 0) (ha : areB l0 l1 l = false) :
  Calls Try.prog 40 #[.agg #[.slice A0 l0.length c0, .slice A1 l1.length c1, .int .i64 wg], .slice Al l.length cl, .int .i64 mny] w fun e w' => e = .returned (.bool false) ∧ Below w.heap.size w w' := by
 have hu35 := Try.underlying35
 have hu121 := Try.underlying121
 have HT := Aside0.mk ht
 have HRL := Aside0.mk hrl
 have HCL := Aside0.mk hcl
 have HLL := Aside0.mk hll
 clear ht hrl hcl hll
 have HB := Aside0.mk (Below.refl w.heap.size w)
 have HE := Aside0.mk he
 have HN0 := Aside0.mk (checkT_zero he).n0
 have HN1 := Aside0.mk (checkT_zero he).n1
 have HAB := Aside0.mk ha
 clear he ha
 go_enter Try.func40, Try.ntmps40
 go_wp2_with (first | ((with_reducible refine gate_dst (N := 3) rfl ?_); refine sbox (N := 3) #[.slice A0 l0.length c0, .slice A1 l1.length c1, .int .i64 wg] 35 ?_; intro g2 hg W_ hbox hb; have GEg2 := Aside0.mk (by rw [hg]; exact HB.out.size : w.heap.size ≤ g2); replace HB := Aside0.mk (below_step HB.out hb); have BKg2 := Aside0.mk hbox; clear hb hbox hg; have hcz0 := sc 0 BKg2; have hcz1 := sc 1 BKg2; have hcz2 := sc 2 BKg2) | (go_at_call 83; go_must (refine (listed_calls A0 c0 l0 A1 c1 l1 wg Al cl l _ (HT.out.below HB.out).r0 HT.out.h0 (HT.out.below HB.out).r1 HT.out.h1 (Kd.C_below HRL.out HB.out) HCL.out HT.out.n0 HN1.out HT.out.ms (by have := HLL.out; omega)).mono ?_; rintro e W_ ⟨o, rfl, ho1, ho2, hb⟩; replace BKg2 := Aside0.mk (blk_below BKg2.out hb); replace HB := Aside0.mk (below_step HB.out hb); clear hb hcz0 hcz1 hcz2; have HO1 := Aside0.mk ho1; have HO2 := Aside0.mk ho2; clear ho1 ho2; unfold ac; rw [HAB.out])))
 go_ret
 exact ⟨rfl, below_alloc HB.out _⟩
set_option maxHeartbeats 4000000 in
set_option maxRecDepth 100000 in
theorem ProveFewest_nt {A0 : Option Addr} {c0 : Nat} {l0 : List S109} {A1 : Option Addr} {c1 : Nat} {l1 : List S110} (wg : Int) {Al : Option Addr} {cl : Nat} {l : List Int} {w : World} (ht : Tab A0 c0 l0 A1 c1 l1 w) (hrl : Kd.C (Kd.int .i64) w Al l.length l) (hcl : l.length ≤ cl) (hll : l.length ≤ 1000000) (mny : Int) (he : checkT l0 l1 wg = 0) (ha : areB l0 l1 l = true) (hi : isT l0 l1.length wg l = false) :
  Calls Try.prog 40 #[.agg #[.slice A0 l0.length c0, .slice A1 l1.length c1, .int .i64 wg], .slice Al l.length cl, .int .i64 mny] w fun e w' => e = .returned (.bool false) ∧ Below w.heap.size w w' := by
 have hu35 := Try.underlying35
 have hu121 := Try.underlying121
 have HT := Aside0.mk ht
 have HRL := Aside0.mk hrl
 have HCL := Aside0.mk hcl
 have HLL := Aside0.mk hll
 clear ht hrl hcl hll
 have HB := Aside0.mk (Below.refl w.heap.size w)
 have HE := Aside0.mk he
 have HN0 := Aside0.mk (checkT_zero he).n0
 have HN1 := Aside0.mk (checkT_zero he).n1
 have HAB := Aside0.mk ha
 clear he ha
 have HIT := Aside0.mk hi
 clear hi
 go_enter Try.func40, Try.ntmps40
 go_wp2_with (first | ((with_reducible refine gate_dst (N := 3) rfl ?_); refine sbox (N := 3) #[.slice A0 l0.length c0, .slice A1 l1.length c1, .int .i64 wg] 35 ?_; intro g2 hg W_ hbox hb; have GEg2 := Aside0.mk (by rw [hg]; exact HB.out.size : w.heap.size ≤ g2); replace HB := Aside0.mk (below_step HB.out hb); have BKg2 := Aside0.mk hbox; clear hb hbox hg; have hcz0 := sc 0 BKg2; have hcz1 := sc 1 BKg2; have hcz2 := sc 2 BKg2) | (go_at_call 83; go_must (refine (listed_calls A0 c0 l0 A1 c1 l1 wg Al cl l _ (HT.out.below HB.out).r0 HT.out.h0 (HT.out.below HB.out).r1 HT.out.h1 (Kd.C_below HRL.out HB.out) HCL.out HT.out.n0 HN1.out HT.out.ms (by have := HLL.out; omega)).mono ?_; rintro e W_ ⟨o, rfl, ho1, ho2, hb⟩; replace BKg2 := Aside0.mk (blk_below BKg2.out hb); replace HB := Aside0.mk (below_step HB.out hb); clear hb hcz0 hcz1 hcz2; have HO1 := Aside0.mk ho1; have HO2 := Aside0.mk ho2; clear ho1 ho2; have ho_ : o = pad l := pad_of (HO1.out HAB.out) HO2.out; subst ho_; unfold ac; rw [HAB.out]; have hczz : ∀ o, (W_.alloc o).cell? ⟨g2, 0, none⟩ = some (.slice A0 l0.length c0) := fun o => (blk_cell (blk_alloc BKg2.out o) 0).trans rfl; have hczy : ∀ o, (W_.alloc o).cell? ⟨g2, 1, none⟩ = some (.slice A1 l1.length c1) := fun o => (blk_cell (blk_alloc BKg2.out o) 1).trans rfl; have hczx : ∀ o, (W_.alloc o).cell? ⟨g2, 2, none⟩ = some (.int .i64 wg) := fun o => (blk_cell (blk_alloc BKg2.out o) 2).trans rfl)) | (go_at_call 60; go_must (have HBA := Aside0.mk (below_alloc HB.out (.cells #[.int .i64 (pad l 0), .int .i64 (pad l 1), .int .i64 (pad l 2), .int .i64 (pad l 3), .int .i64 (pad l 4), .int .i64 (pad l 5), .int .i64 (pad l 6)] 121)); refine (ProveTruth_ok wg (HT.out.below HBA.out) (Kd.C_below HRL.out HBA.out) HCL.out HLL.out HE.out HAB.out).mono ?_; rintro e W4 ⟨rfl, hb⟩; rw [HIT.out]; have HB4 := Aside0.mk (below_step HBA.out hb); clear hb)))
 go_ret
 exact ⟨rfl, HB4.out⟩
set_option maxHeartbeats 4000000 in
set_option maxRecDepth 100000 in
theorem ProveFewest_ok {A0 : Option Addr} {c0 : Nat} {l0 : List S109} {A1 : Option Addr} {c1 : Nat} {l1 : List S110} (wg : Int) {Al : Option Addr} {cl : Nat} {l : List Int} {w : World} (ht : Tab A0 c0 l0 A1 c1 l1 w) (hrl : Kd.C (Kd.int .i64) w Al l.length l) (hcl : l.length ≤ cl) (hll : l.length ≤ 1000000) (mny : Int) (he : checkT l0 l1 wg = 0) (ha : areB l0 l1 l = true) (hi : isT l0 l1.length wg l = true) :
  Calls Try.prog 40 #[.agg #[.slice A0 l0.length c0, .slice A1 l1.length c1, .int .i64 wg], .slice Al l.length cl, .int .i64 mny] w fun e w' => e = .returned (.bool (decide (lostN l1 (pad l) ≤ mny))) ∧ Below w.heap.size w w' := by
 have hu35 := Try.underlying35
 have hu121 := Try.underlying121
 have HT := Aside0.mk ht
 have HRL := Aside0.mk hrl
 have HCL := Aside0.mk hcl
 have HLL := Aside0.mk hll
 clear ht hrl hcl hll
 have HB := Aside0.mk (Below.refl w.heap.size w)
 have HE := Aside0.mk he
 have HN0 := Aside0.mk (checkT_zero he).n0
 have HN1 := Aside0.mk (checkT_zero he).n1
 have HAB := Aside0.mk ha
 clear he ha
 have HIT := Aside0.mk hi
 clear hi
 go_enter Try.func40, Try.ntmps40
 go_wp2_with (first | ((with_reducible refine gate_dst (N := 3) rfl ?_); refine sbox (N := 3) #[.slice A0 l0.length c0, .slice A1 l1.length c1, .int .i64 wg] 35 ?_; intro g2 hg W_ hbox hb; have GEg2 := Aside0.mk (by rw [hg]; exact HB.out.size : w.heap.size ≤ g2); replace HB := Aside0.mk (below_step HB.out hb); have BKg2 := Aside0.mk hbox; clear hb hbox hg; have hcz0 := sc 0 BKg2; have hcz1 := sc 1 BKg2; have hcz2 := sc 2 BKg2) | (go_at_call 83; go_must (refine (listed_calls A0 c0 l0 A1 c1 l1 wg Al cl l _ (HT.out.below HB.out).r0 HT.out.h0 (HT.out.below HB.out).r1 HT.out.h1 (Kd.C_below HRL.out HB.out) HCL.out HT.out.n0 HN1.out HT.out.ms (by have := HLL.out; omega)).mono ?_; rintro e W_ ⟨o, rfl, ho1, ho2, hb⟩; replace BKg2 := Aside0.mk (blk_below BKg2.out hb); replace HB := Aside0.mk (below_step HB.out hb); clear hb hcz0 hcz1 hcz2; have HO1 := Aside0.mk ho1; have HO2 := Aside0.mk ho2; clear ho1 ho2; have ho_ : o = pad l := pad_of (HO1.out HAB.out) HO2.out; subst ho_; unfold ac; rw [HAB.out]; have hczz : ∀ o, (W_.alloc o).cell? ⟨g2, 0, none⟩ = some (.slice A0 l0.length c0) := fun o => (blk_cell (blk_alloc BKg2.out o) 0).trans rfl; have hczy : ∀ o, (W_.alloc o).cell? ⟨g2, 1, none⟩ = some (.slice A1 l1.length c1) := fun o => (blk_cell (blk_alloc BKg2.out o) 1).trans rfl; have hczx : ∀ o, (W_.alloc o).cell? ⟨g2, 2, none⟩ = some (.int .i64 wg) := fun o => (blk_cell (blk_alloc BKg2.out o) 2).trans rfl)) | (go_at_call 60; go_must (have HBA := Aside0.mk (below_alloc HB.out (.cells #[.int .i64 (pad l 0), .int .i64 (pad l 1), .int .i64 (pad l 2), .int .i64 (pad l 3), .int .i64 (pad l 4), .int .i64 (pad l 5), .int .i64 (pad l 6)] 121)); refine (ProveTruth_ok wg (HT.out.below HBA.out) (Kd.C_below HRL.out HBA.out) HCL.out HLL.out HE.out HAB.out).mono ?_; rintro e W4 ⟨rfl, hb⟩; rw [HIT.out]; have HB4 := Aside0.mk (below_step HBA.out hb); have BK4 := Aside0.mk (blk_below (blk_alloc BKg2.out (.cells #[.int .i64 (pad l 0), .int .i64 (pad l 1), .int .i64 (pad l 2), .int .i64 (pad l 3), .int .i64 (pad l 4), .int .i64 (pad l 5), .int .i64 (pad l 6)] 121)) hb); have BK8 := Aside0.mk (blk_below (heap_alloc_new W_ (.cells #[.int .i64 (pad l 0), .int .i64 (pad l 1), .int .i64 (pad l 2), .int .i64 (pad l 3), .int .i64 (pad l 4), .int .i64 (pad l 5), .int .i64 (pad l 6)] 121)) hb); have hcq0 := sc 0 BK4; have hcq1 := sc 1 BK4; have hcq2 := sc 2 BK4; have hcp0 : W4.cell? ⟨W_.heap.size, 0, none⟩ = some (.int .i64 (pad l 0)) := (blk_cell BK8.out 0).trans rfl; have hcp1 : W4.cell? ⟨W_.heap.size, 1, none⟩ = some (.int .i64 (pad l 1)) := (blk_cell BK8.out 1).trans rfl; have hcp2 : W4.cell? ⟨W_.heap.size, 2, none⟩ = some (.int .i64 (pad l 2)) := (blk_cell BK8.out 2).trans rfl; have hcp3 : W4.cell? ⟨W_.heap.size, 3, none⟩ = some (.int .i64 (pad l 3)) := (blk_cell BK8.out 3).trans rfl; have hcp4 : W4.cell? ⟨W_.heap.size, 4, none⟩ = some (.int .i64 (pad l 4)) := (blk_cell BK8.out 4).trans rfl; have hcp5 : W4.cell? ⟨W_.heap.size, 5, none⟩ = some (.int .i64 (pad l 5)) := (blk_cell BK8.out 5).trans rfl; have hcp6 : W4.cell? ⟨W_.heap.size, 6, none⟩ = some (.int .i64 (pad l 6)) := (blk_cell BK8.out 6).trans rfl; clear hb)) | (go_at_call 82; go_must (refine (astray_calls A0 c0 l0 A1 c1 l1 wg (pad l) W4 (HT.out.below HB4.out).r1 HN1.out).mono ?_; rintro e W8 ⟨v24, rfl, ho, hb⟩; obtain ⟨Ab, cb, eb⟩ := Kd.R_slice ho; subst eb; have HB8 := Aside0.mk (below_step HB4.out hb); clear ho hb)))
 go_ret
 exact ⟨rfl, HB8.out⟩
end Go.Proofs.Ytnbbbeghgomnoaa.X
