/-
  Words and walks that the proof of BundleWhose leans on, part 6 of 7.
-/
import Derived.Test.YtnbbbeghgomnoaaQWhose05
set_option linter.unusedVariables false
set_option linter.unusedSimpArgs false
namespace Go.Proofs.Ytnbbbeghgomnoaa.X
open Go.RowKit Go.Proofs.YtnbbbeghgomnoaaW.PrintWords Go.Proofs.YtnbbbeghgomnoaaW.PrintLast Go.Proofs.YtnbbbeghgomnoaaW.PrintMore
def cvW (x : S85) : S109 := ⟨x.f0, ⟨x.f1.f0, x.f1.f1⟩⟩
def cvP (x : S71) : S110 := ⟨x.f0, x.f1⟩
structure RTab (A0 : Option Addr) (c0 : Nat) (l0 : List S85) (A1 : Option Addr) (c1 : Nat) (l1 : List S71) (w : World) : Prop where
 r0 : Kd.C k85 w A0 l0.length l0
 h0 : l0.length ≤ c0
 r1 : Kd.C k71 w A1 l1.length l1
 h1 : l1.length ≤ c1
 n0 : l0.length ≤ 30
 n1 : l1.length ≤ 30
 ms : ∀ p ∈ l1, p.f0.length ≤ 30
theorem RTab.below {A0 : Option Addr} {c0 : Nat} {l0 : List S85} {A1 : Option Addr} {c1 : Nat} {l1 : List S71} {w w' : World} (h : RTab A0 c0 l0 A1 c1 l1 w) (hb : Below w.heap.size w w') : RTab A0 c0 l0 A1 c1 l1 w' :=
 ⟨Kd.C_below h.r0 hb, h.h0, Kd.C_below h.r1 hb, h.h1, h.n0, h.n1, h.ms⟩
theorem row_set {α : Type} {d : Kd α} {e base t : Nat} {W : World} {v : Value} {xs : List α} {g j : Nat} {cs : Array Value} (h : d.R e W base (fun _ => True) v xs) (hk : W.heap[g]? = some (.cells cs t (0, 0))) (ht : ∀ q ∈ e :: d.E, q ≠ t) (u : Value) : d.R e (W.setCell ⟨g, j, none⟩ u) base (fun _ => True) v xs :=
 Kd.R_mono (Kd.R_far (p := ⟨g, j, none⟩) (Kd.R_bound h) (fun k hb he => by
  obtain ⟨_, _, _, q, hq, cells, hc⟩ := hb
  have he' : k = g := he
  subst he'
  rw [hk] at hc
  injection hc with hc
  injection hc with _ hc
  exact ht q hq hc.symm) u) (fun _ _ => trivial)
theorem row_setRow {α : Type} {d : Kd α} {e base t : Nat} {W : World} {v : Value} {xs : List α} {g : Nat} {cs : Array Value} (h : d.R e W base (fun _ => True) v xs) (hk : W.heap[g]? = some (.cells cs t (0, 0))) (ht : ∀ q ∈ e :: d.E, q ≠ t) (us : Array Value) : d.R e (W.setRow g us) base (fun _ => True) v xs :=
 Kd.R_mono (Kd.R_move (Kd.R_bound h) (fun k hb => by
  obtain ⟨_, _, _, q, hq, cells, hc⟩ := hb
  refine setRow_other W g k us (fun he => ?_)
  subst he
  rw [hk] at hc
  injection hc with hc
  injection hc with _ hc
  exact ht q hq hc.symm)) (fun _ _ => trivial)
theorem e109b : ∀ q ∈ 109 :: k109.E, q ≠ 110 := by decide
theorem e109 : ∀ q ∈ 109 :: k109.E, q ≠ 35 := by decide
theorem e110 : ∀ q ∈ 110 :: k110.E, q ≠ 35 := by decide
theorem cvW_take (l : List S85) (m : Nat) (h : m < l.length) : ((l.take (m + 1)).map cvW) = (l.take m).map cvW ++ [cvW (l.getD m z85)] := by
 rw [List.take_succ_eq_append_getElem h, List.map_append, List.getD_eq_getElem?_getD, List.getElem?_eq_getElem h]; rfl
theorem cvP_take (l : List S71) (m : Nat) (h : m < l.length) : ((l.take (m + 1)).map cvP) = (l.take m).map cvP ++ [cvP (l.getD m z71)] := by
 rw [List.take_succ_eq_append_getElem h, List.map_append, List.getD_eq_getElem?_getD, List.getElem?_eq_getElem h]; rfl
set_option maxHeartbeats 4000000 in
set_option maxRecDepth 100000 in
theorem Table_calls {A0 : Option Addr} {c0 : Nat} {l0 : List S85} {A1 : Option Addr} {c1 : Nat} {l1 : List S71} (wg : Int) {w : World} (ht : RTab A0 c0 l0 A1 c1 l1 w) :
  Calls Try.prog 23 #[.agg #[.slice A0 l0.length c0, .slice A1 l1.length c1, .int .i64 wg]] w fun e w' => ∃ B0 d0 B1 d1, e = .returned (.agg #[.slice B0 l0.length d0, .slice B1 l1.length d1, .int .i64 wg]) ∧ Tab B0 d0 (l0.map cvW) B1 d1 (l1.map cvP) w' ∧ Kd.R k109 109 w' w.heap.size (fun _ => True) (.slice B0 l0.length d0) (l0.map cvW) ∧ Kd.R k110 110 w' w.heap.size (fun _ => True) (.slice B1 l1.length d1) (l1.map cvP) ∧ Below w.heap.size w w' := by
 have hu25 := Try.underlying25
 have hu35 := Try.underlying35
 have hu85 := Try.underlying85
 have hu65 := Try.underlying65
 have hu55 := Try.underlying55
 have hu109 := Try.underlying109
 have hu110 := Try.underlying110
 have hu71 := Try.underlying71
 have HT := Aside0.mk ht
 have hn0 := ht.n0
 have hn1 := ht.n1
 clear ht
 have HB := Aside0.mk (Below.refl w.heap.size w)
 go_enter Try.func23, Try.ntmps23
 go_wp2_with (first | ((with_reducible refine gate_dst (N := 1) rfl ?_); refine sbox (N := 1) #[.slice A0 l0.length c0, .slice A1 l1.length c1, .int .i64 wg] 25 ?_; intro g1 hg W_ hbox hb; have GEg1 := Aside0.mk (by rw [hg]; exact HB.out.size : w.heap.size ≤ g1); replace HB := Aside0.mk (below_step HB.out hb); have BKg1 := Aside0.mk hbox; clear hb hbox hg; have hcz0 := sc 0 BKg1; have hcz1 := sc 1 BKg1; have hcz2 := sc 2 BKg1) | ((with_reducible refine gate_dst (N := 2) rfl ?_); refine sbox (N := 2) #[.slice none 0 0, .slice none 0 0, .int .i64 0] 35 ?_; intro g2 hg W_ hbox hb; have GEg2 := Aside0.mk (by rw [hg]; exact HB.out.size : w.heap.size ≤ g2); replace BKg1 := Aside0.mk (blk_below BKg1.out hb); replace HB := Aside0.mk (below_step HB.out hb); have BKg2 := Aside0.mk hbox; clear hb hbox hg; clear hcz0 hcz1 hcz2; have hcz0 := sc 0 BKg1; have hcz1 := sc 1 BKg1; have hcz2 := sc 2 BKg1))
 have hb := below_alloc (Below.refl W_.heap.size W_) (.cells #[.slice none 0 0, .slice none 0 0, .int .i64 wg] 35)
 have BKg3 := Aside0.mk (heap_alloc_new W_ (.cells #[.slice none 0 0, .slice none 0 0, .int .i64 wg] 35))
 have LT3 := Aside0.mk (And.intro (blk_lt BKg1.out) (blk_lt BKg2.out))
 have GE3 := Aside0.mk HB.out.size
 have GE2 := GEg2
 replace BKg1 := Aside0.mk (blk_below BKg1.out hb)
 replace BKg2 := Aside0.mk (blk_below BKg2.out hb)
 replace HB := Aside0.mk (below_step HB.out hb)
 clear hb hcz0 hcz1 hcz2
 generalize W_.alloc (.cells #[.slice none 0 0, .slice none 0 0, .int .i64 wg] 35) = W1 at *
 generalize W_.heap.size = g3 at *
 go_loopg [4] l0.length (fun kq v4 w' => ∃ (m : Nat) (v0 : Value), v4 = .int .i64 (m : Int) ∧ Aside0 (m + kq = l0.length) ∧ Aside0 (Below w.heap.size w w') ∧ Aside0 (w'.heap[g1]? = some (.cells #[.slice A0 l0.length c0, .slice A1 l1.length c1, .int .i64 wg] 25 (0, 0))) ∧ Aside0 (w'.heap[g2]? = some (.cells #[.slice none 0 0, .slice none 0 0, .int .i64 0] 35 (0, 0))) ∧ Aside0 (w'.heap[g3]? = some (.cells #[v0, .slice none 0 0, .int .i64 wg] 35 (0, 0))) ∧ Aside0 (Kd.R k109 109 w' w.heap.size (fun _ => True) v0 ((l0.take m).map cvW)))
 case atStart => exact ⟨0, .slice none 0 0, rfl, ⟨Nat.zero_add _⟩, HB, BKg1, BKg2, BKg3, ⟨Kd.R_nil _ _ _ _ _⟩⟩
 case round =>
  clear HB BKg1 BKg2 BKg3
  obtain ⟨m, v0, rfl, HM, HB, BKg1, BKg2, BKg3, HO⟩ := hrel
  obtain ⟨Av, cv, ev⟩ := Kd.R_slice HO.out
  have hlm : ((l0.take m).map cvW).length = m := by have := HM.out; simp; omega
  rw [hlm] at ev
  subst ev
  have HLM := Aside0.mk hlm
  clear hlm
  have hcz0 := sc 0 BKg1
  by_cases hlt : m < l0.length
  ·cases gk with
   | zero => have := HM.out; omega
   | succ k1 =>
   obtain ⟨ad0, e0, hx0_0, hx0_1, hx0_2⟩ := at_T85 (HT.out.below HB.out).r0 (m : Int) (by omega) (by omega)
   subst e0
   have hrd : rd_T85 l0 (m : Int) = l0.getD m z85 := rfl
   rw [hrd] at hx0_0 hx0_1 hx0_2
   simp only [Int.toNat_natCast] at hx0_0 hx0_1 hx0_2
   have HTK := Aside0.mk (cvW_take l0 m hlt)
   clear hrd
   generalize l0.getD m z85 = z at *
   have hltz : (m : Int) < (l0.length : Int) := by omega
   have hq0 : ∀ o, (wr.alloc o).cell? ⟨g3, 0, none⟩ = some (.slice Av m cv) := fun o => (blk_cell (blk_alloc BKg3.out o) 0).trans rfl
   have HLT := Aside0.mk hlt
   go_wp2_with (first | ((with_reducible refine gate_builtin (b := .append) (xs := #[.tmp 23, .tmp 34]) rfl ?_); go_must (at_builtin; refine Kd.R_append k109 (w0 := w) w.heap.size rfl (.tmp 23) (.tmp 34) 32 109 (.agg #[(.int .i64 0), (.int .i64 0), (.int .i64 0)]) 24 rfl Try.underlying32 info109 rfl (by decide) (by omega) (.slice Av m cv) ((l0.take m).map cvW) (cvW z) [.int .i64 z.f0, .int .i64 z.f1.f0, .int .i64 z.f1.f1] (fun _ => True) (fun _ => False) rfl (congrArg (fun n => Value.slice (some ⟨n, 0, none⟩) 1 1) (World.size_alloc _ _).symm) ?aP (fun _ hk => hk.elim) ?aF ?aO ?aB ?aS ?aL ?_; (case aP => exact k109_mkM _ _ _ (cvW z)); (case aB => exact (by repeat (first | exact HB.out | apply below_alloc | apply pw_below_drewN | apply below_drew1))); (case aF => exact (fun _ _ => trivial)); (case aO => exact (sR HO)); (case aS => exact (by repeat (first | exact HB.out | apply below_alloc | apply pw_below_drewN | apply below_drew1) : Below w.heap.size w _).size); (case aL => exact (by rw [HLM.out]; omega)); intro v35 W_ ho hb hg hat; have BK3_ := blk_grown (blk_alloc BKg3.out _) hg (Kd.R_ne HO.out BKg3.out (by decide)); have BK1_ := blk_grown (blk_alloc BKg1.out _) hg (Kd.R_ne HO.out BKg1.out (by decide)); have BK2_ := blk_grown (blk_alloc BKg2.out _) hg (Kd.R_ne HO.out BKg2.out (by decide)); obtain ⟨Aw, cw, ew⟩ := Kd.R_slice ho; have hf3 := blk_frozen BK3_ 0; have hx3 : W_.cell? ⟨g3, 0, none⟩ = some (.slice Av m cv) := (blk_cell BK3_ 0).trans rfl; have HBS := Aside0.mk (hb.setCell (p := ⟨g3, 0, none⟩) GE3.out v35); have BK3S := Aside0.mk (blk_put BK3_ 0 v35 rfl); have BK1S := Aside0.mk (blk_far BK1_ (p := ⟨g3, 0, none⟩) (by have := LT3.out; show g1 ≠ g3; omega) v35); have BK2S := Aside0.mk (blk_far BK2_ (p := ⟨g3, 0, none⟩) (by have := LT3.out; show g2 ≠ g3; omega) v35); have HOS := Aside0.mk (row_set (g := g3) (j := 0) ho BK3_ e109 v35); rw [List.length_append, List.length_singleton, HLM.out] at ew; subst ew; clear ho hb hg hat BK3_ BK1_ BK2_)))
   go_wp2
   go_roundg k1
   case measure => omega
   case rel => exact ⟨m + 1, _, by go_num, ⟨by have := HM.out; omega⟩, HBS, BK1S, BK2S, BK3S, ⟨by rw [HTK.out]; exact HOS.out⟩⟩
  ·obtain rfl : m = l0.length := by have := HM.out; omega
   have HOW := Aside0.mk (show Kd.R k109 109 wr w.heap.size (fun _ => True) (.slice Av l0.length cv) (l0.map cvW) from by have h_ := HO.out; rw [List.take_length] at h_; exact h_)
   have HKW := Aside0.mk (And.intro BKg1.out BKg3.out)
   have hcz1 := sc 1 BKg1
   go_wp2
   clear HO HKW hcz0 hcz1 HLM HM hlt
   go_loopg [6] l1.length (fun kq v6 w' => ∃ (m : Nat) (v1 : Value), v6 = .int .i64 (m : Int) ∧ Aside0 (m + kq = l1.length) ∧ Aside0 (Below w.heap.size w w') ∧ Aside0 (w'.heap[g1]? = some (.cells #[.slice A0 l0.length c0, .slice A1 l1.length c1, .int .i64 wg] 25 (0, 0))) ∧ Aside0 (w'.heap[g2]? = some (.cells #[.slice none 0 0, .slice none 0 0, .int .i64 0] 35 (0, 0))) ∧ Aside0 (w'.heap[g3]? = some (.cells #[.slice Av l0.length cv, v1, .int .i64 wg] 35 (0, 0))) ∧ Aside0 (Kd.R k109 109 w' w.heap.size (fun _ => True) (.slice Av l0.length cv) (l0.map cvW)) ∧ Aside0 (Kd.R k110 110 w' w.heap.size (fun _ => True) v1 ((l1.take m).map cvP)))
   case atStart => exact ⟨0, .slice none 0 0, rfl, ⟨Nat.zero_add _⟩, HB, BKg1, BKg2, BKg3, HOW, ⟨Kd.R_nil _ _ _ _ _⟩⟩
   case round =>
    clear HB BKg1 BKg2 BKg3 HOW
    obtain ⟨m, v1, rfl, HM, HB, BKg1, BKg2, BKg3, HOW, HOP⟩ := hrel
    obtain ⟨Ap, cp, ep⟩ := Kd.R_slice HOP.out
    have hlm : ((l1.take m).map cvP).length = m := by have := HM.out; simp; omega
    rw [hlm] at ep
    subst ep
    have HLM := Aside0.mk hlm
    clear hlm
    by_cases hlt : m < l1.length
    ·cases gk with
     | zero => have := HM.out; omega
     | succ k1 =>
     obtain ⟨ad1, A6, c6, e1, hy0, hy1, hl1, hi1⟩ := at_T71 HT.out.r1 (m : Int) (by omega) (by omega)
     have hrd : rd_T71 l1 (m : Int) = l1.getD m z71 := rfl
     rw [hrd] at hy0 hy1 hl1 hi1
     simp only [Int.toNat_natCast] at hy0 hy1
     have hzm : (l1.getD m z71).f0.length ≤ 30 := HT.out.ms _ (by
      rw [List.getD_eq_getElem?_getD, List.getElem?_eq_getElem hlt]
      exact List.getElem_mem hlt)
     have HTK := Aside0.mk (cvP_take l1 m hlt)
     clear hrd
     generalize l1.getD m z71 = z at *
     subst e1
     have HX := Aside0.mk (And.intro hy0 (And.intro hy1 hi1))
     have HZM := Aside0.mk (And.intro hzm hl1)
     clear hy0 hy1 hl1 hi1 hzm
     have hltz : (m : Int) < (l1.length : Int) := by omega
     have hc31 := sc 1 BKg3
     have hc11 := sc 1 BKg1
     have hcx0 := (HB.out.cell (World.block_lt_of_cell? _ _ HX.out.1)).trans HX.out.1
     have hcx1 := (HB.out.cell (World.block_lt_of_cell? _ _ HX.out.2.1)).trans HX.out.2.1
     have HLT := Aside0.mk hlt
     go_wp2_with fail
     refine start_ (n := 20) (S := fun w' => w'.cell? ⟨g3, 1, none⟩ = some (.slice Ap m cp) ∧ w'.cell? ⟨g1, 1, none⟩ = some (.slice (some ad1) l1.length c1) ∧ w'.cell? (ad1.add (m * 2)) = some (.slice A6 z.f0.length c6) ∧ w'.cell? ⟨(ad1.add (m * 2)).block, (ad1.add (m * 2)).off + 1, none⟩ = some (.int .i64 z.f1)) (ds := [19]) (lm 20 0) (by kernel_rfl) rfl (by kernel_rfl) ⟨hc31, hc11, hcx0, hcx1⟩ (fun hHeld => ?_)
     have hb := below_drew1 (Below.refl wr.heap.size wr)
     replace BKg1 := Aside0.mk (blk_below BKg1.out hb)
     replace BKg2 := Aside0.mk (blk_below BKg2.out hb)
     replace BKg3 := Aside0.mk (blk_below BKg3.out hb)
     replace HOW := Aside0.mk (Kd.R_below HOW.out hb)
     replace HOP := Aside0.mk (Kd.R_below HOP.out hb)
     replace HB := Aside0.mk (below_step HB.out hb)
     replace hc31 := (hb.cell (World.block_lt_of_cell? _ _ hc31)).trans hc31
     replace hc11 := (hb.cell (World.block_lt_of_cell? _ _ hc11)).trans hc11
     replace hcx0 := (hb.cell (World.block_lt_of_cell? _ _ hcx0)).trans hcx0
     replace hcx1 := (hb.cell (World.block_lt_of_cell? _ _ hcx1)).trans hcx1
     generalize wr.drew = W7 at *
     clear hb
     have HZ7 := Aside0.mk HB.out.size
     have HL7 := Aside0.mk (Kd.R_lt HOP.out)
     refine sP (i := 0) (N := some 44) (lm 20 1) ?_
     refine sP (i := 2) (N := some 46) (lm 20 5) ?_
     refine sP (i := 4) (N := some 48) (lm 20 21) ?_
     refine sP (i := 9) (N := some 53) (lm 20 533) ?_
     refine sP (i := 11) (N := some 55) (lm 20 2581) ?_
     refine take_ (i := 1) (N := some 45) (v := ?_) (a' := ?_) (lm 20 2583) rfl rfl (by kernel_rfl) (fun _ _ _ h => h) (Or.inl ⟨by rfl, ?_⟩) hHeld ?_ ?_
     rotate_left
     ·rintro w' ⟨s0, s1, s2, s3⟩
      go_simp
      with_reducible rfl
     rotate_left
     ·simp only [Act.put, List.setIfInBounds_toArray, List.set_cons_zero, List.set_cons_succ, i64_w, i32_w]
      rfl
     refine take_ (i := 3) (N := some 47) (v := ?_) (a' := ?_) (lm 20 2591) rfl rfl (by kernel_rfl) (fun _ _ _ h => h) (Or.inl ⟨by rfl, ?_⟩) hHeld ?_ ?_
     rotate_left
     ·rintro w' ⟨s0, s1, s2, s3⟩
      go_simp
      with_reducible rfl
     rotate_left
     ·simp only [Act.put, List.setIfInBounds_toArray, List.set_cons_zero, List.set_cons_succ, i64_w, i32_w]
      rfl
     refine sP (i := 5) (N := some 49) (lm 20 2623) ?_
     refine sP (i := 6) (N := some 50) (lm 20 2687) ?_
     refine take_ (i := 7) (N := some 51) (v := ?_) (a' := ?_) (lm 20 2815) rfl rfl (by kernel_rfl) (fun _ _ _ h => h) (Or.inl ⟨by rfl, ?_⟩) hHeld ?_ ?_
     rotate_left
     ·rintro w' ⟨s0, s1, s2, s3⟩
      go_simp
      with_reducible rfl
     rotate_left
     ·simp only [Act.put, List.setIfInBounds_toArray, List.set_cons_zero, List.set_cons_succ, i64_w, i32_w]
      rfl
     refine take_ (i := 10) (N := some 54) (v := ?_) (a' := ?_) (lm 20 3839) rfl rfl (by kernel_rfl) (fun _ _ _ h => h) (Or.inl ⟨by rfl, ?_⟩) hHeld ?_ ?_
     rotate_left
     ·rintro w' ⟨s0, s1, s2, s3⟩
      go_simp
      with_reducible rfl
     rotate_left
     ·simp only [Act.put, List.setIfInBounds_toArray, List.set_cons_zero, List.set_cons_succ, i64_w, i32_w]
      rfl
     refine sP (i := 12) (N := some 56) (lm 20 7935) ?_
     refine sP (i := 13) (N := some 57) (lm 20 16127) ?_
     refine take_ (i := 14) (N := some 58) (v := ?_) (a' := ?_) (lm 20 32511) rfl rfl (by kernel_rfl) (fun _ _ _ h => h) (Or.inl ⟨by rfl, ?_⟩) hHeld ?_ ?_
     rotate_left
     ·rintro w' ⟨s0, s1, s2, s3⟩
      go_simp
      with_reducible rfl
     rotate_left
     ·simp only [Act.put, List.setIfInBounds_toArray, List.set_cons_zero, List.set_cons_succ, i64_w, i32_w]
      rfl
     refine one_ (i := 8) (N := some 52) (lm 20 32767) rfl rfl (by kernel_rfl) (by decide) (fun K hK => ?_)
     refine goes_ Try.func41 (by kernel_rfl) rfl #[.slice A6 z.f0.length c6] (by rfl) rfl rfl (by simp only [List.map_toArray, List.map_cons, List.map_nil]; rfl) ?_
     with_reducible refine (list_calls A6 c6 z.f0 W7 (Kd.C_below HX.out.2.2 HB.out) (by have := HZM.out.1; omega)).mono ?_
     rintro e W8 ⟨v52, rfl, ho, hb⟩
     refine ⟨_, rfl, ?_⟩
     replace hc31 := (hb.cell (World.block_lt_of_cell? _ _ hc31)).trans hc31
     replace hc11 := (hb.cell (World.block_lt_of_cell? _ _ hc11)).trans hc11
     replace hcx0 := (hb.cell (World.block_lt_of_cell? _ _ hcx0)).trans hcx0
     replace hcx1 := (hb.cell (World.block_lt_of_cell? _ _ hcx1)).trans hcx1
     replace BKg1 := Aside0.mk (blk_below BKg1.out hb)
     replace BKg2 := Aside0.mk (blk_below BKg2.out hb)
     replace BKg3 := Aside0.mk (blk_below BKg3.out hb)
     replace HOW := Aside0.mk (Kd.R_below HOW.out hb)
     replace HOP := Aside0.mk (Kd.R_below HOP.out hb)
     replace HB := Aside0.mk (below_step HB.out hb)
     have HOL := Aside0.mk ho
     obtain ⟨Al, cl, el⟩ := Kd.R_slice HOL.out
     subst el
     clear ho
     clear hb
     refine hK.out _ _ ⟨hc31, hc11, hcx0, hcx1⟩ (fun hHeld => ?_)
     clear hK K
     refine sN ?_
     refine sP (i := 15) (N := some 59) (lm 20 65535) ?_
     refine one_ (i := 16) (N := some 60) (lm 20 131071) rfl rfl (by kernel_rfl) (by decide) (fun K hK => ?_)
     refine value_ (w1 := ?_) (v := ?_) (by rfl) rfl ?_ ?_
     rotate_left 2
     ·go_simp
      constructor
      ·rfl
      ·rfl
     refine hK.out _ _ ⟨((below_alloc (Below.refl _ _) _).cell (World.block_lt_of_cell? _ _ hc31)).trans hc31, ((below_alloc (Below.refl _ _) _).cell (World.block_lt_of_cell? _ _ hc11)).trans hc11, ((below_alloc (Below.refl _ _) _).cell (World.block_lt_of_cell? _ _ hcx0)).trans hcx0, ((below_alloc (Below.refl _ _) _).cell (World.block_lt_of_cell? _ _ hcx1)).trans hcx1⟩ (fun hHeld => ?_)
     clear hK K
     refine sN ?_
     refine one_ (i := 17) (N := some 61) (lm 20 262143) rfl rfl (by kernel_rfl) (by decide) (fun K hK => ?_)
     refine Kd.R_append_step k110 (w0 := w) w.heap.size (by rfl) (.tmp 45) (.tmp 60) 33 110 (.agg #[(.slice none 0 0), (.int .i64 0)]) 32 rfl Try.underlying33 info110 rfl (by decide) (by omega) (.slice Ap m cp) ((l1.take m).map cvP) (cvP z) [.slice Al z.f0.length cl, .int .i64 z.f1] (fun _ => True) (fun k => W7.heap.size ≤ k) rfl rfl ?aP ?aK ?aF ?aO ?aB ?aS ?aL ?_
     (case aP => exact k110_mkM _ _ _ (cvP z) (Kd.R_lower (Kd.R_mono (Kd.R_bound HOL.out) (fun k hk => hk.2.1)) HZ7.out))
     (case aK => exact fun k hk => ⟨trivial, fun he => by have := HL7.out k he.symm; omega⟩)
     (case aF => exact fun _ _ => trivial)
     (case aO => exact HOP.out)
     (case aB => exact HB.out)
     (case aS => exact HB.out.size)
     (case aL => rw [HLM.out]; omega)
     intro v61 W4 ho hb hg hat
     obtain ⟨Aw, cw, ew⟩ := Kd.R_slice ho
     have BK3_ := Aside0.mk (blk_grown BKg3.out hg (Kd.R_ne HOP.out BKg3.out (by decide)))
     have BK1_ := Aside0.mk (blk_grown BKg1.out hg (Kd.R_ne HOP.out BKg1.out (by decide)))
     have BK2_ := Aside0.mk (blk_grown BKg2.out hg (Kd.R_ne HOP.out BKg2.out (by decide)))
     have HOW_ := Aside0.mk (show Kd.R k109 109 W4 w.heap.size (fun _ => True) (.slice Av l0.length cv) (l0.map cvW) from Kd.R_mono (Kd.R_grown (Kd.R_bound HOW.out) hg (fun k hk he => by obtain ⟨_, _, _, q, hq, cells, hc⟩ := hk; obtain ⟨inner, hown⟩ := Kd.R_own HOP.out; obtain ⟨cells2, hc2⟩ := own_typed hown k he.symm; rw [hc] at hc2; injection hc2 with hc2; injection hc2 with _ hc2; exact (e109b q hq) hc2)) (fun _ _ => trivial))
     have HOS_ := Aside0.mk ho
     have HBS_ := Aside0.mk hb
     rw [List.length_append, List.length_singleton, HLM.out] at ew
     subst ew
     clear ho hb hg hat
     refine hK.out _ _ ⟨(blk_cell BK3_.out 1).trans rfl, (blk_cell BK1_.out 1).trans rfl, (HBS_.out.cell (World.block_lt_of_cell? _ _ HX.out.1)).trans HX.out.1, (HBS_.out.cell (World.block_lt_of_cell? _ _ HX.out.2.1)).trans HX.out.2.1⟩ (fun hHeld => ?_)
     clear hK K
     refine sN ?_
     refine sP (i := 18) (N := some 62) (lm 20 524287) ?_
     refine last_ (i := 19) (N := none) (lm 20 1048575) rfl rfl (by kernel_rfl) (by decide) (fun K hK => ?_)
     have hf3 := blk_frozen BK3_.out 1
     have hx3 := sc 1 BK3_
     refine skip_ (w1 := ?_) (by rfl) rfl ?_ ?_
     rotate_left
     ·go_simp
      rfl
     have HBS := Aside0.mk (HBS_.out.setCell (p := ⟨g3, 1, none⟩) GE3.out (.slice Aw (m + 1) cw))
     have BK3S := Aside0.mk (blk_put BK3_.out 1 (.slice Aw (m + 1) cw) rfl)
     have BK1S := Aside0.mk (blk_far BK1_.out (p := ⟨g3, 1, none⟩) (by have := LT3.out; show g1 ≠ g3; omega) (.slice Aw (m + 1) cw))
     have BK2S := Aside0.mk (blk_far BK2_.out (p := ⟨g3, 1, none⟩) (by have := LT3.out; show g2 ≠ g3; omega) (.slice Aw (m + 1) cw))
     have HOS := Aside0.mk (row_set (g := g3) (j := 1) HOS_.out BK3_.out e110 (.slice Aw (m + 1) cw))
     have HOWS := Aside0.mk (row_set (g := g3) (j := 1) HOW_.out BK3_.out e109 (.slice Aw (m + 1) cw))
     refine hK.out _ _ ?_
     clear hK K
     refine done_ (by kernel_rfl) ?_
     go_wp2
     go_roundg k1
     case measure => omega
     case rel => exact ⟨m + 1, _, by go_num, ⟨by have := HM.out; omega⟩, HBS, BK1S, BK2S, BK3S, HOWS, ⟨by rw [HTK.out]; exact HOS.out⟩⟩
    ·obtain rfl : m = l1.length := by have := HM.out; omega
     have hc1 := sc 1 BKg1
     have hd0 := sc 0 BKg3
     have hd1 := sc 1 BKg3
     have hd2 := sc 2 BKg3
     go_wp2_with (first | ((with_reducible refine gate_store (t := 35) (p := 2) rfl ?_); go_must (refine wpList_store_row rfl 35 _ _ rfl g2 #[.slice Av l0.length cv, .slice Ap l1.length cp, .int .i64 wg] rfl rfl 35 (#[.slice none 0 0, .slice none 0 0, .int .i64 0]) BKg2.out rfl rfl (by simp [Value.oneCell']) ?_; have HB9 := Aside0.mk (below_setRow HB.out GE2.out (#[.slice Av l0.length cv, .slice Ap l1.length cp, .int .i64 wg])); have BK9 := Aside0.mk (setRow_heap wr g2 _ (#[.slice Av l0.length cv, .slice Ap l1.length cp, .int .i64 wg]) _ _ BKg2.out); have HOW9 := Aside0.mk (row_setRow HOW.out BKg2.out e109 (#[.slice Av l0.length cv, .slice Ap l1.length cp, .int .i64 wg])); have HOP9 := Aside0.mk (row_setRow HOP.out BKg2.out e110 (#[.slice Av l0.length cv, .slice Ap l1.length cp, .int .i64 wg])); generalize wr.setRow g2 (#[.slice Av l0.length cv, .slice Ap l1.length cp, .int .i64 wg]) = W9 at *)))
     refine bodyPost_ret (results_cell_row rfl _ _ g2 35 #[.slice Av l0.length cv, .slice Ap l1.length cp, .int .i64 wg] (0, 0) _ rfl BK9.out Try.underlying35 rfl (by kernel_rfl)) rfl ?_
     have HOP10 : Kd.R k110 110 W9 w.heap.size (fun _ => True) (.slice Ap l1.length cp) (l1.map cvP) := by have h_ := HOP9.out; rw [List.take_length] at h_; exact h_
     have hw0 : Kd.C k109 W9 Av l0.length (l0.map cvW) := by have h_ := (Kd.R_reads' HOW9.out).2.2; rw [List.length_map] at h_; exact h_
     have hw1 : Kd.C k110 W9 Ap l1.length (l1.map cvP) := by have h_ := HOP9.out; rw [List.take_length] at h_; have h2_ := (Kd.R_reads' h_).2.2; rw [List.length_map] at h2_; exact h2_
     refine ⟨Av, cv, Ap, cp, rfl, ⟨by rw [List.length_map]; exact hw0, by rw [List.length_map]; exact (Kd.R_reads' HOW9.out).2.1, by rw [List.length_map]; exact hw1, by rw [List.length_map]; exact (Kd.R_reads' HOP9.out).2.1, by rw [List.length_map]; exact HT.out.n0, by rw [List.length_map]; exact HT.out.n1, fun p hp => ?_⟩, HOW9.out, HOP10, HB9.out⟩
     obtain ⟨x, hx, rfl⟩ := List.mem_map.1 hp
     exact HT.out.ms x hx
end Go.Proofs.Ytnbbbeghgomnoaa.X
namespace Go.Proofs.Ytnbbbeghgomnoaa.X
open Go.RowKit
def t3w (a c : Int) : List S109 := [⟨1, ⟨a, a⟩⟩, ⟨1, ⟨1, 2⟩⟩, ⟨2, ⟨c, c⟩⟩]
def t3p : List S110 := [⟨[1], 0⟩, ⟨[1, 2], 0⟩, ⟨[1], 1⟩, ⟨[2], 1⟩]
theorem t_check1 : checkT (t3w 2 1) t3p 0 = 0 := by decide
theorem t_check2 : checkT (t3w 2 0) t3p 0 = 0 := by decide
theorem t_check3 : checkT (t3w 4 0) t3p 0 = 0 := by decide
theorem t_ask : askE (t3w 2 1) t3p 0 = 0 := by decide
theorem t_are : areB (t3w 2 1) t3p [0, 0, 1, 2] = true := by decide
theorem t_own : ownL (t3w 2 1).length t3p.length (pad [0, 0, 1, 2]) = [2, 1, 1] := by decide
theorem t_off : sel (off t3p (pad [0, 0, 1, 2])) t3p.length = [3] := by decide
theorem t_truths : truthsL (t3w 2 1) t3p 0 = [[0, 0, 1, 2], [0, 1, 0, 2], [1, 0, 0, 2]] := by decide
theorem t_whose : whoseL (t3w 2 1).length t3p.length (truthsL (t3w 2 1) t3p 0) = [[0, 1], [0, 1], [0, 1], [2]] := by rw [t_truths]; decide
theorem t_bounds : boundsL (fun x => lostN t3p (pad x)) (truthsL (t3w 2 1) t3p 0) = (1, 3) := by rw [t_truths]; decide
theorem t_best : bestL t3p (truthsL (t3w 2 1) t3p 0) = [0, 0, 1, 2] := by rw [t_truths]; decide
theorem t_moves : movesL t3p [0, 0, 1, 2] = [⟨3, 1, 2⟩] := by
 unfold movesL
 rw [t_off]
 rfl
theorem t_miss : missL t3p (truthsL (t3w 2 1) t3p 0) (t3w 2 1).length = [3, 3, 1] := by rw [t_truths]; decide
theorem t_look : lookL (t3w 2 1).length t3p.length (truthsL (t3w 2 1) t3p 0) t3p.length = (0, 2) := by rw [t_truths]; decide
theorem t_first : firstL (t3w 2 0) t3p = (2, 0) := by decide
theorem t_leave : leaveL (t3w 4 0) t3p = [0, 2] := by decide
end Go.Proofs.Ytnbbbeghgomnoaa.X
namespace Go.Proofs.Ytnbbbeghgomnoaa.X
open Go.RowKit Go.Proofs.YtnbbbeghgomnoaaW.PrintWords Go.Proofs.YtnbbbeghgomnoaaW.PrintLast Go.Proofs.YtnbbbeghgomnoaaW.PrintMore
attribute [local go_sem] max2_int min2_int max_two min_two max_three min_three max_four min_four
set_option linter.unusedVariables false
set_option linter.unusedSimpArgs false
def posserlaw03_between.f (a0 : Int) (a1 : Int) : Option (Int × Int) := some (a0, a1)
set_option maxHeartbeats 8000000 in
set_option maxRecDepth 100000 in
theorem posserlaw03_between.calls (a0 : Int) (a1 : Int) (r1 : Int) (r2 : Int) (w : World) (h : posserlaw03_between.f a0 a1 = some (r1, r2)) :
  Calls Try.prog 46 #[.int .i64 a0, .int .i64 a1] w fun e w' => e = .returned (.agg #[.int .i64 r1, .int .i64 r2]) ∧ Below w.heap.size w w' := by
 have hu55 := Try.underlying55
 have HB := Aside0.mk (Below.refl w.heap.size w)
 have H : (some (a0, a1)) = some (r1, r2) := h
 clear h
 simp only [Option.some.injEq, Prod.mk.injEq] at H
 obtain ⟨rfl, rfl⟩ := H
 go_enter Try.func46, Try.ntmps46
 go_wp2_with (first | ((with_reducible refine gate_dst (N := 4) rfl ?_); refine sbox (N := 4) #[.int .i64 0, .int .i64 0] 55 ?_; intro gb358 hg w3 hbox hb; have BK358 := Aside0.mk (hbox); have GW358 := Aside0.mk (sge hg HB : w.heap.size ≤ gb358); have GE358 := Aside0.mk (sge hg HB : w.heap.size ≤ gb358); replace HB := Aside0.mk (sbs HB hb); clear hb hbox hg; have hcz4_0 := sc 0 BK358; have hcz4_1 := sc 1 BK358; have hfz4_0 := blk_frozen BK358.out 0; have hfz4_1 := blk_frozen BK358.out 1))
 refine bodyPost_ret (results_cell_row rfl _ _ gb358 55 #[.int .i64 a0, .int .i64 a1] (0, 0) _ rfl (by (with_reducible repeat (first | refine blk_drewN ?_ _ | refine blk_drew ?_ | refine blk_alloc ?_ _)); refine blk_put (cs := #[.int .i64 a0, .int .i64 0]) ?_ 1 _ rfl; (with_reducible repeat (first | refine blk_drewN ?_ _ | refine blk_drew ?_ | refine blk_alloc ?_ _)); refine blk_put (cs := #[.int .i64 0, .int .i64 0]) ?_ 0 _ rfl; (with_reducible repeat (first | refine blk_drewN ?_ _ | refine blk_drew ?_ | refine blk_alloc ?_ _)); exact BK358.out) Try.underlying55 rfl (by kernel_rfl)) rfl ?_
 exact ⟨by first | rfl | (simp [errW_none, errW_some] <;> rfl) | (simp [*, errW_none, errW_some] <;> rfl), (sbe1 HB GE358)⟩
end Go.Proofs.Ytnbbbeghgomnoaa.X
namespace Go.Proofs.Ytnbbbeghgomnoaa.X
open Go.RowKit Go.Proofs.YtnbbbeghgomnoaaW.PrintWords Go.Proofs.YtnbbbeghgomnoaaW.PrintLast Go.Proofs.YtnbbbeghgomnoaaW.PrintMore
attribute [local go_sem] max2_int min2_int max_two min_two max_three min_three max_four min_four
set_option linter.unusedVariables false
set_option linter.unusedSimpArgs false
def posserlaw03_three.f (a0 : Int) (a1 : Int) (a2 : Int) : Option ((List (S109)) × (List (S110)) × Int) := (posserlaw03_between.f a0 a0).bind fun bt1372 => ((posserlaw03_between.f 1 2).bind fun bt1374 => ((posserlaw03_between.f a1 a1).bind fun bt1376 => (some ((([(⟨1, (⟨bt1372.1, bt1372.2⟩ : S55)⟩ : S109), (⟨1, (⟨bt1374.1, bt1374.2⟩ : S55)⟩ : S109), (⟨2, (⟨bt1376.1, bt1376.2⟩ : S55)⟩ : S109)] : List (S109))), (([(⟨(([1] : List Int)), 0⟩ : S110), (⟨(([1, 2] : List Int)), 0⟩ : S110), (⟨(([1] : List Int)), 1⟩ : S110), (⟨(([2] : List Int)), 1⟩ : S110)] : List (S110))), a2))))
set_option maxHeartbeats 8000000 in
set_option maxRecDepth 100000 in
theorem posserlaw03_three.calls (a0 : Int) (a1 : Int) (a2 : Int) (r1 : List (S109)) (r2 : List (S110)) (r3 : Int) (w : World) (h : posserlaw03_three.f a0 a1 a2 = some (r1, r2, r3)) :
  Calls Try.prog 66 #[.int .i64 a0, .int .i64 a1, .int .i64 a2] w fun e w' => ∃ v0_ v1_ : Value, e = .returned (.agg #[v0_, v1_, .int .i64 r3]) ∧ Kd.R k109 109 w' w.heap.size (fun k_ => (w.heap.size ≤ k_)) v0_ r1 ∧ Kd.N k110 110 w' w.heap.size (fun k_ => (w.heap.size ≤ k_) ∧ some k_ ≠ (v0_ : Value).ownBlock) v1_ r2 ∧ Below w.heap.size w w' := by
 have hu35 := Try.underlying35
 have hu109 := Try.underlying109
 have hu110 := Try.underlying110
 have HB := Aside0.mk (Below.refl w.heap.size w)
 have H : ((posserlaw03_between.f a0 a0).bind fun bt1372 => ((posserlaw03_between.f 1 2).bind fun bt1374 => ((posserlaw03_between.f a1 a1).bind fun bt1376 => (some ((([(⟨1, (⟨bt1372.1, bt1372.2⟩ : S55)⟩ : S109), (⟨1, (⟨bt1374.1, bt1374.2⟩ : S55)⟩ : S109), (⟨2, (⟨bt1376.1, bt1376.2⟩ : S55)⟩ : S109)] : List (S109))), (([(⟨(([1] : List Int)), 0⟩ : S110), (⟨(([1, 2] : List Int)), 0⟩ : S110), (⟨(([1] : List Int)), 1⟩ : S110), (⟨(([2] : List Int)), 1⟩ : S110)] : List (S110))), a2))))) = some (r1, r2, r3) := h
 clear h
 replace H := Option.bind_eq_some_iff.mp H
 obtain ⟨⟨t1372, t1373⟩, A40, H⟩ := H
 replace H : ((posserlaw03_between.f 1 2).bind fun bt1374 => ((posserlaw03_between.f a1 a1).bind fun bt1376 => (some ((([(⟨1, (⟨t1372, t1373⟩ : S55)⟩ : S109), (⟨1, (⟨bt1374.1, bt1374.2⟩ : S55)⟩ : S109), (⟨2, (⟨bt1376.1, bt1376.2⟩ : S55)⟩ : S109)] : List (S109))), (([(⟨(([1] : List Int)), 0⟩ : S110), (⟨(([1, 2] : List Int)), 0⟩ : S110), (⟨(([1] : List Int)), 1⟩ : S110), (⟨(([2] : List Int)), 1⟩ : S110)] : List (S110))), a2)))) = some (r1, r2, r3) := H
 have A4 := Aside0.mk A40
 clear A40
 replace H := Option.bind_eq_some_iff.mp H
 obtain ⟨⟨t1374, t1375⟩, A50, H⟩ := H
 replace H : ((posserlaw03_between.f a1 a1).bind fun bt1376 => (some ((([(⟨1, (⟨t1372, t1373⟩ : S55)⟩ : S109), (⟨1, (⟨t1374, t1375⟩ : S55)⟩ : S109), (⟨2, (⟨bt1376.1, bt1376.2⟩ : S55)⟩ : S109)] : List (S109))), (([(⟨(([1] : List Int)), 0⟩ : S110), (⟨(([1, 2] : List Int)), 0⟩ : S110), (⟨(([1] : List Int)), 1⟩ : S110), (⟨(([2] : List Int)), 1⟩ : S110)] : List (S110))), a2))) = some (r1, r2, r3) := H
 have A5 := Aside0.mk A50
 clear A50
 replace H := Option.bind_eq_some_iff.mp H
 obtain ⟨⟨t1376, t1377⟩, A60, H⟩ := H
 replace H : (some ((([(⟨1, (⟨t1372, t1373⟩ : S55)⟩ : S109), (⟨1, (⟨t1374, t1375⟩ : S55)⟩ : S109), (⟨2, (⟨t1376, t1377⟩ : S55)⟩ : S109)] : List (S109))), (([(⟨(([1] : List Int)), 0⟩ : S110), (⟨(([1, 2] : List Int)), 0⟩ : S110), (⟨(([1] : List Int)), 1⟩ : S110), (⟨(([2] : List Int)), 1⟩ : S110)] : List (S110))), a2)) = some (r1, r2, r3) := H
 have A6 := Aside0.mk A60
 clear A60
 obtain ⟨y1378, hy1378⟩ : ∃ y_ : List (S109), y_ = (([(⟨1, (⟨t1372, t1373⟩ : S55)⟩ : S109), (⟨1, (⟨t1374, t1375⟩ : S55)⟩ : S109), (⟨2, (⟨t1376, t1377⟩ : S55)⟩ : S109)] : List (S109))) := ⟨_, rfl⟩
 replace H : (some (y1378, (([(⟨(([1] : List Int)), 0⟩ : S110), (⟨(([1, 2] : List Int)), 0⟩ : S110), (⟨(([1] : List Int)), 1⟩ : S110), (⟨(([2] : List Int)), 1⟩ : S110)] : List (S110))), a2)) = some (r1, r2, r3) := by first | (rw [hy1378]; with_reducible exact H) | (have H2_ := (Option.bind_some _ _).symm.trans H; rw [hy1378]; with_reducible exact H2_) | (have H2_ := (Option.bind_some _ _).symm.trans H; with_reducible exact H2_) | with_reducible exact H | (rw [hy1378]; exact H) | exact H
 have Ny1378 := Aside0.mk hy1378
 clear hy1378
 obtain ⟨y1381, hy1381⟩ : ∃ y_ : List Int, y_ = (([1] : List Int)) := ⟨_, rfl⟩
 replace H : (some (y1378, (([(⟨y1381, 0⟩ : S110), (⟨(([1, 2] : List Int)), 0⟩ : S110), (⟨(([1] : List Int)), 1⟩ : S110), (⟨(([2] : List Int)), 1⟩ : S110)] : List (S110))), a2)) = some (r1, r2, r3) := by first | (rw [hy1381]; with_reducible exact H) | (have H2_ := (Option.bind_some _ _).symm.trans H; rw [hy1381]; with_reducible exact H2_) | (have H2_ := (Option.bind_some _ _).symm.trans H; with_reducible exact H2_) | with_reducible exact H | (rw [hy1381]; exact H) | exact H
 have Ny1381 := Aside0.mk hy1381
 clear hy1381
 obtain ⟨y1384, hy1384⟩ : ∃ y_ : List Int, y_ = (([1, 2] : List Int)) := ⟨_, rfl⟩
 replace H : (some (y1378, (([(⟨y1381, 0⟩ : S110), (⟨y1384, 0⟩ : S110), (⟨(([1] : List Int)), 1⟩ : S110), (⟨(([2] : List Int)), 1⟩ : S110)] : List (S110))), a2)) = some (r1, r2, r3) := by first | (rw [hy1384]; with_reducible exact H) | (have H2_ := (Option.bind_some _ _).symm.trans H; rw [hy1384]; with_reducible exact H2_) | (have H2_ := (Option.bind_some _ _).symm.trans H; with_reducible exact H2_) | with_reducible exact H | (rw [hy1384]; exact H) | exact H
 have Ny1384 := Aside0.mk hy1384
 clear hy1384
 obtain ⟨y1387, hy1387⟩ : ∃ y_ : List Int, y_ = (([1] : List Int)) := ⟨_, rfl⟩
 replace H : (some (y1378, (([(⟨y1381, 0⟩ : S110), (⟨y1384, 0⟩ : S110), (⟨y1387, 1⟩ : S110), (⟨(([2] : List Int)), 1⟩ : S110)] : List (S110))), a2)) = some (r1, r2, r3) := by first | (rw [hy1387]; with_reducible exact H) | (have H2_ := (Option.bind_some _ _).symm.trans H; rw [hy1387]; with_reducible exact H2_) | (have H2_ := (Option.bind_some _ _).symm.trans H; with_reducible exact H2_) | with_reducible exact H | (rw [hy1387]; exact H) | exact H
 have Ny1387 := Aside0.mk hy1387
 clear hy1387
 obtain ⟨y1390, hy1390⟩ : ∃ y_ : List Int, y_ = (([2] : List Int)) := ⟨_, rfl⟩
 replace H : (some (y1378, (([(⟨y1381, 0⟩ : S110), (⟨y1384, 0⟩ : S110), (⟨y1387, 1⟩ : S110), (⟨y1390, 1⟩ : S110)] : List (S110))), a2)) = some (r1, r2, r3) := by first | (rw [hy1390]; with_reducible exact H) | (have H2_ := (Option.bind_some _ _).symm.trans H; rw [hy1390]; with_reducible exact H2_) | (have H2_ := (Option.bind_some _ _).symm.trans H; with_reducible exact H2_) | with_reducible exact H | (rw [hy1390]; exact H) | exact H
 have Ny1390 := Aside0.mk hy1390
 clear hy1390
 obtain ⟨y1393, hy1393⟩ : ∃ y_ : List (S110), y_ = (([(⟨y1381, 0⟩ : S110), (⟨y1384, 0⟩ : S110), (⟨y1387, 1⟩ : S110), (⟨y1390, 1⟩ : S110)] : List (S110))) := ⟨_, rfl⟩
 replace H : (some (y1378, y1393, a2)) = some (r1, r2, r3) := by first | (rw [hy1393]; with_reducible exact H) | (have H2_ := (Option.bind_some _ _).symm.trans H; rw [hy1393]; with_reducible exact H2_) | (have H2_ := (Option.bind_some _ _).symm.trans H; with_reducible exact H2_) | with_reducible exact H | (rw [hy1393]; exact H) | exact H
 have Ny1393 := Aside0.mk hy1393
 clear hy1393
 simp only [Option.some.injEq, Prod.mk.injEq] at H
 obtain ⟨rfl, rfl, rfl⟩ := H
 go_enter Try.func66, Try.ntmps66
 go_wp2_with (first | ((with_reducible refine gate_dst (N := 6) rfl ?_); refine sbox (N := 6) #[.slice none 0 0, .slice none 0 0, .int .i64 0] 35 ?_; intro gb1371 hg w7 hbox hb; have BK1371 := Aside0.mk (hbox); have GW1371 := Aside0.mk (sge hg HB : w.heap.size ≤ gb1371); have GE1371 := Aside0.mk (sge hg HB : w.heap.size ≤ gb1371); replace HB := Aside0.mk (sbs HB hb); clear hb hbox hg) | ((with_reducible refine gate_callee (f := 46) rfl ?_); refine goesL_ (some 9) rfl rfl Try.func46 (by kernel_rfl) rfl #[.int .i64 a0, .int .i64 a0] rfl (by (try simp only [List.map_toArray, List.map_cons, List.map_nil]); first | done | rfl | (simp only [List.length_drop, List.length_take]; rfl)) ?_; (with_reducible refine (posserlaw03_between.calls a0 a0 t1372 t1373 _ A4.out).mono ?_); rintro e w8 ⟨rfl, hb⟩; refine ⟨_, rfl, ?_⟩; replace BK1371 := Aside0.mk (sbb BK1371 hb); replace HB := Aside0.mk (sbs1 HB GE1371 hb); (try clear hb); (try clear hb2); (try clear hk); (try clear hi)) | ((with_reducible refine gate_callee (f := 46) rfl ?_); refine goesL_ (some 11) rfl rfl Try.func46 (by kernel_rfl) rfl #[.int .i64 1, .int .i64 2] rfl (by (try simp only [List.map_toArray, List.map_cons, List.map_nil]); first | done | rfl | (simp only [List.length_drop, List.length_take]; rfl)) ?_; (with_reducible refine (posserlaw03_between.calls 1 2 t1374 t1375 _ A5.out).mono ?_); rintro e w9 ⟨rfl, hb⟩; refine ⟨_, rfl, ?_⟩; replace BK1371 := Aside0.mk (sbb BK1371 hb); replace HB := Aside0.mk (sbs1 HB GE1371 hb); (try clear hb); (try clear hb2); (try clear hk); (try clear hi)) | ((with_reducible refine gate_callee (f := 46) rfl ?_); refine goesL_ (some 15) rfl rfl Try.func46 (by kernel_rfl) rfl #[.int .i64 a1, .int .i64 a1] rfl (by (try simp only [List.map_toArray, List.map_cons, List.map_nil]); first | done | rfl | (simp only [List.length_drop, List.length_take]; rfl)) ?_; (with_reducible refine (posserlaw03_between.calls a1 a1 t1376 t1377 _ A6.out).mono ?_); rintro e w10 ⟨rfl, hb⟩; refine ⟨_, rfl, ?_⟩; replace BK1371 := Aside0.mk (sbb BK1371 hb); replace HB := Aside0.mk (sbs1 HB GE1371 hb); (try clear hb); (try clear hb2); (try clear hk); (try clear hi)) | ((with_reducible refine gate_dst (N := 17) rfl ?_); refine Kd.R_lit k109 _ 109 ?hg (N := 17) ?hd (xs := ([(⟨1, (⟨t1372, t1373⟩ : S55)⟩ : S109), (⟨1, (⟨t1374, t1375⟩ : S55)⟩ : S109), (⟨2, (⟨t1376, t1377⟩ : S55)⟩ : S109)] : List (S109))) (inner := [.int .i64 1, .int .i64 t1372, .int .i64 t1373, .int .i64 1, .int .i64 t1374, .int .i64 t1375, .int .i64 2, .int .i64 t1376, .int .i64 t1377]) (ok := fun _ => True) (okp := fun _ => True) ?hr ?hp (fun _ hk => hk) trivial (Below.refl _ _) (Nat.le_refl _) (by simp) ?_; (case hd => rfl); (case hg => rfl); (case hr => first | (go_simp; done) | (go_simp; rfl)); (case hp => exact (Reps.c3 (show Kd.M k109 _ _ _ (⟨1, (⟨t1372, t1373⟩ : S55)⟩ : S109) [.int .i64 1, .int .i64 t1372, .int .i64 t1373] from (k109_mkM _ _ _ (⟨1, (⟨t1372, t1373⟩ : S55)⟩ : S109) )) (Reps.c3 (show Kd.M k109 _ _ _ (⟨1, (⟨t1374, t1375⟩ : S55)⟩ : S109) [.int .i64 1, .int .i64 t1374, .int .i64 t1375] from (k109_mkM _ _ _ (⟨1, (⟨t1374, t1375⟩ : S55)⟩ : S109) )) (Reps.c3 (show Kd.M k109 _ _ _ (⟨2, (⟨t1376, t1377⟩ : S55)⟩ : S109) [.int .i64 2, .int .i64 t1376, .int .i64 t1377] from (k109_mkM _ _ _ (⟨2, (⟨t1376, t1377⟩ : S55)⟩ : S109) )) (Reps.none _ _))))); intro v1379 w11 ho12 hb hg_ hnew_; clear hg_ hnew_; (first | rw [← Ny1378.out] at ho12 | (simp only [Int.reduceToNat] at ho12; rw [← Ny1378.out] at ho12)); have HO1380 := Aside0.mk (Kd.R_lower (Kd.R_newM (M := fun k_ => (w.heap.size ≤ k_)) ho12 (below_size (sbe1 HB GE1371)) (fun k_ h_ => h_)) (below_size (sbe1 HB GE1371))); replace BK1371 := Aside0.mk (sbb BK1371 hb); replace HB := Aside0.mk (sbs1 HB GE1371 hb); clear hb ho12) | ((with_reducible refine gate_dst (N := 18) rfl ?_); refine Kd.R_lit (Kd.int .i64) _ 3 ?hg (N := 18) ?hd (xs := ([1] : List Int)) (inner := [.int .i64 1]) (ok := fun _ => True) (okp := fun _ => True) ?hr ?hp (fun _ hk => hk) trivial (Below.refl _ _) (Nat.le_refl _) (by simp) ?_; (case hd => rfl); (case hg => rfl); (case hr => first | (go_simp; done) | (go_simp; rfl)); (case hp => exact (Reps.one (show Kd.M (Kd.int .i64) _ _ _ 1 [.int .i64 1] from rfl) (Reps.none _ _))); intro v1382 w13 ho14 hb hg_ hnew_; clear hg_ hnew_; (first | rw [← Ny1381.out] at ho14 | (simp only [Int.reduceToNat] at ho14; rw [← Ny1381.out] at ho14)); have HO1383 := Aside0.mk (Kd.R_lower (Kd.R_newM (M := fun k_ => (w.heap.size ≤ k_)) ho14 (below_size (sbe1 HB GE1371)) (fun k_ h_ => h_)) (below_size (sbe1 HB GE1371))); replace HO1380 := Aside0.mk (Kd.R_below (sR HO1380) hb); replace BK1371 := Aside0.mk (sbb BK1371 hb); replace HB := Aside0.mk (sbs1 HB GE1371 hb); clear hb ho14; obtain ⟨Ao15, co15, eo15⟩ := Kd.R_slice HO1383.out; subst eo15) | ((with_reducible refine gate_dst (N := 20) rfl ?_); refine Kd.R_lit (Kd.int .i64) _ 3 ?hg (N := 20) ?hd (xs := ([1, 2] : List Int)) (inner := [.int .i64 1, .int .i64 2]) (ok := fun _ => True) (okp := fun _ => True) ?hr ?hp (fun _ hk => hk) trivial (Below.refl _ _) (Nat.le_refl _) (by simp) ?_; (case hd => rfl); (case hg => rfl); (case hr => first | (go_simp; done) | (go_simp; rfl)); (case hp => exact (Reps.one (show Kd.M (Kd.int .i64) _ _ _ 1 [.int .i64 1] from rfl) (Reps.one (show Kd.M (Kd.int .i64) _ _ _ 2 [.int .i64 2] from rfl) (Reps.none _ _)))); intro v1385 w16 ho17 hb hg_ hnew_; clear hg_ hnew_; (first | rw [← Ny1384.out] at ho17 | (simp only [Int.reduceToNat] at ho17; rw [← Ny1384.out] at ho17)); have HO1386 := Aside0.mk (Kd.R_lower (Kd.R_new' (Kd.R_newM (M := fun k_ => (w.heap.size ≤ k_)) ho17 (below_size (sbe1 HB GE1371)) (fun k_ h_ => h_)) (Kd.R_lt (sR HO1383))) (below_size (sbe1 HB GE1371))); replace HO1380 := Aside0.mk (Kd.R_below (sR HO1380) hb); replace HO1383 := Aside0.mk (Kd.R_elder' (sR HO1383) (Kd.R_base ho17) hb); replace BK1371 := Aside0.mk (sbb BK1371 hb); replace HB := Aside0.mk (sbs1 HB GE1371 hb); clear hb ho17; obtain ⟨Ao18, co18, eo18⟩ := Kd.R_slice HO1386.out; subst eo18) | ((with_reducible refine gate_dst (N := 22) rfl ?_); refine Kd.R_lit (Kd.int .i64) _ 3 ?hg (N := 22) ?hd (xs := ([1] : List Int)) (inner := [.int .i64 1]) (ok := fun _ => True) (okp := fun _ => True) ?hr ?hp (fun _ hk => hk) trivial (Below.refl _ _) (Nat.le_refl _) (by simp) ?_; (case hd => rfl); (case hg => rfl); (case hr => first | (go_simp; done) | (go_simp; rfl)); (case hp => exact (Reps.one (show Kd.M (Kd.int .i64) _ _ _ 1 [.int .i64 1] from rfl) (Reps.none _ _))); intro v1388 w19 ho20 hb hg_ hnew_; clear hg_ hnew_; (first | rw [← Ny1387.out] at ho20 | (simp only [Int.reduceToNat] at ho20; rw [← Ny1387.out] at ho20)); have HO1389 := Aside0.mk (Kd.R_lower (Kd.R_new' (Kd.R_new' (Kd.R_newM (M := fun k_ => (w.heap.size ≤ k_)) ho20 (below_size (sbe1 HB GE1371)) (fun k_ h_ => h_)) (Kd.R_lt (sR HO1383))) (Kd.R_lt (sR HO1386))) (below_size (sbe1 HB GE1371))); replace HO1380 := Aside0.mk (Kd.R_below (sR HO1380) hb); replace HO1383 := Aside0.mk (Kd.R_elder' (sR HO1383) (Kd.R_base ho20) hb); replace HO1386 := Aside0.mk (Kd.R_elder' (sR HO1386) (Kd.R_base ho20) hb); replace BK1371 := Aside0.mk (sbb BK1371 hb); replace HB := Aside0.mk (sbs1 HB GE1371 hb); clear hb ho20; obtain ⟨Ao21, co21, eo21⟩ := Kd.R_slice HO1389.out; subst eo21) | ((with_reducible refine gate_dst (N := 24) rfl ?_); refine Kd.R_lit (Kd.int .i64) _ 3 ?hg (N := 24) ?hd (xs := ([2] : List Int)) (inner := [.int .i64 2]) (ok := fun _ => True) (okp := fun _ => True) ?hr ?hp (fun _ hk => hk) trivial (Below.refl _ _) (Nat.le_refl _) (by simp) ?_; (case hd => rfl); (case hg => rfl); (case hr => first | (go_simp; done) | (go_simp; rfl)); (case hp => exact (Reps.one (show Kd.M (Kd.int .i64) _ _ _ 2 [.int .i64 2] from rfl) (Reps.none _ _))); intro v1391 w22 ho23 hb hg_ hnew_; clear hg_ hnew_; (first | rw [← Ny1390.out] at ho23 | (simp only [Int.reduceToNat] at ho23; rw [← Ny1390.out] at ho23)); have HO1392 := Aside0.mk (Kd.R_lower (Kd.R_new' (Kd.R_new' (Kd.R_new' (Kd.R_newM (M := fun k_ => (w.heap.size ≤ k_)) ho23 (below_size (sbe1 HB GE1371)) (fun k_ h_ => h_)) (Kd.R_lt (sR HO1383))) (Kd.R_lt (sR HO1386))) (Kd.R_lt (sR HO1389))) (below_size (sbe1 HB GE1371))); replace HO1380 := Aside0.mk (Kd.R_below (sR HO1380) hb); replace HO1383 := Aside0.mk (Kd.R_elder' (sR HO1383) (Kd.R_base ho23) hb); replace HO1386 := Aside0.mk (Kd.R_elder' (sR HO1386) (Kd.R_base ho23) hb); replace HO1389 := Aside0.mk (Kd.R_elder' (sR HO1389) (Kd.R_base ho23) hb); replace BK1371 := Aside0.mk (sbb BK1371 hb); replace HB := Aside0.mk (sbs1 HB GE1371 hb); clear hb ho23; obtain ⟨Ao24, co24, eo24⟩ := Kd.R_slice HO1392.out; subst eo24) | ((with_reducible refine gate_dst (N := 26) rfl ?_); refine Kd.N_lit k110 _ 110 ?hg (N' := 26) ?hd (xs := ([(⟨y1381, 0⟩ : S110), (⟨y1384, 0⟩ : S110), (⟨y1387, 1⟩ : S110), (⟨y1390, 1⟩ : S110)] : List (S110))) (inner := [.slice Ao15 y1381.length co15, .int .i64 0, .slice Ao18 y1384.length co18, .int .i64 0, .slice Ao21 y1387.length co21, .int .i64 1, .slice Ao24 y1390.length co24, .int .i64 1]) (ok := (fun k_ => (w.heap.size ≤ k_) ∧ some k_ ≠ (v1379 : Value).ownBlock ∧ k_ ≠ gb1371)) (okp := (fun k_ => (w.heap.size ≤ k_) ∧ some k_ ≠ (v1379 : Value).ownBlock ∧ k_ ≠ gb1371)) ?hr ?hp (fun _ hk => hk) ((show ∀ k_, w22.heap.size ≤ k_ → (fun k_ => (w.heap.size ≤ k_) ∧ some k_ ≠ (v1379 : Value).ownBlock ∧ k_ ≠ gb1371) k_ from fun k_ hk => ⟨(Nat.le_trans (below_size (sbe1 HB GE1371)) hk), Kd.fresh' (Kd.R_lt (sR HO1380)) k_ hk, Kd.freshB (g := gb1371) (o := .cells #[.slice none 0 0, .slice none 0 0, .int .i64 0] 35 (0, 0)) (sbk BK1371) k_ hk⟩) _ (Nat.le_refl _)) (Below.refl _ _) (Nat.le_refl _) (by simp) ?_; (case hd => rfl); (case hg => rfl); (case hr => first | (go_simp; done) | (go_simp; rfl)); (case hp => exact (Reps.c2 (show Kd.FK k110 _ _ (⟨y1381, 0⟩ : S110) [.slice Ao15 y1381.length co15, .int .i64 0] from (k110_mkF _ _ (⟨y1381, 0⟩ : S110) (Kd.R_reads' (Kd.R_mono (ok' := (fun k_ => (w.heap.size ≤ k_) ∧ some k_ ≠ (v1379 : Value).ownBlock ∧ k_ ≠ gb1371)) (Kd.R_types (Kd.R_apart' (HO1383.out) (Kd.R_typed HO1380.out) (by decide)) BK1371.out (by decide)) (fun k_ hk => ⟨hk.1.1.1.1.1.1, ⟨hk.1.2, hk.2⟩⟩))).2.1 (Kd.R_F (Kd.R_mono (ok' := (fun k_ => (w.heap.size ≤ k_) ∧ some k_ ≠ (v1379 : Value).ownBlock ∧ k_ ≠ gb1371)) (Kd.R_types (Kd.R_apart' (HO1383.out) (Kd.R_typed HO1380.out) (by decide)) BK1371.out (by decide)) (fun k_ hk => ⟨hk.1.1.1.1.1.1, ⟨hk.1.2, hk.2⟩⟩))))) (Reps.c2 (show Kd.FK k110 _ _ (⟨y1384, 0⟩ : S110) [.slice Ao18 y1384.length co18, .int .i64 0] from (k110_mkF _ _ (⟨y1384, 0⟩ : S110) (Kd.R_reads' (Kd.R_mono (ok' := (fun k_ => (w.heap.size ≤ k_) ∧ some k_ ≠ (v1379 : Value).ownBlock ∧ k_ ≠ gb1371)) (Kd.R_types (Kd.R_apart' (HO1386.out) (Kd.R_typed HO1380.out) (by decide)) BK1371.out (by decide)) (fun k_ hk => ⟨hk.1.1.1.1.1.1, ⟨hk.1.2, hk.2⟩⟩))).2.1 (Kd.R_F (Kd.R_mono (ok' := (fun k_ => (w.heap.size ≤ k_) ∧ some k_ ≠ (v1379 : Value).ownBlock ∧ k_ ≠ gb1371)) (Kd.R_types (Kd.R_apart' (HO1386.out) (Kd.R_typed HO1380.out) (by decide)) BK1371.out (by decide)) (fun k_ hk => ⟨hk.1.1.1.1.1.1, ⟨hk.1.2, hk.2⟩⟩))))) (Reps.c2 (show Kd.FK k110 _ _ (⟨y1387, 1⟩ : S110) [.slice Ao21 y1387.length co21, .int .i64 1] from (k110_mkF _ _ (⟨y1387, 1⟩ : S110) (Kd.R_reads' (Kd.R_mono (ok' := (fun k_ => (w.heap.size ≤ k_) ∧ some k_ ≠ (v1379 : Value).ownBlock ∧ k_ ≠ gb1371)) (Kd.R_types (Kd.R_apart' (HO1389.out) (Kd.R_typed HO1380.out) (by decide)) BK1371.out (by decide)) (fun k_ hk => ⟨hk.1.1.1.1.1.1, ⟨hk.1.2, hk.2⟩⟩))).2.1 (Kd.R_F (Kd.R_mono (ok' := (fun k_ => (w.heap.size ≤ k_) ∧ some k_ ≠ (v1379 : Value).ownBlock ∧ k_ ≠ gb1371)) (Kd.R_types (Kd.R_apart' (HO1389.out) (Kd.R_typed HO1380.out) (by decide)) BK1371.out (by decide)) (fun k_ hk => ⟨hk.1.1.1.1.1.1, ⟨hk.1.2, hk.2⟩⟩))))) (Reps.c2 (show Kd.FK k110 _ _ (⟨y1390, 1⟩ : S110) [.slice Ao24 y1390.length co24, .int .i64 1] from (k110_mkF _ _ (⟨y1390, 1⟩ : S110) (Kd.R_reads' (Kd.R_mono (ok' := (fun k_ => (w.heap.size ≤ k_) ∧ some k_ ≠ (v1379 : Value).ownBlock ∧ k_ ≠ gb1371)) (Kd.R_types (Kd.R_apart' (HO1392.out) (Kd.R_typed HO1380.out) (by decide)) BK1371.out (by decide)) (fun k_ hk => ⟨hk.1.1.1.1.1.1, ⟨hk.1.2, hk.2⟩⟩))).2.1 (Kd.R_F (Kd.R_mono (ok' := (fun k_ => (w.heap.size ≤ k_) ∧ some k_ ≠ (v1379 : Value).ownBlock ∧ k_ ≠ gb1371)) (Kd.R_types (Kd.R_apart' (HO1392.out) (Kd.R_typed HO1380.out) (by decide)) BK1371.out (by decide)) (fun k_ hk => ⟨hk.1.1.1.1.1.1, ⟨hk.1.2, hk.2⟩⟩))))) (Reps.none _ _)))))); intro v1394 w25 ho26 hb hg_ hnew_; clear hg_ hnew_; (first | rw [← Ny1393.out] at ho26 | (simp only [Int.reduceToNat] at ho26; rw [← Ny1393.out] at ho26)); have n0_ := Aside0.mk (Kd.R_below (sR HO1380) hb); have n1_ := Aside0.mk (Kd.N_lower ho26 (below_size (sbe1 HB GE1371))); have n2_ := Aside0.mk (sbb BK1371 hb); have n3_ := Aside0.mk (sbs1 HB GE1371 hb); clear HO1380; clear BK1371; clear HB; clear HO1383; clear HO1386; clear HO1389; clear HO1392; have HO1380 := n0_; have HO1395 := n1_; have BK1371 := n2_; have HB := n3_; clear n0_ n1_ n2_ n3_; clear hb ho26; obtain ⟨Ao27, co27, eo27⟩ := Kd.N_slice HO1395.out; subst eo27; obtain ⟨Ao28, co28, eo28⟩ := Kd.R_slice HO1380.out; subst eo28; have hcz29_0 := sc 0 BK1371; have hcz29_1 := sc 1 BK1371; have hcz29_2 := sc 2 BK1371; have hfz29_0 := blk_frozen BK1371.out 0; have hfz29_1 := blk_frozen BK1371.out 1; have hfz29_2 := blk_frozen BK1371.out 2))
 refine bodyPost_ret (results_cell_row rfl _ _ gb1371 35 #[.slice Ao28 y1378.length co28, .slice Ao27 y1393.length co27, .int .i64 a2] (0, 0) _ rfl (by (with_reducible repeat (first | refine blk_drewN ?_ _ | refine blk_drew ?_ | refine blk_alloc ?_ _)); refine blk_put (cs := #[.slice Ao28 y1378.length co28, .slice Ao27 y1393.length co27, .int .i64 0]) ?_ 2 _ rfl; (with_reducible repeat (first | refine blk_drewN ?_ _ | refine blk_drew ?_ | refine blk_alloc ?_ _)); refine blk_put (cs := #[.slice Ao28 y1378.length co28, .slice none 0 0, .int .i64 0]) ?_ 1 _ rfl; (with_reducible repeat (first | refine blk_drewN ?_ _ | refine blk_drew ?_ | refine blk_alloc ?_ _)); refine blk_put (cs := #[.slice none 0 0, .slice none 0 0, .int .i64 0]) ?_ 0 _ rfl; (with_reducible repeat (first | refine blk_drewN ?_ _ | refine blk_drew ?_ | refine blk_alloc ?_ _)); exact BK1371.out) Try.underlying35 rfl (by kernel_rfl)) rfl ?_
 exact ⟨_, _, by first | rfl | (simp [errW_none, errW_some] <;> rfl) | (simp [*, errW_none, errW_some] <;> rfl), by (with_reducible repeat (first | apply Kd.R_alloc | apply Kd.R_drewN | apply Kd.R_drew)); exact Kd.R_mono (Kd.R_far (p := ⟨gb1371, 2, none⟩) (Kd.R_far (p := ⟨gb1371, 1, none⟩) (Kd.R_far (p := ⟨gb1371, 0, none⟩) (Kd.R_types HO1380.out BK1371.out (by decide)) (fun _ hk => hk.2) (.slice Ao28 y1378.length co28)) (fun _ hk => hk.2) (.slice Ao27 y1393.length co27)) (fun _ hk => hk.2) (.int .i64 a2)) (fun _ hk => hk.1.1), by (with_reducible repeat (first | apply Kd.N_alloc | apply Kd.N_drewN | apply Kd.N_drew)); exact Kd.N_mono (Kd.N_far (p := ⟨gb1371, 2, none⟩) (Kd.N_far (p := ⟨gb1371, 1, none⟩) (Kd.N_far (p := ⟨gb1371, 0, none⟩) (Kd.N_mono HO1395.out (fun k_ hk => (⟨hk, hk.2.2⟩ : _ ∧ k_ ≠ gb1371))) (fun _ hk => hk.2) (.slice Ao28 y1378.length co28)) (fun _ hk => hk.2) (.slice Ao27 y1393.length co27)) (fun _ hk => hk.2) (.int .i64 a2)) (fun _ hk => ⟨hk.1.1, hk.1.2.1⟩), (sbe1 HB GE1371)⟩
end Go.Proofs.Ytnbbbeghgomnoaa.X
namespace Go.Proofs.Ytnbbbeghgomnoaa.X
open Go.RowKit Go.Proofs.YtnbbbeghgomnoaaW.PrintWords Go.Proofs.YtnbbbeghgomnoaaW.PrintLast Go.Proofs.YtnbbbeghgomnoaaW.PrintMore
attribute [local go_sem] max2_int min2_int max_two min_two max_three min_three max_four min_four
set_option linter.unusedVariables false
set_option linter.unusedSimpArgs false
def posserlaw03_best.f  : Option (List Int) := some (([0, 0, 1, 2] : List Int))
set_option maxHeartbeats 8000000 in
set_option maxRecDepth 100000 in
theorem posserlaw03_best.calls  (r : List Int) (w : World) (h : posserlaw03_best.f  = some r) :
  Calls Try.prog 67 #[] w fun e w' => ∃ v0_ : Value, e = .returned (v0_) ∧ Kd.R (Kd.int .i64) 3 w' w.heap.size (fun _ => True) v0_ r ∧ Below w.heap.size w w' := by
 have HB := Aside0.mk (Below.refl w.heap.size w)
 have H : (some (([0, 0, 1, 2] : List Int))) = some r := h
 clear h
 obtain ⟨y1396, hy1396⟩ : ∃ y_ : List Int, y_ = (([0, 0, 1, 2] : List Int)) := ⟨_, rfl⟩
 replace H : (some y1396) = some r := by first | (rw [hy1396]; with_reducible exact H) | (have H2_ := (Option.bind_some _ _).symm.trans H; rw [hy1396]; with_reducible exact H2_) | (have H2_ := (Option.bind_some _ _).symm.trans H; with_reducible exact H2_) | with_reducible exact H | (rw [hy1396]; exact H) | exact H
 have Ny1396 := Aside0.mk hy1396
 clear hy1396
 obtain rfl := Option.some.inj H
 go_enter Try.func67, Try.ntmps67
 go_wp2_with (first | ((with_reducible refine gate_dst (N := 1) rfl ?_); refine Kd.R_lit (Kd.int .i64) _ 3 ?hg (N := 1) ?hd (xs := ([0, 0, 1, 2] : List Int)) (inner := [.int .i64 0, .int .i64 0, .int .i64 1, .int .i64 2]) (ok := fun _ => True) (okp := fun _ => True) ?hr ?hp (fun _ hk => hk) trivial (Below.refl _ _) (Nat.le_refl _) (by simp) ?_; (case hd => rfl); (case hg => rfl); (case hr => first | (go_simp; done) | (go_simp; rfl)); (case hp => exact (Reps.one (show Kd.M (Kd.int .i64) _ _ _ 0 [.int .i64 0] from rfl) (Reps.one (show Kd.M (Kd.int .i64) _ _ _ 0 [.int .i64 0] from rfl) (Reps.one (show Kd.M (Kd.int .i64) _ _ _ 1 [.int .i64 1] from rfl) (Reps.one (show Kd.M (Kd.int .i64) _ _ _ 2 [.int .i64 2] from rfl) (Reps.none _ _)))))); intro v1397 w1 ho2 hb hg_ hnew_; clear hg_ hnew_; (first | rw [← Ny1396.out] at ho2 | (simp only [Int.reduceToNat] at ho2; rw [← Ny1396.out] at ho2)); have HO1398 := Aside0.mk (Kd.R_lower ho2 (below_size (sbe HB))); replace HB := Aside0.mk (sbs HB hb); clear hb ho2))
 go_ret
 exact ⟨_, by first | rfl | (simp [errW_none, errW_some] <;> rfl) | (simp [*, errW_none, errW_some] <;> rfl), by (with_reducible repeat (first | apply Kd.R_alloc | apply Kd.R_drewN | apply Kd.R_drew)); exact HO1398.out, (sbe HB)⟩
end Go.Proofs.Ytnbbbeghgomnoaa.X
namespace Go.Proofs.Ytnbbbeghgomnoaa.X
open Go.RowKit Go.Proofs.YtnbbbeghgomnoaaW.PrintWords Go.Proofs.YtnbbbeghgomnoaaW.PrintLast Go.Proofs.YtnbbbeghgomnoaaW.PrintMore
theorem three_tab (a c : Int) (w : World) : Calls Try.prog 66 #[.int .i64 a, .int .i64 c, .int .i64 0] w fun e w' => ∃ B0 d0 B1 d1, e = .returned (.agg #[.slice B0 3 d0, .slice B1 4 d1, .int .i64 0]) ∧ Tab B0 d0 (t3w a c) B1 d1 t3p w' ∧ Below w.heap.size w w' := by
 refine (posserlaw03_three.calls a c 0 (t3w a c) t3p 0 w rfl).mono ?_
 rintro e w' ⟨v0, v1, rfl, h0, h1, hb⟩
 obtain ⟨B0, d0, rfl⟩ := Kd.R_slice h0
 obtain ⟨B1, d1, rfl⟩ := Kd.N_slice h1
 refine ⟨B0, d0, B1, d1, rfl, ⟨(Kd.R_reads' h0).2.2, (Kd.R_reads' h0).2.1, (Kd.N_reads' h1).2.2, (Kd.N_reads' h1).2.1, (show 3 ≤ 30 by omega), (show 4 ≤ 30 by omega), by decide⟩, hb⟩
theorem aw_play {B0 : Option Addr} {d0 : Nat} {B1 : Option Addr} {d1 : Nat} {w : World} (ht : Tab B0 d0 (t3w 2 1) B1 d1 t3p w) {Al : Option Addr} {cl : Nat} (hrl : Kd.C (Kd.int .i64) w Al 4 [0, 0, 1, 2]) (hcl : 4 ≤ cl) :
  Calls Try.prog 50 #[.agg #[.slice B0 3 d0, .slice B1 4 d1, .int .i64 0], .slice Al 4 cl] w fun e w' => ∃ v1 v2, e = .returned (.tuple #[v1, v2, .int .i64 0]) ∧ Kd.R (Kd.int .i64) 3 w' w.heap.size (fun _ => True) v1 [2, 1, 1] ∧ Kd.R (Kd.int .i64) 3 w' w.heap.size (fun _ => True) v2 [3] ∧ Below w.heap.size w w' := by
 have h := Play_ok (l := [0, 0, 1, 2]) 0 ht hrl hcl (by decide) t_check1 t_are
 rw [t_own, t_off] at h
 refine h.mono ?_
 rintro e w' ⟨v1, v2, h1, h2, h3, _, h4⟩
 exact ⟨v1, v2, h1, h2, h3, h4⟩
theorem aw_whose {B0 : Option Addr} {d0 : Nat} {B1 : Option Addr} {d1 : Nat} {w : World} (ht : Tab B0 d0 (t3w 2 1) B1 d1 t3p w) :
  Calls Try.prog 22 #[.agg #[.slice B0 3 d0, .slice B1 4 d1, .int .i64 0]] w fun e w' => ∃ v, e = .returned (.tuple #[v, .int .i64 0]) ∧ Kd.R (Kd.slice 3 (Kd.int .i64)) 39 w' w.heap.size (fun _ => True) v [[0, 1], [0, 1], [0, 1], [2]] ∧ Below w.heap.size w w' := by
 have h := Whose_ok 0 ht t_ask
 rw [t_whose] at h
 exact h
theorem aw_astray {B0 : Option Addr} {d0 : Nat} {B1 : Option Addr} {d1 : Nat} {w : World} (ht : Tab B0 d0 (t3w 2 1) B1 d1 t3p w) :
  Calls Try.prog 37 #[.agg #[.slice B0 3 d0, .slice B1 4 d1, .int .i64 0]] w fun e w' => e = .returned (.tuple #[.agg #[.int .i64 1, .int .i64 3], .int .i64 0]) ∧ Below w.heap.size w w' := by
 have h := Astray_ok 0 ht t_ask
 rw [t_bounds] at h
 exact h
theorem aw_fewest {B0 : Option Addr} {d0 : Nat} {B1 : Option Addr} {d1 : Nat} {w : World} (ht : Tab B0 d0 (t3w 2 1) B1 d1 t3p w) :
  Calls Try.prog 38 #[.agg #[.slice B0 3 d0, .slice B1 4 d1, .int .i64 0]] w fun e w' => ∃ v, e = .returned (.tuple #[v, .int .i64 0]) ∧ Kd.R (Kd.int .i64) 3 w' w.heap.size (fun _ => True) v [0, 0, 1, 2] ∧ Below w.heap.size w w' := by
 have h := Fewest_ok 0 ht t_ask
 rw [t_best] at h
 exact h
theorem aw_moves {B0 : Option Addr} {d0 : Nat} {B1 : Option Addr} {d1 : Nat} {w : World} (ht : Tab B0 d0 (t3w 2 1) B1 d1 t3p w) :
  Calls Try.prog 39 #[.agg #[.slice B0 3 d0, .slice B1 4 d1, .int .i64 0]] w fun e w' => ∃ v, e = .returned (.tuple #[v, .int .i64 0]) ∧ Kd.R k69 69 w' w.heap.size (fun _ => True) v [⟨3, 1, 2⟩] ∧ Below w.heap.size w w' := by
 have h := Moves_ok 0 ht t_ask
 rw [t_best, t_moves] at h
 exact h
theorem aw_misses {B0 : Option Addr} {d0 : Nat} {B1 : Option Addr} {d1 : Nat} {w : World} (ht : Tab B0 d0 (t3w 2 1) B1 d1 t3p w) :
  Calls Try.prog 27 #[.agg #[.slice B0 3 d0, .slice B1 4 d1, .int .i64 0]] w fun e w' => ∃ v, e = .returned (.tuple #[v, .int .i64 0]) ∧ Kd.R (Kd.int .i64) 3 w' w.heap.size (fun _ => True) v [3, 3, 1] ∧ Below w.heap.size w w' := by
 have h := Misses_ok 0 ht t_ask
 rw [t_miss] at h
 exact h
theorem aw_look {B0 : Option Addr} {d0 : Nat} {B1 : Option Addr} {d1 : Nat} {w : World} (ht : Tab B0 d0 (t3w 2 1) B1 d1 t3p w) :
  Calls Try.prog 29 #[.agg #[.slice B0 3 d0, .slice B1 4 d1, .int .i64 0]] w fun e w' => e = .returned (.tuple #[.int .i64 0, .int .i64 2, .int .i64 0]) ∧ Below w.heap.size w w' := by
 have h := Look_ok 0 ht t_ask (by decide)
 rw [t_look] at h
 exact h
theorem aw_first {B0 : Option Addr} {d0 : Nat} {B1 : Option Addr} {d1 : Nat} {w : World} (ht : Tab B0 d0 (t3w 2 0) B1 d1 t3p w) :
  Calls Try.prog 31 #[.agg #[.slice B0 3 d0, .slice B1 4 d1, .int .i64 0]] w fun e w' => e = .returned (.tuple #[.int .i64 2, .int .i64 0]) ∧ Below w.heap.size w w' := by
 have h := First_ok 0 ht t_check2
 rw [t_first] at h
 exact h
theorem aw_leave {B0 : Option Addr} {d0 : Nat} {B1 : Option Addr} {d1 : Nat} {w : World} (ht : Tab B0 d0 (t3w 4 0) B1 d1 t3p w) :
  Calls Try.prog 32 #[.agg #[.slice B0 3 d0, .slice B1 4 d1, .int .i64 0]] w fun e w' => ∃ v, e = .returned (.tuple #[v, .int .i64 0]) ∧ Kd.R (Kd.int .i64) 3 w' w.heap.size (fun _ => True) v [0, 2] ∧ Below w.heap.size w w' := by
 have h := Leave_ok 0 ht t_check3
 rw [t_leave] at h
 exact h
end Go.Proofs.Ytnbbbeghgomnoaa.X
namespace Go.Proofs.Ytnbbbeghgomnoaa.X
open Go.RowKit Go.Proofs.YtnbbbeghgomnoaaW.PrintWords Go.Proofs.YtnbbbeghgomnoaaW.PrintLast Go.Proofs.YtnbbbeghgomnoaaW.PrintMore
attribute [local go_sem] max2_int min2_int max_two min_two max_three min_three max_four min_four
set_option linter.unusedVariables false
set_option linter.unusedSimpArgs false
theorem eqA55 (d : Nat) (w : World) (x0 y0 : Int) (x1 y1 : Int) :
  (Op.equalIn (d + 2) 55 (.agg #[.int .i64 x0, .int .i64 x1]) (.agg #[.int .i64 y0, .int .i64 y1])).run Try.prog w = .ok (x0 == y0 && (x1 == y1)) w := by
 refine eqA_of Try.underlying55 (by kernel_rfl) ?_
 refine eqf_cons (by rfl) (by go_simp; rfl) (by go_simp; rfl) (by go_simp) ?_
 exact eqf_last (by rfl) (by go_simp; rfl) (by go_simp; rfl) (by go_simp)
end Go.Proofs.Ytnbbbeghgomnoaa.X
namespace Go.Proofs.Ytnbbbeghgomnoaa.X
open Go.RowKit Go.Proofs.YtnbbbeghgomnoaaW.PrintWords Go.Proofs.YtnbbbeghgomnoaaW.PrintLast Go.Proofs.YtnbbbeghgomnoaaW.PrintMore
attribute [local go_sem] max2_int min2_int max_two min_two max_three min_three max_four min_four
set_option linter.unusedVariables false
set_option linter.unusedSimpArgs false
theorem eqA69 (d : Nat) (w : World) (x0 y0 : Int) (x1 y1 : Int) (x2 y2 : Int) :
  (Op.equalIn (d + 2) 69 (.agg #[.int .i64 x0, .int .i64 x1, .int .i64 x2]) (.agg #[.int .i64 y0, .int .i64 y1, .int .i64 y2])).run Try.prog w = .ok (x0 == y0 && (x1 == y1 && (x2 == y2))) w := by
 refine eqA_of Try.underlying69 (by kernel_rfl) ?_
 refine eqf_cons (by rfl) (by go_simp; rfl) (by go_simp; rfl) (by go_simp) ?_
 refine eqf_cons (by rfl) (by go_simp; rfl) (by go_simp; rfl) (by go_simp) ?_
 exact eqf_last (by rfl) (by go_simp; rfl) (by go_simp; rfl) (by go_simp)
end Go.Proofs.Ytnbbbeghgomnoaa.X
namespace Go.Proofs.Ytnbbbeghgomnoaa.X
open Go.RowKit Go.Proofs.YtnbbbeghgomnoaaW.PrintWords Go.Proofs.YtnbbbeghgomnoaaW.PrintLast Go.Proofs.YtnbbbeghgomnoaaW.PrintMore
theorem lit_row {W : World} {g : Nat} {l : List Int} (h : W.heap[g]? = some (.cells (l.map (Value.int .i64)).toArray 3 (0, 0))) (hl : l.length ≤ 1000 := by decide) : Kd.C (Kd.int .i64) W (some ⟨g, 0, none⟩) l.length l := by
 refine ⟨rfl, by omega, fun _ => ⟨_, rfl, fun j p hj => ⟨[.int .i64 p], rfl, rfl, fun i u hu => ?_⟩⟩⟩
 have hi : i = 0 := by
  have := (List.getElem?_eq_some_iff.1 hu).1
  simp at this; exact this
 subst hi
 have hu' : Value.int .i64 p = u := by simpa using hu
 subst hu'
 have := (blk_cell h j).trans (by simp [hj] : _ = some (Value.int .i64 p))
 show W.cell? (Addr.add ⟨g, 0, none⟩ (j * 1 + 0)) = _
 rw [Nat.mul_one, Nat.add_zero]
 have ha : Addr.add ⟨g, 0, none⟩ j = ⟨g, j, none⟩ := by
  cases j with
  | zero => rfl
  | succ j => simp [Addr.add]
 rw [ha]
 exact this
theorem at_LL {W : World} {A : Option Addr} {n : Nat} {xs : List (List Int)} (h : Kd.C (Kd.slice 3 (Kd.int .i64)) W A n xs) (i : Nat) (h1 : i < n) : ∃ ad A0 c0, A = some ad ∧ W.cell? (ad.add i) = some (.slice A0 (xs.getD i []).length c0) ∧ (xs.getD i []).length ≤ c0 ∧ Kd.C (Kd.int .i64) W A0 (xs.getD i []).length (xs.getD i []) := by
 obtain ⟨ad, c, e, _, hK, hc0⟩ := Kd.C_get h [] (i : Int) (by omega) (by omega)
 rw [Int.toNat_natCast] at hK hc0
 have hc : ∀ j u, c[j]? = some u → W.cell? (ad.add (i * 1 + j)) = some u := hc0
 obtain ⟨A0, c0, rfl, l0, g0⟩ := hK
 exact ⟨ad, A0, c0, e, by have hq := hc 0 _ rfl; rwa [Nat.mul_one, Nat.add_zero] at hq, l0, g0⟩
attribute [local go_sem high] eqA55 eqA69
def tabAw : List Sm := [([], some 69, [3]), ([0], some 70, [69]), ([1], some 71, [70]), ([2], some 72, [1, 71]), ([2], some 73, [71]), ([3, 4, 2, 2], some 74, [72, 73, 71]), ([2, 5], some 75, [71, 74]), ([6, 5], some 76, [75]), ([7], some 77, [2, 76]), ([7], some 78, [76]), ([8, 9, 7, 7], some 79, [77, 78, 76]), ([7, 10], some 80, [76, 79]), ([11, 10], some 81, [80]), ([12], some 82, [5, 81]), ([13, 12], some 83, [82, 81]), ([12, 14], some 84, [81, 83]), ([15, 12], some 85, [84]), ([16], some 86, [4, 85]), ([17, 16], some 87, [86, 85]), ([18, 16], some 88, [87, 85]), ([16, 19], some 89, [85, 88]), ([20, 16], some 90, [89]), ([21], some 91, [4, 90]), ([22, 21], some 92, [91, 90]), ([23, 21], some 93, [92, 90]), ([21], some 94, [90]), ([24, 25, 21, 21], some 95, [93, 94, 90]), ([21, 26], some 96, [90, 95]), ([27, 26], some 97, [96]), ([28], some 98, [4, 97]), ([29, 28], some 99, [98, 97]), ([30, 28], some 100, [99, 97]), ([28], some 101, [97]), ([31, 32, 28, 28], some 102, [100, 101, 97]), ([28, 33], some 103, [97, 102]), ([34, 33], some 104, [103]), ([35], some 105, [7, 104]), ([36, 35], some 106, [105, 104]), ([35, 37], some 107, [104, 106]), ([38, 35], some 108, [107]), ([39], some 109, [6, 108]), ([39, 39], some 110, [108]), ([40, 41, 39], some 111, [109, 110, 108]), ([39, 42], some 112, [108, 111]), ([43, 41], some 113, [112]), ([44], some 114, [9, 113]), ([45, 44], some 115, [114, 113]), ([44, 46], some 116, [113, 115]), ([47, 44], some 117, [116]), ([48], some 118, [8, 117]), ([48, 48], some 119, [117]), ([49, 50, 50, 48], some 120, [118, 119, 117]), ([48, 51], some 121, [117, 120]), ([52, 51], some 122, [121]), ([53], some 123, [11, 122]), ([54, 53], some 124, [123, 122]), ([53, 55], some 125, [122, 124]), ([56, 53], some 126, [125]), ([57], some 127, [10, 126]), ([58, 57], some 128, [127, 126]), ([59, 57], some 129, [128, 126]), ([57, 60], some 130, [126, 129]), ([61, 57], some 131, [130]), ([62], some 132, [10, 131]), ([63, 62], some 133, [132, 131]), ([64, 62], some 134, [133, 131]), ([62], some 135, [131]), ([65, 66, 62], some 136, [134, 135, 131]), ([62, 67], some 137, [131, 136]), ([68, 62], some 138, [137]), ([69], some 139, [13, 138]), ([70, 69], some 140, [139, 138]), ([69, 71], some 141, [138, 140]), ([72, 69], some 142, [141]), ([73], some 143, [12, 142]), ([73], some 144, [142]), ([74, 75, 73, 73], some 145, [143, 144, 142]), ([73, 76], some 146, [142, 145]), ([77, 76], some 147, [146]), ([78], some 148, [16, 147]), ([79, 78], some 149, [148, 147]), ([78, 80], some 150, [147, 149]), ([81, 78], some 151, [150]), ([82], some 152, [14, 151]), ([83, 82], some 153, [152, 151]), ([82, 84], some 154, [151, 153]), ([85, 82], some 155, [154]), ([86], some 156, [15, 155]), ([87, 86], some 157, [156, 155]), ([86, 88], some 158, [155, 157]), ([89, 86], some 159, [158]), ([90], some 160, [18, 159]), ([91, 90], some 161, [160, 159]), ([90, 92], some 162, [159, 161]), ([93, 90], some 163, [162]), ([94], some 164, [17, 163]), ([95, 94], some 165, [164, 163]), ([94, 96], some 166, [163, 165]), ([97, 94], some 167, [166]), ([98], some 168, [20, 167]), ([99, 98], some 169, [168, 167]), ([98, 100], some 170, [167, 169]), ([101, 98], some 171, [170]), ([102], some 172, [19, 171]), ([102], some 173, [171]), ([103, 104, 102, 102], some 174, [172, 173, 171]), ([102, 105], some 175, [171, 174]), ([106, 105, 0, 1, 2, 3, 4, 5, 6, 7, 8, 9, 10, 11, 12, 13, 14, 15, 16, 17, 18, 19, 20, 21, 22, 23, 24, 25, 26, 27, 28, 29, 30, 31, 32, 33, 34, 35, 36, 37, 38, 39, 40, 41, 42, 43, 44, 45, 46, 47, 48, 49, 50, 51, 52, 53, 54, 55, 56, 57, 58, 59, 60, 61, 62, 63, 64, 65, 66, 67, 68, 69, 70, 71, 72, 73, 74, 75, 76, 77, 78, 79, 80, 81, 82, 83, 84, 85, 86, 87, 88, 89, 90, 91, 92, 93, 94, 95, 96, 97, 98, 99, 100, 101, 102, 103, 104, 105, 106], some 0, [175])]
theorem e3_55 : ∀ q ∈ 3 :: (Kd.int .i64).E, q ≠ 55 := by decide
theorem e39_55 : ∀ q ∈ 39 :: (Kd.slice 3 (Kd.int .i64)).E, q ≠ 55 := by decide
set_option maxHeartbeats 4000000 in
set_option maxRecDepth 100000 in
theorem awake_calls (w : World) : Calls Try.prog 21 #[] w fun e w' => e = .returned (.bool true) ∧ Below w.heap.size w w' := by
 have hu35 := Try.underlying35
 have hu55 := Try.underlying55
 have hu69 := Try.underlying69
 have HB := Aside0.mk (Below.refl w.heap.size w)
 go_enter Try.func21, Try.ntmps21
 go_wp2_with (first | ((with_reducible refine gate_dst (N := 6) rfl ?_); refine sbox (N := 6) #[.int .i64 0, .int .i64 0] 55 ?_; intro g6 hg W_ hbox hb; have GE6 := Aside0.mk (by rw [hg]; exact HB.out.size : w.heap.size ≤ g6); (try (have n_ := Aside0.mk (below_step HB.out hb); clear HB; have HB := n_; clear n_)); (try (have n_ := Aside0.mk (HT.out.below hb); clear HT; have HT := n_; clear n_)); (try (have n_ := Aside0.mk (Kd.R_below HBE.out hb); clear HBE; have HBE := n_; clear n_)); (try (have n_ := Aside0.mk (Kd.R_below HOW.out hb); clear HOW; have HOW := n_; clear n_)); (try (have n_ := Aside0.mk (Kd.R_below HAS.out hb); clear HAS; have HAS := n_; clear n_)); (try (have n_ := Aside0.mk (Kd.R_below HWH.out hb); clear HWH; have HWH := n_; clear n_)); (try (have n_ := Aside0.mk (blk_below BK6.out hb); clear BK6; have BK6 := n_; clear n_)); (try (have n_ := Aside0.mk (Kd.R_below HFE.out hb); clear HFE; have HFE := n_; clear n_)); (try (have n_ := Aside0.mk (Kd.R_below HMO.out hb); clear HMO; have HMO := n_; clear n_)); (try (have n_ := Aside0.mk (Kd.R_below HMI.out hb); clear HMI; have HMI := n_; clear n_)); (try (have n_ := Aside0.mk (Kd.R_below HLE.out hb); clear HLE; have HLE := n_; clear n_)); have BK6 := Aside0.mk hbox; clear hb hbox hg) | ((with_reducible refine gate_store (t := 55) (p := 6) rfl ?_); go_must (refine wpList_store_row rfl 55 _ _ rfl g6 #[.int .i64 1, .int .i64 3] rfl rfl 55 (#[.int .i64 0, .int .i64 0]) BK6.out rfl rfl (by simp [Value.oneCell']) ?_; have h1_ := Aside0.mk (below_setRow HB.out GE6.out (#[.int .i64 1, .int .i64 3])); have h2_ := Aside0.mk (setRow_heap W_ g6 _ (#[.int .i64 1, .int .i64 3]) _ _ BK6.out); have h3_ := Aside0.mk (row_setRow HOW.out BK6.out e3_55 (#[.int .i64 1, .int .i64 3])); have h4_ := Aside0.mk (row_setRow HAS.out BK6.out e3_55 (#[.int .i64 1, .int .i64 3])); have h5_ := Aside0.mk (row_setRow HWH.out BK6.out e39_55 (#[.int .i64 1, .int .i64 3])); clear HB HT HBE BK6 HOW HAS HWH; have HB := h1_; have BK6 := h2_; have HOW := h3_; have HAS := h4_; have HWH := h5_; clear h1_ h2_ h3_ h4_ h5_; generalize W_.setRow g6 (#[.int .i64 1, .int .i64 3]) = W_ at *)) | (go_at_call 66; go_must (refine (three_tab _ _ _).mono ?_; rintro e W_ ⟨B0, d0, B1, d1, rfl, ht, hb⟩; (try (have n_ := Aside0.mk (below_step HB.out hb); clear HB; have HB := n_; clear n_)); (try (have n_ := Aside0.mk (HT.out.below hb); clear HT; have HT := n_; clear n_)); (try (have n_ := Aside0.mk (Kd.R_below HBE.out hb); clear HBE; have HBE := n_; clear n_)); (try (have n_ := Aside0.mk (Kd.R_below HOW.out hb); clear HOW; have HOW := n_; clear n_)); (try (have n_ := Aside0.mk (Kd.R_below HAS.out hb); clear HAS; have HAS := n_; clear n_)); (try (have n_ := Aside0.mk (Kd.R_below HWH.out hb); clear HWH; have HWH := n_; clear n_)); (try (have n_ := Aside0.mk (blk_below BK6.out hb); clear BK6; have BK6 := n_; clear n_)); (try (have n_ := Aside0.mk (Kd.R_below HFE.out hb); clear HFE; have HFE := n_; clear n_)); (try (have n_ := Aside0.mk (Kd.R_below HMO.out hb); clear HMO; have HMO := n_; clear n_)); (try (have n_ := Aside0.mk (Kd.R_below HMI.out hb); clear HMI; have HMI := n_; clear n_)); (try (have n_ := Aside0.mk (Kd.R_below HLE.out hb); clear HLE; have HLE := n_; clear n_)); (try clear HT); have HT := Aside0.mk ht; clear ht; clear hb)) | (go_at_call 67; go_must (refine (posserlaw03_best.calls [0, 0, 1, 2] _ rfl).mono ?_; rintro e W_ ⟨v, rfl, ho, hb⟩; (try (have n_ := Aside0.mk (below_step HB.out hb); clear HB; have HB := n_; clear n_)); (try (have n_ := Aside0.mk (HT.out.below hb); clear HT; have HT := n_; clear n_)); (try (have n_ := Aside0.mk (Kd.R_below HBE.out hb); clear HBE; have HBE := n_; clear n_)); (try (have n_ := Aside0.mk (Kd.R_below HOW.out hb); clear HOW; have HOW := n_; clear n_)); (try (have n_ := Aside0.mk (Kd.R_below HAS.out hb); clear HAS; have HAS := n_; clear n_)); (try (have n_ := Aside0.mk (Kd.R_below HWH.out hb); clear HWH; have HWH := n_; clear n_)); (try (have n_ := Aside0.mk (blk_below BK6.out hb); clear BK6; have BK6 := n_; clear n_)); (try (have n_ := Aside0.mk (Kd.R_below HFE.out hb); clear HFE; have HFE := n_; clear n_)); (try (have n_ := Aside0.mk (Kd.R_below HMO.out hb); clear HMO; have HMO := n_; clear n_)); (try (have n_ := Aside0.mk (Kd.R_below HMI.out hb); clear HMI; have HMI := n_; clear n_)); (try (have n_ := Aside0.mk (Kd.R_below HLE.out hb); clear HLE; have HLE := n_; clear n_)); have HBE := Aside0.mk ho; obtain ⟨AHBE, cHBE, eHBE⟩ := Kd.R_slice HBE.out; subst eHBE; clear ho; clear hb)) | (go_at_call 50; go_must (refine (aw_play HT.out (Kd.R_reads' HBE.out).2.2 (Kd.R_reads' HBE.out).2.1).mono ?_; rintro e W_ ⟨v1, v2, rfl, ho1, ho2, hb⟩; (try (have n_ := Aside0.mk (below_step HB.out hb); clear HB; have HB := n_; clear n_)); (try (have n_ := Aside0.mk (HT.out.below hb); clear HT; have HT := n_; clear n_)); (try (have n_ := Aside0.mk (Kd.R_below HBE.out hb); clear HBE; have HBE := n_; clear n_)); (try (have n_ := Aside0.mk (Kd.R_below HOW.out hb); clear HOW; have HOW := n_; clear n_)); (try (have n_ := Aside0.mk (Kd.R_below HAS.out hb); clear HAS; have HAS := n_; clear n_)); (try (have n_ := Aside0.mk (Kd.R_below HWH.out hb); clear HWH; have HWH := n_; clear n_)); (try (have n_ := Aside0.mk (blk_below BK6.out hb); clear BK6; have BK6 := n_; clear n_)); (try (have n_ := Aside0.mk (Kd.R_below HFE.out hb); clear HFE; have HFE := n_; clear n_)); (try (have n_ := Aside0.mk (Kd.R_below HMO.out hb); clear HMO; have HMO := n_; clear n_)); (try (have n_ := Aside0.mk (Kd.R_below HMI.out hb); clear HMI; have HMI := n_; clear n_)); (try (have n_ := Aside0.mk (Kd.R_below HLE.out hb); clear HLE; have HLE := n_; clear n_)); have HOW := Aside0.mk ho1; obtain ⟨AHOW, cHOW, eHOW⟩ := Kd.R_slice HOW.out; subst eHOW; clear ho1; have HAS := Aside0.mk ho2; obtain ⟨AHAS, cHAS, eHAS⟩ := Kd.R_slice HAS.out; subst eHAS; clear ho2; clear hb)) | (go_at_call 22; go_must (refine (aw_whose HT.out).mono ?_; rintro e W_ ⟨v, rfl, ho, hb⟩; (try (have n_ := Aside0.mk (below_step HB.out hb); clear HB; have HB := n_; clear n_)); (try (have n_ := Aside0.mk (HT.out.below hb); clear HT; have HT := n_; clear n_)); (try (have n_ := Aside0.mk (Kd.R_below HBE.out hb); clear HBE; have HBE := n_; clear n_)); (try (have n_ := Aside0.mk (Kd.R_below HOW.out hb); clear HOW; have HOW := n_; clear n_)); (try (have n_ := Aside0.mk (Kd.R_below HAS.out hb); clear HAS; have HAS := n_; clear n_)); (try (have n_ := Aside0.mk (Kd.R_below HWH.out hb); clear HWH; have HWH := n_; clear n_)); (try (have n_ := Aside0.mk (blk_below BK6.out hb); clear BK6; have BK6 := n_; clear n_)); (try (have n_ := Aside0.mk (Kd.R_below HFE.out hb); clear HFE; have HFE := n_; clear n_)); (try (have n_ := Aside0.mk (Kd.R_below HMO.out hb); clear HMO; have HMO := n_; clear n_)); (try (have n_ := Aside0.mk (Kd.R_below HMI.out hb); clear HMI; have HMI := n_; clear n_)); (try (have n_ := Aside0.mk (Kd.R_below HLE.out hb); clear HLE; have HLE := n_; clear n_)); have HWH := Aside0.mk ho; obtain ⟨AHWH, cHWH, eHWH⟩ := Kd.R_slice HWH.out; subst eHWH; clear ho; clear hb)) | (go_at_call 37; go_must (refine (aw_astray HT.out).mono ?_; rintro e W_ ⟨rfl, hb⟩; (try (have n_ := Aside0.mk (below_step HB.out hb); clear HB; have HB := n_; clear n_)); (try (have n_ := Aside0.mk (HT.out.below hb); clear HT; have HT := n_; clear n_)); (try (have n_ := Aside0.mk (Kd.R_below HBE.out hb); clear HBE; have HBE := n_; clear n_)); (try (have n_ := Aside0.mk (Kd.R_below HOW.out hb); clear HOW; have HOW := n_; clear n_)); (try (have n_ := Aside0.mk (Kd.R_below HAS.out hb); clear HAS; have HAS := n_; clear n_)); (try (have n_ := Aside0.mk (Kd.R_below HWH.out hb); clear HWH; have HWH := n_; clear n_)); (try (have n_ := Aside0.mk (blk_below BK6.out hb); clear BK6; have BK6 := n_; clear n_)); (try (have n_ := Aside0.mk (Kd.R_below HFE.out hb); clear HFE; have HFE := n_; clear n_)); (try (have n_ := Aside0.mk (Kd.R_below HMO.out hb); clear HMO; have HMO := n_; clear n_)); (try (have n_ := Aside0.mk (Kd.R_below HMI.out hb); clear HMI; have HMI := n_; clear n_)); (try (have n_ := Aside0.mk (Kd.R_below HLE.out hb); clear HLE; have HLE := n_; clear n_)); skip; clear hb)) | (go_at_call 38; go_must (refine (aw_fewest HT.out).mono ?_; rintro e W_ ⟨v, rfl, ho, hb⟩; (try (have n_ := Aside0.mk (below_step HB.out hb); clear HB; have HB := n_; clear n_)); (try (have n_ := Aside0.mk (HT.out.below hb); clear HT; have HT := n_; clear n_)); (try (have n_ := Aside0.mk (Kd.R_below HBE.out hb); clear HBE; have HBE := n_; clear n_)); (try (have n_ := Aside0.mk (Kd.R_below HOW.out hb); clear HOW; have HOW := n_; clear n_)); (try (have n_ := Aside0.mk (Kd.R_below HAS.out hb); clear HAS; have HAS := n_; clear n_)); (try (have n_ := Aside0.mk (Kd.R_below HWH.out hb); clear HWH; have HWH := n_; clear n_)); (try (have n_ := Aside0.mk (blk_below BK6.out hb); clear BK6; have BK6 := n_; clear n_)); (try (have n_ := Aside0.mk (Kd.R_below HFE.out hb); clear HFE; have HFE := n_; clear n_)); (try (have n_ := Aside0.mk (Kd.R_below HMO.out hb); clear HMO; have HMO := n_; clear n_)); (try (have n_ := Aside0.mk (Kd.R_below HMI.out hb); clear HMI; have HMI := n_; clear n_)); (try (have n_ := Aside0.mk (Kd.R_below HLE.out hb); clear HLE; have HLE := n_; clear n_)); have HFE := Aside0.mk ho; obtain ⟨AHFE, cHFE, eHFE⟩ := Kd.R_slice HFE.out; subst eHFE; clear ho; clear hb)) | (go_at_call 39; go_must (refine (aw_moves HT.out).mono ?_; rintro e W_ ⟨v, rfl, ho, hb⟩; (try (have n_ := Aside0.mk (below_step HB.out hb); clear HB; have HB := n_; clear n_)); (try (have n_ := Aside0.mk (HT.out.below hb); clear HT; have HT := n_; clear n_)); (try (have n_ := Aside0.mk (Kd.R_below HBE.out hb); clear HBE; have HBE := n_; clear n_)); (try (have n_ := Aside0.mk (Kd.R_below HOW.out hb); clear HOW; have HOW := n_; clear n_)); (try (have n_ := Aside0.mk (Kd.R_below HAS.out hb); clear HAS; have HAS := n_; clear n_)); (try (have n_ := Aside0.mk (Kd.R_below HWH.out hb); clear HWH; have HWH := n_; clear n_)); (try (have n_ := Aside0.mk (blk_below BK6.out hb); clear BK6; have BK6 := n_; clear n_)); (try (have n_ := Aside0.mk (Kd.R_below HFE.out hb); clear HFE; have HFE := n_; clear n_)); (try (have n_ := Aside0.mk (Kd.R_below HMO.out hb); clear HMO; have HMO := n_; clear n_)); (try (have n_ := Aside0.mk (Kd.R_below HMI.out hb); clear HMI; have HMI := n_; clear n_)); (try (have n_ := Aside0.mk (Kd.R_below HLE.out hb); clear HLE; have HLE := n_; clear n_)); have HMO := Aside0.mk ho; obtain ⟨AHMO, cHMO, eHMO⟩ := Kd.R_slice HMO.out; subst eHMO; clear ho; clear hb)) | (go_at_call 27; go_must (refine (aw_misses HT.out).mono ?_; rintro e W_ ⟨v, rfl, ho, hb⟩; (try (have n_ := Aside0.mk (below_step HB.out hb); clear HB; have HB := n_; clear n_)); (try (have n_ := Aside0.mk (HT.out.below hb); clear HT; have HT := n_; clear n_)); (try (have n_ := Aside0.mk (Kd.R_below HBE.out hb); clear HBE; have HBE := n_; clear n_)); (try (have n_ := Aside0.mk (Kd.R_below HOW.out hb); clear HOW; have HOW := n_; clear n_)); (try (have n_ := Aside0.mk (Kd.R_below HAS.out hb); clear HAS; have HAS := n_; clear n_)); (try (have n_ := Aside0.mk (Kd.R_below HWH.out hb); clear HWH; have HWH := n_; clear n_)); (try (have n_ := Aside0.mk (blk_below BK6.out hb); clear BK6; have BK6 := n_; clear n_)); (try (have n_ := Aside0.mk (Kd.R_below HFE.out hb); clear HFE; have HFE := n_; clear n_)); (try (have n_ := Aside0.mk (Kd.R_below HMO.out hb); clear HMO; have HMO := n_; clear n_)); (try (have n_ := Aside0.mk (Kd.R_below HMI.out hb); clear HMI; have HMI := n_; clear n_)); (try (have n_ := Aside0.mk (Kd.R_below HLE.out hb); clear HLE; have HLE := n_; clear n_)); have HMI := Aside0.mk ho; obtain ⟨AHMI, cHMI, eHMI⟩ := Kd.R_slice HMI.out; subst eHMI; clear ho; clear hb)) | (go_at_call 29; go_must (refine (aw_look HT.out).mono ?_; rintro e W_ ⟨rfl, hb⟩; (try (have n_ := Aside0.mk (below_step HB.out hb); clear HB; have HB := n_; clear n_)); (try (have n_ := Aside0.mk (HT.out.below hb); clear HT; have HT := n_; clear n_)); (try (have n_ := Aside0.mk (Kd.R_below HBE.out hb); clear HBE; have HBE := n_; clear n_)); (try (have n_ := Aside0.mk (Kd.R_below HOW.out hb); clear HOW; have HOW := n_; clear n_)); (try (have n_ := Aside0.mk (Kd.R_below HAS.out hb); clear HAS; have HAS := n_; clear n_)); (try (have n_ := Aside0.mk (Kd.R_below HWH.out hb); clear HWH; have HWH := n_; clear n_)); (try (have n_ := Aside0.mk (blk_below BK6.out hb); clear BK6; have BK6 := n_; clear n_)); (try (have n_ := Aside0.mk (Kd.R_below HFE.out hb); clear HFE; have HFE := n_; clear n_)); (try (have n_ := Aside0.mk (Kd.R_below HMO.out hb); clear HMO; have HMO := n_; clear n_)); (try (have n_ := Aside0.mk (Kd.R_below HMI.out hb); clear HMI; have HMI := n_; clear n_)); (try (have n_ := Aside0.mk (Kd.R_below HLE.out hb); clear HLE; have HLE := n_; clear n_)); skip; clear hb)) | (go_at_call 31; go_must (refine (aw_first HT.out).mono ?_; rintro e W_ ⟨rfl, hb⟩; (try (have n_ := Aside0.mk (below_step HB.out hb); clear HB; have HB := n_; clear n_)); (try (have n_ := Aside0.mk (HT.out.below hb); clear HT; have HT := n_; clear n_)); (try (have n_ := Aside0.mk (Kd.R_below HBE.out hb); clear HBE; have HBE := n_; clear n_)); (try (have n_ := Aside0.mk (Kd.R_below HOW.out hb); clear HOW; have HOW := n_; clear n_)); (try (have n_ := Aside0.mk (Kd.R_below HAS.out hb); clear HAS; have HAS := n_; clear n_)); (try (have n_ := Aside0.mk (Kd.R_below HWH.out hb); clear HWH; have HWH := n_; clear n_)); (try (have n_ := Aside0.mk (blk_below BK6.out hb); clear BK6; have BK6 := n_; clear n_)); (try (have n_ := Aside0.mk (Kd.R_below HFE.out hb); clear HFE; have HFE := n_; clear n_)); (try (have n_ := Aside0.mk (Kd.R_below HMO.out hb); clear HMO; have HMO := n_; clear n_)); (try (have n_ := Aside0.mk (Kd.R_below HMI.out hb); clear HMI; have HMI := n_; clear n_)); (try (have n_ := Aside0.mk (Kd.R_below HLE.out hb); clear HLE; have HLE := n_; clear n_)); skip; clear hb)) | (go_at_call 32; go_must (refine (aw_leave HT.out).mono ?_; rintro e W_ ⟨v, rfl, ho, hb⟩; (try (have n_ := Aside0.mk (below_step HB.out hb); clear HB; have HB := n_; clear n_)); (try (have n_ := Aside0.mk (HT.out.below hb); clear HT; have HT := n_; clear n_)); (try (have n_ := Aside0.mk (Kd.R_below HBE.out hb); clear HBE; have HBE := n_; clear n_)); (try (have n_ := Aside0.mk (Kd.R_below HOW.out hb); clear HOW; have HOW := n_; clear n_)); (try (have n_ := Aside0.mk (Kd.R_below HAS.out hb); clear HAS; have HAS := n_; clear n_)); (try (have n_ := Aside0.mk (Kd.R_below HWH.out hb); clear HWH; have HWH := n_; clear n_)); (try (have n_ := Aside0.mk (blk_below BK6.out hb); clear BK6; have BK6 := n_; clear n_)); (try (have n_ := Aside0.mk (Kd.R_below HFE.out hb); clear HFE; have HFE := n_; clear n_)); (try (have n_ := Aside0.mk (Kd.R_below HMO.out hb); clear HMO; have HMO := n_; clear n_)); (try (have n_ := Aside0.mk (Kd.R_below HMI.out hb); clear HMI; have HMI := n_; clear n_)); (try (have n_ := Aside0.mk (Kd.R_below HLE.out hb); clear HLE; have HLE := n_; clear n_)); have HLE := Aside0.mk ho; obtain ⟨AHLE, cHLE, eHLE⟩ := Kd.R_slice HLE.out; subst eHLE; clear ho; clear hb)))
 have CHOW := Aside0.mk (Kd.R_reads' HOW.out).2.2
 have LHOW := Aside0.mk (Kd.R_reads' HOW.out).2.1
 have CHAS := Aside0.mk (Kd.R_reads' HAS.out).2.2
 have LHAS := Aside0.mk (Kd.R_reads' HAS.out).2.1
 have CHFE := Aside0.mk (Kd.R_reads' HFE.out).2.2
 have LHFE := Aside0.mk (Kd.R_reads' HFE.out).2.1
 have CHMI := Aside0.mk (Kd.R_reads' HMI.out).2.2
 have LHMI := Aside0.mk (Kd.R_reads' HMI.out).2.1
 have CHLE := Aside0.mk (Kd.R_reads' HLE.out).2.2
 have LHLE := Aside0.mk (Kd.R_reads' HLE.out).2.1
 obtain ⟨adw, AHW1, cHW1, ew, hcw1, lw1, cw1⟩ := at_LL (Kd.R_reads' HWH.out).2.2 1 (by decide)
 obtain ⟨adw2, AHW3, cHW3, ew2, hcw3, lw3, cw3⟩ := at_LL (Kd.R_reads' HWH.out).2.2 3 (by decide)
 subst ew
 cases ew2
 have CHW1 := Aside0.mk (show Kd.C (Kd.int .i64) W_ AHW1 2 [0, 1] from cw1)
 have LHW1 := Aside0.mk (show ([0, 1] : List Int).length ≤ cHW1 from lw1)
 have CHW3 := Aside0.mk (show Kd.C (Kd.int .i64) W_ AHW3 1 [2] from cw3)
 have LHW3 := Aside0.mk (show ([2] : List Int).length ≤ cHW3 from lw3)
 have hcg0 := sc 0 BK6
 have hcg1 := sc 1 BK6
 obtain ⟨adm, em, hcm0, hcm1, hcm2⟩ := at_T69 (Kd.R_reads' HMO.out).2.2 0 (by decide) (by decide)
 subst em
 have ha0 : adm.add 0 = adm := by rfl
 have hcm0 : W_.cell? adm = some (.int .i64 3) := hcm0
 have hcm1 : W_.cell? ⟨adm.block, adm.off + 1, none⟩ = some (.int .i64 1) := hcm1
 have hcm2 : W_.cell? ⟨adm.block, adm.off + 2, none⟩ = some (.int .i64 2) := hcm2
 have hcw1 : W_.cell? ⟨adw.block, adw.off + 1, none⟩ = some (.slice AHW1 2 cHW1) := hcw1
 have hcw3 : W_.cell? ⟨adw.block, adw.off + 3, none⟩ = some (.slice AHW3 1 cHW3) := hcw3
 clear HT HOW HAS HWH BK6 HFE HMO HMI HLE lw1 cw1 lw3 cw3 ha0
 refine startM 108 tabAw (S := fun w' => w'.cell? ⟨adw.block, adw.off + 1, none⟩ = some (.slice AHW1 2 cHW1) ∧ w'.cell? ⟨adw.block, adw.off + 3, none⟩ = some (.slice AHW3 1 cHW3) ∧ w'.cell? ⟨g6, 0, none⟩ = some (.int .i64 1) ∧ w'.cell? ⟨g6, 1, none⟩ = some (.int .i64 3) ∧ w'.cell? adm = some (.int .i64 3) ∧ w'.cell? ⟨adm.block, adm.off + 1, none⟩ = some (.int .i64 1) ∧ w'.cell? ⟨adm.block, adm.off + 2, none⟩ = some (.int .i64 2)) (by kernel_rfl) rfl (by kernel_rfl) (by kernel_rfl) ⟨hcw1, hcw3, hcg0, hcg1, hcm0, hcm1, hcm2⟩ (fun hR_ hHeld => ?_)
 have HR := Aside0.mk hR_
 clear hR_
 have hb := below_drew1 (Below.refl W_.heap.size W_)
 replace CHOW := Aside0.mk (Kd.C_below CHOW.out hb)
 replace CHAS := Aside0.mk (Kd.C_below CHAS.out hb)
 replace CHW1 := Aside0.mk (Kd.C_below CHW1.out hb)
 replace CHW3 := Aside0.mk (Kd.C_below CHW3.out hb)
 replace CHFE := Aside0.mk (Kd.C_below CHFE.out hb)
 replace CHMI := Aside0.mk (Kd.C_below CHMI.out hb)
 replace CHLE := Aside0.mk (Kd.C_below CHLE.out hb)
 replace HB := Aside0.mk (below_step HB.out hb)
 replace hcw1 := (hb.cell (World.block_lt_of_cell? _ _ hcw1)).trans hcw1
 replace hcw3 := (hb.cell (World.block_lt_of_cell? _ _ hcw3)).trans hcw3
 replace hcg0 := (hb.cell (World.block_lt_of_cell? _ _ hcg0)).trans hcg0
 replace hcg1 := (hb.cell (World.block_lt_of_cell? _ _ hcg1)).trans hcg1
 replace hcm0 := (hb.cell (World.block_lt_of_cell? _ _ hcm0)).trans hcm0
 replace hcm1 := (hb.cell (World.block_lt_of_cell? _ _ hcm1)).trans hcm1
 replace hcm2 := (hb.cell (World.block_lt_of_cell? _ _ hcm2)).trans hcm2
 generalize W_.drew = Wa0 at *
 clear hb
 refine sM (i := 0) (N := some 69) 1 HR ?_
 refine sM (i := 1) (N := some 70) 3 HR ?_
 refine sM (i := 2) (N := some 71) 7 HR ?_
 refine sM (i := 3) (N := some 72) 15 HR ?_
 refine oneM (i := 4) (N := some 73) 31 HR.out rfl rfl (by kernel_rfl) (by kernel_rfl) (fun K hK => ?_)
 refine value_ (w1 := ?_) (v := ?_) (by rfl) rfl ?_ ?_
 rotate_left 2
 ·go_simp
  constructor
  ·rfl
  ·rfl
 refine hK.out _ _ ⟨((below_alloc (Below.refl _ _) _).cell (World.block_lt_of_cell? _ _ hcw1)).trans hcw1, ((below_alloc (Below.refl _ _) _).cell (World.block_lt_of_cell? _ _ hcw3)).trans hcw3, ((below_alloc (Below.refl _ _) _).cell (World.block_lt_of_cell? _ _ hcg0)).trans hcg0, ((below_alloc (Below.refl _ _) _).cell (World.block_lt_of_cell? _ _ hcg1)).trans hcg1, ((below_alloc (Below.refl _ _) _).cell (World.block_lt_of_cell? _ _ hcm0)).trans hcm0, ((below_alloc (Below.refl _ _) _).cell (World.block_lt_of_cell? _ _ hcm1)).trans hcm1, ((below_alloc (Below.refl _ _) _).cell (World.block_lt_of_cell? _ _ hcm2)).trans hcm2⟩ (fun hHeld => ?_)
 clear hK K
 refine sN ?_
 refine oneM (i := 5) (N := some 74) 63 HR.out rfl rfl (by kernel_rfl) (by kernel_rfl) (fun K hK => ?_)
 refine goes_ Try.func25 (by kernel_rfl) rfl #[.slice AHOW 3 cHOW, .slice (some ⟨Wa0.heap.size, 0, none⟩) 3 3] (by rfl) rfl rfl (by simp only [List.map_toArray, List.map_cons, List.map_nil]; rfl) ?_
 refine (posserlaw03_ints.calls 10 AHOW cHOW [2, 1, 1] (some ⟨Wa0.heap.size, 0, none⟩) 3 [2, 1, 1] true (Wa0.alloc (.cells #[.int .i64 2, .int .i64 1, .int .i64 1] 3)) (Kd.C_below CHOW.out (below_alloc (Below.refl _ _) _)) LHOW.out (lit_row (l := [2, 1, 1]) (show (Wa0.alloc (.cells #[.int .i64 2, .int .i64 1, .int .i64 1] 3)).heap[Wa0.heap.size]? = some (.cells (([2, 1, 1] : List Int).map (Value.int .i64)).toArray 3 (0, 0)) from blk_new Wa0 _)) (Nat.le_refl _) (by kernel_rfl)).mono ?_
 rintro e Wx ⟨rfl, ⟨nd, rfl⟩⟩
 have hb := pw_below_drewN (below_alloc (Below.refl Wa0.heap.size Wa0) (.cells #[.int .i64 2, .int .i64 1, .int .i64 1] 3)) nd
 replace hcw1 := (hb.cell (World.block_lt_of_cell? _ _ hcw1)).trans hcw1
 replace hcw3 := (hb.cell (World.block_lt_of_cell? _ _ hcw3)).trans hcw3
 replace hcg0 := (hb.cell (World.block_lt_of_cell? _ _ hcg0)).trans hcg0
 replace hcg1 := (hb.cell (World.block_lt_of_cell? _ _ hcg1)).trans hcg1
 replace hcm0 := (hb.cell (World.block_lt_of_cell? _ _ hcm0)).trans hcm0
 replace hcm1 := (hb.cell (World.block_lt_of_cell? _ _ hcm1)).trans hcm1
 replace hcm2 := (hb.cell (World.block_lt_of_cell? _ _ hcm2)).trans hcm2
 replace CHOW := Aside0.mk (Kd.C_below CHOW.out hb)
 replace CHAS := Aside0.mk (Kd.C_below CHAS.out hb)
 replace CHW1 := Aside0.mk (Kd.C_below CHW1.out hb)
 replace CHW3 := Aside0.mk (Kd.C_below CHW3.out hb)
 replace CHFE := Aside0.mk (Kd.C_below CHFE.out hb)
 replace CHMI := Aside0.mk (Kd.C_below CHMI.out hb)
 replace CHLE := Aside0.mk (Kd.C_below CHLE.out hb)
 replace HB := Aside0.mk (below_step HB.out hb)
 generalize ((Wa0.alloc (.cells #[.int .i64 2, .int .i64 1, .int .i64 1] 3)).drewN nd) = Wa1 at *
 clear hb
 refine ⟨_, rfl, ?_⟩
 refine hK.out _ _ ⟨hcw1, hcw3, hcg0, hcg1, hcm0, hcm1, hcm2⟩ (fun hHeld => ?_)
 clear hK K
 refine sN ?_
 refine sM (i := 6) (N := some 75) 127 HR ?_
 refine sM (i := 7) (N := some 76) 255 HR ?_
 refine sM (i := 8) (N := some 77) 511 HR ?_
 refine oneM (i := 9) (N := some 78) 1023 HR.out rfl rfl (by kernel_rfl) (by kernel_rfl) (fun K hK => ?_)
 refine value_ (w1 := ?_) (v := ?_) (by rfl) rfl ?_ ?_
 rotate_left 2
 ·go_simp
  constructor
  ·rfl
  ·rfl
 refine hK.out _ _ ⟨((below_alloc (Below.refl _ _) _).cell (World.block_lt_of_cell? _ _ hcw1)).trans hcw1, ((below_alloc (Below.refl _ _) _).cell (World.block_lt_of_cell? _ _ hcw3)).trans hcw3, ((below_alloc (Below.refl _ _) _).cell (World.block_lt_of_cell? _ _ hcg0)).trans hcg0, ((below_alloc (Below.refl _ _) _).cell (World.block_lt_of_cell? _ _ hcg1)).trans hcg1, ((below_alloc (Below.refl _ _) _).cell (World.block_lt_of_cell? _ _ hcm0)).trans hcm0, ((below_alloc (Below.refl _ _) _).cell (World.block_lt_of_cell? _ _ hcm1)).trans hcm1, ((below_alloc (Below.refl _ _) _).cell (World.block_lt_of_cell? _ _ hcm2)).trans hcm2⟩ (fun hHeld => ?_)
 clear hK K
 refine sN ?_
 refine oneM (i := 10) (N := some 79) 2047 HR.out rfl rfl (by kernel_rfl) (by kernel_rfl) (fun K hK => ?_)
 refine goes_ Try.func25 (by kernel_rfl) rfl #[.slice AHAS 1 cHAS, .slice (some ⟨Wa1.heap.size, 0, none⟩) 1 1] (by rfl) rfl rfl (by simp only [List.map_toArray, List.map_cons, List.map_nil]; rfl) ?_
 refine (posserlaw03_ints.calls 10 AHAS cHAS [3] (some ⟨Wa1.heap.size, 0, none⟩) 1 [3] true (Wa1.alloc (.cells #[.int .i64 3] 3)) (Kd.C_below CHAS.out (below_alloc (Below.refl _ _) _)) LHAS.out (lit_row (l := [3]) (show (Wa1.alloc (.cells #[.int .i64 3] 3)).heap[Wa1.heap.size]? = some (.cells (([3] : List Int).map (Value.int .i64)).toArray 3 (0, 0)) from blk_new Wa1 _)) (Nat.le_refl _) (by kernel_rfl)).mono ?_
 rintro e Wx ⟨rfl, ⟨nd, rfl⟩⟩
 have hb := pw_below_drewN (below_alloc (Below.refl Wa1.heap.size Wa1) (.cells #[.int .i64 3] 3)) nd
 replace hcw1 := (hb.cell (World.block_lt_of_cell? _ _ hcw1)).trans hcw1
 replace hcw3 := (hb.cell (World.block_lt_of_cell? _ _ hcw3)).trans hcw3
 replace hcg0 := (hb.cell (World.block_lt_of_cell? _ _ hcg0)).trans hcg0
 replace hcg1 := (hb.cell (World.block_lt_of_cell? _ _ hcg1)).trans hcg1
 replace hcm0 := (hb.cell (World.block_lt_of_cell? _ _ hcm0)).trans hcm0
 replace hcm1 := (hb.cell (World.block_lt_of_cell? _ _ hcm1)).trans hcm1
 replace hcm2 := (hb.cell (World.block_lt_of_cell? _ _ hcm2)).trans hcm2
 replace CHOW := Aside0.mk (Kd.C_below CHOW.out hb)
 replace CHAS := Aside0.mk (Kd.C_below CHAS.out hb)
 replace CHW1 := Aside0.mk (Kd.C_below CHW1.out hb)
 replace CHW3 := Aside0.mk (Kd.C_below CHW3.out hb)
 replace CHFE := Aside0.mk (Kd.C_below CHFE.out hb)
 replace CHMI := Aside0.mk (Kd.C_below CHMI.out hb)
 replace CHLE := Aside0.mk (Kd.C_below CHLE.out hb)
 replace HB := Aside0.mk (below_step HB.out hb)
 generalize ((Wa1.alloc (.cells #[.int .i64 3] 3)).drewN nd) = Wa2 at *
 clear hb
 refine ⟨_, rfl, ?_⟩
 refine hK.out _ _ ⟨hcw1, hcw3, hcg0, hcg1, hcm0, hcm1, hcm2⟩ (fun hHeld => ?_)
 clear hK K
 refine sN ?_
 refine sM (i := 11) (N := some 80) 4095 HR ?_
 refine sM (i := 12) (N := some 81) 8191 HR ?_
 refine sM (i := 13) (N := some 82) 16383 HR ?_
 refine sM (i := 14) (N := some 83) 32767 HR ?_
 refine sM (i := 15) (N := some 84) 65535 HR ?_
 refine sM (i := 16) (N := some 85) 131071 HR ?_
 refine sM (i := 17) (N := some 86) 262143 HR ?_
 refine sM (i := 18) (N := some 87) 524287 HR ?_
 refine sM (i := 19) (N := some 88) 1048575 HR ?_
 refine sM (i := 20) (N := some 89) 2097151 HR ?_
 refine sM (i := 21) (N := some 90) 4194303 HR ?_
 refine sM (i := 22) (N := some 91) 8388607 HR ?_
 refine sM (i := 23) (N := some 92) 16777215 HR ?_
 refine takeM (i := 24) (N := some 93) (v := ?_) (a' := ?_) 33554431 HR.out rfl rfl (by kernel_rfl) (by kernel_rfl) (fun _ _ _ h => h) (Or.inl ⟨by rfl, ?_⟩) hHeld ?_ ?_
 rotate_left
 ·rintro w' ⟨s0, s1, s2, s3, s4, s5, s6⟩
  go_simp
  with_reducible rfl
 rotate_left
 ·simp only [Act.put, List.setIfInBounds_toArray, List.set_cons_zero, List.set_cons_succ, i64_w, i32_w]
  rfl
 refine oneM (i := 25) (N := some 94) 67108863 HR.out rfl rfl (by kernel_rfl) (by kernel_rfl) (fun K hK => ?_)
 refine value_ (w1 := ?_) (v := ?_) (by rfl) rfl ?_ ?_
 rotate_left 2
 ·go_simp
  constructor
  ·rfl
  ·rfl
 refine hK.out _ _ ⟨((below_alloc (Below.refl _ _) _).cell (World.block_lt_of_cell? _ _ hcw1)).trans hcw1, ((below_alloc (Below.refl _ _) _).cell (World.block_lt_of_cell? _ _ hcw3)).trans hcw3, ((below_alloc (Below.refl _ _) _).cell (World.block_lt_of_cell? _ _ hcg0)).trans hcg0, ((below_alloc (Below.refl _ _) _).cell (World.block_lt_of_cell? _ _ hcg1)).trans hcg1, ((below_alloc (Below.refl _ _) _).cell (World.block_lt_of_cell? _ _ hcm0)).trans hcm0, ((below_alloc (Below.refl _ _) _).cell (World.block_lt_of_cell? _ _ hcm1)).trans hcm1, ((below_alloc (Below.refl _ _) _).cell (World.block_lt_of_cell? _ _ hcm2)).trans hcm2⟩ (fun hHeld => ?_)
 clear hK K
 refine sN ?_
 refine oneM (i := 26) (N := some 95) 134217727 HR.out rfl rfl (by kernel_rfl) (by kernel_rfl) (fun K hK => ?_)
 refine goes_ Try.func25 (by kernel_rfl) rfl #[.slice AHW1 2 cHW1, .slice (some ⟨Wa2.heap.size, 0, none⟩) 2 2] (by rfl) rfl rfl (by simp only [List.map_toArray, List.map_cons, List.map_nil]; rfl) ?_
 refine (posserlaw03_ints.calls 10 AHW1 cHW1 [0, 1] (some ⟨Wa2.heap.size, 0, none⟩) 2 [0, 1] true (Wa2.alloc (.cells #[.int .i64 0, .int .i64 1] 3)) (Kd.C_below CHW1.out (below_alloc (Below.refl _ _) _)) LHW1.out (lit_row (l := [0, 1]) (show (Wa2.alloc (.cells #[.int .i64 0, .int .i64 1] 3)).heap[Wa2.heap.size]? = some (.cells (([0, 1] : List Int).map (Value.int .i64)).toArray 3 (0, 0)) from blk_new Wa2 _)) (Nat.le_refl _) (by kernel_rfl)).mono ?_
 rintro e Wx ⟨rfl, ⟨nd, rfl⟩⟩
 have hb := pw_below_drewN (below_alloc (Below.refl Wa2.heap.size Wa2) (.cells #[.int .i64 0, .int .i64 1] 3)) nd
 replace hcw1 := (hb.cell (World.block_lt_of_cell? _ _ hcw1)).trans hcw1
 replace hcw3 := (hb.cell (World.block_lt_of_cell? _ _ hcw3)).trans hcw3
 replace hcg0 := (hb.cell (World.block_lt_of_cell? _ _ hcg0)).trans hcg0
 replace hcg1 := (hb.cell (World.block_lt_of_cell? _ _ hcg1)).trans hcg1
 replace hcm0 := (hb.cell (World.block_lt_of_cell? _ _ hcm0)).trans hcm0
 replace hcm1 := (hb.cell (World.block_lt_of_cell? _ _ hcm1)).trans hcm1
 replace hcm2 := (hb.cell (World.block_lt_of_cell? _ _ hcm2)).trans hcm2
 replace CHOW := Aside0.mk (Kd.C_below CHOW.out hb)
 replace CHAS := Aside0.mk (Kd.C_below CHAS.out hb)
 replace CHW1 := Aside0.mk (Kd.C_below CHW1.out hb)
 replace CHW3 := Aside0.mk (Kd.C_below CHW3.out hb)
 replace CHFE := Aside0.mk (Kd.C_below CHFE.out hb)
 replace CHMI := Aside0.mk (Kd.C_below CHMI.out hb)
 replace CHLE := Aside0.mk (Kd.C_below CHLE.out hb)
 replace HB := Aside0.mk (below_step HB.out hb)
 generalize ((Wa2.alloc (.cells #[.int .i64 0, .int .i64 1] 3)).drewN nd) = Wa3 at *
 clear hb
 refine ⟨_, rfl, ?_⟩
 refine hK.out _ _ ⟨hcw1, hcw3, hcg0, hcg1, hcm0, hcm1, hcm2⟩ (fun hHeld => ?_)
 clear hK K
 refine sN ?_
 refine sM (i := 27) (N := some 96) 268435455 HR ?_
 refine sM (i := 28) (N := some 97) 536870911 HR ?_
 refine sM (i := 29) (N := some 98) 1073741823 HR ?_
 refine sM (i := 30) (N := some 99) 2147483647 HR ?_
 refine takeM (i := 31) (N := some 100) (v := ?_) (a' := ?_) 4294967295 HR.out rfl rfl (by kernel_rfl) (by kernel_rfl) (fun _ _ _ h => h) (Or.inl ⟨by rfl, ?_⟩) hHeld ?_ ?_
 rotate_left
 ·rintro w' ⟨s0, s1, s2, s3, s4, s5, s6⟩
  go_simp
  with_reducible rfl
 rotate_left
 ·simp only [Act.put, List.setIfInBounds_toArray, List.set_cons_zero, List.set_cons_succ, i64_w, i32_w]
  rfl
 refine oneM (i := 32) (N := some 101) 8589934591 HR.out rfl rfl (by kernel_rfl) (by kernel_rfl) (fun K hK => ?_)
 refine value_ (w1 := ?_) (v := ?_) (by rfl) rfl ?_ ?_
 rotate_left 2
 ·go_simp
  constructor
  ·rfl
  ·rfl
 refine hK.out _ _ ⟨((below_alloc (Below.refl _ _) _).cell (World.block_lt_of_cell? _ _ hcw1)).trans hcw1, ((below_alloc (Below.refl _ _) _).cell (World.block_lt_of_cell? _ _ hcw3)).trans hcw3, ((below_alloc (Below.refl _ _) _).cell (World.block_lt_of_cell? _ _ hcg0)).trans hcg0, ((below_alloc (Below.refl _ _) _).cell (World.block_lt_of_cell? _ _ hcg1)).trans hcg1, ((below_alloc (Below.refl _ _) _).cell (World.block_lt_of_cell? _ _ hcm0)).trans hcm0, ((below_alloc (Below.refl _ _) _).cell (World.block_lt_of_cell? _ _ hcm1)).trans hcm1, ((below_alloc (Below.refl _ _) _).cell (World.block_lt_of_cell? _ _ hcm2)).trans hcm2⟩ (fun hHeld => ?_)
 clear hK K
 refine sN ?_
 refine oneM (i := 33) (N := some 102) 17179869183 HR.out rfl rfl (by kernel_rfl) (by kernel_rfl) (fun K hK => ?_)
 refine goes_ Try.func25 (by kernel_rfl) rfl #[.slice AHW3 1 cHW3, .slice (some ⟨Wa3.heap.size, 0, none⟩) 1 1] (by rfl) rfl rfl (by simp only [List.map_toArray, List.map_cons, List.map_nil]; rfl) ?_
 refine (posserlaw03_ints.calls 10 AHW3 cHW3 [2] (some ⟨Wa3.heap.size, 0, none⟩) 1 [2] true (Wa3.alloc (.cells #[.int .i64 2] 3)) (Kd.C_below CHW3.out (below_alloc (Below.refl _ _) _)) LHW3.out (lit_row (l := [2]) (show (Wa3.alloc (.cells #[.int .i64 2] 3)).heap[Wa3.heap.size]? = some (.cells (([2] : List Int).map (Value.int .i64)).toArray 3 (0, 0)) from blk_new Wa3 _)) (Nat.le_refl _) (by kernel_rfl)).mono ?_
 rintro e Wx ⟨rfl, ⟨nd, rfl⟩⟩
 have hb := pw_below_drewN (below_alloc (Below.refl Wa3.heap.size Wa3) (.cells #[.int .i64 2] 3)) nd
 replace hcw1 := (hb.cell (World.block_lt_of_cell? _ _ hcw1)).trans hcw1
 replace hcw3 := (hb.cell (World.block_lt_of_cell? _ _ hcw3)).trans hcw3
 replace hcg0 := (hb.cell (World.block_lt_of_cell? _ _ hcg0)).trans hcg0
 replace hcg1 := (hb.cell (World.block_lt_of_cell? _ _ hcg1)).trans hcg1
 replace hcm0 := (hb.cell (World.block_lt_of_cell? _ _ hcm0)).trans hcm0
 replace hcm1 := (hb.cell (World.block_lt_of_cell? _ _ hcm1)).trans hcm1
 replace hcm2 := (hb.cell (World.block_lt_of_cell? _ _ hcm2)).trans hcm2
 replace CHOW := Aside0.mk (Kd.C_below CHOW.out hb)
 replace CHAS := Aside0.mk (Kd.C_below CHAS.out hb)
 replace CHW1 := Aside0.mk (Kd.C_below CHW1.out hb)
 replace CHW3 := Aside0.mk (Kd.C_below CHW3.out hb)
 replace CHFE := Aside0.mk (Kd.C_below CHFE.out hb)
 replace CHMI := Aside0.mk (Kd.C_below CHMI.out hb)
 replace CHLE := Aside0.mk (Kd.C_below CHLE.out hb)
 replace HB := Aside0.mk (below_step HB.out hb)
 generalize ((Wa3.alloc (.cells #[.int .i64 2] 3)).drewN nd) = Wa4 at *
 clear hb
 refine ⟨_, rfl, ?_⟩
 refine hK.out _ _ ⟨hcw1, hcw3, hcg0, hcg1, hcm0, hcm1, hcm2⟩ (fun hHeld => ?_)
 clear hK K
 refine sN ?_
 refine sM (i := 34) (N := some 103) 34359738367 HR ?_
 refine sM (i := 35) (N := some 104) 68719476735 HR ?_
 refine sM (i := 36) (N := some 105) 137438953471 HR ?_
 refine sM (i := 37) (N := some 106) 274877906943 HR ?_
 refine sM (i := 38) (N := some 107) 549755813887 HR ?_
 refine sM (i := 39) (N := some 108) 1099511627775 HR ?_
 refine takeM (i := 40) (N := some 109) (v := ?_) (a' := ?_) 2199023255551 HR.out rfl rfl (by kernel_rfl) (by kernel_rfl) (fun _ _ _ h => h) (Or.inl ⟨by rfl, ?_⟩) hHeld ?_ ?_
 rotate_left
 ·rintro w' ⟨s0, s1, s2, s3, s4, s5, s6⟩
  go_simp
  with_reducible rfl
 rotate_left
 ·simp only [Act.put, List.setIfInBounds_toArray, List.set_cons_zero, List.set_cons_succ, i64_w, i32_w]
  rfl
 refine oneM (i := 41) (N := some 110) 4398046511103 HR.out rfl rfl (by kernel_rfl) (by kernel_rfl) (fun K hK => ?_)
 refine goes_ Try.func46 (by kernel_rfl) rfl #[.int .i64 1, .int .i64 3] (by rfl) rfl rfl (by simp only [List.map_toArray, List.map_cons, List.map_nil]; rfl) ?_
 with_reducible refine (posserlaw03_between.calls 1 3 1 3 Wa4 rfl).mono ?_
 rintro e Wa5 ⟨rfl, hb⟩
 refine ⟨_, rfl, ?_⟩
 replace hcw1 := (hb.cell (World.block_lt_of_cell? _ _ hcw1)).trans hcw1
 replace hcw3 := (hb.cell (World.block_lt_of_cell? _ _ hcw3)).trans hcw3
 replace hcg0 := (hb.cell (World.block_lt_of_cell? _ _ hcg0)).trans hcg0
 replace hcg1 := (hb.cell (World.block_lt_of_cell? _ _ hcg1)).trans hcg1
 replace hcm0 := (hb.cell (World.block_lt_of_cell? _ _ hcm0)).trans hcm0
 replace hcm1 := (hb.cell (World.block_lt_of_cell? _ _ hcm1)).trans hcm1
 replace hcm2 := (hb.cell (World.block_lt_of_cell? _ _ hcm2)).trans hcm2
 replace CHOW := Aside0.mk (Kd.C_below CHOW.out hb)
 replace CHAS := Aside0.mk (Kd.C_below CHAS.out hb)
 replace CHW1 := Aside0.mk (Kd.C_below CHW1.out hb)
 replace CHW3 := Aside0.mk (Kd.C_below CHW3.out hb)
 replace CHFE := Aside0.mk (Kd.C_below CHFE.out hb)
 replace CHMI := Aside0.mk (Kd.C_below CHMI.out hb)
 replace CHLE := Aside0.mk (Kd.C_below CHLE.out hb)
 replace HB := Aside0.mk (below_step HB.out hb)
 clear hb
 refine hK.out _ _ ⟨hcw1, hcw3, hcg0, hcg1, hcm0, hcm1, hcm2⟩ (fun hHeld => ?_)
 clear hK K
 refine sN ?_
 refine sM (i := 42) (N := some 111) 8796093022207 HR ?_
 refine sM (i := 43) (N := some 112) 17592186044415 HR ?_
 refine sM (i := 44) (N := some 113) 35184372088831 HR ?_
 refine sM (i := 45) (N := some 114) 70368744177663 HR ?_
 refine sM (i := 46) (N := some 115) 140737488355327 HR ?_
 refine sM (i := 47) (N := some 116) 281474976710655 HR ?_
 refine sM (i := 48) (N := some 117) 562949953421311 HR ?_
 refine sM (i := 49) (N := some 118) 1125899906842623 HR ?_
 refine oneM (i := 50) (N := some 119) 2251799813685247 HR.out rfl rfl (by kernel_rfl) (by kernel_rfl) (fun K hK => ?_)
 refine goes_ Try.func67 (by kernel_rfl) rfl #[] (by rfl) rfl rfl (by simp only [List.map_toArray, List.map_nil]) ?_
 with_reducible refine (posserlaw03_best.calls [0, 0, 1, 2] Wa5 rfl).mono ?_
 rintro e Wa6 ⟨v_, rfl, ho, hb⟩
 refine ⟨_, rfl, ?_⟩
 replace hcw1 := (hb.cell (World.block_lt_of_cell? _ _ hcw1)).trans hcw1
 replace hcw3 := (hb.cell (World.block_lt_of_cell? _ _ hcw3)).trans hcw3
 replace hcg0 := (hb.cell (World.block_lt_of_cell? _ _ hcg0)).trans hcg0
 replace hcg1 := (hb.cell (World.block_lt_of_cell? _ _ hcg1)).trans hcg1
 replace hcm0 := (hb.cell (World.block_lt_of_cell? _ _ hcm0)).trans hcm0
 replace hcm1 := (hb.cell (World.block_lt_of_cell? _ _ hcm1)).trans hcm1
 replace hcm2 := (hb.cell (World.block_lt_of_cell? _ _ hcm2)).trans hcm2
 replace CHOW := Aside0.mk (Kd.C_below CHOW.out hb)
 replace CHAS := Aside0.mk (Kd.C_below CHAS.out hb)
 replace CHW1 := Aside0.mk (Kd.C_below CHW1.out hb)
 replace CHW3 := Aside0.mk (Kd.C_below CHW3.out hb)
 replace CHFE := Aside0.mk (Kd.C_below CHFE.out hb)
 replace CHMI := Aside0.mk (Kd.C_below CHMI.out hb)
 replace CHLE := Aside0.mk (Kd.C_below CHLE.out hb)
 replace HB := Aside0.mk (below_step HB.out hb)
 obtain ⟨AB, cB, eB⟩ := Kd.R_slice ho
 subst eB
 have CB := Aside0.mk (Kd.R_reads' ho)
 clear ho
 clear hb
 refine hK.out _ _ ⟨hcw1, hcw3, hcg0, hcg1, hcm0, hcm1, hcm2⟩ (fun hHeld => ?_)
 clear hK K
 refine sN ?_
 refine oneM (i := 51) (N := some 120) 4503599627370495 HR.out rfl rfl (by kernel_rfl) (by kernel_rfl) (fun K hK => ?_)
 refine goes_ Try.func25 (by kernel_rfl) rfl #[.slice AHFE 4 cHFE, .slice AB 4 cB] (by rfl) rfl rfl (by simp only [List.map_toArray, List.map_cons, List.map_nil]; rfl) ?_
 refine (posserlaw03_ints.calls 10 AHFE cHFE [0, 0, 1, 2] AB cB [0, 0, 1, 2] true _ CHFE.out LHFE.out CB.out.2.2 CB.out.2.1 (by kernel_rfl)).mono ?_
 rintro e Wx ⟨rfl, ⟨nd, rfl⟩⟩
 have hb := pw_below_drewN (Below.refl Wa6.heap.size Wa6) nd
 replace hcw1 := (hb.cell (World.block_lt_of_cell? _ _ hcw1)).trans hcw1
 replace hcw3 := (hb.cell (World.block_lt_of_cell? _ _ hcw3)).trans hcw3
 replace hcg0 := (hb.cell (World.block_lt_of_cell? _ _ hcg0)).trans hcg0
 replace hcg1 := (hb.cell (World.block_lt_of_cell? _ _ hcg1)).trans hcg1
 replace hcm0 := (hb.cell (World.block_lt_of_cell? _ _ hcm0)).trans hcm0
 replace hcm1 := (hb.cell (World.block_lt_of_cell? _ _ hcm1)).trans hcm1
 replace hcm2 := (hb.cell (World.block_lt_of_cell? _ _ hcm2)).trans hcm2
 replace CHOW := Aside0.mk (Kd.C_below CHOW.out hb)
 replace CHAS := Aside0.mk (Kd.C_below CHAS.out hb)
 replace CHW1 := Aside0.mk (Kd.C_below CHW1.out hb)
 replace CHW3 := Aside0.mk (Kd.C_below CHW3.out hb)
 replace CHFE := Aside0.mk (Kd.C_below CHFE.out hb)
 replace CHMI := Aside0.mk (Kd.C_below CHMI.out hb)
 replace CHLE := Aside0.mk (Kd.C_below CHLE.out hb)
 replace HB := Aside0.mk (below_step HB.out hb)
 clear CB
 generalize (Wa6.drewN nd) = Wa7 at *
 clear hb
 refine ⟨_, rfl, ?_⟩
 refine hK.out _ _ ⟨hcw1, hcw3, hcg0, hcg1, hcm0, hcm1, hcm2⟩ (fun hHeld => ?_)
 clear hK K
 refine sN ?_
 refine sM (i := 52) (N := some 121) 9007199254740991 HR ?_
 refine sM (i := 53) (N := some 122) 18014398509481983 HR ?_
 refine sM (i := 54) (N := some 123) 36028797018963967 HR ?_
 refine sM (i := 55) (N := some 124) 72057594037927935 HR ?_
 refine sM (i := 56) (N := some 125) 144115188075855871 HR ?_
 refine sM (i := 57) (N := some 126) 288230376151711743 HR ?_
 refine sM (i := 58) (N := some 127) 576460752303423487 HR ?_
 refine sM (i := 59) (N := some 128) 1152921504606846975 HR ?_
 refine sM (i := 60) (N := some 129) 2305843009213693951 HR ?_
 refine sM (i := 61) (N := some 130) 4611686018427387903 HR ?_
 refine sM (i := 62) (N := some 131) 9223372036854775807 HR ?_
 refine sM (i := 63) (N := some 132) 18446744073709551615 HR ?_
 refine sM (i := 64) (N := some 133) 36893488147419103231 HR ?_
 refine sM (i := 66) (N := some 135) 110680464442257309695 HR ?_
 refine takeM (i := 65) (N := some 134) (v := ?_) (a' := ?_) 147573952589676412927 HR.out rfl rfl (by kernel_rfl) (by kernel_rfl) (fun _ _ _ h => h) (Or.inl ⟨by rfl, ?_⟩) hHeld ?_ ?_
 rotate_left
 ·rintro w' ⟨s0, s1, s2, s3, s4, s5, s6⟩
  go_simp
  with_reducible rfl
 rotate_left
 ·simp only [Act.put, List.setIfInBounds_toArray, List.set_cons_zero, List.set_cons_succ, i64_w, i32_w]
  rfl
 refine sM (i := 67) (N := some 136) 295147905179352825855 HR ?_
 refine sM (i := 68) (N := some 137) 590295810358705651711 HR ?_
 refine sM (i := 69) (N := some 138) 1180591620717411303423 HR ?_
 refine sM (i := 70) (N := some 139) 2361183241434822606847 HR ?_
 refine sM (i := 71) (N := some 140) 4722366482869645213695 HR ?_
 refine sM (i := 72) (N := some 141) 9444732965739290427391 HR ?_
 refine sM (i := 73) (N := some 142) 18889465931478580854783 HR ?_
 refine sM (i := 74) (N := some 143) 37778931862957161709567 HR ?_
 refine oneM (i := 75) (N := some 144) 75557863725914323419135 HR.out rfl rfl (by kernel_rfl) (by kernel_rfl) (fun K hK => ?_)
 refine value_ (w1 := ?_) (v := ?_) (by rfl) rfl ?_ ?_
 rotate_left 2
 ·go_simp
  constructor
  ·rfl
  ·rfl
 refine hK.out _ _ ⟨((below_alloc (Below.refl _ _) _).cell (World.block_lt_of_cell? _ _ hcw1)).trans hcw1, ((below_alloc (Below.refl _ _) _).cell (World.block_lt_of_cell? _ _ hcw3)).trans hcw3, ((below_alloc (Below.refl _ _) _).cell (World.block_lt_of_cell? _ _ hcg0)).trans hcg0, ((below_alloc (Below.refl _ _) _).cell (World.block_lt_of_cell? _ _ hcg1)).trans hcg1, ((below_alloc (Below.refl _ _) _).cell (World.block_lt_of_cell? _ _ hcm0)).trans hcm0, ((below_alloc (Below.refl _ _) _).cell (World.block_lt_of_cell? _ _ hcm1)).trans hcm1, ((below_alloc (Below.refl _ _) _).cell (World.block_lt_of_cell? _ _ hcm2)).trans hcm2⟩ (fun hHeld => ?_)
 clear hK K
 refine sN ?_
 refine oneM (i := 76) (N := some 145) 151115727451828646838271 HR.out rfl rfl (by kernel_rfl) (by kernel_rfl) (fun K hK => ?_)
 refine goes_ Try.func25 (by kernel_rfl) rfl #[.slice AHMI 3 cHMI, .slice (some ⟨Wa7.heap.size, 0, none⟩) 3 3] (by rfl) rfl rfl (by simp only [List.map_toArray, List.map_cons, List.map_nil]; rfl) ?_
 refine (posserlaw03_ints.calls 10 AHMI cHMI [3, 3, 1] (some ⟨Wa7.heap.size, 0, none⟩) 3 [3, 3, 1] true (Wa7.alloc (.cells #[.int .i64 3, .int .i64 3, .int .i64 1] 3)) (Kd.C_below CHMI.out (below_alloc (Below.refl _ _) _)) LHMI.out (lit_row (l := [3, 3, 1]) (show (Wa7.alloc (.cells #[.int .i64 3, .int .i64 3, .int .i64 1] 3)).heap[Wa7.heap.size]? = some (.cells (([3, 3, 1] : List Int).map (Value.int .i64)).toArray 3 (0, 0)) from blk_new Wa7 _)) (Nat.le_refl _) (by kernel_rfl)).mono ?_
 rintro e Wx ⟨rfl, ⟨nd, rfl⟩⟩
 have hb := pw_below_drewN (below_alloc (Below.refl Wa7.heap.size Wa7) (.cells #[.int .i64 3, .int .i64 3, .int .i64 1] 3)) nd
 replace hcw1 := (hb.cell (World.block_lt_of_cell? _ _ hcw1)).trans hcw1
 replace hcw3 := (hb.cell (World.block_lt_of_cell? _ _ hcw3)).trans hcw3
 replace hcg0 := (hb.cell (World.block_lt_of_cell? _ _ hcg0)).trans hcg0
 replace hcg1 := (hb.cell (World.block_lt_of_cell? _ _ hcg1)).trans hcg1
 replace hcm0 := (hb.cell (World.block_lt_of_cell? _ _ hcm0)).trans hcm0
 replace hcm1 := (hb.cell (World.block_lt_of_cell? _ _ hcm1)).trans hcm1
 replace hcm2 := (hb.cell (World.block_lt_of_cell? _ _ hcm2)).trans hcm2
 replace CHOW := Aside0.mk (Kd.C_below CHOW.out hb)
 replace CHAS := Aside0.mk (Kd.C_below CHAS.out hb)
 replace CHW1 := Aside0.mk (Kd.C_below CHW1.out hb)
 replace CHW3 := Aside0.mk (Kd.C_below CHW3.out hb)
 replace CHFE := Aside0.mk (Kd.C_below CHFE.out hb)
 replace CHMI := Aside0.mk (Kd.C_below CHMI.out hb)
 replace CHLE := Aside0.mk (Kd.C_below CHLE.out hb)
 replace HB := Aside0.mk (below_step HB.out hb)
 generalize ((Wa7.alloc (.cells #[.int .i64 3, .int .i64 3, .int .i64 1] 3)).drewN nd) = Wa8 at *
 clear hb
 refine ⟨_, rfl, ?_⟩
 refine hK.out _ _ ⟨hcw1, hcw3, hcg0, hcg1, hcm0, hcm1, hcm2⟩ (fun hHeld => ?_)
 clear hK K
 refine sN ?_
 refine sM (i := 77) (N := some 146) 302231454903657293676543 HR ?_
 refine sM (i := 78) (N := some 147) 604462909807314587353087 HR ?_
 refine sM (i := 79) (N := some 148) 1208925819614629174706175 HR ?_
 refine sM (i := 80) (N := some 149) 2417851639229258349412351 HR ?_
 refine sM (i := 81) (N := some 150) 4835703278458516698824703 HR ?_
 refine sM (i := 82) (N := some 151) 9671406556917033397649407 HR ?_
 refine sM (i := 83) (N := some 152) 19342813113834066795298815 HR ?_
 refine sM (i := 84) (N := some 153) 38685626227668133590597631 HR ?_
 refine sM (i := 85) (N := some 154) 77371252455336267181195263 HR ?_
 refine sM (i := 86) (N := some 155) 154742504910672534362390527 HR ?_
 refine sM (i := 87) (N := some 156) 309485009821345068724781055 HR ?_
 refine sM (i := 88) (N := some 157) 618970019642690137449562111 HR ?_
 refine sM (i := 89) (N := some 158) 1237940039285380274899124223 HR ?_
 refine sM (i := 90) (N := some 159) 2475880078570760549798248447 HR ?_
 refine sM (i := 91) (N := some 160) 4951760157141521099596496895 HR ?_
 refine sM (i := 92) (N := some 161) 9903520314283042199192993791 HR ?_
 refine sM (i := 93) (N := some 162) 19807040628566084398385987583 HR ?_
 refine sM (i := 94) (N := some 163) 39614081257132168796771975167 HR ?_
 refine sM (i := 95) (N := some 164) 79228162514264337593543950335 HR ?_
 refine sM (i := 96) (N := some 165) 158456325028528675187087900671 HR ?_
 refine sM (i := 97) (N := some 166) 316912650057057350374175801343 HR ?_
 refine sM (i := 98) (N := some 167) 633825300114114700748351602687 HR ?_
 refine sM (i := 99) (N := some 168) 1267650600228229401496703205375 HR ?_
 refine sM (i := 100) (N := some 169) 2535301200456458802993406410751 HR ?_
 refine sM (i := 101) (N := some 170) 5070602400912917605986812821503 HR ?_
 refine sM (i := 102) (N := some 171) 10141204801825835211973625643007 HR ?_
 refine sM (i := 103) (N := some 172) 20282409603651670423947251286015 HR ?_
 refine oneM (i := 104) (N := some 173) 40564819207303340847894502572031 HR.out rfl rfl (by kernel_rfl) (by kernel_rfl) (fun K hK => ?_)
 refine value_ (w1 := ?_) (v := ?_) (by rfl) rfl ?_ ?_
 rotate_left 2
 ·go_simp
  constructor
  ·rfl
  ·rfl
 refine hK.out _ _ ⟨((below_alloc (Below.refl _ _) _).cell (World.block_lt_of_cell? _ _ hcw1)).trans hcw1, ((below_alloc (Below.refl _ _) _).cell (World.block_lt_of_cell? _ _ hcw3)).trans hcw3, ((below_alloc (Below.refl _ _) _).cell (World.block_lt_of_cell? _ _ hcg0)).trans hcg0, ((below_alloc (Below.refl _ _) _).cell (World.block_lt_of_cell? _ _ hcg1)).trans hcg1, ((below_alloc (Below.refl _ _) _).cell (World.block_lt_of_cell? _ _ hcm0)).trans hcm0, ((below_alloc (Below.refl _ _) _).cell (World.block_lt_of_cell? _ _ hcm1)).trans hcm1, ((below_alloc (Below.refl _ _) _).cell (World.block_lt_of_cell? _ _ hcm2)).trans hcm2⟩ (fun hHeld => ?_)
 clear hK K
 refine sN ?_
 refine oneM (i := 105) (N := some 174) 81129638414606681695789005144063 HR.out rfl rfl (by kernel_rfl) (by kernel_rfl) (fun K hK => ?_)
 refine goes_ Try.func25 (by kernel_rfl) rfl #[.slice AHLE 2 cHLE, .slice (some ⟨Wa8.heap.size, 0, none⟩) 2 2] (by rfl) rfl rfl (by simp only [List.map_toArray, List.map_cons, List.map_nil]; rfl) ?_
 refine (posserlaw03_ints.calls 10 AHLE cHLE [0, 2] (some ⟨Wa8.heap.size, 0, none⟩) 2 [0, 2] true (Wa8.alloc (.cells #[.int .i64 0, .int .i64 2] 3)) (Kd.C_below CHLE.out (below_alloc (Below.refl _ _) _)) LHLE.out (lit_row (l := [0, 2]) (show (Wa8.alloc (.cells #[.int .i64 0, .int .i64 2] 3)).heap[Wa8.heap.size]? = some (.cells (([0, 2] : List Int).map (Value.int .i64)).toArray 3 (0, 0)) from blk_new Wa8 _)) (Nat.le_refl _) (by kernel_rfl)).mono ?_
 rintro e Wx ⟨rfl, ⟨nd, rfl⟩⟩
 have hb := pw_below_drewN (below_alloc (Below.refl Wa8.heap.size Wa8) (.cells #[.int .i64 0, .int .i64 2] 3)) nd
 replace hcw1 := (hb.cell (World.block_lt_of_cell? _ _ hcw1)).trans hcw1
 replace hcw3 := (hb.cell (World.block_lt_of_cell? _ _ hcw3)).trans hcw3
 replace hcg0 := (hb.cell (World.block_lt_of_cell? _ _ hcg0)).trans hcg0
 replace hcg1 := (hb.cell (World.block_lt_of_cell? _ _ hcg1)).trans hcg1
 replace hcm0 := (hb.cell (World.block_lt_of_cell? _ _ hcm0)).trans hcm0
 replace hcm1 := (hb.cell (World.block_lt_of_cell? _ _ hcm1)).trans hcm1
 replace hcm2 := (hb.cell (World.block_lt_of_cell? _ _ hcm2)).trans hcm2
 replace CHOW := Aside0.mk (Kd.C_below CHOW.out hb)
 replace CHAS := Aside0.mk (Kd.C_below CHAS.out hb)
 replace CHW1 := Aside0.mk (Kd.C_below CHW1.out hb)
 replace CHW3 := Aside0.mk (Kd.C_below CHW3.out hb)
 replace CHFE := Aside0.mk (Kd.C_below CHFE.out hb)
 replace CHMI := Aside0.mk (Kd.C_below CHMI.out hb)
 replace CHLE := Aside0.mk (Kd.C_below CHLE.out hb)
 replace HB := Aside0.mk (below_step HB.out hb)
 generalize ((Wa8.alloc (.cells #[.int .i64 0, .int .i64 2] 3)).drewN nd) = Wa9 at *
 clear hb
 refine ⟨_, rfl, ?_⟩
 refine hK.out _ _ ⟨hcw1, hcw3, hcg0, hcg1, hcm0, hcm1, hcm2⟩ (fun hHeld => ?_)
 clear hK K
 refine sN ?_
 refine sM (i := 106) (N := some 175) 162259276829213363391578010288127 HR ?_
 refine sM (i := 107) (N := some 0) 324518553658426726783156020576255 HR ?_
 refine doneM HR.out (by kernel_rfl) ?_
 go_wp2
 go_ret
 exact ⟨rfl, HB.out⟩
end Go.Proofs.Ytnbbbeghgomnoaa.X
namespace Go.Proofs.Ytnbbbeghgomnoaa.X
open Go.RowKit Go.Proofs.YtnbbbeghgomnoaaW.PrintWords Go.Proofs.YtnbbbeghgomnoaaW.PrintLast Go.Proofs.YtnbbbeghgomnoaaW.PrintMore
def thinP (l0 : List S109) (l1 : List S110) : Bool := decide (l0.length ≤ 30) && decide (l1.length ≤ 30) && l1.all (fun p => decide (p.f0.length ≤ 30))
def thinR (l0 : List S85) (l1 : List S71) : Bool := decide (l0.length ≤ 30) && decide (l1.length ≤ 30) && l1.all (fun p => decide (p.f0.length ≤ 30))
theorem thinP_tab {A0 : Option Addr} {c0 : Nat} {l0 : List S109} {A1 : Option Addr} {c1 : Nat} {l1 : List S110} {w : World} (h : thinP l0 l1 = true) (r0 : Kd.C k109 w A0 l0.length l0) (h0 : l0.length ≤ c0) (r1 : Kd.C k110 w A1 l1.length l1) (h1 : l1.length ≤ c1) : Tab A0 c0 l0 A1 c1 l1 w := by
 unfold thinP at h
 simp only [Bool.and_eq_true, decide_eq_true_eq, List.all_eq_true] at h
 exact ⟨r0, h0, r1, h1, h.1.1, h.1.2, h.2⟩
theorem thinR_tab {A0 : Option Addr} {c0 : Nat} {l0 : List S85} {A1 : Option Addr} {c1 : Nat} {l1 : List S71} {w : World} (h : thinR l0 l1 = true) (r0 : Kd.C k85 w A0 l0.length l0) (h0 : l0.length ≤ c0) (r1 : Kd.C k71 w A1 l1.length l1) (h1 : l1.length ≤ c1) : RTab A0 c0 l0 A1 c1 l1 w := by
 unfold thinR at h
 simp only [Bool.and_eq_true, decide_eq_true_eq, List.all_eq_true] at h
 exact ⟨r0, h0, r1, h1, h.1.1, h.1.2, h.2⟩
theorem some_if {α : Type} {p : Bool} {a r : α} (h : (if p = true then some a else none) = some r) : p = true ∧ r = a := by
 cases p
 ·cases h
 ·exact ⟨rfl, (Option.some.inj h).symm⟩
def posserlaw03_awake.f : Option (Bool) := some true
theorem posserlaw03_awake.calls (r : Bool) (w : World) (h : posserlaw03_awake.f = some r) :
  Calls Try.prog 21 #[] w fun e w' => e = .returned (.bool r) ∧ Below w.heap.size w w' := by
 obtain rfl := Option.some.inj h
 exact awake_calls w
def bundle_Whose.f (l0_0 : List (S109)) (l0_1 : List (S110)) (a0_2 : Int) : Option ((List (List Int)) × Int) := if thinP l0_0 l0_1 = true then some (if askE l0_0 l0_1 a0_2 = 0 then (whoseL l0_0.length l0_1.length (truthsL l0_0 l0_1 a0_2), 0) else ([], askE l0_0 l0_1 a0_2)) else none
theorem bundle_Whose.calls (A0_0 : Option Addr) (c0_0 : Nat) (l0_0 : List (S109)) (A0_1 : Option Addr) (c0_1 : Nat) (l0_1 : List (S110)) (a0_2 : Int) (r1 : List (List Int)) (r2 : Int) (w : World) (hr0_0 : Kd.C k109 w A0_0 l0_0.length l0_0) (hc0_0 : l0_0.length ≤ c0_0) (hr0_1 : Kd.C k110 w A0_1 l0_1.length l0_1) (hc0_1 : l0_1.length ≤ c0_1) (h : bundle_Whose.f l0_0 l0_1 a0_2 = some (r1, r2)) :
  Calls Try.prog 22 #[.agg #[.slice A0_0 l0_0.length c0_0, .slice A0_1 l0_1.length c0_1, .int .i64 a0_2]] w fun e w' => ∃ v0_ : Value, e = .returned (.tuple #[v0_, .int .i64 r2]) ∧ Kd.N (Kd.slice 3 (Kd.int .i64)) 39 w' w.heap.size (fun k_ => (w.heap.size ≤ k_)) v0_ r1 ∧ Below w.heap.size w w' := by
 obtain ⟨ht, hr⟩ := some_if h
 have hT := thinP_tab ht hr0_0 hc0_0 hr0_1 hc0_1
 by_cases he : askE l0_0 l0_1 a0_2 = 0
 ·rw [if_pos he] at hr
  injection hr with h1 h2
  subst h1 h2
  refine (Whose_ok a0_2 hT he).mono ?_
  rintro e w' ⟨v, rfl, hv, hb⟩
  exact ⟨v, rfl, Kd.R_N (Kd.R_mono (Kd.R_bound hv) (fun k hk => hk.2.1)), hb⟩
 ·rw [if_neg he] at hr
  injection hr with h1 h2
  subst h1 h2
  refine (Whose_e a0_2 hT he).mono ?_
  rintro e w' ⟨rfl, hb⟩
  exact ⟨_, rfl, Kd.N_nil _ _ _ _ _, hb⟩
def posserlaw03_Table.f (l0_0 : List (S85)) (l0_1 : List (S71)) (a0_2 : Int) : Option ((List (S109)) × (List (S110)) × Int) := if thinR l0_0 l0_1 = true then some (l0_0.map cvW, l0_1.map cvP, a0_2) else none
theorem posserlaw03_Table.calls (A0_0 : Option Addr) (c0_0 : Nat) (l0_0 : List (S85)) (A0_1 : Option Addr) (c0_1 : Nat) (l0_1 : List (S71)) (a0_2 : Int) (r1 : List (S109)) (r2 : List (S110)) (r3 : Int) (w : World) (hr0_0 : Kd.C k85 w A0_0 l0_0.length l0_0) (hc0_0 : l0_0.length ≤ c0_0) (hr0_1 : Kd.C k71 w A0_1 l0_1.length l0_1) (hc0_1 : l0_1.length ≤ c0_1) (h : posserlaw03_Table.f l0_0 l0_1 a0_2 = some (r1, r2, r3)) :
  Calls Try.prog 23 #[.agg #[.slice A0_0 l0_0.length c0_0, .slice A0_1 l0_1.length c0_1, .int .i64 a0_2]] w fun e w' => ∃ v0_ v1_ : Value, e = .returned (.agg #[v0_, v1_, .int .i64 r3]) ∧ Kd.R k109 109 w' w.heap.size (fun k_ => (w.heap.size ≤ k_)) v0_ r1 ∧ Kd.N k110 110 w' w.heap.size (fun k_ => (w.heap.size ≤ k_) ∧ some k_ ≠ (v0_ : Value).ownBlock) v1_ r2 ∧ Below w.heap.size w w' := by
 obtain ⟨ht, hr⟩ := some_if h
 injection hr with h1 hr
 injection hr with h2 h3
 subst h1 h2 h3
 refine (Table_calls r3 (thinR_tab ht hr0_0 hc0_0 hr0_1 hc0_1)).mono ?_
 rintro e w' ⟨B0, d0, B1, d1, rfl, _, hv, hp, hb⟩
 refine ⟨_, _, rfl, Kd.R_mono (Kd.R_bound hv) (fun k hk => hk.2.1), Kd.R_N (Kd.R_mono (Kd.R_bound hp) (fun k hk => ⟨hk.2.1, fun he => ?_⟩)), hb⟩
 obtain ⟨_, _, _, q, hq, cells, hc⟩ := hk
 obtain ⟨cells2, hc2⟩ := Kd.R_typed hv k he.symm
 rw [hc] at hc2
 injection hc2 with hc2
 injection hc2 with _ hc2
 subst hc2
 revert hq
 decide
def bundle_Misses.f (l0_0 : List (S109)) (l0_1 : List (S110)) (a0_2 : Int) : Option (List Int × Int) := if thinP l0_0 l0_1 = true then some (if askE l0_0 l0_1 a0_2 = 0 then (missL l0_1 (truthsL l0_0 l0_1 a0_2) l0_0.length, 0) else ([], askE l0_0 l0_1 a0_2)) else none
theorem bundle_Misses.calls (A0_0 : Option Addr) (c0_0 : Nat) (l0_0 : List (S109)) (A0_1 : Option Addr) (c0_1 : Nat) (l0_1 : List (S110)) (a0_2 : Int) (r1 : List Int) (r2 : Int) (w : World) (hr0_0 : Kd.C k109 w A0_0 l0_0.length l0_0) (hc0_0 : l0_0.length ≤ c0_0) (hr0_1 : Kd.C k110 w A0_1 l0_1.length l0_1) (hc0_1 : l0_1.length ≤ c0_1) (h : bundle_Misses.f l0_0 l0_1 a0_2 = some (r1, r2)) :
  Calls Try.prog 27 #[.agg #[.slice A0_0 l0_0.length c0_0, .slice A0_1 l0_1.length c0_1, .int .i64 a0_2]] w fun e w' => ∃ v0_ : Value, e = .returned (.tuple #[v0_, .int .i64 r2]) ∧ Kd.R (Kd.int .i64) 3 w' w.heap.size (fun _ => True) v0_ r1 ∧ Below w.heap.size w w' := by
 obtain ⟨ht, hr⟩ := some_if h
 have hT := thinP_tab ht hr0_0 hc0_0 hr0_1 hc0_1
 by_cases he : askE l0_0 l0_1 a0_2 = 0
 ·rw [if_pos he] at hr
  injection hr with h1 h2
  subst h1 h2
  exact Misses_ok a0_2 hT he
 ·rw [if_neg he] at hr
  injection hr with h1 h2
  subst h1 h2
  refine (Misses_e a0_2 hT he).mono ?_
  rintro e w' ⟨rfl, hb⟩
  exact ⟨_, rfl, Kd.R_nil _ _ _ _ _, hb⟩
def bundle_Look.f (l0_0 : List (S109)) (l0_1 : List (S110)) (a0_2 : Int) : Option (Int × Int × Int) := if thinP l0_0 l0_1 = true then some (if askE l0_0 l0_1 a0_2 = 0 then (if l0_1.length = 0 then (0, 0, 7) else ((lookL l0_0.length l0_1.length (truthsL l0_0 l0_1 a0_2) l0_1.length).1, (lookL l0_0.length l0_1.length (truthsL l0_0 l0_1 a0_2) l0_1.length).2, 0)) else (0, 0, askE l0_0 l0_1 a0_2)) else none
theorem bundle_Look.calls (A0_0 : Option Addr) (c0_0 : Nat) (l0_0 : List (S109)) (A0_1 : Option Addr) (c0_1 : Nat) (l0_1 : List (S110)) (a0_2 : Int) (r1 : Int) (r2 : Int) (r3 : Int) (w : World) (hr0_0 : Kd.C k109 w A0_0 l0_0.length l0_0) (hc0_0 : l0_0.length ≤ c0_0) (hr0_1 : Kd.C k110 w A0_1 l0_1.length l0_1) (hc0_1 : l0_1.length ≤ c0_1) (h : bundle_Look.f l0_0 l0_1 a0_2 = some (r1, r2, r3)) :
  Calls Try.prog 29 #[.agg #[.slice A0_0 l0_0.length c0_0, .slice A0_1 l0_1.length c0_1, .int .i64 a0_2]] w fun e w' => e = .returned (.tuple #[.int .i64 r1, .int .i64 r2, .int .i64 r3]) ∧ Below w.heap.size w w' := by
 obtain ⟨ht, hr⟩ := some_if h
 have hT := thinP_tab ht hr0_0 hc0_0 hr0_1 hc0_1
 by_cases he : askE l0_0 l0_1 a0_2 = 0
 ·rw [if_pos he] at hr
  by_cases hp : l0_1.length = 0
  ·rw [if_pos hp] at hr
   injection hr with h1 hr
   injection hr with h2 h3
   subst h1 h2 h3
   exact Look_none a0_2 hT he hp
  ·rw [if_neg hp] at hr
   injection hr with h1 hr
   injection hr with h2 h3
   subst h1 h2 h3
   exact Look_ok a0_2 hT he hp
 ·rw [if_neg he] at hr
  injection hr with h1 hr
  injection hr with h2 h3
  subst h1 h2 h3
  exact Look_e a0_2 hT he
def bundle_First.f (l0_0 : List (S109)) (l0_1 : List (S110)) (a0_2 : Int) : Option (Int × Int) := if thinP l0_0 l0_1 = true then some (if checkT l0_0 l0_1 a0_2 = 0 then ((firstL l0_0 l0_1).1, (firstL l0_0 l0_1).2) else (0, checkT l0_0 l0_1 a0_2)) else none
theorem bundle_First.calls (A0_0 : Option Addr) (c0_0 : Nat) (l0_0 : List (S109)) (A0_1 : Option Addr) (c0_1 : Nat) (l0_1 : List (S110)) (a0_2 : Int) (r1 : Int) (r2 : Int) (w : World) (hr0_0 : Kd.C k109 w A0_0 l0_0.length l0_0) (hc0_0 : l0_0.length ≤ c0_0) (hr0_1 : Kd.C k110 w A0_1 l0_1.length l0_1) (hc0_1 : l0_1.length ≤ c0_1) (h : bundle_First.f l0_0 l0_1 a0_2 = some (r1, r2)) :
  Calls Try.prog 31 #[.agg #[.slice A0_0 l0_0.length c0_0, .slice A0_1 l0_1.length c0_1, .int .i64 a0_2]] w fun e w' => e = .returned (.tuple #[.int .i64 r1, .int .i64 r2]) ∧ Below w.heap.size w w' := by
 obtain ⟨ht, hr⟩ := some_if h
 have hT := thinP_tab ht hr0_0 hc0_0 hr0_1 hc0_1
 by_cases he : checkT l0_0 l0_1 a0_2 = 0
 ·rw [if_pos he] at hr
  injection hr with h1 h2
  subst h1 h2
  exact First_ok a0_2 hT he
 ·rw [if_neg he] at hr
  injection hr with h1 h2
  subst h1 h2
  exact First_e a0_2 hT he
def bundle_Leave.f (l0_0 : List (S109)) (l0_1 : List (S110)) (a0_2 : Int) : Option (List Int × Int) := if thinP l0_0 l0_1 = true then some (if checkT l0_0 l0_1 a0_2 = 0 then (leaveL l0_0 l0_1, 0) else ([], checkT l0_0 l0_1 a0_2)) else none
theorem bundle_Leave.calls (A0_0 : Option Addr) (c0_0 : Nat) (l0_0 : List (S109)) (A0_1 : Option Addr) (c0_1 : Nat) (l0_1 : List (S110)) (a0_2 : Int) (r1 : List Int) (r2 : Int) (w : World) (hr0_0 : Kd.C k109 w A0_0 l0_0.length l0_0) (hc0_0 : l0_0.length ≤ c0_0) (hr0_1 : Kd.C k110 w A0_1 l0_1.length l0_1) (hc0_1 : l0_1.length ≤ c0_1) (h : bundle_Leave.f l0_0 l0_1 a0_2 = some (r1, r2)) :
  Calls Try.prog 32 #[.agg #[.slice A0_0 l0_0.length c0_0, .slice A0_1 l0_1.length c0_1, .int .i64 a0_2]] w fun e w' => ∃ v0_ : Value, e = .returned (.tuple #[v0_, .int .i64 r2]) ∧ Kd.R (Kd.int .i64) 3 w' w.heap.size (fun _ => True) v0_ r1 ∧ Below w.heap.size w w' := by
 obtain ⟨ht, hr⟩ := some_if h
 have hT := thinP_tab ht hr0_0 hc0_0 hr0_1 hc0_1
 by_cases he : checkT l0_0 l0_1 a0_2 = 0
 ·rw [if_pos he] at hr
  injection hr with h1 h2
  subst h1 h2
  exact Leave_ok a0_2 hT he
 ·rw [if_neg he] at hr
  injection hr with h1 h2
  subst h1 h2
  refine (Leave_e a0_2 hT he).mono ?_
  rintro e w' ⟨rfl, hb⟩
  exact ⟨_, rfl, Kd.R_nil _ _ _ _ _, hb⟩
def bundle_Astray.f (l0_0 : List (S109)) (l0_1 : List (S110)) (a0_2 : Int) : Option (Int × Int × Int) := if thinP l0_0 l0_1 = true then some (if askE l0_0 l0_1 a0_2 = 0 then ((boundsL (fun x => lostN l0_1 (pad x)) (truthsL l0_0 l0_1 a0_2)).1, (boundsL (fun x => lostN l0_1 (pad x)) (truthsL l0_0 l0_1 a0_2)).2, 0) else (0, 0, askE l0_0 l0_1 a0_2)) else none
theorem bundle_Astray.calls (A0_0 : Option Addr) (c0_0 : Nat) (l0_0 : List (S109)) (A0_1 : Option Addr) (c0_1 : Nat) (l0_1 : List (S110)) (a0_2 : Int) (r1 : Int) (r2 : Int) (r3 : Int) (w : World) (hr0_0 : Kd.C k109 w A0_0 l0_0.length l0_0) (hc0_0 : l0_0.length ≤ c0_0) (hr0_1 : Kd.C k110 w A0_1 l0_1.length l0_1) (hc0_1 : l0_1.length ≤ c0_1) (h : bundle_Astray.f l0_0 l0_1 a0_2 = some (r1, r2, r3)) :
  Calls Try.prog 37 #[.agg #[.slice A0_0 l0_0.length c0_0, .slice A0_1 l0_1.length c0_1, .int .i64 a0_2]] w fun e w' => e = .returned (.tuple #[.agg #[.int .i64 r1, .int .i64 r2], .int .i64 r3]) ∧ Below w.heap.size w w' := by
 obtain ⟨ht, hr⟩ := some_if h
 have hT := thinP_tab ht hr0_0 hc0_0 hr0_1 hc0_1
 by_cases he : askE l0_0 l0_1 a0_2 = 0
 ·rw [if_pos he] at hr
  injection hr with h1 hr
  injection hr with h2 h3
  subst h1 h2 h3
  exact Astray_ok a0_2 hT he
 ·rw [if_neg he] at hr
  injection hr with h1 hr
  injection hr with h2 h3
  subst h1 h2 h3
  exact Astray_e a0_2 hT he
def bundle_Fewest.f (l0_0 : List (S109)) (l0_1 : List (S110)) (a0_2 : Int) : Option (List Int × Int) := if thinP l0_0 l0_1 = true then some (if askE l0_0 l0_1 a0_2 = 0 then (bestL l0_1 (truthsL l0_0 l0_1 a0_2), 0) else ([], askE l0_0 l0_1 a0_2)) else none
theorem bundle_Fewest.calls (A0_0 : Option Addr) (c0_0 : Nat) (l0_0 : List (S109)) (A0_1 : Option Addr) (c0_1 : Nat) (l0_1 : List (S110)) (a0_2 : Int) (r1 : List Int) (r2 : Int) (w : World) (hr0_0 : Kd.C k109 w A0_0 l0_0.length l0_0) (hc0_0 : l0_0.length ≤ c0_0) (hr0_1 : Kd.C k110 w A0_1 l0_1.length l0_1) (hc0_1 : l0_1.length ≤ c0_1) (h : bundle_Fewest.f l0_0 l0_1 a0_2 = some (r1, r2)) :
  Calls Try.prog 38 #[.agg #[.slice A0_0 l0_0.length c0_0, .slice A0_1 l0_1.length c0_1, .int .i64 a0_2]] w fun e w' => ∃ v0_ : Value, e = .returned (.tuple #[v0_, .int .i64 r2]) ∧ Kd.R (Kd.int .i64) 3 w' w.heap.size (fun _ => True) v0_ r1 ∧ Below w.heap.size w w' := by
 obtain ⟨ht, hr⟩ := some_if h
 have hT := thinP_tab ht hr0_0 hc0_0 hr0_1 hc0_1
 by_cases he : askE l0_0 l0_1 a0_2 = 0
 ·rw [if_pos he] at hr
  injection hr with h1 h2
  subst h1 h2
  exact Fewest_ok a0_2 hT he
 ·rw [if_neg he] at hr
  injection hr with h1 h2
  subst h1 h2
  refine (Fewest_e a0_2 hT he).mono ?_
  rintro e w' ⟨rfl, hb⟩
  exact ⟨_, rfl, Kd.R_nil _ _ _ _ _, hb⟩
def bundle_Moves.f (l0_0 : List (S109)) (l0_1 : List (S110)) (a0_2 : Int) : Option ((List (S69)) × Int) := if thinP l0_0 l0_1 = true then some (if askE l0_0 l0_1 a0_2 = 0 then (movesL l0_1 (bestL l0_1 (truthsL l0_0 l0_1 a0_2)), 0) else ([], askE l0_0 l0_1 a0_2)) else none
theorem bundle_Moves.calls (A0_0 : Option Addr) (c0_0 : Nat) (l0_0 : List (S109)) (A0_1 : Option Addr) (c0_1 : Nat) (l0_1 : List (S110)) (a0_2 : Int) (r1 : List (S69)) (r2 : Int) (w : World) (hr0_0 : Kd.C k109 w A0_0 l0_0.length l0_0) (hc0_0 : l0_0.length ≤ c0_0) (hr0_1 : Kd.C k110 w A0_1 l0_1.length l0_1) (hc0_1 : l0_1.length ≤ c0_1) (h : bundle_Moves.f l0_0 l0_1 a0_2 = some (r1, r2)) :
  Calls Try.prog 39 #[.agg #[.slice A0_0 l0_0.length c0_0, .slice A0_1 l0_1.length c0_1, .int .i64 a0_2]] w fun e w' => ∃ v0_ : Value, e = .returned (.tuple #[v0_, .int .i64 r2]) ∧ Kd.R k69 69 w' w.heap.size (fun _ => True) v0_ r1 ∧ Below w.heap.size w w' := by
 obtain ⟨ht, hr⟩ := some_if h
 have hT := thinP_tab ht hr0_0 hc0_0 hr0_1 hc0_1
 by_cases he : askE l0_0 l0_1 a0_2 = 0
 ·rw [if_pos he] at hr
  injection hr with h1 h2
  subst h1 h2
  exact Moves_ok a0_2 hT he
 ·rw [if_neg he] at hr
  injection hr with h1 h2
  subst h1 h2
  refine (Moves_e a0_2 hT he).mono ?_
  rintro e w' ⟨rfl, hb⟩
  exact ⟨_, rfl, Kd.R_nil _ _ _ _ _, hb⟩
def bundle_ProveFewest.f (l0_0 : List (S109)) (l0_1 : List (S110)) (a0_2 : Int) (l1 : List Int) (a2 : Int) : Option (Bool) := if (thinP l0_0 l0_1 && decide (checkT l0_0 l0_1 a0_2 = 0) && decide (l1.length ≤ 1000000)) = true then some (areB l0_0 l0_1 l1 && isT l0_0 l0_1.length a0_2 l1 && decide (lostN l0_1 (pad l1) ≤ a2)) else none
theorem bundle_ProveFewest.calls (A0_0 : Option Addr) (c0_0 : Nat) (l0_0 : List (S109)) (A0_1 : Option Addr) (c0_1 : Nat) (l0_1 : List (S110)) (a0_2 : Int) (A1 : Option Addr) (c1 : Nat) (l1 : List Int) (a2 : Int) (r : Bool) (w : World) (hr0_0 : Kd.C k109 w A0_0 l0_0.length l0_0) (hc0_0 : l0_0.length ≤ c0_0) (hr0_1 : Kd.C k110 w A0_1 l0_1.length l0_1) (hc0_1 : l0_1.length ≤ c0_1) (hr1 : Kd.C (Kd.int .i64) w A1 l1.length l1) (hc1 : l1.length ≤ c1) (h : bundle_ProveFewest.f l0_0 l0_1 a0_2 l1 a2 = some r) :
  Calls Try.prog 40 #[.agg #[.slice A0_0 l0_0.length c0_0, .slice A0_1 l0_1.length c0_1, .int .i64 a0_2], .slice A1 l1.length c1, .int .i64 a2] w fun e w' => e = .returned (.bool r) ∧ Below w.heap.size w w' := by
 obtain ⟨ht, hr⟩ := some_if h
 simp only [Bool.and_eq_true, decide_eq_true_eq] at ht
 obtain ⟨⟨ht, he⟩, hl⟩ := ht
 have hT := thinP_tab ht hr0_0 hc0_0 hr0_1 hc0_1
 cases ha : areB l0_0 l0_1 l1 with
 | false =>
  rw [ha] at hr
  subst hr
  exact ProveFewest_no a0_2 hT hr1 hc1 hl a2 he ha
 | true =>
  cases hi : isT l0_0 l0_1.length a0_2 l1 with
  | false =>
   rw [ha, hi] at hr
   subst hr
   exact ProveFewest_nt a0_2 hT hr1 hc1 hl a2 he ha hi
  | true =>
   rw [ha, hi] at hr
   subst hr
   exact ProveFewest_ok a0_2 hT hr1 hc1 hl a2 he ha hi
def posserlaw03_list.f (l0 : List Int) : Option (List Int) := if decide (l0.length ≤ 1000000) = true then some l0 else none
theorem posserlaw03_list.calls (A0 : Option Addr) (c0 : Nat) (l0 : List Int) (r : List Int) (w : World) (hr0 : Kd.C (Kd.int .i64) w A0 l0.length l0) (hc0 : l0.length ≤ c0) (h : posserlaw03_list.f l0 = some r) :
  Calls Try.prog 41 #[.slice A0 l0.length c0] w fun e w' => ∃ v0_ : Value, e = .returned (v0_) ∧ Kd.R (Kd.int .i64) 3 w' w.heap.size (fun _ => True) v0_ r ∧ Below w.heap.size w w' := by
 obtain ⟨ht, rfl⟩ := some_if h
 exact list_calls A0 c0 r w hr0 (of_decide_eq_true ht)
def bundle_Play.f (l0_0 : List (S109)) (l0_1 : List (S110)) (a0_2 : Int) (l1 : List Int) : Option (List Int × List Int × Int) := if (thinP l0_0 l0_1 && decide (l1.length ≤ 1000000)) = true then some (if checkT l0_0 l0_1 a0_2 = 0 then (if areB l0_0 l0_1 l1 = true then (ownL l0_0.length l0_1.length (pad l1), sel (off l0_1 (pad l1)) l0_1.length, 0) else ([], [], 2)) else ([], [], checkT l0_0 l0_1 a0_2)) else none
theorem bundle_Play.calls (A0_0 : Option Addr) (c0_0 : Nat) (l0_0 : List (S109)) (A0_1 : Option Addr) (c0_1 : Nat) (l0_1 : List (S110)) (a0_2 : Int) (A1 : Option Addr) (c1 : Nat) (l1 : List Int) (r1 : List Int) (r2 : List Int) (r3 : Int) (w : World) (hr0_0 : Kd.C k109 w A0_0 l0_0.length l0_0) (hc0_0 : l0_0.length ≤ c0_0) (hr0_1 : Kd.C k110 w A0_1 l0_1.length l0_1) (hc0_1 : l0_1.length ≤ c0_1) (hr1 : Kd.C (Kd.int .i64) w A1 l1.length l1) (hc1 : l1.length ≤ c1) (h : bundle_Play.f l0_0 l0_1 a0_2 l1 = some (r1, r2, r3)) :
  Calls Try.prog 50 #[.agg #[.slice A0_0 l0_0.length c0_0, .slice A0_1 l0_1.length c0_1, .int .i64 a0_2], .slice A1 l1.length c1] w fun e w' => ∃ v0_ v1_ : Value, e = .returned (.tuple #[v0_, v1_, .int .i64 r3]) ∧ Kd.R (Kd.int .i64) 3 w' w.heap.size (fun k_ => some k_ ≠ (v1_ : Value).ownBlock) v0_ r1 ∧ Kd.R (Kd.int .i64) 3 w' w.heap.size (fun k_ => some k_ ≠ (v0_ : Value).ownBlock) v1_ r2 ∧ Below w.heap.size w w' := by
 obtain ⟨ht, hr⟩ := some_if h
 simp only [Bool.and_eq_true, decide_eq_true_eq] at ht
 obtain ⟨ht, hl⟩ := ht
 have hT := thinP_tab ht hr0_0 hc0_0 hr0_1 hc0_1
 by_cases he : checkT l0_0 l0_1 a0_2 = 0
 ·rw [if_pos he] at hr
  by_cases ha : areB l0_0 l0_1 l1 = true
  ·rw [if_pos ha] at hr
   injection hr with h1 hr
   injection hr with h2 h3
   subst h1 h2 h3
   refine (Play_ok a0_2 hT hr1 hc1 hl he ha).mono ?_
   rintro e w' ⟨v1, v2, rfl, g1, g2, hne, hb⟩
   refine ⟨v1, v2, rfl, Kd.R_mono (Kd.R_tight rfl g1) (fun k hk => hne k hk.symm), Kd.R_mono (Kd.R_tight rfl g2) (fun k hk hk2 => hne k hk2.symm hk), hb⟩
  ·have ha' : areB l0_0 l0_1 l1 = false := Bool.eq_false_iff.2 ha
   rw [if_neg ha] at hr
   injection hr with h1 hr
   injection hr with h2 h3
   subst h1 h2 h3
   refine (Play_no a0_2 hT hr1 hc1 hl he ha').mono ?_
   rintro e w' ⟨rfl, hb⟩
   exact ⟨_, _, rfl, Kd.R_nil _ _ _ _ _, Kd.R_nil _ _ _ _ _, hb⟩
 ·rw [if_neg he] at hr
  injection hr with h1 hr
  injection hr with h2 h3
  subst h1 h2 h3
  refine (Play_e a0_2 hT hr1 hc1 hl he).mono ?_
  rintro e w' ⟨rfl, hb⟩
  exact ⟨_, _, rfl, Kd.R_nil _ _ _ _ _, Kd.R_nil _ _ _ _ _, hb⟩
def bundle_ProveTruth.f (l0_0 : List (S109)) (l0_1 : List (S110)) (a0_2 : Int) (l1 : List Int) : Option (Bool) := if (thinP l0_0 l0_1 && decide (l1.length ≤ 1000000)) = true then some (provedT l0_0 l0_1 a0_2 l1) else none
theorem bundle_ProveTruth.calls (A0_0 : Option Addr) (c0_0 : Nat) (l0_0 : List (S109)) (A0_1 : Option Addr) (c0_1 : Nat) (l0_1 : List (S110)) (a0_2 : Int) (A1 : Option Addr) (c1 : Nat) (l1 : List Int) (r : Bool) (w : World) (hr0_0 : Kd.C k109 w A0_0 l0_0.length l0_0) (hc0_0 : l0_0.length ≤ c0_0) (hr0_1 : Kd.C k110 w A0_1 l0_1.length l0_1) (hc0_1 : l0_1.length ≤ c0_1) (hr1 : Kd.C (Kd.int .i64) w A1 l1.length l1) (hc1 : l1.length ≤ c1) (h : bundle_ProveTruth.f l0_0 l0_1 a0_2 l1 = some r) :
  Calls Try.prog 60 #[.agg #[.slice A0_0 l0_0.length c0_0, .slice A0_1 l0_1.length c0_1, .int .i64 a0_2], .slice A1 l1.length c1] w fun e w' => e = .returned (.bool r) ∧ Below w.heap.size w w' := by
 obtain ⟨ht, rfl⟩ := some_if h
 simp only [Bool.and_eq_true, decide_eq_true_eq] at ht
 exact ProveTruth_calls a0_2 (thinP_tab ht.1 hr0_0 hc0_0 hr0_1 hc0_1) hr1 hc1 ht.2
def bundle_CheckTable.f (l0_0 : List (S109)) (l0_1 : List (S110)) (a0_2 : Int) : Option (Int) := if thinP l0_0 l0_1 = true then some (checkT l0_0 l0_1 a0_2) else none
theorem bundle_CheckTable.calls (A0_0 : Option Addr) (c0_0 : Nat) (l0_0 : List (S109)) (A0_1 : Option Addr) (c0_1 : Nat) (l0_1 : List (S110)) (a0_2 : Int) (r : Int) (w : World) (hr0_0 : Kd.C k109 w A0_0 l0_0.length l0_0) (hc0_0 : l0_0.length ≤ c0_0) (hr0_1 : Kd.C k110 w A0_1 l0_1.length l0_1) (hc0_1 : l0_1.length ≤ c0_1) (h : bundle_CheckTable.f l0_0 l0_1 a0_2 = some r) :
  Calls Try.prog 61 #[.agg #[.slice A0_0 l0_0.length c0_0, .slice A0_1 l0_1.length c0_1, .int .i64 a0_2]] w fun e w' => e = .returned (.int .i64 r) ∧ Below w.heap.size w w' := by
 obtain ⟨ht, rfl⟩ := some_if h
 exact check_calls a0_2 (thinP_tab ht hr0_0 hc0_0 hr0_1 hc0_1)
end Go.Proofs.Ytnbbbeghgomnoaa.X
namespace Go.Proofs.Ytnbbbeghgomnoaa.X
open Go.RowKit Go.Proofs.YtnbbbeghgomnoaaW.PrintWords Go.Proofs.YtnbbbeghgomnoaaW.PrintLast Go.Proofs.YtnbbbeghgomnoaaW.PrintMore
attribute [local go_sem] max2_int min2_int max_two min_two max_three min_three max_four min_four
set_option linter.unusedVariables false
set_option linter.unusedSimpArgs false
def posserlaw03_BundleWhose.l0 : Nat → List (List Int) → List (List Int) → Int → List (S85) → List (S71) → Int → Option (Bool)
 | 0, _, _, _, _, _, _ => none
 | k + 1, x3, x5, x7, x188000, x188001, x188002 => if x7 < (x3.length : Int) then (if 0 ≤ x7 then ((posserref03_Whose.f k x188000 x188001 x188002 x5 x7).bind fun t205 => ((posserlaw03_ints.f k (rd_L1 x3 x7) t205).bind fun t208 => (if t208 = true then (posserlaw03_BundleWhose.l0 k x3 x5 (wrap64 (x7 + 1)) x188000 x188001 x188002) else (none)))) else (none)) else ((posserlaw03_awake.f).bind fun t209 => (some t209))
def posserlaw03_BundleWhose.f (k : Nat) (l0_0 : List (S85)) (l0_1 : List (S71)) (a0_2 : Int) : Option (Bool) := (posserlaw03_Thin.f k l0_0 l0_1 a0_2).bind fun t188 => (if t188 = true then ((posserlaw03_Table.f l0_0 l0_1 a0_2).bind fun bt189 => ((bundle_Whose.f bt189.1 bt189.2.1 bt189.2.2).bind fun bt196 => ((posserlaw03_sure.f k l0_0 l0_1 a0_2).bind fun bt200 => (if bt200.2 = 0 then (if bt196.2 = 0 then (if (bt196.1.length : Int) = (l0_1.length : Int) then (posserlaw03_BundleWhose.l0 k bt196.1 bt200.1 0 l0_0 l0_1 a0_2) else (none)) else (none)) else (if bt196.2 = bt200.2 then (if (bt196.1.length : Int) = 0 then ((posserlaw03_awake.f).bind fun t210 => (some t210)) else (none)) else (none)))))) else ((posserlaw03_awake.f).bind fun t211 => (some t211)))
theorem posserlaw03_BundleWhose.mono_l : ∀ k, (∀ y0 y1 y2 y3 y4 y5, LeO (posserlaw03_BundleWhose.l0 k y0 y1 y2 y3 y4 y5) (posserlaw03_BundleWhose.l0 (k + 1) y0 y1 y2 y3 y4 y5))
 | 0 => fun _ _ _ _ _ _ r h => by simp [posserlaw03_BundleWhose.l0] at h
 | k + 1 => by
  have ih0 := posserlaw03_BundleWhose.mono_l k
  ·intro y0 y1 y2 y3 y4 y5
   unfold posserlaw03_BundleWhose.l0
   repeat' first
   | (with_reducible exact ih0 _ _ _ _ _ _)
   | (with_reducible exact posserlaw03_Thin.mono _ _ _ _)
   | (with_reducible exact posserlaw03_ints.mono _ _ _)
   | (with_reducible exact posserlaw03_sure.mono _ _ _ _)
   | (with_reducible exact posserref03_Whose.mono _ _ _ _ _ _)
   | (with_reducible exact LeO.refl _)
   | (with_reducible exact LeO.none _)
   | (with_reducible refine LeO.ite ?_ ?_)
   | (with_reducible refine LeO.bind ?_ (fun _ => ?_))
   | exact ih0 _ _ _ _ _ _
   | exact posserlaw03_Thin.mono _ _ _ _
   | exact posserlaw03_ints.mono _ _ _
   | exact posserlaw03_sure.mono _ _ _ _
   | exact posserref03_Whose.mono _ _ _ _ _ _
   | exact LeO.none _
   | refine LeO.ite ?_ ?_
   | refine LeO.bind ?_ (fun _ => ?_)
theorem posserlaw03_BundleWhose.mono : ∀ a0 a1 a2 k, LeO (posserlaw03_BundleWhose.f k a0 a1 a2) (posserlaw03_BundleWhose.f (k + 1) a0 a1 a2) := by
 intro a0 a1 a2 k
 have ih0 := posserlaw03_BundleWhose.mono_l k
 unfold posserlaw03_BundleWhose.f
 repeat' first
   | (with_reducible exact ih0 _ _ _ _ _ _)
   | (with_reducible exact posserlaw03_Thin.mono _ _ _ _)
   | (with_reducible exact posserlaw03_ints.mono _ _ _)
   | (with_reducible exact posserlaw03_sure.mono _ _ _ _)
   | (with_reducible exact posserref03_Whose.mono _ _ _ _ _ _)
   | (with_reducible exact LeO.refl _)
   | (with_reducible exact LeO.none _)
   | (with_reducible refine LeO.ite ?_ ?_)
   | (with_reducible refine LeO.bind ?_ (fun _ => ?_))
   | exact ih0 _ _ _ _ _ _
   | exact posserlaw03_Thin.mono _ _ _ _
   | exact posserlaw03_ints.mono _ _ _
   | exact posserlaw03_sure.mono _ _ _ _
   | exact posserref03_Whose.mono _ _ _ _ _ _
   | exact LeO.none _
   | refine LeO.ite ?_ ?_
   | refine LeO.bind ?_ (fun _ => ?_)
def posserlaw03_BundleWhose.T12 : Bool × List (List Nat × List Nat) := (true, [([], []), ([], []), ([0, 1], [0, 1]), ([2], [2]), ([], []), ([], []), ([], []), ([4, 5, 6], [4, 5, 6]), ([3, 7, 7], [3, 7]), ([8], [8])])
def posserlaw03_BundleWhose.B12 : List Nat := [0, 0, 3, 7, 0, 0, 0, 112, 255, 511]
theorem posserlaw03_BundleWhose.tab12 : rtab .any (opsOf Try.f3 12) = posserlaw03_BundleWhose.T12 := by kernel_rfl
theorem posserlaw03_BundleWhose.bits12 : waitsOk posserlaw03_BundleWhose.T12.2 posserlaw03_BundleWhose.B12 = true := by kernel_rfl
set_option maxHeartbeats 8000000 in
set_option maxRecDepth 100000 in
theorem posserlaw03_BundleWhose.calls (k : Nat) (A0_0 : Option Addr) (c0_0 : Nat) (l0_0 : List (S85)) (A0_1 : Option Addr) (c0_1 : Nat) (l0_1 : List (S71)) (a0_2 : Int) (r : Bool) (w : World) (hr0_0 : Kd.C k85 w A0_0 l0_0.length l0_0) (hc0_0 : l0_0.length ≤ c0_0) (hr0_1 : Kd.C k71 w A0_1 l0_1.length l0_1) (hc0_1 : l0_1.length ≤ c0_1) (h : posserlaw03_BundleWhose.f k l0_0 l0_1 a0_2 = some r) :
  Calls Try.prog 3 #[.agg #[.slice A0_0 l0_0.length c0_0, .slice A0_1 l0_1.length c0_1, .int .i64 a0_2]] w fun e w' => e = .returned (.bool r) ∧ Below w.heap.size w w' := by
 have hu25 := Try.underlying25
 have HR0_0 := Aside0.mk hr0_0
 have HC0_0 := Aside0.mk hc0_0
 clear hr0_0 hc0_0
 have HR0_1 := Aside0.mk hr0_1
 have HC0_1 := Aside0.mk hc0_1
 clear hr0_1 hc0_1
 have HB := Aside0.mk (Below.refl w.heap.size w)
 have H : ((posserlaw03_Thin.f k l0_0 l0_1 a0_2).bind fun t188 => (if t188 = true then ((posserlaw03_Table.f l0_0 l0_1 a0_2).bind fun bt189 => ((bundle_Whose.f bt189.1 bt189.2.1 bt189.2.2).bind fun bt196 => ((posserlaw03_sure.f k l0_0 l0_1 a0_2).bind fun bt200 => (if bt200.2 = 0 then (if bt196.2 = 0 then (if (bt196.1.length : Int) = (l0_1.length : Int) then (posserlaw03_BundleWhose.l0 k bt196.1 bt200.1 0 l0_0 l0_1 a0_2) else (none)) else (none)) else (if bt196.2 = bt200.2 then (if (bt196.1.length : Int) = 0 then ((posserlaw03_awake.f).bind fun t210 => (some t210)) else (none)) else (none)))))) else ((posserlaw03_awake.f).bind fun t211 => (some t211)))) = some r := h
 clear h
 replace H := Option.bind_eq_some_iff.mp H
 obtain ⟨t188, A20, H⟩ := H
 replace H : (if t188 = true then ((posserlaw03_Table.f l0_0 l0_1 a0_2).bind fun bt189 => ((bundle_Whose.f bt189.1 bt189.2.1 bt189.2.2).bind fun bt196 => ((posserlaw03_sure.f k l0_0 l0_1 a0_2).bind fun bt200 => (if bt200.2 = 0 then (if bt196.2 = 0 then (if (bt196.1.length : Int) = (l0_1.length : Int) then (posserlaw03_BundleWhose.l0 k bt196.1 bt200.1 0 l0_0 l0_1 a0_2) else (none)) else (none)) else (if bt196.2 = bt200.2 then (if (bt196.1.length : Int) = 0 then ((posserlaw03_awake.f).bind fun t210 => (some t210)) else (none)) else (none)))))) else ((posserlaw03_awake.f).bind fun t211 => (some t211))) = some r := H
 have A2 := Aside0.mk A20
 clear A20
 by_cases c3 : t188 = true
 ·subst c3
  have H1 : ((posserlaw03_Table.f l0_0 l0_1 a0_2).bind fun bt189 => ((bundle_Whose.f bt189.1 bt189.2.1 bt189.2.2).bind fun bt196 => ((posserlaw03_sure.f k l0_0 l0_1 a0_2).bind fun bt200 => (if bt200.2 = 0 then (if bt196.2 = 0 then (if (bt196.1.length : Int) = (l0_1.length : Int) then (posserlaw03_BundleWhose.l0 k bt196.1 bt200.1 0 l0_0 l0_1 a0_2) else (none)) else (none)) else (if bt196.2 = bt200.2 then (if (bt196.1.length : Int) = 0 then ((posserlaw03_awake.f).bind fun t210 => (some t210)) else (none)) else (none)))))) = some r := by rw [if_pos rfl] at H; exact H
  clear H
  have H := H1
  clear H1
  replace H := Option.bind_eq_some_iff.mp H
  obtain ⟨⟨t189, t192, t195⟩, A40, H⟩ := H
  replace H : ((bundle_Whose.f t189 t192 t195).bind fun bt196 => ((posserlaw03_sure.f k l0_0 l0_1 a0_2).bind fun bt200 => (if bt200.2 = 0 then (if bt196.2 = 0 then (if (bt196.1.length : Int) = (l0_1.length : Int) then (posserlaw03_BundleWhose.l0 k bt196.1 bt200.1 0 l0_0 l0_1 a0_2) else (none)) else (none)) else (if bt196.2 = bt200.2 then (if (bt196.1.length : Int) = 0 then ((posserlaw03_awake.f).bind fun t210 => (some t210)) else (none)) else (none))))) = some r := H
  have A4 := Aside0.mk A40
  clear A40
  replace H := Option.bind_eq_some_iff.mp H
  obtain ⟨⟨t196, t199⟩, A50, H⟩ := H
  replace H : ((posserlaw03_sure.f k l0_0 l0_1 a0_2).bind fun bt200 => (if bt200.2 = 0 then (if t199 = 0 then (if (t196.length : Int) = (l0_1.length : Int) then (posserlaw03_BundleWhose.l0 k t196 bt200.1 0 l0_0 l0_1 a0_2) else (none)) else (none)) else (if t199 = bt200.2 then (if (t196.length : Int) = 0 then ((posserlaw03_awake.f).bind fun t210 => (some t210)) else (none)) else (none)))) = some r := H
  have A5 := Aside0.mk A50
  clear A50
  replace H := Option.bind_eq_some_iff.mp H
  obtain ⟨⟨t200, t203⟩, A60, H⟩ := H
  replace H : (if t203 = 0 then (if t199 = 0 then (if (t196.length : Int) = (l0_1.length : Int) then (posserlaw03_BundleWhose.l0 k t196 t200 0 l0_0 l0_1 a0_2) else (none)) else (none)) else (if t199 = t203 then (if (t196.length : Int) = 0 then ((posserlaw03_awake.f).bind fun t210 => (some t210)) else (none)) else (none))) = some r := H
  have A6 := Aside0.mk A60
  clear A60
  by_cases c7 : t203 = 0
  ·rw [if_pos c7] at H
   have c7b0 : (t203 == 0) = true := beq_iff_eq.mpr c7
   have c7b1 : (t203 != 0) = false := bne_eq_false_iff_eq.mpr c7
   clear c7
   by_cases c8 : t199 = 0
   ·rw [if_pos c8] at H
    have c8b0 : (t199 == 0) = true := beq_iff_eq.mpr c8
    have c8b1 : (t199 != 0) = false := bne_eq_false_iff_eq.mpr c8
    clear c8
    by_cases c9 : (t196.length : Int) = (l0_1.length : Int)
    ·rw [if_pos c9] at H
     have c9b0 : ((t196.length : Int) == (l0_1.length : Int)) = true := beq_iff_eq.mpr c9
     have c9b1 : ((t196.length : Int) != (l0_1.length : Int)) = false := bne_eq_false_iff_eq.mpr c9
     have c9b2 : (t196.length == l0_1.length) = true := by first | simpa using c9 | (simp at c9 ⊢; omega)
     clear c9
     have H' := Aside0.mk H
     clear H
     go_enter Try.func3, Try.ntmps3
     go_wp2_with (first | ((with_reducible refine gate_dst (N := 1) rfl ?_); (try (refine gate_guard (by rfl) ?_; dsimp only)); refine sbox (N := 1) #[.slice A0_0 l0_0.length c0_0, .slice A0_1 l0_1.length c0_1, .int .i64 a0_2] 25 ?_; intro gb187 hg w10 hbox hb; have BK187 := Aside0.mk (hbox); have GW187 := Aside0.mk (sge hg HB : w.heap.size ≤ gb187); have GE187 := Aside0.mk (sge hg HB : w.heap.size ≤ gb187); replace HB := Aside0.mk (sbs HB hb); clear hb hbox hg; have hcz11_0 := sc 0 BK187; have hcz11_1 := sc 1 BK187; have hcz11_2 := sc 2 BK187; have hfz11_0 := blk_frozen BK187.out 0; have hfz11_1 := blk_frozen BK187.out 1; have hfz11_2 := blk_frozen BK187.out 2) | ((with_reducible refine gate_callee (f := 20) rfl ?_); refine goesL_ (some 9) rfl rfl Try.func20 (by kernel_rfl) rfl #[.agg #[.slice A0_0 l0_0.length c0_0, .slice A0_1 l0_1.length c0_1, .int .i64 a0_2]] rfl (by (try simp only [List.map_toArray, List.map_cons, List.map_nil]); first | done | rfl | (simp only [List.length_drop, List.length_take]; rfl)) ?_; (with_reducible refine (posserlaw03_Thin.calls k _ _ l0_0 _ _ l0_1 a0_2 true _ ?side1 ?side2 ?side3 ?side4 A2.out).mono ?_); (case side1 => exact sCb HR0_0 HB); (case side2 => exact HC0_0.out); (case side3 => exact sCb HR0_1 HB); (case side4 => exact HC0_1.out); rintro e w12 ⟨rfl, hb⟩; refine ⟨_, rfl, ?_⟩; replace BK187 := Aside0.mk (sbb BK187 hb); replace HB := Aside0.mk (sbs1 HB GE187 hb); (try clear hb); (try clear hb2); (try clear hk); (try clear hi); have hcz13_0 := sc 0 BK187; have hcz13_1 := sc 1 BK187; have hcz13_2 := sc 2 BK187; have hfz13_0 := blk_frozen BK187.out 0; have hfz13_1 := blk_frozen BK187.out 1; have hfz13_2 := blk_frozen BK187.out 2) | ((with_reducible refine gate_callee (f := 23) rfl ?_); refine goesL_ (some 14) rfl rfl Try.func23 (by kernel_rfl) rfl #[.agg #[.slice A0_0 l0_0.length c0_0, .slice A0_1 l0_1.length c0_1, .int .i64 a0_2]] rfl (by (try simp only [List.map_toArray, List.map_cons, List.map_nil]); first | done | rfl | (simp only [List.length_drop, List.length_take]; rfl)) ?_; (with_reducible refine (posserlaw03_Table.calls _ _ l0_0 _ _ l0_1 a0_2 t189 t192 t195 _ ?side1 ?side2 ?side3 ?side4 A4.out).mono ?_); (case side1 => exact sCb HR0_0 HB); (case side2 => exact HC0_0.out); (case side3 => exact sCb HR0_1 HB); (case side4 => exact HC0_1.out); rintro e w14 ⟨v190, v193, rfl, ho0, ho1, hb⟩; refine ⟨_, rfl, ?_⟩; have HO191 := Aside0.mk (Kd.R_lower (Kd.R_mono (ok' := fun k_ => True) ho0 (fun _ hk_ => trivial)) (below_size (sbe1 HB GE187))); have HO194 := Aside0.mk (Kd.N_lower (Kd.N_mono (ok' := fun k_ => some k_ ≠ (v190 : Value).ownBlock ∧ k_ ≠ gb187) ho1 (fun k_ hk_ => ⟨hk_.2, (Kd.freshB (g := gb187) (o := .cells #[.slice A0_0 l0_0.length c0_0, .slice A0_1 l0_1.length c0_1, .int .i64 a0_2] 25 (0, 0)) (sbk BK187) k_ hk_.1)⟩)) (below_size (sbe1 HB GE187))); replace BK187 := Aside0.mk (sbb BK187 hb); replace HB := Aside0.mk (sbs1 HB GE187 hb); (try clear hb); (try clear hb2); (try clear hk); (try clear hi); (try clear ho0); (try clear ho1); obtain ⟨Ao15, co15, eo15⟩ := Kd.R_slice HO191.out; subst eo15; obtain ⟨Ao16, co16, eo16⟩ := Kd.N_slice HO194.out; subst eo16) | ((with_reducible refine gate_callee (f := 22) rfl ?_); refine goesL_ (some 15) rfl rfl Try.func22 (by kernel_rfl) rfl #[.agg #[.slice Ao15 t189.length co15, .slice Ao16 t192.length co16, .int .i64 t195]] rfl (by (try simp only [List.map_toArray, List.map_cons, List.map_nil]); first | done | rfl | (simp only [List.length_drop, List.length_take]; rfl)) ?_; (with_reducible refine (bundle_Whose.calls _ _ t189 _ _ t192 t195 t196 t199 _ ?side1 ?side2 ?side3 ?side4 A5.out).mono ?_); (case side1 => repeat (first | exact (Kd.R_reads' HO191.out).2.2 | (with_reducible refine Kd.C_alloc ?_ _) | (with_reducible refine Kd.C_drewN ?_ _) | (with_reducible refine Kd.C_drew ?_))); (case side2 => exact (Kd.R_reads' HO191.out).2.1); (case side3 => repeat (first | exact (Kd.N_reads' HO194.out).2.2 | (with_reducible refine Kd.C_alloc ?_ _) | (with_reducible refine Kd.C_drewN ?_ _) | (with_reducible refine Kd.C_drew ?_))); (case side4 => exact (Kd.N_reads' HO194.out).2.1); rintro e w17 ⟨v197, rfl, ho0, hb⟩; refine ⟨_, rfl, ?_⟩; have HO198 := Aside0.mk (Kd.N_lower (Kd.N_mono (ok' := fun k_ => some k_ ≠ (.slice Ao15 t189.length co15 : Value).ownBlock ∧ some k_ ≠ (.slice Ao16 t192.length co16 : Value).ownBlock ∧ k_ ≠ gb187) ho0 (fun k_ hk_ => ⟨(Kd.fresh' (Kd.R_lt (sR HO191)) k_ hk_), (Kd.fresh' (Kd.N_lt (sN_ HO194)) k_ hk_), (Kd.freshB (g := gb187) (o := .cells #[.slice A0_0 l0_0.length c0_0, .slice A0_1 l0_1.length c0_1, .int .i64 a0_2] 25 (0, 0)) (sbk BK187) k_ hk_)⟩)) (below_size (sbe1 HB GE187))); replace HO191 := Aside0.mk (Kd.R_below (sR HO191) hb); replace HO194 := Aside0.mk (Kd.N_elder' (sN_ HO194) (Kd.N_base ho0) hb); replace BK187 := Aside0.mk (sbb BK187 hb); replace HB := Aside0.mk (sbs1 HB GE187 hb); (try clear hb); (try clear hb2); (try clear hk); (try clear hi); (try clear ho0); have hcz18_0 := sc 0 BK187; have hcz18_1 := sc 1 BK187; have hcz18_2 := sc 2 BK187; have hfz18_0 := blk_frozen BK187.out 0; have hfz18_1 := blk_frozen BK187.out 1; have hfz18_2 := blk_frozen BK187.out 2) | ((with_reducible refine gate_callee (f := 24) rfl ?_); refine goesL_ (some 20) rfl rfl Try.func24 (by kernel_rfl) rfl #[.agg #[.slice A0_0 l0_0.length c0_0, .slice A0_1 l0_1.length c0_1, .int .i64 a0_2]] rfl (by (try simp only [List.map_toArray, List.map_cons, List.map_nil]); first | done | rfl | (simp only [List.length_drop, List.length_take]; rfl)) ?_; (with_reducible refine (posserlaw03_sure.calls k _ _ l0_0 _ _ l0_1 a0_2 t200 t203 _ ?side1 ?side2 ?side3 ?side4 A6.out).mono ?_); (case side1 => exact sCb HR0_0 HB); (case side2 => exact HC0_0.out); (case side3 => exact sCb HR0_1 HB); (case side4 => exact HC0_1.out); rintro e w19 ⟨v201, rfl, ho0, hb⟩; refine ⟨_, rfl, ?_⟩; have HO202 := Aside0.mk (Kd.N_lower (Kd.N_mono (ok' := fun k_ => some k_ ≠ (.slice Ao15 t189.length co15 : Value).ownBlock ∧ some k_ ≠ (.slice Ao16 t192.length co16 : Value).ownBlock ∧ some k_ ≠ (v197 : Value).ownBlock ∧ k_ ≠ gb187) (Kd.S_N (Kd.S_bound ho0)) (fun k_ hk_ => ⟨(Kd.fresh' (Kd.R_lt (sR HO191)) k_ hk_.2.1), (Kd.fresh' (Kd.N_lt (sN_ HO194)) k_ hk_.2.1), (Kd.fresh' (Kd.N_lt (sN_ HO198)) k_ hk_.2.1), (Kd.freshB (g := gb187) (o := .cells #[.slice A0_0 l0_0.length c0_0, .slice A0_1 l0_1.length c0_1, .int .i64 a0_2] 25 (0, 0)) (sbk BK187) k_ hk_.2.1)⟩)) (below_size (sbe1 HB GE187))); replace HO191 := Aside0.mk (Kd.R_below (sR HO191) hb); replace HO194 := Aside0.mk (Kd.N_elder' (sN_ HO194) (Kd.N_base (Kd.S_N ho0)) hb); replace HO198 := Aside0.mk (Kd.N_elder' (sN_ HO198) (Kd.N_base (Kd.S_N ho0)) hb); replace BK187 := Aside0.mk (sbb BK187 hb); replace HB := Aside0.mk (sbs1 HB GE187 hb); (try clear hb); (try clear hb2); (try clear hk); (try clear hi); (try clear ho0); obtain ⟨Ao20, co20, eo20⟩ := Kd.N_slice HO198.out; subst eo20; have hcz21_0 := sc 0 BK187; have hcz21_1 := sc 1 BK187; have hcz21_2 := sc 2 BK187; have hfz21_0 := blk_frozen BK187.out 0; have hfz21_1 := blk_frozen BK187.out 1; have hfz21_2 := blk_frozen BK187.out 2))
     go_loopg [7] k (fun kq v7 w' => ∃ (x7_1 : Int), v7 = .int .i64 x7_1 ∧ Aside0 (posserlaw03_BundleWhose.l0 kq t196 t200 x7_1 l0_0 l0_1 a0_2 = some r) ∧ Aside0 (kq ≤ k) ∧ Aside0 (Kd.N (Kd.slice 3 (Kd.int .i64)) 39 w' w.heap.size (fun k_ => some k_ ≠ (v201 : Value).ownBlock ∧ k_ ≠ gb187) (.slice Ao20 t196.length co20) t196) ∧ Aside0 (Kd.N (Kd.slice 3 (Kd.int .i64)) 39 w' w.heap.size (fun k_ => some k_ ≠ ((.slice Ao20 t196.length co20) : Value).ownBlock ∧ k_ ≠ gb187) v201 t200) ∧ Aside0 (w'.heap[gb187]? = some (.cells #[(.slice A0_0 l0_0.length c0_0), (.slice A0_1 l0_1.length c0_1), .int .i64 a0_2] 25 (0, 0))) ∧ Aside0 (Below w.heap.size w w'))
     case atStart => exact ⟨(0), (by first | rfl | (simp; done) | (simp [*]; done)), H', ⟨Nat.le_refl _⟩, ⟨by (with_reducible repeat (first | apply Kd.N_alloc | apply Kd.N_drewN | apply Kd.N_drew)); exact Kd.N_mono HO198.out (fun _ hk => ⟨hk.2, hk.1.2.2⟩)⟩, ⟨by (with_reducible repeat (first | apply Kd.N_alloc | apply Kd.N_drewN | apply Kd.N_drew)); exact Kd.N_mono HO202.out (fun _ hk => ⟨hk.2.2.1, hk.2.2.2⟩)⟩, ⟨by (with_reducible repeat (first | refine blk_drewN ?_ _ | refine blk_drew ?_ | refine blk_alloc ?_ _)); exact BK187.out⟩, ⟨(sbe1 HB GE187)⟩⟩
     case round =>
      clear H'
      try clear c2
      try clear p2
      try clear c3
      try clear c7
      try clear c7b0
      try clear c7b1
      try clear c8
      try clear c8b0
      try clear c8b1
      try clear c9
      try clear c9b0
      try clear c9b1
      try clear c9b2
      try clear c20
      try clear hcz11_0
      try clear hcz11_1
      try clear hcz11_2
      try clear hcz13_0
      try clear hcz13_1
      try clear hcz13_2
      try clear hcz18_0
      try clear hcz18_1
      try clear hcz18_2
      try clear hcz21_0
      try clear hcz21_1
      try clear hcz21_2
      try clear hfz11_0
      try clear hfz11_1
      try clear hfz11_2
      try clear hfz13_0
      try clear hfz13_1
      try clear hfz13_2
      try clear hfz18_0
      try clear hfz18_1
      try clear hfz18_2
      try clear hfz21_0
      try clear hfz21_1
      try clear hfz21_2
      obtain ⟨x7_1, rfl, HA, HK1, HO_3, HO_5, BK187, HB⟩ := hrel
      cases gk with
      | zero => exact absurd HA.out (by simp [posserlaw03_BundleWhose.l0])
      | succ k1 =>
       have H := HA.out
       clear HA
       simp only [posserlaw03_BundleWhose.l0] at H
       by_cases c22 : x7_1 < (t196.length : Int)
       ·rw [if_pos c22] at H
        have c22b0 : decide (x7_1 < (t196.length : Int)) = true := decide_eq_true c22
        clear c22
        by_cases c23 : 0 ≤ x7_1
        ·rw [if_pos c23] at H
         have c23b0 : decide (0 ≤ x7_1) = true := decide_eq_true c23
         clear c23
         replace H := Option.bind_eq_some_iff.mp H
         obtain ⟨t205, A240, H⟩ := H
         replace H : ((posserlaw03_ints.f k1 (rd_L1 t196 x7_1) t205).bind fun t208 => (if t208 = true then (posserlaw03_BundleWhose.l0 k1 t196 t200 (wrap64 (x7_1 + 1)) l0_0 l0_1 a0_2) else (none))) = some r := H
         have A24 := Aside0.mk A240
         clear A240
         replace H := Option.bind_eq_some_iff.mp H
         obtain ⟨t208, A250, H⟩ := H
         replace H : (if t208 = true then (posserlaw03_BundleWhose.l0 k1 t196 t200 (wrap64 (x7_1 + 1)) l0_0 l0_1 a0_2) else (none)) = some r := H
         have A25 := Aside0.mk A250
         clear A250
         by_cases c26 : t208 = true
         ·subst c26
          have H1 : (posserlaw03_BundleWhose.l0 k1 t196 t200 (wrap64 (x7_1 + 1)) l0_0 l0_1 a0_2) = some r := by rw [if_pos rfl] at H; exact H
          clear H
          have H := H1
          clear H1
          have H' := Aside0.mk H
          clear H
          try go_wp2
          replace HO_3 := Aside0.mk (Kd.N_drew HO_3.out)
          replace HO_5 := Aside0.mk (Kd.N_drew HO_5.out)
          replace BK187 := Aside0.mk (blk_drew BK187.out)
          replace HB := Aside0.mk (below_drew1 HB.out)
          have p204 : 0 ≤ (x7_1 : Int) := of_decide_eq_true (by first | (with_reducible assumption) | assumption)
          have q204 : x7_1 < (t196.length : Int) := of_decide_eq_true (by first | (with_reducible assumption) | assumption)
          obtain ⟨ad204, A204_0, c204_0, e204, hx204_0, hl204_0, hi204_0⟩ := at_L1 (Kd.N_reads' HO_3.out).2.2 x7_1 p204 q204
          cases e204
          obtain ⟨ce204, hce204, hMe204, hcc204⟩ := Kd.N_get HO_3.out [] x7_1 p204 (by first | exact q204 | exact of_decide_eq_true (by first | (with_reducible assumption) | assumption) | (have e_ := (Kd.N_reads' HO_3.out).1; omega))
          obtain ⟨ua204_0, uc204_0, rfl, ul204_0, ge204_0⟩ := Kd.FK_slice_open hMe204
          have hv204_0 := hcc204 0 _ rfl
          rw [Nat.add_zero, show ((Kd.slice 3 (Kd.int .i64))).sz = 1 from rfl, Nat.mul_one] at hv204_0
          replace hv204_0 := Option.some.inj (hv204_0.symm.trans hx204_0)
          injection hv204_0 with hva_ hvn_ hvc_
          rw [hva_] at ge204_0
          rw [hvc_] at ul204_0
          have HL204_0 := Aside0.mk (show Kd.V (Kd.int .i64) 3 _ w.heap.size _ _ (rd_L1 t196 x7_1) from Kd.V_mk ul204_0 ge204_0)
          clear hva_ hvn_ hvc_ ge204_0 ul204_0
          clear hcc204 hce204
          have HR204_0 := Aside0.mk hi204_0
          have HC204_0 := Aside0.mk hl204_0
          clear hi204_0 hl204_0
          replace p204 := eq_true p204
          replace q204 := eq_true q204
          obtain ⟨Ao28, co28, eo28⟩ := Kd.N_slice HO_5.out
          (first | subst eo28 | (injection eo28 with f1_ f2_ f3_; have f4_ := f1_.symm; have f5_ := f3_.symm; clear f1_ f2_ f3_; subst f4_; subst f5_))
          refine start_ (n := 10) (S := fun w' => w'.cell? ⟨gb187, 0, none⟩ = some (.slice A0_0 l0_0.length c0_0) ∧ w'.cell? ⟨gb187, 1, none⟩ = some (.slice A0_1 l0_1.length c0_1) ∧ w'.cell? ⟨gb187, 2, none⟩ = some (.int .i64 a0_2) ∧ w'.cell? (ad204.add (x7_1).toNat) = some (.slice A204_0 (rd_L1 t196 x7_1).length c204_0)) (ds := []) (lm 10 0) (by kernel_rfl) rfl (by kernel_rfl) ⟨(blk_cell BK187.out 0).trans rfl, (blk_cell BK187.out 1).trans rfl, (blk_cell BK187.out 2).trans rfl, hx204_0⟩ (fun hHeld => ?_); refine with_tabW posserlaw03_BundleWhose.tab12 posserlaw03_BundleWhose.bits12 (fun HT_ HW_ => ?_)
          generalize wr.drew = w27 at HO_3 HO_5 BK187 HB HL204_0 HR204_0 hx204_0 hHeld ⊢
          refine sP (i := 0) (N := some 52) (lm 10 1) ?_ (hc := any_of HT_.out (by kernel_rfl))
          refine sP (i := 1) (N := some 53) (lm 10 3) ?_ (hc := any_of HT_.out (by kernel_rfl))
          refine sP (i := 2) (N := some 54) (lm 10 7) ?_ (hc := any_of HT_.out (by kernel_rfl))
          refine sP (i := 5) (N := some 57) (lm 10 39) ?_ (hc := any_of HT_.out (by kernel_rfl))
          refine sP (i := 6) (N := some 58) (lm 10 103) ?_ (hc := any_of HT_.out (by kernel_rfl))
          refine take_ (i := 3) (N := some 55) (v := ?_) (a' := ?_) (lm 10 111) rfl rfl (take_ofW HT_.out HW_.out (by kernel_rfl)) (fun _ _ _ h => h) (Or.inl ⟨by rfl, ?_⟩) hHeld ?_ ?_
          rotate_left
          ·rintro w' ⟨s0, s1, s2, s3⟩
           go_simp
           with_reducible rfl
          rotate_left
          ·simp only [Act.put, List.setIfInBounds_toArray, List.set_cons_zero, List.set_cons_succ, i64_w, i32_w]
           rfl
          refine take_ (i := 4) (N := some 56) (v := ?_) (a' := ?_) (lm 10 127) rfl rfl (take_ofW HT_.out HW_.out (by kernel_rfl)) (fun _ _ _ h => h) (Or.inl ⟨by rfl, ?_⟩) hHeld ?_ ?_
          rotate_left
          ·rintro w' ⟨s0, s1, s2, s3⟩
           go_simp
           with_reducible rfl
          rotate_left
          ·simp only [Act.put, List.setIfInBounds_toArray, List.set_cons_zero, List.set_cons_succ, i64_w, i32_w]
           rfl
          refine one_ (i := 7) (N := some 59) (lm 10 255) rfl rfl (one_of HT_.out (by kernel_rfl)) (by decide) (fun K hK => ?_)
          refine goes_ Try.func26 (by kernel_rfl) rfl #[.agg #[.slice A0_0 l0_0.length c0_0, .slice A0_1 l0_1.length c0_1, .int .i64 a0_2], .slice Ao28 t200.length co28, .int .i64 x7_1] (by rfl) rfl rfl (by (try simp only [List.map_toArray, List.map_cons, List.map_nil]); first | done | rfl | (simp only [List.length_drop, List.length_take]; rfl)) ?_
          with_reducible refine (posserref03_Whose.calls k1 _ _ l0_0 _ _ l0_1 a0_2 _ _ t200 x7_1 t205 _ ?side1 ?side2 ?side3 ?side4 ?side5 ?side6 A24.out).mono ?_
          (case side1 => exact sCb HR0_0 HB)
          (case side2 => exact HC0_0.out)
          (case side3 => exact sCb HR0_1 HB)
          (case side4 => exact HC0_1.out)
          (case side5 => repeat (first | exact (Kd.N_reads' HO_5.out).2.2 | (with_reducible refine Kd.C_alloc ?_ _) | (with_reducible refine Kd.C_drewN ?_ _) | (with_reducible refine Kd.C_drew ?_)))
          (case side6 => exact (Kd.N_reads' HO_5.out).2.1)
          rintro e w29 ⟨v206, rfl, ho0, hb⟩
          have HS3_ := (hb.cell (World.block_lt_of_cell? _ _ (hHeld.2.2.2))).trans (hHeld.2.2.2)
          refine ⟨_, rfl, ?_⟩
          have HO207 := Aside0.mk (Kd.R_lower ho0 (below_size (sbe1 HB GE187)))
          replace HO_3 := Aside0.mk (Kd.N_elder' (sN_ HO_3) (Kd.R_base ho0) hb)
          replace HO_5 := Aside0.mk (Kd.N_elder' (sN_ HO_5) (Kd.R_base ho0) hb)
          replace HL204_0 := Aside0.mk (Kd.V_elder' (by (with_reducible repeat (first | apply Kd.V_alloc | apply Kd.V_drewN | apply Kd.V_drew)); exact HL204_0.out) (Kd.R_base ho0) hb)
          replace BK187 := Aside0.mk (sbb BK187 hb)
          replace HR204_0 := Aside0.mk (Kd.C_below (by repeat (first | (with_reducible exact HR204_0.out) | (with_reducible refine Kd.C_alloc ?_ _) | (with_reducible refine Kd.C_drewN ?_ _) | (with_reducible refine Kd.C_drew ?_) | exact HR204_0.out)) hb)
          replace HB := Aside0.mk (sbs1 HB GE187 hb)
          (try clear hb)
          (try clear hb2)
          (try clear hk)
          (try clear hi)
          (try clear ho0)
          obtain ⟨Ao30, co30, eo30⟩ := Kd.R_slice HO207.out
          (first | subst eo30 | (injection eo30 with f1_ f2_ f3_; have f4_ := f1_.symm; have f5_ := f3_.symm; clear f1_ f2_ f3_; subst f4_; subst f5_))
          refine hK.out _ _ ⟨(blk_cell BK187.out 0).trans rfl, (blk_cell BK187.out 1).trans rfl, (blk_cell BK187.out 2).trans rfl, HS3_⟩ (fun hHeld => ?_)
          clear hK K
          refine sN ?_
          refine one_ (i := 8) (N := some 60) (lm 10 511) rfl rfl (one_of HT_.out (by kernel_rfl)) (by decide) (fun K hK => ?_)
          refine goes_ Try.func25 (by kernel_rfl) rfl #[.slice A204_0 (rd_L1 t196 x7_1).length c204_0, .slice Ao30 t205.length co30] (by rfl) rfl rfl (by (try simp only [List.map_toArray, List.map_cons, List.map_nil]); first | done | rfl | (simp only [List.length_drop, List.length_take]; rfl)) ?_
          with_reducible refine (posserlaw03_ints.calls k1 _ _ (rd_L1 t196 x7_1) _ _ t205 true _ ?side1 ?side2 ?side3 ?side4 A25.out).mono ?_
          (case side1 => repeat (first | exact (by repeat (first | (with_reducible exact HR204_0.out) | (with_reducible refine Kd.C_alloc ?_ _) | (with_reducible refine Kd.C_drewN ?_ _) | (with_reducible refine Kd.C_drew ?_) | exact HR204_0.out)) | (with_reducible refine Kd.C_alloc ?_ _) | (with_reducible refine Kd.C_drewN ?_ _) | (with_reducible refine Kd.C_drew ?_)))
          (case side2 => exact HC204_0.out)
          (case side3 => repeat (first | exact (Kd.R_reads' HO207.out).2.2 | (with_reducible refine Kd.C_alloc ?_ _) | (with_reducible refine Kd.C_drewN ?_ _) | (with_reducible refine Kd.C_drew ?_)))
          (case side4 => exact (Kd.R_reads' HO207.out).2.1)
          rintro e w' ⟨rfl, ⟨nd, rfl⟩⟩
          refine ⟨_, rfl, ?_⟩
          refine hK.out _ _ ⟨(blk_cell BK187.out 0).trans rfl, (blk_cell BK187.out 1).trans rfl, (blk_cell BK187.out 2).trans rfl, hHeld.2.2.2⟩ (fun hHeld => ?_)
          clear hK K
          refine sN ?_
          refine sP (i := 9) (N := some 61) (lm 10 1023) ?_ (hc := any_of HT_.out (by kernel_rfl))
          refine done_ (done_of HT_.out (by kernel_rfl)) ?_
          try go_wp2
          go_roundg k1
          case measure => have := HK1.out; omega
          case rel => exact ⟨(wrap64 (x7_1 + 1)), (by first | rfl | (simp; done) | (simp [*]; done)), H', ⟨by have := HK1.out; omega⟩, ⟨by (with_reducible repeat (first | apply Kd.N_alloc | apply Kd.N_drewN | apply Kd.N_drew)); exact Kd.N_mono HO_3.out (fun _ hk => ⟨hk.1.1, hk.1.2⟩)⟩, ⟨by (with_reducible repeat (first | apply Kd.N_alloc | apply Kd.N_drewN | apply Kd.N_drew)); exact Kd.N_mono HO_5.out (fun _ hk => ⟨hk.1.1, hk.1.2⟩)⟩, ⟨by (with_reducible repeat (first | refine blk_drewN ?_ _ | refine blk_drew ?_ | refine blk_alloc ?_ _)); exact BK187.out⟩, ⟨(sbe1 HB GE187)⟩⟩
         ·replace c26 := Bool.eq_false_iff.mpr c26
          subst c26
          have H1 : (none) = some r := by rw [if_neg (show ¬ (false = true) by decide)] at H; exact H
          clear H
          have H := H1
          clear H1
          exact absurd H (by simp)
        ·rw [if_neg c23] at H
         exact absurd H (by simp)
       ·rw [if_neg c22] at H
        have c22b0 : decide (x7_1 < (t196.length : Int)) = false := decide_eq_false c22
        clear c22
        replace H := Option.bind_eq_some_iff.mp H
        obtain ⟨t209, A310, H⟩ := H
        replace H : (some t209) = some r := H
        have A31 := Aside0.mk A310
        clear A310
        obtain rfl := Option.some.inj H
        go_wp2_with (first | ((with_reducible refine gate_callee (f := 21) rfl ?_); refine goesL_ (some 62) rfl rfl Try.func21 (by kernel_rfl) rfl #[] rfl (by (try simp only [List.map_toArray, List.map_cons, List.map_nil]); first | done | rfl | (simp only [List.length_drop, List.length_take]; rfl)) ?_; (with_reducible refine (posserlaw03_awake.calls  t209 _ A31.out).mono ?_); rintro e w32 ⟨rfl, hb⟩; refine ⟨_, rfl, ?_⟩; replace HO_3 := Aside0.mk (Kd.N_below (sN_ HO_3) hb); replace HO_5 := Aside0.mk (Kd.N_below (sN_ HO_5) hb); replace BK187 := Aside0.mk (sbb BK187 hb); replace HB := Aside0.mk (sbs1 HB GE187 hb); (try clear hb); (try clear hb2); (try clear hk); (try clear hi)))
        go_ret
        exact ⟨by first | rfl | (simp [errW_none, errW_some] <;> rfl) | (simp [*, errW_none, errW_some] <;> rfl), (sbe1 HB GE187)⟩
    ·rw [if_neg c9] at H
     exact absurd H (by simp)
   ·rw [if_neg c8] at H
    exact absurd H (by simp)
  ·rw [if_neg c7] at H
   have c7b0 : (t203 == 0) = false := beq_eq_false_iff_ne.mpr c7
   have c7b1 : (t203 != 0) = true := bne_iff_ne.mpr c7
   by_cases c33 : t199 = t203
   ·rw [if_pos c33] at H
    have c33b0 : (t199 == t203) = true := beq_iff_eq.mpr c33
    have c33b1 : (t199 != t203) = false := bne_eq_false_iff_eq.mpr c33
    clear c33
    by_cases c34 : (t196.length : Int) = 0
    ·rw [if_pos c34] at H
     have c34b0 : ((t196.length : Int) == 0) = true := beq_iff_eq.mpr c34
     have c34b1 : ((t196.length : Int) != 0) = false := bne_eq_false_iff_eq.mpr c34
     clear c34
     replace H := Option.bind_eq_some_iff.mp H
     obtain ⟨t210, A350, H⟩ := H
     replace H : (some t210) = some r := H
     have A35 := Aside0.mk A350
     clear A350
     obtain rfl := Option.some.inj H
     go_enter Try.func3, Try.ntmps3
     go_wp2_with (first | ((with_reducible refine gate_dst (N := 1) rfl ?_); (try (refine gate_guard (by rfl) ?_; dsimp only)); refine sbox (N := 1) #[.slice A0_0 l0_0.length c0_0, .slice A0_1 l0_1.length c0_1, .int .i64 a0_2] 25 ?_; intro gb187 hg w36 hbox hb; have BK187 := Aside0.mk (hbox); have GW187 := Aside0.mk (sge hg HB : w.heap.size ≤ gb187); have GE187 := Aside0.mk (sge hg HB : w.heap.size ≤ gb187); replace HB := Aside0.mk (sbs HB hb); clear hb hbox hg; have hcz37_0 := sc 0 BK187; have hcz37_1 := sc 1 BK187; have hcz37_2 := sc 2 BK187; have hfz37_0 := blk_frozen BK187.out 0; have hfz37_1 := blk_frozen BK187.out 1; have hfz37_2 := blk_frozen BK187.out 2) | ((with_reducible refine gate_callee (f := 20) rfl ?_); refine goesL_ (some 9) rfl rfl Try.func20 (by kernel_rfl) rfl #[.agg #[.slice A0_0 l0_0.length c0_0, .slice A0_1 l0_1.length c0_1, .int .i64 a0_2]] rfl (by (try simp only [List.map_toArray, List.map_cons, List.map_nil]); first | done | rfl | (simp only [List.length_drop, List.length_take]; rfl)) ?_; (with_reducible refine (posserlaw03_Thin.calls k _ _ l0_0 _ _ l0_1 a0_2 true _ ?side1 ?side2 ?side3 ?side4 A2.out).mono ?_); (case side1 => exact sCb HR0_0 HB); (case side2 => exact HC0_0.out); (case side3 => exact sCb HR0_1 HB); (case side4 => exact HC0_1.out); rintro e w38 ⟨rfl, hb⟩; refine ⟨_, rfl, ?_⟩; replace BK187 := Aside0.mk (sbb BK187 hb); replace HB := Aside0.mk (sbs1 HB GE187 hb); (try clear hb); (try clear hb2); (try clear hk); (try clear hi); have hcz39_0 := sc 0 BK187; have hcz39_1 := sc 1 BK187; have hcz39_2 := sc 2 BK187; have hfz39_0 := blk_frozen BK187.out 0; have hfz39_1 := blk_frozen BK187.out 1; have hfz39_2 := blk_frozen BK187.out 2) | ((with_reducible refine gate_callee (f := 23) rfl ?_); refine goesL_ (some 14) rfl rfl Try.func23 (by kernel_rfl) rfl #[.agg #[.slice A0_0 l0_0.length c0_0, .slice A0_1 l0_1.length c0_1, .int .i64 a0_2]] rfl (by (try simp only [List.map_toArray, List.map_cons, List.map_nil]); first | done | rfl | (simp only [List.length_drop, List.length_take]; rfl)) ?_; (with_reducible refine (posserlaw03_Table.calls _ _ l0_0 _ _ l0_1 a0_2 t189 t192 t195 _ ?side1 ?side2 ?side3 ?side4 A4.out).mono ?_); (case side1 => exact sCb HR0_0 HB); (case side2 => exact HC0_0.out); (case side3 => exact sCb HR0_1 HB); (case side4 => exact HC0_1.out); rintro e w40 ⟨v190, v193, rfl, ho0, ho1, hb⟩; refine ⟨_, rfl, ?_⟩; have HO191 := Aside0.mk (Kd.R_lower (Kd.R_mono (ok' := fun k_ => True) ho0 (fun _ hk_ => trivial)) (below_size (sbe1 HB GE187))); have HO194 := Aside0.mk (Kd.N_lower (Kd.N_mono (ok' := fun k_ => some k_ ≠ (v190 : Value).ownBlock ∧ k_ ≠ gb187) ho1 (fun k_ hk_ => ⟨hk_.2, (Kd.freshB (g := gb187) (o := .cells #[.slice A0_0 l0_0.length c0_0, .slice A0_1 l0_1.length c0_1, .int .i64 a0_2] 25 (0, 0)) (sbk BK187) k_ hk_.1)⟩)) (below_size (sbe1 HB GE187))); replace BK187 := Aside0.mk (sbb BK187 hb); replace HB := Aside0.mk (sbs1 HB GE187 hb); (try clear hb); (try clear hb2); (try clear hk); (try clear hi); (try clear ho0); (try clear ho1); obtain ⟨Ao41, co41, eo41⟩ := Kd.R_slice HO191.out; subst eo41; obtain ⟨Ao42, co42, eo42⟩ := Kd.N_slice HO194.out; subst eo42) | ((with_reducible refine gate_callee (f := 22) rfl ?_); refine goesL_ (some 15) rfl rfl Try.func22 (by kernel_rfl) rfl #[.agg #[.slice Ao41 t189.length co41, .slice Ao42 t192.length co42, .int .i64 t195]] rfl (by (try simp only [List.map_toArray, List.map_cons, List.map_nil]); first | done | rfl | (simp only [List.length_drop, List.length_take]; rfl)) ?_; (with_reducible refine (bundle_Whose.calls _ _ t189 _ _ t192 t195 t196 t199 _ ?side1 ?side2 ?side3 ?side4 A5.out).mono ?_); (case side1 => repeat (first | exact (Kd.R_reads' HO191.out).2.2 | (with_reducible refine Kd.C_alloc ?_ _) | (with_reducible refine Kd.C_drewN ?_ _) | (with_reducible refine Kd.C_drew ?_))); (case side2 => exact (Kd.R_reads' HO191.out).2.1); (case side3 => repeat (first | exact (Kd.N_reads' HO194.out).2.2 | (with_reducible refine Kd.C_alloc ?_ _) | (with_reducible refine Kd.C_drewN ?_ _) | (with_reducible refine Kd.C_drew ?_))); (case side4 => exact (Kd.N_reads' HO194.out).2.1); rintro e w43 ⟨v197, rfl, ho0, hb⟩; refine ⟨_, rfl, ?_⟩; have HO198 := Aside0.mk (Kd.N_lower (Kd.N_mono (ok' := fun k_ => some k_ ≠ (.slice Ao41 t189.length co41 : Value).ownBlock ∧ some k_ ≠ (.slice Ao42 t192.length co42 : Value).ownBlock ∧ k_ ≠ gb187) ho0 (fun k_ hk_ => ⟨(Kd.fresh' (Kd.R_lt (sR HO191)) k_ hk_), (Kd.fresh' (Kd.N_lt (sN_ HO194)) k_ hk_), (Kd.freshB (g := gb187) (o := .cells #[.slice A0_0 l0_0.length c0_0, .slice A0_1 l0_1.length c0_1, .int .i64 a0_2] 25 (0, 0)) (sbk BK187) k_ hk_)⟩)) (below_size (sbe1 HB GE187))); replace HO191 := Aside0.mk (Kd.R_below (sR HO191) hb); replace HO194 := Aside0.mk (Kd.N_elder' (sN_ HO194) (Kd.N_base ho0) hb); replace BK187 := Aside0.mk (sbb BK187 hb); replace HB := Aside0.mk (sbs1 HB GE187 hb); (try clear hb); (try clear hb2); (try clear hk); (try clear hi); (try clear ho0); have hcz44_0 := sc 0 BK187; have hcz44_1 := sc 1 BK187; have hcz44_2 := sc 2 BK187; have hfz44_0 := blk_frozen BK187.out 0; have hfz44_1 := blk_frozen BK187.out 1; have hfz44_2 := blk_frozen BK187.out 2) | ((with_reducible refine gate_callee (f := 24) rfl ?_); refine goesL_ (some 20) rfl rfl Try.func24 (by kernel_rfl) rfl #[.agg #[.slice A0_0 l0_0.length c0_0, .slice A0_1 l0_1.length c0_1, .int .i64 a0_2]] rfl (by (try simp only [List.map_toArray, List.map_cons, List.map_nil]); first | done | rfl | (simp only [List.length_drop, List.length_take]; rfl)) ?_; (with_reducible refine (posserlaw03_sure.calls k _ _ l0_0 _ _ l0_1 a0_2 t200 t203 _ ?side1 ?side2 ?side3 ?side4 A6.out).mono ?_); (case side1 => exact sCb HR0_0 HB); (case side2 => exact HC0_0.out); (case side3 => exact sCb HR0_1 HB); (case side4 => exact HC0_1.out); rintro e w45 ⟨v201, rfl, ho0, hb⟩; refine ⟨_, rfl, ?_⟩; have HO202 := Aside0.mk (Kd.N_lower (Kd.N_mono (ok' := fun k_ => some k_ ≠ (.slice Ao41 t189.length co41 : Value).ownBlock ∧ some k_ ≠ (.slice Ao42 t192.length co42 : Value).ownBlock ∧ some k_ ≠ (v197 : Value).ownBlock ∧ k_ ≠ gb187) (Kd.S_N (Kd.S_bound ho0)) (fun k_ hk_ => ⟨(Kd.fresh' (Kd.R_lt (sR HO191)) k_ hk_.2.1), (Kd.fresh' (Kd.N_lt (sN_ HO194)) k_ hk_.2.1), (Kd.fresh' (Kd.N_lt (sN_ HO198)) k_ hk_.2.1), (Kd.freshB (g := gb187) (o := .cells #[.slice A0_0 l0_0.length c0_0, .slice A0_1 l0_1.length c0_1, .int .i64 a0_2] 25 (0, 0)) (sbk BK187) k_ hk_.2.1)⟩)) (below_size (sbe1 HB GE187))); replace HO191 := Aside0.mk (Kd.R_below (sR HO191) hb); replace HO194 := Aside0.mk (Kd.N_elder' (sN_ HO194) (Kd.N_base (Kd.S_N ho0)) hb); replace HO198 := Aside0.mk (Kd.N_elder' (sN_ HO198) (Kd.N_base (Kd.S_N ho0)) hb); replace BK187 := Aside0.mk (sbb BK187 hb); replace HB := Aside0.mk (sbs1 HB GE187 hb); (try clear hb); (try clear hb2); (try clear hk); (try clear hi); (try clear ho0); obtain ⟨Ao46, co46, eo46⟩ := Kd.N_slice HO198.out; subst eo46) | (go_at_call 21; (with_reducible refine (posserlaw03_awake.calls  t210 _ A35.out).mono ?_); rintro e w47 ⟨rfl, hb⟩; replace HO191 := Aside0.mk (Kd.R_below (sR HO191) hb); replace HO194 := Aside0.mk (Kd.N_below (sN_ HO194) hb); replace HO198 := Aside0.mk (Kd.N_below (sN_ HO198) hb); replace HO202 := Aside0.mk (Kd.N_below (sN_ HO202) hb); replace BK187 := Aside0.mk (sbb BK187 hb); replace HB := Aside0.mk (sbs1 HB GE187 hb); (try clear hb); (try clear hb2); (try clear hk); (try clear hi)))
     go_ret
     exact ⟨by first | rfl | (simp [errW_none, errW_some] <;> rfl) | (simp [*, errW_none, errW_some] <;> rfl), (sbe1 HB GE187)⟩
    ·rw [if_neg c34] at H
     exact absurd H (by simp)
   ·rw [if_neg c33] at H
    exact absurd H (by simp)
 ·replace c3 := Bool.eq_false_iff.mpr c3
  subst c3
  have H1 : ((posserlaw03_awake.f).bind fun t211 => (some t211)) = some r := by rw [if_neg (show ¬ (false = true) by decide)] at H; exact H
  clear H
  have H := H1
  clear H1
  replace H := Option.bind_eq_some_iff.mp H
  obtain ⟨t211, A480, H⟩ := H
  replace H : (some t211) = some r := H
  have A48 := Aside0.mk A480
  clear A480
  obtain rfl := Option.some.inj H
  go_enter Try.func3, Try.ntmps3
  go_wp2_with (first | ((with_reducible refine gate_dst (N := 1) rfl ?_); (try (refine gate_guard (by rfl) ?_; dsimp only)); refine sbox (N := 1) #[.slice A0_0 l0_0.length c0_0, .slice A0_1 l0_1.length c0_1, .int .i64 a0_2] 25 ?_; intro gb187 hg w49 hbox hb; have BK187 := Aside0.mk (hbox); have GW187 := Aside0.mk (sge hg HB : w.heap.size ≤ gb187); have GE187 := Aside0.mk (sge hg HB : w.heap.size ≤ gb187); replace HB := Aside0.mk (sbs HB hb); clear hb hbox hg; have hcz50_0 := sc 0 BK187; have hcz50_1 := sc 1 BK187; have hcz50_2 := sc 2 BK187; have hfz50_0 := blk_frozen BK187.out 0; have hfz50_1 := blk_frozen BK187.out 1; have hfz50_2 := blk_frozen BK187.out 2) | ((with_reducible refine gate_callee (f := 20) rfl ?_); refine goesL_ (some 9) rfl rfl Try.func20 (by kernel_rfl) rfl #[.agg #[.slice A0_0 l0_0.length c0_0, .slice A0_1 l0_1.length c0_1, .int .i64 a0_2]] rfl (by (try simp only [List.map_toArray, List.map_cons, List.map_nil]); first | done | rfl | (simp only [List.length_drop, List.length_take]; rfl)) ?_; (with_reducible refine (posserlaw03_Thin.calls k _ _ l0_0 _ _ l0_1 a0_2 false _ ?side1 ?side2 ?side3 ?side4 A2.out).mono ?_); (case side1 => exact sCb HR0_0 HB); (case side2 => exact HC0_0.out); (case side3 => exact sCb HR0_1 HB); (case side4 => exact HC0_1.out); rintro e w51 ⟨rfl, hb⟩; refine ⟨_, rfl, ?_⟩; replace BK187 := Aside0.mk (sbb BK187 hb); replace HB := Aside0.mk (sbs1 HB GE187 hb); (try clear hb); (try clear hb2); (try clear hk); (try clear hi)) | ((with_reducible refine gate_callee (f := 21) rfl ?_); refine goesL_ (some 11) rfl rfl Try.func21 (by kernel_rfl) rfl #[] rfl (by (try simp only [List.map_toArray, List.map_cons, List.map_nil]); first | done | rfl | (simp only [List.length_drop, List.length_take]; rfl)) ?_; (with_reducible refine (posserlaw03_awake.calls  t211 _ A48.out).mono ?_); rintro e w52 ⟨rfl, hb⟩; refine ⟨_, rfl, ?_⟩; replace BK187 := Aside0.mk (sbb BK187 hb); replace HB := Aside0.mk (sbs1 HB GE187 hb); (try clear hb); (try clear hb2); (try clear hk); (try clear hi)))
  go_ret
  exact ⟨by first | rfl | (simp [errW_none, errW_some] <;> rfl) | (simp [*, errW_none, errW_some] <;> rfl), (sbe1 HB GE187)⟩
end Go.Proofs.Ytnbbbeghgomnoaa.X
namespace Go.Proofs.Ytnbbbeghgomnoaa.X
open Go.RowKit Go.Proofs.YtnbbbeghgomnoaaW.PrintWords Go.Proofs.YtnbbbeghgomnoaaW.PrintLast Go.Proofs.YtnbbbeghgomnoaaW.PrintMore
theorem Evt.mono_of {α : Type} {g : Nat → Option α} {r : α} (hm : ∀ k, LeO (g k) (g (k + 1))) {K : Nat} (h : g K = some r) : Evt g r := by
 refine ⟨K, fun k hk => ?_⟩
 obtain ⟨d, rfl⟩ : ∃ d, k = K + d := ⟨k - K, by omega⟩
 clear hk
 induction d with
 | zero => exact h
 | succ d ih => exact hm _ _ ih
theorem Evt.ex {α : Type} {g : Nat → Option α} {r : α} (h : Evt g r) : ∃ k, g k = some r := ⟨h.choose, h.choose_spec _ (Nat.le_refl _)⟩
theorem wrap_succ (i n : Nat) (h : i < n) (hn : n ≤ 4611686018427387904) : wrap64 ((i : Int) + 1) = ((i + 1 : Nat) : Int) := by rw [wrap64_id _ (by omega) (by omega)]; rfl
theorem rd_get (l : List Int) (i : Nat) (h : i < l.length) : rd l (i : Int) = l[i] := by
 rw [rd_nat, List.getD_eq_getElem?_getD, List.getElem?_eq_getElem h]; rfl
theorem In_f (n a b : Int) : posserref03_In.f n a b = some (okIn n a b) := by
 unfold posserref03_In.f okIn
 by_cases h : a ≤ n
 ·rw [if_pos h]; simp [h]
 ·rw [if_neg h]; simp [h]
theorem Has_ev (l : List Int) (v : Int) (hl : l.length ≤ 4611686018427387904) : Evt (fun k => posserref03_Has.f k l v) (l.contains v) := by
 have main : ∀ (d i : Nat), i + d = l.length → Evt (fun k => posserref03_Has.l0 k l v (i : Int)) ((l.drop i).contains v) := by
  intro d
  induction d with
  | zero =>
   intro i hi
   refine Evt.succ (h := fun _ => some false) ?_ (fun k => ?_)
   ·rw [List.drop_eq_nil_of_le (by omega)]; exact Evt.const _
   ·simp only [posserref03_Has.l0]
    rw [if_neg (by omega)]
  | succ d ih =>
   intro i hi
   have hlt : i < l.length := by omega
   have hd : l.drop i = l[i] :: l.drop (i + 1) := List.drop_eq_getElem_cons hlt
   by_cases he : l[i] = v
   ·refine Evt.succ (h := fun _ => some true) ?_ (fun k => ?_)
    ·rw [hd, List.contains_cons, he]; simp; exact Evt.const _
    ·simp only [posserref03_Has.l0]
     rw [if_pos (by omega), if_pos (by omega), rd_get l i hlt, if_pos he]
   ·refine Evt.succ (h := fun k => posserref03_Has.l0 k l v ((i + 1 : Nat) : Int)) ?_ (fun k => ?_)
    ·have hne : (v == l[i]) = false := by simpa using fun h => he h.symm
     rw [hd, List.contains_cons, hne, Bool.false_or]; exact ih (i + 1) (by omega)
    ·simp only [posserref03_Has.l0]
     rw [if_pos (by omega), if_pos (by omega), rd_get l i hlt, if_neg he, wrap_succ i _ hlt hl]
 exact main l.length 0 (by omega)
theorem getD_map {α β : Type} (f : α → β) (l : List α) (i : Nat) (a : α) : (l.map f).getD i (f a) = f (l.getD i a) := by
 rw [List.getD_eq_getElem?_getD, List.getD_eq_getElem?_getD, List.getElem?_map]
 cases l[i]? <;> rfl
theorem cvW_getD (l : List S85) (i : Nat) : (l.map cvW).getD i z109 = cvW (l.getD i z85) := getD_map cvW l i z85
theorem cvP_getD (l : List S71) (i : Nat) : (l.map cvP).getD i z110 = cvP (l.getD i z71) := getD_map cvP l i z71
theorem rd_T71_nat (l : List S71) (i : Nat) : rd_T71 l (i : Int) = l.getD i z71 := rfl
theorem rd_T85_nat (l : List S85) (i : Nat) : rd_T85 l (i : Int) = l.getD i z85 := rfl
theorem getD_mem {α : Type} (l : List α) (i : Nat) (z : α) (h : i < l.length) : l.getD i z ∈ l := by
 rw [List.getD_eq_getElem?_getD, List.getElem?_eq_getElem h]; exact List.getElem_mem _
structure Thn (l0 : List S85) (l1 : List S71) : Prop where
 n0 : l0.length ≤ 30
 n1 : l1.length ≤ 30
 ms : ∀ p ∈ l1, p.f0.length ≤ 30
theorem thinR_iff {l0 : List S85} {l1 : List S71} : thinR l0 l1 = true ↔ Thn l0 l1 := by
 unfold thinR
 simp only [Bool.and_eq_true, decide_eq_true_eq, List.all_eq_true]
 exact ⟨fun h => ⟨h.1.1, h.1.2, h.2⟩, fun h => ⟨⟨h.n0, h.n1⟩, h.ms⟩⟩
theorem thinP_of {l0 : List S85} {l1 : List S71} (h : Thn l0 l1) : thinP (l0.map cvW) (l1.map cvP) = true := by
 unfold thinP
 simp only [Bool.and_eq_true, decide_eq_true_eq, List.all_eq_true, List.length_map]
 refine ⟨⟨h.n0, h.n1⟩, fun p hp => ?_⟩
 obtain ⟨q, hq, rfl⟩ := List.mem_map.1 hp
 exact h.ms q hq
theorem optsL_cv (l0 : List S85) (l1 : List S71) (i : Nat) : optsL (l0.map cvW) (l1.map cvP) i = sel (fun j => (l1.getD i z71).f0.contains (l0.getD j z85).f0) l0.length := by
 unfold optsL ofL
 rw [List.length_map, cvP_getD]
 refine congrArg (fun p => sel p l0.length) (funext fun j => ?_)
 rw [cvW_getD]; rfl
theorem WomenOf_ev {l0 : List S85} {l1 : List S71} (wg : Int) (ht : Thn l0 l1) (i : Nat) (hi : i < l1.length) : Evt (fun k => posserref03_WomenOf.f k l0 l1 wg (i : Int)) (optsL (l0.map cvW) (l1.map cvP) i) := by
 rw [optsL_cv]
 have hm := ht.ms _ (getD_mem l1 i z71 hi)
 have h0 := ht.n0
 have main : ∀ (d j : Nat), j + d = l0.length → Evt (fun k => posserref03_WomenOf.l0 k (i : Int) (sel (fun j => (l1.getD i z71).f0.contains (l0.getD j z85).f0) j) (j : Int) l0 l1 wg) (sel (fun j => (l1.getD i z71).f0.contains (l0.getD j z85).f0) l0.length) := by
  intro d
  induction d with
  | zero =>
   intro j hj
   obtain rfl : j = l0.length := by omega
   refine Evt.succ (h := fun _ => some (sel (fun j => (l1.getD i z71).f0.contains (l0.getD j z85).f0) l0.length)) (Evt.const _) (fun k => ?_)
   simp only [posserref03_WomenOf.l0]
   rw [if_neg (by omega)]
  | succ d ih =>
   intro j hj
   have hlt : j < l0.length := by omega
   have hsl := sel_le (fun j => (l1.getD i z71).f0.contains (l0.getD j z85).f0) j
   obtain ⟨K, hK⟩ := Has_ev (l1.getD i z71).f0 (l0.getD j z85).f0 (by omega)
   obtain ⟨L, hL⟩ := ih (j + 1) (by omega)
   refine ⟨K + L + 1, fun k hk => ?_⟩
   obtain ⟨k, rfl⟩ : ∃ m, k = m + 1 := ⟨k - 1, by omega⟩
   have h1 := hK k (by omega)
   have h2 := hL k (by omega)
   dsimp only at h1 h2 ⊢
   simp only [posserref03_WomenOf.l0]
   rw [if_pos (by omega), if_pos (by omega), if_pos (by omega), if_pos (by omega), rd_T71_nat, rd_T85_nat, h1]
   simp only [Option.bind_some]
   by_cases hp : (l1.getD i z71).f0.contains (l0.getD j z85).f0 = true
   ·rw [if_pos hp, if_pos (by omega), wrap_succ j _ hlt (by omega)]
    rw [sel_yes _ _ hp] at h2
    exact h2
   ·rw [if_neg hp, wrap_succ j _ hlt (by omega)]
    rw [sel_no _ _ (Bool.eq_false_iff.2 hp)] at h2
    exact h2
 exact main l0.length 0 (by omega)
theorem prods_length (opts : Nat → List Int) (d i : Nat) : (prods opts (d + 1) i).length = (opts i).length * (prods opts d (i + 1)).length := by
 simp only [prods, List.length_flatMap, List.length_map]
 generalize (prods opts d (i + 1)).length = c
 generalize opts i = l
 induction l with
 | nil => simp
 | cons a r ih => simp only [List.map_cons, List.sum_cons, ih, List.length_cons, Nat.add_mul, Nat.one_mul]; omega
def prodN (lens : List Nat) : Nat := lens.foldl (· * ·) 1
theorem foldl_mul (l : List Nat) (a : Nat) : l.foldl (· * ·) a = a * prodN l := by
 unfold prodN
 induction l generalizing a with
 | nil => simp
 | cons x r ih => simp only [List.foldl_cons, Nat.one_mul]; rw [ih, ih x, Nat.mul_assoc]
theorem prodN_cons (x : Nat) (l : List Nat) : prodN (x :: l) = x * prodN l := by
 unfold prodN
 rw [List.foldl_cons, Nat.one_mul]; exact foldl_mul l x
theorem prodN_snoc (l : List Nat) (x : Nat) : prodN (l ++ [x]) = prodN l * x := by
 unfold prodN
 rw [List.foldl_append]; rfl
theorem prods_prodN (opts : Nat → List Int) : ∀ (d i : Nat), (prods opts d i).length = prodN ((List.range d).map fun j => (opts (i + j)).length) := by
 intro d
 induction d with
 | zero => intro i; rfl
 | succ d ih =>
  intro i
  rw [prods_length, ih, List.range_succ_eq_map, List.map_cons, prodN_cons, List.map_map]
  refine congrArg (fun l => (opts i).length * prodN l) (List.map_congr_left fun j _ => ?_)
  show (opts (i + 1 + j)).length = (opts (i + (j + 1))).length
  rw [show i + 1 + j = i + (j + 1) from by omega]
theorem mn_nat (a b : Nat) : mn (a : Int) (b : Int) = ((min a b : Nat) : Int) := by
 unfold mn
 split <;> omega
theorem cap_mul (C a b : Nat) : min C (min C a * b) = min C (a * b) := by
 rcases Nat.le_total a C with h | h
 ·rw [Nat.min_eq_right h]
 ·rw [Nat.min_eq_left h]
  rcases Nat.eq_zero_or_pos b with rfl | hb
  ·simp
  ·have h1 : C ≤ C * b := Nat.le_mul_of_pos_right C hb
   have h2 : C * b ≤ a * b := Nat.mul_le_mul_right b h
   rw [Nat.min_eq_left h1, Nat.min_eq_left (Nat.le_trans h1 h2)]
def lensL (l0 : List S109) (l1 : List S110) (m : Nat) : List Nat := (List.range m).map fun j => (optsL l0 l1 j).length
theorem lensL_succ (l0 : List S109) (l1 : List S110) (m : Nat) : lensL l0 l1 (m + 1) = lensL l0 l1 m ++ [(optsL l0 l1 m).length] := by
 unfold lensL
 rw [List.range_succ, List.map_append]; rfl
theorem allL_prodN (l0 : List S109) (l1 : List S110) : (allL l0 l1).length = prodN (lensL l0 l1 l1.length) := by
 unfold allL lensL
 rw [prods_prodN]
 refine congrArg prodN (List.map_congr_left fun j _ => ?_)
 rw [Nat.zero_add]
theorem Many_ev {l0 : List S85} {l1 : List S71} (wg : Int) (ht : Thn l0 l1) : Evt (fun k => posserref03_Many.f k l0 l1 wg) ((min 3000 (allL (l0.map cvW) (l1.map cvP)).length : Nat) : Int) := by
 have h1 := ht.n1
 have h0 := ht.n0
 have main : ∀ (d i : Nat), i + d = l1.length → Evt (fun k => posserref03_Many.l0 k ((min 3000 (prodN (lensL (l0.map cvW) (l1.map cvP) i)) : Nat) : Int) (i : Int) l0 l1 wg) ((min 3000 (allL (l0.map cvW) (l1.map cvP)).length : Nat) : Int) := by
  intro d
  induction d with
  | zero =>
   intro i hi
   obtain rfl : i = l1.length := by omega
   refine Evt.succ (h := fun _ => some ((min 3000 (allL (l0.map cvW) (l1.map cvP)).length : Nat) : Int)) (Evt.const _) (fun k => ?_)
   simp only [posserref03_Many.l0]
   rw [if_neg (by omega), allL_prodN, List.length_map]
  | succ d ih =>
   intro i hi
   have hlt : i < l1.length := by omega
   obtain ⟨K, hK⟩ := WomenOf_ev wg ht i hlt
   obtain ⟨L, hL⟩ := ih (i + 1) (by omega)
   refine ⟨K + L + 1, fun k hk => ?_⟩
   obtain ⟨k, rfl⟩ : ∃ m, k = m + 1 := ⟨k - 1, by omega⟩
   have g1 := hK k (by omega)
   have g2 := hL k (by omega)
   dsimp only at g1 g2 ⊢
   simp only [posserref03_Many.l0]
   rw [if_pos (by omega), g1]
   simp only [Option.bind_some]
   have hol : (optsL (l0.map cvW) (l1.map cvP) i).length ≤ 30 := by
    unfold optsL
    refine Nat.le_trans (ofL_le _ _) ?_
    rw [List.length_map]; exact h0
   have hm : min 3000 (prodN (lensL (l0.map cvW) (l1.map cvP) i)) * (optsL (l0.map cvW) (l1.map cvP) i).length ≤ 3000 * 30 := Nat.mul_le_mul (Nat.min_le_left _ _) hol
   have he : wrap64 (((min 3000 (prodN (lensL (l0.map cvW) (l1.map cvP) i)) : Nat) : Int) * ((optsL (l0.map cvW) (l1.map cvP) i).length : Int)) = ((min 3000 (prodN (lensL (l0.map cvW) (l1.map cvP) i)) * (optsL (l0.map cvW) (l1.map cvP) i).length : Nat) : Int) := by
    rw [← Int.natCast_mul, wrap64_id _ (by omega) (by omega)]
   rw [he, show (3000 : Int) = ((3000 : Nat) : Int) from rfl, mn_nat, cap_mul, wrap_succ i _ hlt (by omega)]
   rw [lensL_succ, prodN_snoc] at g2
   exact g2
 exact main l1.length 0 (by omega)
theorem manyT_eq (l0 : List S109) (l1 : List S110) : manyT l0 l1 = ((min 2001 (allL l0 l1).length : Nat) : Int) := by
 have main : ∀ (r : List S110) (m : Nat), (l1.drop m = r) → m ≤ l1.length → r.foldl (fun m p => mn (m * ((ofL l0 p.f0).length : Int)) 2001) ((min 2001 (prodN (lensL l0 l1 m)) : Nat) : Int) = ((min 2001 (allL l0 l1).length : Nat) : Int) := by
  intro r
  induction r with
  | nil =>
   intro m hm hml
   have : l1.length ≤ m := by
    have h := congrArg List.length hm
    rw [List.length_drop] at h
    simp at h; omega
   obtain rfl : m = l1.length := by omega
   rw [List.foldl_nil, allL_prodN]
  | cons p r ih =>
   intro m hm hml
   have hlt : m < l1.length := by
    have h := congrArg List.length hm
    rw [List.length_drop] at h
    simp at h; omega
   have hd := List.drop_eq_getElem_cons hlt
   rw [hd] at hm
   injection hm with hp hr
   rw [List.foldl_cons]
   have ho : (ofL l0 p.f0) = optsL l0 l1 m := by
    unfold optsL
    rw [List.getD_eq_getElem?_getD, List.getElem?_eq_getElem hlt, Option.getD_some, hp]
   rw [ho, ← Int.natCast_mul, show (2001 : Int) = ((2001 : Nat) : Int) from rfl, mn_nat, Nat.min_comm, cap_mul, ← prodN_snoc, ← lensL_succ]
   exact ih (m + 1) hr (by omega)
 have := main l1 0 rfl (by omega)
 unfold manyT
 exact this
theorem Thin_ev (l0 : List S85) (l1 : List S71) (wg : Int) : Evt (fun k => posserlaw03_Thin.f k l0 l1 wg) (thinR l0 l1) := by
 by_cases h0 : l0.length ≤ 30
 ·by_cases h1 : l1.length ≤ 30
  ·have main : ∀ (d i : Nat), i + d = l1.length → Evt (fun k => posserlaw03_Thin.l0 k (i : Int) l0 l1 wg) ((l1.drop i).all fun p => decide (p.f0.length ≤ 30)) := by
    intro d
    induction d with
    | zero =>
     intro i hi
     refine Evt.succ (h := fun _ => some true) ?_ (fun k => ?_)
     ·rw [List.drop_eq_nil_of_le (by omega)]; exact Evt.const _
     ·simp only [posserlaw03_Thin.l0]
      rw [if_neg (by omega)]
    | succ d ih =>
     intro i hi
     have hlt : i < l1.length := by omega
     have hd : l1.drop i = l1[i] :: l1.drop (i + 1) := List.drop_eq_getElem_cons hlt
     have hg : rd_T71 l1 (i : Int) = l1[i] := by
      rw [rd_T71_nat, List.getD_eq_getElem?_getD, List.getElem?_eq_getElem hlt]; rfl
     by_cases hp : l1[i].f0.length ≤ 30
     ·refine Evt.succ (h := fun k => posserlaw03_Thin.l0 k ((i + 1 : Nat) : Int) l0 l1 wg) ?_ (fun k => ?_)
      ·rw [hd, List.all_cons, decide_eq_true hp, Bool.true_and]; exact ih (i + 1) (by omega)
      ·simp only [posserlaw03_Thin.l0]
       rw [if_pos (by omega), if_pos (by omega), hg, if_neg (by omega), wrap_succ i _ hlt (by omega)]
     ·refine Evt.succ (h := fun _ => some false) ?_ (fun k => ?_)
      ·rw [hd, List.all_cons, decide_eq_false hp, Bool.false_and]; exact Evt.const _
      ·simp only [posserlaw03_Thin.l0]
       rw [if_pos (by omega), if_pos (by omega), hg, if_pos (by omega)]
   have hm := main l1.length 0 (by omega)
   have ht : thinR l0 l1 = (l1.drop 0).all fun p => decide (p.f0.length ≤ 30) := by
    unfold thinR
    rw [decide_eq_true h0, decide_eq_true h1]; rfl
   rw [ht]
   refine Evt.succ hm (fun k => ?_)
   show posserlaw03_Thin.f (k + 1) l0 l1 wg = _
   unfold posserlaw03_Thin.f
   rw [if_neg (by omega)]
   simp only [posserlaw03_Thin.j0]
   rw [decide_eq_false (by omega), if_neg (by decide)]; rfl
  ·have ht : thinR l0 l1 = false := by
    unfold thinR
    rw [decide_eq_false h1, Bool.and_false]; rfl
   rw [ht]
   refine Evt.succ (Evt.const false) (fun k => ?_)
   show posserlaw03_Thin.f (k + 1) l0 l1 wg = _
   unfold posserlaw03_Thin.f
   rw [if_neg (by omega)]
   simp only [posserlaw03_Thin.j0]
   rw [decide_eq_true (by omega), if_pos rfl]
 ·have ht : thinR l0 l1 = false := by
   unfold thinR
   rw [decide_eq_false h0]; rfl
  rw [ht]
  refine Evt.succ (Evt.const false) (fun k => ?_)
  show posserlaw03_Thin.f (k + 1) l0 l1 wg = _
  unfold posserlaw03_Thin.f
  rw [if_pos (by omega)]
  simp only [posserlaw03_Thin.j0]
  rw [if_pos trivial]
theorem ints_ev (a b : List Int) (hl : a.length ≤ 4611686018427387904) : Evt (fun k => posserlaw03_ints.f k a b) (a == b) := by
 by_cases hlen : a.length = b.length
 ·have main : ∀ (d i : Nat), i + d = a.length → Evt (fun k => posserlaw03_ints.l0 k a b (i : Int)) (a.drop i == b.drop i) := by
   intro d
   induction d with
   | zero =>
    intro i hi
    refine Evt.succ (h := fun _ => some true) ?_ (fun k => ?_)
    ·rw [List.drop_eq_nil_of_le (by omega), List.drop_eq_nil_of_le (by omega)]; exact Evt.const _
    ·simp only [posserlaw03_ints.l0]
     rw [if_neg (by omega)]
   | succ d ih =>
    intro i hi
    have hlt : i < a.length := by omega
    have hlt2 : i < b.length := by omega
    have hda : a.drop i = a[i] :: a.drop (i + 1) := List.drop_eq_getElem_cons hlt
    have hdb : b.drop i = b[i] :: b.drop (i + 1) := List.drop_eq_getElem_cons hlt2
    by_cases he : a[i] = b[i]
    ·refine Evt.succ (h := fun k => posserlaw03_ints.l0 k a b ((i + 1 : Nat) : Int)) ?_ (fun k => ?_)
     ·have hq : (a.drop i == b.drop i) = (a.drop (i + 1) == b.drop (i + 1)) := by
       rw [hda, hdb, he]
       rw [Bool.eq_iff_iff, beq_iff_eq, beq_iff_eq]
       exact ⟨fun h => by injection h, fun h => by rw [h]⟩
      rw [hq]; exact ih (i + 1) (by omega)
     ·simp only [posserlaw03_ints.l0]
      rw [if_pos (by omega), if_pos (by omega), if_pos (by omega), rd_get a i hlt, rd_get b i hlt2, if_pos he, wrap_succ i _ hlt hl]
    ·refine Evt.succ (h := fun _ => some false) ?_ (fun k => ?_)
     ·have hq : (a.drop i == b.drop i) = false := by
       rw [hda, hdb, beq_eq_false_iff_ne]
       intro h
       injection h with h _
       exact he h
      rw [hq]; exact Evt.const _
     ·simp only [posserlaw03_ints.l0]
      rw [if_pos (by omega), if_pos (by omega), if_pos (by omega), rd_get a i hlt, rd_get b i hlt2, if_neg he]
  refine (main a.length 0 (by omega)).congr (fun k => ?_)
  show posserlaw03_ints.f k a b = _
  unfold posserlaw03_ints.f
  rw [if_pos (by omega)]; rfl
 ·have hq : (a == b) = false := by
   rw [beq_eq_false_iff_ne]
   intro h
   exact hlen (congrArg List.length h)
  rw [hq]
  refine (Evt.const false).congr (fun k => ?_)
  show posserlaw03_ints.f k a b = _
  unfold posserlaw03_ints.f
  rw [if_neg (by omega)]
end Go.Proofs.Ytnbbbeghgomnoaa.X
namespace Go.Proofs.Ytnbbbeghgomnoaa.X
open Go.RowKit Go.Proofs.YtnbbbeghgomnoaaW.PrintWords Go.Proofs.YtnbbbeghgomnoaaW.PrintLast Go.Proofs.YtnbbbeghgomnoaaW.PrintMore
theorem ofL_cv (l0 : List S85) (l1 : List S71) (i : Nat) : optsL (l0.map cvW) (l1.map cvP) i = ofL (l0.map cvW) (l1.getD i z71).f0 := by
 unfold optsL
 rw [cvP_getD]; rfl
def endT (l0 : List S85) (l1 : List S71) : Int := if 2000 < manyT (l0.map cvW) (l1.map cvP) then 3 else 0
theorem fault_marks {l0 : List S85} {l1 : List S71} (wg : Int) (ht : Thn l0 l1) (i : Nat) (hi : i < l1.length) (X : Int) (hX : Evt (fun k => posserref03_Fault.l1 k ((i + 1 : Nat) : Int) l0 l1 wg) X) :
  Evt (fun k => posserref03_Fault.l2 k (i : Int) 0 l0 l1 wg (l1.getD i z71).f0 (l1.getD i z71).f1) (if okP (l0.map cvW) (cvP (l1.getD i z71)) = true then X else 1) := by
 have hm := ht.ms _ (getD_mem l1 i z71 hi)
 have h0 := ht.n0
 have h1 := ht.n1
 obtain ⟨z, hz⟩ : ∃ z, l1.getD i z71 = z := ⟨_, rfl⟩
 have hwo := WomenOf_ev wg ht i hi
 rw [ofL_cv] at hwo
 rw [hz] at hm hwo ⊢
 have hokP : okP (l0.map cvW) (cvP z) = ((List.range z.f0.length).all (okM z.f0) && okIn z.f1 0 ((l0.length : Int) - 1) && decide (0 < (ofL (l0.map cvW) z.f0).length)) := by
  unfold okP
  rw [List.length_map]; rfl
 have main : ∀ (d j : Nat), j + d = z.f0.length → (List.range j).all (okM z.f0) = true → Evt (fun k => posserref03_Fault.l2 k (i : Int) (j : Int) l0 l1 wg z.f0 z.f1) (if okP (l0.map cvW) (cvP z) = true then X else 1) := by
  intro d
  induction d with
  | zero =>
   intro j hj hok
   obtain rfl : j = z.f0.length := by omega
   have hw : wrap64 ((l0.length : Int) - 1) = (l0.length : Int) - 1 := wrap64_id _ (by omega) (by omega)
   obtain ⟨K, hK⟩ := hwo
   obtain ⟨L, hL⟩ := hX
   refine ⟨K + L + 1, fun k hk => ?_⟩
   obtain ⟨k, rfl⟩ : ∃ m, k = m + 1 := ⟨k - 1, by omega⟩
   have g1 := hK k (by omega)
   have g2 := hL k (by omega)
   dsimp only at g1 g2 ⊢
   simp only [posserref03_Fault.l2]
   rw [if_neg (by omega), hw, In_f]
   simp only [Option.bind_some]
   rw [hokP, hok]
   cases okIn z.f1 0 ((l0.length : Int) - 1)
   ·rfl
   ·simp only [if_true, Bool.and_true, Bool.true_and]
    rw [g1]
    simp only [Option.bind_some]
    by_cases hl : (ofL (l0.map cvW) z.f0).length = 0
    ·rw [if_pos (by omega), decide_eq_false (by omega)]; rfl
    ·rw [if_neg (by omega), decide_eq_true (by omega), if_pos rfl, wrap_succ i _ hi (by omega)]
     exact g2
  | succ d ih =>
   intro j hj hok
   have hlt : j < z.f0.length := by omega
   have hokm : okM z.f0 j = (okIn (z.f0.getD j 0) 0 9 && (j == 0 || decide (z.f0.getD (j - 1) 0 < z.f0.getD j 0))) := rfl
   have hfalse : okM z.f0 j = false → okP (l0.map cvW) (cvP z) = false := fun h => by
    rw [hokP, all_range_false _ _ _ hlt h]; rfl
   have hw1 : wrap64 ((j : Int) + 1) = ((j + 1 : Nat) : Int) := by rw [wrap64_id _ (by omega) (by omega)]; rfl
   by_cases hmk : okIn (z.f0.getD j 0) 0 9 = true
   ·by_cases hj0 : j = 0
    ·have hokt : okM z.f0 j = true := by rw [hokm, hmk, hj0]; rfl
     refine Evt.succ (ih (j + 1) (by omega) (by rw [all_range_succ, hok, hokt]; rfl)) (fun k => ?_)
     simp only [posserref03_Fault.l2]
     rw [if_pos (by omega), if_pos (by omega), rd_nat, In_f, hmk]
     simp only [Option.bind_some, if_true]
     rw [if_neg (by omega), hw1]
    ·have hw2 : wrap64 ((j : Int) - 1) = ((j - 1 : Nat) : Int) := by rw [wrap64_id _ (by omega) (by omega)]; omega
     by_cases hinc : z.f0.getD (j - 1) 0 < z.f0.getD j 0
     ·have hokt : okM z.f0 j = true := by rw [hokm, hmk, decide_eq_true hinc]; simp
      refine Evt.succ (ih (j + 1) (by omega) (by rw [all_range_succ, hok, hokt]; rfl)) (fun k => ?_)
      simp only [posserref03_Fault.l2]
      rw [if_pos (by omega), if_pos (by omega), rd_nat, In_f, hmk]
      simp only [Option.bind_some, if_true]
      rw [if_pos (by omega), hw2, if_pos (by omega), if_pos (by omega), rd_nat, if_neg (by omega), hw1]
     ·have hokf : okM z.f0 j = false := by
       rw [hokm, hmk, decide_eq_false hinc]
       have : (j == 0) = false := by simpa using hj0
       rw [this]; rfl
      rw [hfalse hokf]
      refine Evt.succ (Evt.const 1) (fun k => ?_)
      simp only [posserref03_Fault.l2]
      rw [if_pos (by omega), if_pos (by omega), rd_nat, In_f, hmk]
      simp only [Option.bind_some, if_true]
      rw [if_pos (by omega), hw2, if_pos (by omega), if_pos (by omega), rd_nat, if_pos (by omega)]
   ·have hmk' : okIn (z.f0.getD j 0) 0 9 = false := by simpa using hmk
    have hokf : okM z.f0 j = false := by rw [hokm, hmk']; rfl
    rw [hfalse hokf]
    refine Evt.succ (Evt.const 1) (fun k => ?_)
    simp only [posserref03_Fault.l2]
    rw [if_pos (by omega), if_pos (by omega), rd_nat, In_f, hmk']
    rfl
 exact main z.f0.length 0 (by omega) rfl
theorem fault_pieces {l0 : List S85} {l1 : List S71} (wg : Int) (ht : Thn l0 l1) : ∀ (d i : Nat), i + d = l1.length → Evt (fun k => posserref03_Fault.l1 k (i : Int) l0 l1 wg) (if ((l1.map cvP).drop i).all (okP (l0.map cvW)) = true then endT l0 l1 else 1) := by
 have h1 := ht.n1
 intro d
 induction d with
 | zero =>
  intro i hi
  obtain rfl : i = l1.length := by omega
  obtain ⟨K, hK⟩ := Many_ev wg ht
  refine ⟨K + 1, fun k hk => ?_⟩
  obtain ⟨k, rfl⟩ : ∃ m, k = m + 1 := ⟨k - 1, by omega⟩
  have g1 := hK k (by omega)
  dsimp only at g1 ⊢
  simp only [posserref03_Fault.l1]
  rw [if_neg (by omega), g1]
  simp only [Option.bind_some]
  rw [List.drop_eq_nil_of_le (by rw [List.length_map]; omega), List.all_nil, if_pos rfl]
  unfold endT
  rw [manyT_eq]
  by_cases h : 2000 < (allL (l0.map cvW) (l1.map cvP)).length
  ·rw [if_pos (by omega), if_pos (by omega)]
  ·rw [if_neg (by omega), if_neg (by omega)]
 | succ d ih =>
  intro i hi
  have hlt : i < l1.length := by omega
  have hd : (l1.map cvP).drop i = cvP (l1.getD i z71) :: (l1.map cvP).drop (i + 1) := by
   rw [List.drop_eq_getElem_cons (by rw [List.length_map]; exact hlt), List.getElem_map, List.getD_eq_getElem?_getD, List.getElem?_eq_getElem hlt]; rfl
  have h2 := fault_marks wg ht i hlt _ (ih (i + 1) (by omega))
  rw [hd, List.all_cons]
  have he : (if (okP (l0.map cvW) (cvP (l1.getD i z71)) && ((l1.map cvP).drop (i + 1)).all (okP (l0.map cvW))) = true then endT l0 l1 else 1) = (if okP (l0.map cvW) (cvP (l1.getD i z71)) = true then (if ((l1.map cvP).drop (i + 1)).all (okP (l0.map cvW)) = true then endT l0 l1 else 1) else 1) := by
   cases okP (l0.map cvW) (cvP (l1.getD i z71)) <;> simp
  rw [he]
  refine Evt.succ h2 (fun k => ?_)
  simp only [posserref03_Fault.l1]
  rw [if_pos (by omega), if_pos (by omega), rd_T71_nat]
theorem fault_women {l0 : List S85} {l1 : List S71} (wg : Int) (ht : Thn l0 l1) : ∀ (d i : Nat), i + d = l0.length → Evt (fun k => posserref03_Fault.l0 k (i : Int) l0 l1 wg) (if ((l0.map cvW).drop i).all okW = true then (if (l1.map cvP).all (okP (l0.map cvW)) = true then endT l0 l1 else 1) else 1) := by
 have h0 := ht.n0
 intro d
 induction d with
 | zero =>
  intro i hi
  obtain rfl : i = l0.length := by omega
  rw [List.drop_eq_nil_of_le (by rw [List.length_map]; omega), List.all_nil, if_pos rfl]
  have h2 := fault_pieces wg ht l1.length 0 (by omega)
  rw [List.drop_zero] at h2
  refine Evt.succ h2 (fun k => ?_)
  simp only [posserref03_Fault.l0]
  rw [if_neg (by omega)]; rfl
 | succ d ih =>
  intro i hi
  have hlt : i < l0.length := by omega
  obtain ⟨z, hz⟩ : ∃ z, l0.getD i z85 = z := ⟨_, rfl⟩
  have hd : (l0.map cvW).drop i = cvW z :: (l0.map cvW).drop (i + 1) := by
   rw [List.drop_eq_getElem_cons (by rw [List.length_map]; exact hlt), List.getElem_map, ← hz, List.getD_eq_getElem?_getD, List.getElem?_eq_getElem hlt]; rfl
  rw [hd, List.all_cons]
  have hok : okW (cvW z) = (okIn z.f0 0 9 && decide (0 ≤ z.f1.f0) && decide (z.f1.f0 ≤ z.f1.f1) && decide (z.f1.f1 ≤ 7)) := rfl
  have hbad : okW (cvW z) = false → ∀ {X : Int}, (if (okW (cvW z) && ((l0.map cvW).drop (i + 1)).all okW) = true then X else 1) = 1 := fun h X => by rw [h]; rfl
  by_cases hm : okIn z.f0 0 9 = true
  ·by_cases h1 : 0 ≤ z.f1.f0
   ·by_cases h2 : z.f1.f0 ≤ z.f1.f1
    ·by_cases h3 : z.f1.f1 ≤ 7
     ·have ho : okW (cvW z) = true := by rw [hok, hm, decide_eq_true h1, decide_eq_true h2, decide_eq_true h3]; rfl
      rw [ho, Bool.true_and]
      refine Evt.succ (ih (i + 1) (by omega)) (fun k => ?_)
      simp only [posserref03_Fault.l0]
      rw [if_pos (by omega), if_pos (by omega), rd_T85_nat, hz, In_f, hm]
      simp only [Option.bind_some, if_true]
      rw [if_neg (by omega), if_neg (by omega), if_neg (by omega), wrap_succ i _ hlt (by omega)]
     ·rw [hbad (by rw [hok, decide_eq_false h3]; simp)]
      refine Evt.succ (Evt.const 1) (fun k => ?_)
      simp only [posserref03_Fault.l0]
      rw [if_pos (by omega), if_pos (by omega), rd_T85_nat, hz, In_f, hm]
      simp only [Option.bind_some, if_true]
      rw [if_neg (by omega), if_neg (by omega), if_pos (by omega)]
    ·rw [hbad (by rw [hok, decide_eq_false h2]; simp)]
     refine Evt.succ (Evt.const 1) (fun k => ?_)
     simp only [posserref03_Fault.l0]
     rw [if_pos (by omega), if_pos (by omega), rd_T85_nat, hz, In_f, hm]
     simp only [Option.bind_some, if_true]
     rw [if_neg (by omega), if_pos (by omega)]
   ·rw [hbad (by rw [hok, decide_eq_false h1]; simp)]
    refine Evt.succ (Evt.const 1) (fun k => ?_)
    simp only [posserref03_Fault.l0]
    rw [if_pos (by omega), if_pos (by omega), rd_T85_nat, hz, In_f, hm]
    simp only [Option.bind_some, if_true]
    rw [if_pos (by omega)]
  ·have hm' : okIn z.f0 0 9 = false := by simpa using hm
   rw [hbad (by rw [hok, hm']; rfl)]
   refine Evt.succ (Evt.const 1) (fun k => ?_)
   simp only [posserref03_Fault.l0]
   rw [if_pos (by omega), if_pos (by omega), rd_T85_nat, hz, In_f, hm']
   rfl
theorem Fault_ev {l0 : List S85} {l1 : List S71} (wg : Int) (ht : Thn l0 l1) : Evt (fun k => posserref03_Fault.f k l0 l1 wg) (checkT (l0.map cvW) (l1.map cvP) wg) := by
 unfold checkT
 rw [List.length_map, List.length_map]
 by_cases h5 : 5 < l0.length
 ·rw [if_pos (.inl h5)]
  refine Evt.succ (Evt.const 3) (fun k => ?_)
  show posserref03_Fault.f (k + 1) l0 l1 wg = _
  unfold posserref03_Fault.f
  rw [if_pos (by omega)]
  simp only [posserref03_Fault.j0]
  rw [if_pos trivial]
 ·by_cases h7 : 7 < l1.length
  ·rw [if_pos (.inr h7)]
   refine Evt.succ (Evt.const 3) (fun k => ?_)
   show posserref03_Fault.f (k + 1) l0 l1 wg = _
   unfold posserref03_Fault.f
   rw [if_neg (by omega)]
   simp only [posserref03_Fault.j0]
   rw [decide_eq_true (by omega), if_pos rfl]
  ·rw [if_neg (by omega)]
   have hf : ∀ k, posserref03_Fault.f (k + 1) l0 l1 wg = (posserref03_In.f wg 0 5).bind fun t116 => if t116 = true then posserref03_Fault.l0 k 0 l0 l1 wg else some 1 := fun k => by
    unfold posserref03_Fault.f
    rw [if_neg (by omega)]
    simp only [posserref03_Fault.j0]
    rw [decide_eq_false (by omega), if_neg (by decide)]
   by_cases hw : okIn wg 0 5 = true
   ·have h2 := fault_women wg ht l0.length 0 (by omega)
    rw [List.drop_zero] at h2
    have he : (if okIn wg 0 5 = false ∨ (l0.map cvW).all okW = false ∨ (l1.map cvP).all (okP (l0.map cvW)) = false then (1 : Int) else if 2000 < manyT (l0.map cvW) (l1.map cvP) then 3 else 0) = (if (l0.map cvW).all okW = true then (if (l1.map cvP).all (okP (l0.map cvW)) = true then endT l0 l1 else 1) else 1) := by
     rw [hw]
     unfold endT
     cases (l0.map cvW).all okW <;> cases (l1.map cvP).all (okP (l0.map cvW)) <;> simp
    rw [he]
    refine Evt.succ h2 (fun k => ?_)
    show posserref03_Fault.f (k + 1) l0 l1 wg = _
    rw [hf, In_f, hw]
    rfl
   ·have hw' : okIn wg 0 5 = false := by simpa using hw
    rw [if_pos (.inl hw')]
    refine Evt.succ (Evt.const 1) (fun k => ?_)
    show posserref03_Fault.f (k + 1) l0 l1 wg = _
    rw [hf, In_f, hw']
    rfl
theorem fault_ev {l0 : List S85} {l1 : List S71} (wg : Int) (ht : Thn l0 l1) : Evt (fun k => posserlaw03_fault.f k l0 l1 wg) (checkT (l0.map cvW) (l1.map cvP) wg) :=
 (Fault_ev wg ht).bind (g := fun t _ => some t) (Evt.const _)
def compN (opts : Nat → List Int) (d n j : Nat) : Int := (opts j).getD (n / (prods opts (d - 1 - j) (j + 1)).length % (opts j).length) 0
def nthN (opts : Nat → List Int) (d n : Nat) : List Int := (List.range d).map (compN opts d n)
theorem prods_get (opts : Nat → List Int) : ∀ (d i n : Nat), n < (prods opts d i).length → (prods opts d i)[n]? = some ((List.range d).map fun j => (opts (i + j)).getD (n / (prods opts (d - 1 - j) (i + j + 1)).length % (opts (i + j)).length) 0) := by
 intro d
 induction d with
 | zero =>
  intro i n hn
  simp [prods] at hn
  subst hn
  rfl
 | succ d ih =>
  intro i n hn
  rw [prods_length] at hn
  obtain ⟨M, hM⟩ : ∃ M, prods opts d (i + 1) = M := ⟨_, rfl⟩
  have hMp : 0 < M.length := by
   rcases Nat.eq_zero_or_pos M.length with h | h
   ·rw [hM, h] at hn; simp at hn
   ·exact h
  have hflat : ∀ (l : List Int) (n : Nat), n < l.length * M.length → (l.flatMap fun v => M.map (v :: ·))[n]? = some (l.getD (n / M.length) 0 :: M.getD (n % M.length) []) := by
   intro l
   induction l with
   | nil => intro n h; simp at h
   | cons a r ihl =>
    intro n h
    rw [List.flatMap_cons]
    by_cases hlt : n < M.length
    ·rw [List.getElem?_append_left (by rw [List.length_map]; exact hlt), List.getElem?_map, List.getElem?_eq_getElem hlt, Nat.div_eq_of_lt hlt, Nat.mod_eq_of_lt hlt, List.getD_eq_getElem?_getD (l := M), List.getElem?_eq_getElem hlt]
     rfl
    ·rw [List.getElem?_append_right (by rw [List.length_map]; omega), List.length_map, ihl (n - M.length) (by rw [List.length_cons, Nat.add_mul, Nat.one_mul] at h; omega)]
     have e : n = (n - M.length) + M.length := by omega
     have e1 : n / M.length = (n - M.length) / M.length + 1 := by
      conv => lhs; rw [e]
      rw [Nat.add_div_right _ hMp]
     have e2 : n % M.length = (n - M.length) % M.length := by
      conv => lhs; rw [e]
      rw [Nat.add_mod_right]
     rw [e1, e2]; rfl
  have hdiv : ∀ (b d i : Nat), b ≤ d → (prods opts (d - b) (i + b)).length ∣ (prods opts d i).length := by
   intro b
   induction b with
   | zero => intro d i _; rw [Nat.sub_zero, Nat.add_zero]; exact Nat.dvd_refl _
   | succ b ihb =>
    intro d i h
    obtain ⟨d, rfl⟩ : ∃ e, d = e + 1 := ⟨d - 1, by omega⟩
    have := ihb d (i + 1) (by omega)
    rw [show i + 1 + b = i + (b + 1) from by omega, show d - b = d + 1 - (b + 1) from by omega] at this
    refine Nat.dvd_trans this ?_
    rw [prods_length]; exact Nat.dvd_mul_left _ _
  have hq : n / M.length < (opts i).length := by
   rw [hM] at hn
   exact Nat.div_lt_of_lt_mul (by rw [Nat.mul_comm]; exact hn)
  have hr : n % M.length < M.length := Nat.mod_lt _ hMp
  show ((opts i).flatMap fun v => (prods opts d (i + 1)).map (v :: ·))[n]? = _
  rw [hM] at hn
  rw [hM, hflat _ _ hn]
  have hih := ih (i + 1) (n % M.length) (by rw [hM]; exact hr)
  rw [hM] at hih
  rw [List.getD_eq_getElem?_getD (l := M), hih, List.range_succ_eq_map, List.map_cons, List.map_map]
  refine congrArg some ?_
  refine List.cons_eq_cons.2 ⟨?_, ?_⟩
  ·rw [Nat.add_zero, show d + 1 - 1 - 0 = d from by omega, hM, Nat.mod_eq_of_lt hq]
  ·show _ = _
   refine List.map_congr_left fun j hj => ?_
   have hjd := List.mem_range.1 hj
   show (opts (i + 1 + j)).getD (n % M.length / (prods opts (d - 1 - j) (i + 1 + j + 1)).length % (opts (i + 1 + j)).length) 0 = (opts (i + (j + 1))).getD (n / (prods opts (d + 1 - 1 - (j + 1)) (i + (j + 1) + 1)).length % (opts (i + (j + 1))).length) 0
   rw [show i + 1 + j = i + (j + 1) from by omega, show d + 1 - 1 - (j + 1) = d - 1 - j from by omega]
   refine congrArg (fun x => (opts (i + (j + 1))).getD x 0) ?_
   have hd2 := hdiv j d (i + 1) (by omega)
   rw [show d - j = (d - 1 - j) + 1 from by omega, show i + 1 + j = i + (j + 1) from by omega, prods_length, hM] at hd2
   obtain ⟨c, hc⟩ := hd2
   generalize (prods opts (d - 1 - j) (i + (j + 1) + 1)).length = X at hc ⊢
   generalize (opts (i + (j + 1))).length = l at hc ⊢
   have hlc : 0 < l ∧ 0 < X := by
    rw [hc] at hMp
    refine ⟨?_, ?_⟩
    ·rcases Nat.eq_zero_or_pos l with h | h
     ·rw [h] at hMp; simp at hMp
     ·exact h
    ·rcases Nat.eq_zero_or_pos X with h | h
     ·rw [h] at hMp; simp at hMp
     ·exact h
   have e : n = n % M.length + X * (l * (c * (n / M.length))) := by
    have := Nat.mod_add_div n M.length
    conv => lhs; rw [← this]
    rw [hc]
    congr 1
    simp only [Nat.mul_assoc, Nat.mul_comm, Nat.mul_left_comm]
   conv => rhs; rw [e]
   rw [Nat.add_mul_div_left _ _ hlc.2, Nat.add_mul_mod_self_left]
theorem allL_get (l0 : List S109) (l1 : List S110) (n : Nat) (hn : n < (allL l0 l1).length) : (allL l0 l1)[n]? = some (nthN (optsL l0 l1) l1.length n) := by
 unfold allL at hn ⊢
 rw [prods_get _ _ _ _ hn]
 unfold nthN compN
 simp only [Nat.zero_add]
theorem optsL_le (l0 : List S109) (l1 : List S110) (i : Nat) : (optsL l0 l1 i).length ≤ l0.length := ofL_le _ _
theorem Nth_ev {l0 : List S85} {l1 : List S71} (wg : Int) (ht : Thn l0 l1) (hpos : ∀ i, i < l1.length → 0 < (optsL (l0.map cvW) (l1.map cvP) i).length) (n : Nat) (hn : n ≤ 4611686018427387904) :
  Evt (fun k => posserref03_Nth.f k l0 l1 wg (n : Int)) (nthN (optsL (l0.map cvW) (l1.map cvP)) l1.length n) := by
 have h1 := ht.n1
 have h0 := ht.n0
 obtain ⟨opts, hopts⟩ : ∃ o, optsL (l0.map cvW) (l1.map cvP) = o := ⟨_, rfl⟩
 have hW : ∀ i, i < l1.length → Evt (fun k => posserref03_WomenOf.f k l0 l1 wg (i : Int)) (opts i) := fun i hi => by rw [← hopts]; exact WomenOf_ev wg ht i hi
 have hol : ∀ i, (opts i).length ≤ 30 := fun i => by
  rw [← hopts]
  refine Nat.le_trans (optsL_le _ _ _) ?_
  rw [List.length_map]; exact h0
 rw [hopts] at hpos ⊢
 have main : ∀ (i : Nat), i ≤ l1.length → Evt (fun k => posserref03_Nth.l0 k (((n / (prods opts (l1.length - i) i).length : Nat)) : Int) ((List.range l1.length).map fun j => if i ≤ j then compN opts l1.length n j else 0) ((i : Int) - 1) l0 l1 wg) (nthN opts l1.length n) := by
  intro i
  induction i with
  | zero =>
   intro _
   refine Evt.succ (Evt.const _) (fun k => ?_)
   simp only [posserref03_Nth.l0]
   rw [if_neg (by omega)]
   refine congrArg some (List.map_congr_left fun j _ => ?_)
   rw [if_pos (Nat.zero_le _)]
  | succ i ih =>
   intro hi
   have hlt : i < l1.length := by omega
   obtain ⟨K, hK⟩ := hW i hlt
   obtain ⟨L, hL⟩ := ih (by omega)
   refine ⟨K + L + 1, fun k hk => ?_⟩
   obtain ⟨k, rfl⟩ : ∃ m, k = m + 1 := ⟨k - 1, by omega⟩
   have g1 := hK k (by omega)
   have g2 := hL k (by omega)
   dsimp only at g1 g2 ⊢
   have hp := hpos i hlt
   have hl := hol i
   have e1 : ((i + 1 : Nat) : Int) - 1 = (i : Int) := by omega
   simp only [posserref03_Nth.l0]
   rw [e1, if_pos (by omega), g1]
   simp only [Option.bind_some]
   obtain ⟨T, hT⟩ : ∃ T, (prods opts (l1.length - (i + 1)) (i + 1)).length = T := ⟨_, rfl⟩
   have hT2 : (prods opts (l1.length - i) i).length = (opts i).length * T := by
    rw [show l1.length - i = (l1.length - (i + 1)) + 1 from by omega, prods_length, hT]
   rw [hT]
   rw [hT2] at g2
   have em : Int.tmod ((n / T : Nat) : Int) ((opts i).length : Int) = ((n / T % (opts i).length : Nat) : Int) := by
    rw [Int.tmod_eq_emod_of_nonneg (Int.natCast_nonneg _)]; rfl
   have ed : Int.tdiv ((n / T : Nat) : Int) ((opts i).length : Int) = ((n / T / (opts i).length : Nat) : Int) := by
    rw [Int.tdiv_eq_ediv_of_nonneg (Int.natCast_nonneg _)]; rfl
   have hmod := Nat.mod_lt (n / T) hp
   have hdl : n / T / (opts i).length ≤ n := Nat.le_trans (Nat.div_le_self _ _) (Nat.div_le_self _ _)
   have hwr : wrap64 ((n / T / (opts i).length : Nat) : Int) = ((n / T / (opts i).length : Nat) : Int) := by
    generalize n / T / (opts i).length = q at hdl
    exact wrap64_id _ (by omega) (by omega)
   rw [if_neg (by omega), em, ed, if_pos (Int.natCast_nonneg _), if_pos (Int.ofNat_lt.2 hmod), if_pos (Int.natCast_nonneg _), if_pos (by rw [List.length_map, List.length_range]; omega), hwr, wrap64_id ((i : Int) - 1) (by omega) (by omega), rd_nat, Int.toNat_natCast]
   rw [Nat.div_div_eq_div_mul, Nat.mul_comm T]
   rw [← g2]
   congr 1
   apply List.ext_getElem
   ·simp
   ·intro j a1 a2
    rw [List.getElem_set]
    simp only [List.getElem_map, List.getElem_range]
    by_cases e : i = j
    ·subst e
     rw [if_pos rfl, if_pos (Nat.le_refl _)]
     unfold compN
     rw [show l1.length - 1 - i = l1.length - (i + 1) from by omega, hT]
    ·rw [if_neg e]
     by_cases e2 : i ≤ j
     ·rw [if_pos (by omega), if_pos e2]
     ·rw [if_neg (by omega), if_neg e2]
 have hm := main l1.length (Nat.le_refl _)
 have hr : ((List.range l1.length).map fun j => if l1.length ≤ j then compN opts l1.length n j else 0) = List.replicate l1.length 0 := by
  apply List.ext_getElem
  ·simp
  ·intro j a1 a2
   have hj : j < l1.length := by simpa using a1
   simp only [List.getElem_map, List.getElem_range, List.getElem_replicate]
   rw [if_neg (by omega)]
 have hone : (prods opts (l1.length - l1.length) l1.length).length = 1 := by rw [Nat.sub_self]; rfl
 rw [hr, hone, Nat.div_one] at hm
 refine hm.congr (fun k => ?_)
 show posserref03_Nth.f k l0 l1 wg (n : Int) = _
 unfold posserref03_Nth.f
 rw [if_pos (by omega), if_pos (by omega), Int.toNat_natCast, wrap64_id _ (by omega) (by omega)]
end Go.Proofs.Ytnbbbeghgomnoaa.X
namespace Go.Proofs.Ytnbbbeghgomnoaa.X
open Go.RowKit Go.Proofs.YtnbbbeghgomnoaaW.PrintWords Go.Proofs.YtnbbbeghgomnoaaW.PrintLast Go.Proofs.YtnbbbeghgomnoaaW.PrintMore
theorem ownB_at {l0 : List S109} {l1 : List S110} {l : List Int} (i : Nat) : ownB l0 l1 l (i + 1) = (ownB l0 l1 l i && (optsL l0 l1 i).contains (l.getD i 0)) := ownB_succ l0 l1 l i
theorem AreOwners_ev {l0 : List S85} {l1 : List S71} (wg : Int) (ht : Thn l0 l1) (l : List Int) : Evt (fun k => posserref03_AreOwners.f k l0 l1 wg l) (areB (l0.map cvW) (l1.map cvP) l) := by
 have h1 := ht.n1
 have h0 := ht.n0
 unfold areB
 rw [List.length_map]
 by_cases hl : l.length = l1.length
 ·rw [decide_eq_true hl, Bool.true_and]
  have main : ∀ (d i : Nat), i + d = l.length → ownB (l0.map cvW) (l1.map cvP) l i = true → Evt (fun k => posserref03_AreOwners.l0 k l (i : Int) l0 l1 wg) (ownB (l0.map cvW) (l1.map cvP) l l.length) := by
   intro d
   induction d with
   | zero =>
    intro i hi hok
    obtain rfl : i = l.length := by omega
    rw [hok]
    refine Evt.succ (Evt.const _) (fun k => ?_)
    simp only [posserref03_AreOwners.l0]
    rw [if_neg (by omega)]
   | succ d ih =>
    intro i hi hok
    have hlt : i < l.length := by omega
    have hol : (optsL (l0.map cvW) (l1.map cvP) i).length ≤ 30 := by
     refine Nat.le_trans (optsL_le _ _ _) ?_
     rw [List.length_map]; exact h0
    obtain ⟨K, hK⟩ := WomenOf_ev wg ht i (by omega)
    obtain ⟨M, hM⟩ := Has_ev (optsL (l0.map cvW) (l1.map cvP) i) (l.getD i 0) (by omega)
    cases hc : (optsL (l0.map cvW) (l1.map cvP) i).contains (l.getD i 0) with
    | true =>
     obtain ⟨L, hL⟩ := ih (i + 1) (by omega) (by rw [ownB_at, hok, hc]; rfl)
     refine ⟨K + M + L + 1, fun k hk => ?_⟩
     obtain ⟨k, rfl⟩ : ∃ m, k = m + 1 := ⟨k - 1, by omega⟩
     have g1 := hK k (by omega)
     have g2 := hM k (by omega)
     have g3 := hL k (by omega)
     dsimp only at g1 g2 g3 ⊢
     simp only [posserref03_AreOwners.l0]
     rw [if_pos (by omega), g1]
     simp only [Option.bind_some]
     rw [if_pos (by omega), rd_nat, g2, hc]
     simp only [Option.bind_some, if_true]
     rw [wrap_succ i _ hlt (by omega)]
     exact g3
    | false =>
     have hf : ownB (l0.map cvW) (l1.map cvP) l l.length = false := ownB_false _ _ l i l.length hlt hc
     rw [hf]
     refine ⟨K + M + 1, fun k hk => ?_⟩
     obtain ⟨k, rfl⟩ : ∃ m, k = m + 1 := ⟨k - 1, by omega⟩
     have g1 := hK k (by omega)
     have g2 := hM k (by omega)
     dsimp only at g1 g2 ⊢
     simp only [posserref03_AreOwners.l0]
     rw [if_pos (by omega), g1]
     simp only [Option.bind_some]
     rw [if_pos (by omega), rd_nat, g2, hc]
     rfl
  refine (main l.length 0 (by omega) rfl).congr (fun k => ?_)
  show posserref03_AreOwners.f k l0 l1 wg l = _
  unfold posserref03_AreOwners.f
  rw [if_pos (by omega)]; rfl
 ·rw [decide_eq_false hl, Bool.false_and]
  refine (Evt.const false).congr (fun k => ?_)
  show posserref03_AreOwners.f k l0 l1 wg l = _
  unfold posserref03_AreOwners.f
  rw [if_neg (by omega)]
theorem Own_ev (l : List Int) (w : Int) (hl : l.length ≤ 4611686018427387904) : Evt (fun k => posserref03_Own.f k l w) ((cnt (pad l) l.length w : Nat) : Int) := by
 have main : ∀ (d i : Nat), i + d = l.length → Evt (fun k => posserref03_Own.l0 k l w ((cnt (pad l) i w : Nat) : Int) (i : Int)) ((cnt (pad l) l.length w : Nat) : Int) := by
  intro d
  induction d with
  | zero =>
   intro i hi
   obtain rfl : i = l.length := by omega
   refine Evt.succ (Evt.const _) (fun k => ?_)
   simp only [posserref03_Own.l0]
   rw [if_neg (by omega)]
  | succ d ih =>
   intro i hi
   have hlt : i < l.length := by omega
   have hc := cnt_le (pad l) i w
   refine Evt.succ (ih (i + 1) (by omega)) (fun k => ?_)
   rw [cnt_succ]
   simp only [posserref03_Own.l0]
   rw [if_pos (by omega), if_pos (by omega), rd_nat, wrap_succ i _ hlt hl]
   by_cases he : l.getD i 0 = w
   ·rw [if_pos he, if_pos (show pad l i = w from he), wrap_succ (cnt (pad l) i w) (i + 1) (by omega) (by omega)]
   ·rw [if_neg he, if_neg (show ¬ pad l i = w from he)]; rfl
 exact main l.length 0 (by omega)
def bitsN (p : Nat → Bool) : Nat → Nat
 | 0 => 0
 | n + 1 => if p n then bitsN p n ||| 2 ^ n else bitsN p n
theorem bitsN_lt (p : Nat → Bool) (n : Nat) : bitsN p n < 2 ^ n := by
 induction n with
 | zero => exact Nat.one_pos
 | succ n ih =>
  have h1 : bitsN p n < 2 ^ (n + 1) := Nat.lt_of_lt_of_le ih (Nat.pow_le_pow_right (by omega) (by omega))
  simp only [bitsN]
  split
  ·exact Nat.or_lt_two_pow h1 (Nat.pow_lt_pow_right (by omega) (by omega))
  ·exact h1
theorem bitsN_bit (p : Nat → Bool) (n j : Nat) : (bitsN p n).testBit j = (decide (j < n) && p j) := by
 induction n with
 | zero => simp [bitsN]
 | succ n ih =>
  simp only [bitsN]
  by_cases hp : p n = true
  ·rw [if_pos hp, Nat.testBit_or, ih, Nat.testBit_two_pow]
   by_cases e : n = j
   ·subst e; simp [hp]
   ·have : decide (j < n + 1) = decide (j < n) := by
     by_cases h : j < n
     ·rw [decide_eq_true h, decide_eq_true (by omega)]
     ·rw [decide_eq_false h, decide_eq_false (by omega)]
    rw [this]; simp [e]
  ·rw [if_neg hp, ih]
   by_cases e : n = j
   ·subst e; simp [hp]
   ·have : decide (j < n + 1) = decide (j < n) := by
     by_cases h : j < n
     ·rw [decide_eq_true h, decide_eq_true (by omega)]
     ·rw [decide_eq_false h, decide_eq_false (by omega)]
    rw [this]
theorem or_small : ∀ j, j < 5 → ∀ x, x < 32 → Go.bits .or .i64 ((x : Nat) : Int) (shl .i64 1 (IntKind.u64.wrap ((j : Nat) : Int))) = ((x ||| 2 ^ j : Nat) : Int) := by decide +kernel
theorem u64_small : ∀ j, j < 8 → IntKind.u64.wrap ((j : Nat) : Int) = ((j : Nat) : Int) := by decide +kernel
theorem full_small : ∀ n, n < 6 → (if 0 ≤ (IntKind.u64.wrap ((n : Nat) : Int)) then (some (wrap64 ((shl .i64 1 (IntKind.u64.wrap ((n : Nat) : Int))) - 1))) else (none)) = some (((2 ^ n - 1 : Nat)) : Int) := by decide +kernel
theorem andNot_small : ∀ a, a < 32 → ∀ b, b < 32 → Go.bits .andNot .i64 ((a : Nat) : Int) ((b : Nat) : Int) = ((a ^^^ (a &&& b) : Nat) : Int) := by decide +kernel
theorem Bits_small : ∀ m, m < 64 → posserref03_Bits.f 8 ((m : Nat) : Int) = some (sel (fun j => m.testBit j) 6) := by decide +kernel
theorem Bits_ev (m : Nat) (h : m < 64) : Evt (fun k => posserref03_Bits.f k (m : Int)) (sel (fun j => m.testBit j) 6) := Evt.mono_of (posserref03_Bits.mono _) (Bits_small m h)
theorem sel_cut {p q : Nat → Bool} {n m : Nat} (h : ∀ j, j < n → p j = q j) (h2 : ∀ j, n ≤ j → p j = false) (hm : n ≤ m) : sel p m = sel q n := by
 obtain ⟨d, rfl⟩ : ∃ d, m = n + d := ⟨m - n, by omega⟩
 clear hm
 induction d with
 | zero =>
  unfold sel
  rw [Nat.add_zero]
  refine congrArg (List.map _) (List.filter_congr fun j hj => h j (List.mem_range.1 hj))
 | succ d ih => rw [← ih, ← Nat.add_assoc]; exact sel_no _ _ (h2 _ (by omega))
theorem Full_f (l0 : List S85) (l1 : List S71) (wg : Int) (h : l0.length ≤ 5) : posserref03_Full.f l0 l1 wg = some ((2 ^ l0.length - 1 : Nat) : Int) := by
 unfold posserref03_Full.f
 exact full_small l0.length (by omega)
theorem pow_small (n : Nat) (h : n ≤ 5) : 2 ^ n ≤ 32 := by
 have := Nat.pow_le_pow_right (n := 2) (by omega) h
 omega
def rightP (l0 : List S109) (n1 : Nat) (x : List Int) (j : Nat) : Bool := !bad l0 n1 (pad x) j
theorem Right_ev {l0 : List S85} {l1 : List S71} (wg : Int) (h0 : l0.length ≤ 5) (x : List Int) (hx : x.length = l1.length) (hx2 : x.length ≤ 4611686018427387904) :
  Evt (fun k => posserref03_Right.f k l0 l1 wg x) ((bitsN (rightP (l0.map cvW) l1.length x) l0.length : Nat) : Int) := by
 have main : ∀ (d j : Nat), j + d = l0.length → Evt (fun k => posserref03_Right.l0 k x ((bitsN (rightP (l0.map cvW) l1.length x) j : Nat) : Int) (j : Int) l0 l1 wg) ((bitsN (rightP (l0.map cvW) l1.length x) l0.length : Nat) : Int) := by
  intro d
  induction d with
  | zero =>
   intro j hj
   obtain rfl : j = l0.length := by omega
   refine Evt.succ (Evt.const _) (fun k => ?_)
   simp only [posserref03_Right.l0]
   rw [if_neg (by omega)]
  | succ d ih =>
   intro j hj
   have hlt : j < l0.length := by omega
   obtain ⟨K, hK⟩ := Own_ev x (j : Int) hx2
   obtain ⟨L, hL⟩ := ih (j + 1) (by omega)
   refine ⟨K + L + 1, fun k hk => ?_⟩
   obtain ⟨k, rfl⟩ : ∃ m, k = m + 1 := ⟨k - 1, by omega⟩
   have g1 := hK k (by omega)
   have g2 := hL k (by omega)
   dsimp only at g1 g2 ⊢
   simp only [posserref03_Right.l0]
   rw [if_pos (by omega), g1]
   simp only [Option.bind_some]
   rw [if_pos (by omega), rd_T85_nat, In_f]
   simp only [Option.bind_some]
   have hp : rightP (l0.map cvW) l1.length x j = okIn ((cnt (pad x) x.length (j : Int) : Nat) : Int) (l0.getD j z85).f1.f0 (l0.getD j z85).f1.f1 := by
    unfold rightP bad
    rw [Bool.not_not, cvW_getD, hx]; rfl
   have hb := bitsN_lt (rightP (l0.map cvW) l1.length x) j
   have hb2 := pow_small j (by omega)
   cases hc : okIn ((cnt (pad x) x.length (j : Int) : Nat) : Int) (l0.getD j z85).f1.f0 (l0.getD j z85).f1.f1 with
   | true =>
    rw [if_pos rfl, if_pos (by rw [u64_small j (by omega)]; omega), or_small j (by omega) _ (by omega), wrap_succ j _ hlt (by omega)]
    simp only [bitsN] at g2
    rw [hp, hc, if_pos rfl] at g2
    exact g2
   | false =>
    rw [if_neg (by decide), wrap_succ j _ hlt (by omega)]
    simp only [bitsN] at g2
    rw [hp, hc, if_neg (by decide)] at g2
    exact g2
 exact main l0.length 0 (by omega)
theorem wrong_bits (l0 : List S109) (n1 n0 : Nat) (x : List Int) (h : n0 ≤ 5) : sel (fun j => ((2 ^ n0 - 1) ^^^ ((2 ^ n0 - 1) &&& bitsN (rightP l0 n1 x) n0)).testBit j) 6 = sel (bad l0 n1 (pad x)) n0 := by
 have hb : ∀ j, ((2 ^ n0 - 1) ^^^ ((2 ^ n0 - 1) &&& bitsN (rightP l0 n1 x) n0)).testBit j = (decide (j < n0) && bad l0 n1 (pad x) j) := fun j => by
  rw [Nat.testBit_xor, Nat.testBit_and, Nat.testBit_two_pow_sub_one, bitsN_bit]
  unfold rightP
  cases decide (j < n0) <;> cases bad l0 n1 (pad x) j <;> rfl
 refine sel_cut (fun j hj => ?_) (fun j hj => ?_) (by omega)
 ·rw [hb, decide_eq_true hj, Bool.true_and]
 ·rw [hb, decide_eq_false (by omega), Bool.false_and]
theorem IsTruth_ev {l0 : List S85} {l1 : List S71} (wg : Int) (ht : Thn l0 l1) (h0 : l0.length ≤ 5) (x : List Int) : Evt (fun k => posserref03_IsTruth.f k l0 l1 wg x) (areB (l0.map cvW) (l1.map cvP) x && isT (l0.map cvW) l1.length wg x) := by
 have h1 := ht.n1
 obtain ⟨K, hK⟩ := AreOwners_ev wg ht x
 cases ha : areB (l0.map cvW) (l1.map cvP) x with
 | false =>
  refine ⟨K, fun k hk => ?_⟩
  have g1 := hK k hk
  dsimp only at g1 ⊢
  unfold posserref03_IsTruth.f
  rw [g1, ha]; rfl
 | true =>
  have hx : x.length = l1.length := by
   unfold areB at ha
   rw [Bool.and_eq_true, decide_eq_true_eq, List.length_map] at ha
   exact ha.1
  obtain ⟨L, hL⟩ := Right_ev wg h0 x hx (by omega)
  have hb := bitsN_lt (rightP (l0.map cvW) l1.length x) l0.length
  have hp := pow_small l0.length h0
  have hlt : ((2 ^ l0.length - 1) ^^^ ((2 ^ l0.length - 1) &&& bitsN (rightP (l0.map cvW) l1.length x) l0.length)) < 64 := by
   have h2 : 2 ^ l0.length - 1 < 2 ^ 6 := by omega
   exact Nat.xor_lt_two_pow h2 (Nat.and_lt_two_pow _ (by omega))
  obtain ⟨M, hM⟩ := Bits_ev _ hlt
  refine ⟨K + L + M, fun k hk => ?_⟩
  have g1 := hK k (by omega)
  have g2 := hL k (by omega)
  have g3 := hM k (by omega)
  dsimp only at g1 g2 g3 ⊢
  unfold posserref03_IsTruth.f
  rw [g1, ha]
  simp only [Option.bind_some, if_true]
  rw [Full_f l0 l1 wg h0]
  simp only [Option.bind_some]
  rw [g2]
  simp only [Option.bind_some]
  rw [andNot_small _ (by omega) _ (by omega), g3]
  simp only [Option.bind_some, Bool.true_and]
  rw [wrong_bits _ _ _ _ h0]
  unfold isT
  rw [List.length_map]
structure VR (l0 : List S85) (l1 : List S71) (wg : Int) : Prop where
 thn : Thn l0 l1
 val : Val (l0.map cvW) (l1.map cvP) wg
 n0 : l0.length ≤ 5
 n1 : l1.length ≤ 7
 pos : ∀ i, i < l1.length → 0 < (optsL (l0.map cvW) (l1.map cvP) i).length
 mny : (allL (l0.map cvW) (l1.map cvP)).length ≤ 2000
theorem VR.of {l0 : List S85} {l1 : List S71} {wg : Int} (ht : Thn l0 l1) (h : checkT (l0.map cvW) (l1.map cvP) wg = 0) : VR l0 l1 wg := by
 have hv := checkT_zero h
 have h0 := hv.n0
 have h1 := hv.n1
 have hm := hv.mn
 rw [List.length_map] at h0 h1
 rw [manyT_eq] at hm
 refine ⟨ht, hv, h0, h1, fun i hi => ?_, by omega⟩
 have hp := List.all_eq_true.1 hv.ps (cvP (l1.getD i z71)) (List.mem_map.2 ⟨_, getD_mem l1 i z71 hi, rfl⟩)
 unfold okP at hp
 rw [Bool.and_eq_true, decide_eq_true_eq] at hp
 rw [ofL_cv]; exact hp.2
theorem Many_val {l0 : List S85} {l1 : List S71} {wg : Int} (h : VR l0 l1 wg) : Evt (fun k => posserref03_Many.f k l0 l1 wg) ((allL (l0.map cvW) (l1.map cvP)).length : Int) := by
 have h1 := Many_ev wg h.thn
 rw [Nat.min_eq_right (by have := h.mny; omega)] at h1
 exact h1
theorem Nth_val {l0 : List S85} {l1 : List S71} {wg : Int} (h : VR l0 l1 wg) (n : Nat) (hn : n < (allL (l0.map cvW) (l1.map cvP)).length) : Evt (fun k => posserref03_Nth.f k l0 l1 wg (n : Int)) ((allL (l0.map cvW) (l1.map cvP))[n]) := by
 have h1 := Nth_ev wg h.thn h.pos n (by have := h.mny; omega)
 have h2 := allL_get _ _ n hn
 rw [List.getElem?_eq_getElem hn, List.length_map] at h2
 rw [Option.some.inj h2]; exact h1
theorem Truths_ev {l0 : List S85} {l1 : List S71} {wg : Int} (h : VR l0 l1 wg) : Evt (fun k => posserref03_Truths.f k l0 l1 wg) (truthsL (l0.map cvW) (l1.map cvP) wg) := by
 have hmny := h.mny
 obtain ⟨AL, hAL⟩ : ∃ AL, allL (l0.map cvW) (l1.map cvP) = AL := ⟨_, rfl⟩
 have hN : ∀ n, (hn : n < AL.length) → Evt (fun k => posserref03_Nth.f k l0 l1 wg (n : Int)) AL[n] := by subst hAL; exact fun n hn => Nth_val h n hn
 have hM := Many_val h
 have hT : ∀ n, (hn : n < AL.length) → Evt (fun k => posserref03_IsTruth.f k l0 l1 wg AL[n]) (isT (l0.map cvW) l1.length wg AL[n]) := fun n hn => by
  have h1 := IsTruth_ev wg h.thn h.n0 AL[n]
  rw [areB_mem.2 (by rw [hAL]; exact List.getElem_mem hn), Bool.true_and] at h1
  exact h1
 unfold truthsL
 rw [hAL, List.length_map]
 rw [hAL] at hmny hM
 have main : ∀ (d n : Nat), n + d = AL.length → Evt (fun k => posserref03_Truths.l0 k ((AL.take n).filter (isT (l0.map cvW) l1.length wg)) (n : Int) l0 l1 wg) (AL.filter (isT (l0.map cvW) l1.length wg)) := by
  intro d
  induction d with
  | zero =>
   intro n hn
   obtain rfl : n = AL.length := by omega
   rw [List.take_length]
   obtain ⟨K, hK⟩ := hM
   refine ⟨K + 1, fun k hk => ?_⟩
   obtain ⟨k, rfl⟩ : ∃ m, k = m + 1 := ⟨k - 1, by omega⟩
   have g1 := hK k (by omega)
   dsimp only at g1 ⊢
   simp only [posserref03_Truths.l0]
   rw [g1]
   simp only [Option.bind_some]
   rw [if_neg (by omega)]
  | succ d ih =>
   intro n hn
   have hlt : n < AL.length := by omega
   obtain ⟨K, hK⟩ := hM
   obtain ⟨L, hL⟩ := hN n hlt
   obtain ⟨M, hM2⟩ := hT n hlt
   obtain ⟨J, hJ⟩ := ih (n + 1) (by omega)
   refine ⟨K + L + M + J + 1, fun k hk => ?_⟩
   obtain ⟨k, rfl⟩ : ∃ m, k = m + 1 := ⟨k - 1, by omega⟩
   have g1 := hK k (by omega)
   have g2 := hL k (by omega)
   have g3 := hM2 k (by omega)
   have g4 := hJ k (by omega)
   dsimp only at g1 g2 g3 g4 ⊢
   have hfl : ((AL.take n).filter (isT (l0.map cvW) l1.length wg)).length ≤ n := Nat.le_trans (List.length_filter_le _ _) (List.length_take_le _ _)
   simp only [posserref03_Truths.l0]
   rw [g1]
   simp only [Option.bind_some]
   rw [if_pos (by omega), g2]
   simp only [Option.bind_some]
   rw [g3]
   simp only [Option.bind_some]
   rw [List.take_succ_eq_append_getElem hlt, List.filter_append] at g4
   rw [wrap_succ n _ hlt (by omega)]
   cases hc : isT (l0.map cvW) l1.length wg AL[n] with
   | true =>
    rw [List.filter_cons_of_pos hc, List.filter_nil] at g4
    rw [if_pos rfl, if_pos (by omega)]; exact g4
   | false =>
    rw [List.filter_cons_of_neg (by rw [hc]; decide), List.filter_nil, List.append_nil] at g4
    rw [if_neg (by decide)]; exact g4
 exact main AL.length 0 (by omega)
theorem sure_ev {l0 : List S85} {l1 : List S71} (wg : Int) (ht : Thn l0 l1) :
  Evt (fun k => posserlaw03_sure.f k l0 l1 wg) (if askE (l0.map cvW) (l1.map cvP) wg = 0 then (truthsL (l0.map cvW) (l1.map cvP) wg, 0) else ([], askE (l0.map cvW) (l1.map cvP) wg)) := by
 obtain ⟨K, hK⟩ := fault_ev wg ht
 by_cases hc : checkT (l0.map cvW) (l1.map cvP) wg = 0
 ·obtain ⟨L, hL⟩ := Truths_ev (VR.of ht hc)
  refine ⟨K + L, fun k hk => ?_⟩
  have g1 := hK k (by omega)
  have g2 := hL k (by omega)
  dsimp only at g1 g2 ⊢
  unfold posserlaw03_sure.f
  rw [g1]
  simp only [Option.bind_some]
  rw [if_pos hc, g2]
  simp only [Option.bind_some]
  have ha : askE (l0.map cvW) (l1.map cvP) wg = if truthsL (l0.map cvW) (l1.map cvP) wg = [] then 11 else 0 := by
   unfold askE
   rw [if_neg (fun h => h hc)]
  rw [ha]
  by_cases hn : truthsL (l0.map cvW) (l1.map cvP) wg = []
  ·rw [if_pos hn, hn]; rfl
  ·have hne : (truthsL (l0.map cvW) (l1.map cvP) wg).length ≠ 0 := fun e => hn (List.eq_nil_of_length_eq_zero e)
   rw [if_neg hn, if_neg (by omega)]; rfl
 ·refine ⟨K, fun k hk => ?_⟩
  have g1 := hK k (by omega)
  dsimp only at g1 ⊢
  unfold posserlaw03_sure.f
  rw [g1]
  simp only [Option.bind_some]
  have ha : askE (l0.map cvW) (l1.map cvP) wg = checkT (l0.map cvW) (l1.map cvP) wg := by
   unfold askE
   rw [if_pos hc]
  rw [ha, if_neg hc, if_neg hc]
end Go.Proofs.Ytnbbbeghgomnoaa.X
