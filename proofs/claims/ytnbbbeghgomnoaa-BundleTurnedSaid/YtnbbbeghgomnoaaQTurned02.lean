/-
  For every table and two women that the statement lets in: if two women exchange their numbers, in the bundles, too, whose each piece can be is the same but for these numbers, and as many pieces are astray.
-/
import Derived.Test.YtnbbbeghgomnoaaQTurned01
set_option linter.unusedVariables false
set_option linter.unusedSimpArgs false
namespace Go.Proofs.Ytnbbbeghgomnoaa.X
open Go.RowKit Go.Proofs.YtnbbbeghgomnoaaW.PrintWords Go.Proofs.YtnbbbeghgomnoaaW.PrintLast Go.Proofs.YtnbbbeghgomnoaaW.PrintMore
theorem getD_setT {α : Type} (l : List α) (p i : Nat) (v z : α) (hp : p < l.length) : (l.set p v).getD i z = if i = p then v else l.getD i z := by
  rw [List.getD_eq_getElem?_getD, List.getD_eq_getElem?_getD, List.getElem?_set]
  by_cases h : p = i
  · subst h
    rw [if_pos rfl, if_pos hp, if_pos rfl]; rfl
  · rw [if_neg h, if_neg (fun e => h e.symm)]
def turnY (p q : Int) (l1 : List S71) : Nat → List S71
  | 0 => l1
  | m + 1 => (turnY p q l1 m).set m ⟨((turnY p q l1 m).getD m z71).f0, swI p q (rd_T71 l1 (m : Int)).f1⟩
theorem turnY_len (p q : Int) (l1 : List S71) (m : Nat) : (turnY p q l1 m).length = l1.length := by
  induction m with
  | zero => rfl
  | succ m ih => rw [turnY, List.length_set, ih]
theorem turnY_get (p q : Int) (l1 : List S71) (m : Nat) (hm : m ≤ l1.length) (i : Nat) : (turnY p q l1 m).getD i z71 = if i < m then ⟨(l1.getD i z71).f0, swI p q (l1.getD i z71).f1⟩ else l1.getD i z71 := by
  induction m with
  | zero => rw [if_neg (by omega)]; rfl
  | succ m ih =>
    rw [turnY, getD_setT _ _ _ _ _ (by rw [turnY_len]; omega)]
    have ih1 := ih (by omega)
    by_cases h : i = m
    · subst h
      rw [if_pos rfl, if_pos (by omega), ih1, if_neg (by omega)]
      unfold rd_T71
      rw [Int.toNat_natCast]
    · rw [if_neg h, ih1]
      by_cases h2 : i < m
      · rw [if_pos h2, if_pos (by omega)]
      · rw [if_neg h2, if_neg (by omega)]
theorem turnY_ms (p q : Int) (l1 : List S71) (h : ∀ z ∈ l1, z.f0.length ≤ 30) : ∀ z ∈ turnY p q l1 l1.length, z.f0.length ≤ 30 := by
  intro z hz
  obtain ⟨i, hi, rfl⟩ := List.mem_iff_getElem.1 hz
  rw [turnY_len] at hi
  have e : (turnY p q l1 l1.length)[i]'(by rw [turnY_len]; exact hi) = (turnY p q l1 l1.length).getD i z71 := by rw [List.getD_eq_getElem?_getD, List.getElem?_eq_getElem (by rw [turnY_len]; exact hi)]; rfl
  rw [e, turnY_get _ _ _ _ (Nat.le_refl _), if_pos hi]
  exact h (l1.getD i z71) (getD_mem l1 i z71 hi)
theorem turned_turn {l0 : List S85} {l1 : List S71} {p q : Nat} (hp : p < l0.length) (hq : q < l0.length) : Turn p q (l0.map cvW) (l1.map cvP) (((l0.set p (rd_T85 l0 (q : Int))).set q (rd_T85 l0 (p : Int))).map cvW) ((turnY p q l1 l1.length).map cvP) := by
  refine ⟨by rw [List.length_map]; exact hp, by rw [List.length_map]; exact hq, by simp, by rw [List.length_map, List.length_map, turnY_len], fun j hj => ?_, fun i hi => ?_, fun i hi => ?_⟩
  · rw [cvW_getD, cvW_getD, getD_setT _ _ _ _ _ (by rw [List.length_set]; exact hq), getD_setT _ _ _ _ _ hp]
    unfold rd_T85
    rw [Int.toNat_natCast, Int.toNat_natCast]
    unfold sw
    by_cases h1 : j = p
    · rw [if_pos h1, if_pos h1]
      by_cases h2 : j = q
      · rw [if_pos h2]
        rw [show p = q from by omega]
      · rw [if_neg h2]
    · rw [if_neg h1, if_neg h1]
      by_cases h2 : j = q
      · rw [if_pos h2, if_pos h2]
      · rw [if_neg h2, if_neg h2]
  · rw [List.length_map] at hi
    rw [cvP_getD, cvP_getD, turnY_get _ _ _ _ (Nat.le_refl _), if_pos hi]; rfl
  · rw [List.length_map] at hi
    rw [cvP_getD, cvP_getD, turnY_get _ _ _ _ (Nat.le_refl _), if_pos hi]; rfl
theorem swap_f (v p q : Int) : posserlaw03_swap.f v p q = some (swI p q v) := by
  unfold posserlaw03_swap.f swI
  by_cases h : v = p
  · rw [if_pos h, if_pos h]
  · rw [if_neg h, if_neg h]
    by_cases h : v = q
    · rw [if_pos h, if_pos h]
    · rw [if_neg h, if_neg h]
theorem upto {P : Nat → Nat → Prop} (n : Nat) (h : ∀ m, m < n → ∃ K, ∀ k, K ≤ k → P m k) : ∃ K, ∀ k, K ≤ k → ∀ m, m < n → P m k := by
  induction n with
  | zero => exact ⟨0, fun k _ m hm => absurd hm (by omega)⟩
  | succ n ih =>
    obtain ⟨K, hK⟩ := ih fun m hm => h m (by omega)
    obtain ⟨K2, hK2⟩ := h n (by omega)
    refine ⟨K + K2, fun k hk m hm => ?_⟩
    by_cases e : m = n
    · rw [e]; exact hK2 k (by omega)
    · exact hK k (by omega) m (by omega)
theorem rows_ev (ws us : List (List Int)) (f : Int → Int) (n : Nat) (hu : ∀ m, m < n → (us.getD m []).length ≤ 1000000) (h : ∀ m, m < n → ∀ v ∈ ws.getD m [], f v ∈ us.getD m []) : ∃ K, ∀ k, K ≤ k → ∀ m, m < n → ∀ j, j < (ws.getD m []).length → posserref03_Has.f k (us.getD m []) (f (rd (ws.getD m []) (j : Int))) = some true := by
  refine upto (P := fun m k => ∀ j, j < (ws.getD m []).length → posserref03_Has.f k (us.getD m []) (f (rd (ws.getD m []) (j : Int))) = some true) n fun m hm => ?_
  refine upto (P := fun j k => posserref03_Has.f k (us.getD m []) (f (rd (ws.getD m []) (j : Int))) = some true) _ fun j hj => ?_
  have hv : rd (ws.getD m []) (j : Int) ∈ ws.getD m [] := by
    rw [rd_nat]
    exact getD_mem _ _ _ hj
  have h1 := Has_ev (us.getD m []) (f (rd (ws.getD m []) (j : Int))) (by have := hu m hm; omega)
  rw [List.contains_iff_mem.2 (h m hm _ hv)] at h1
  exact h1
theorem BundleTurned_walk (A0 : Option Addr) (c0 : Nat) (l0 : List S85) (A1 : Option Addr) (c1 : Nat) (l1 : List S71) (wg a1 a2 : Int) (W : World) (C0 : Kd.C k85 W A0 l0.length l0) (g0 : l0.length ≤ c0) (C1 : Kd.C k71 W A1 l1.length l1) (g1 : l1.length ≤ c1) (w1 : (Lit.int .u8 a1).wf = true) (w2 : (Lit.int .u8 a2).wf = true) :
    Calls Try.prog 15 #[.agg #[.slice A0 l0.length c0, .slice A1 l1.length c1, .int .i64 wg], .int .u8 a1, .int .u8 a2] W fun e w' => e = .returned (.bool true) ∧ Below W.heap.size W w' := by
  obtain ⟨b0, b1⟩ := u8_rng w1
  obtain ⟨d0, d1⟩ := u8_rng w2
  rcases rdy_cases l0 l1 wg with ⟨K, hK⟩ | ⟨hv, hc, K, hK⟩
  · exact Turned_no K wg a1 a2 C0 g0 C1 g1 (hK K (Nat.le_refl _))
  · by_cases hn : l0.length = 0
    · exact Turned_nil K wg a1 a2 C0 g0 C1 g1 (hK K (Nat.le_refl _)) hn
    · have hpl : a1.toNat % l0.length < l0.length := Nat.mod_lt _ (by omega)
      have ep := tmod_nat a1 l0.length b0 (by omega) (by omega)
      rw [Int.toNat_natCast] at ep
      generalize a1.toNat % l0.length = p at hpl ep
      have hql : a2.toNat % l0.length < l0.length := Nat.mod_lt _ (by omega)
      have eq := tmod_nat a2 l0.length d0 (by omega) (by omega)
      rw [Int.toNat_natCast] at eq
      generalize a2.toNat % l0.length = q at hql eq
      have hT := turned_turn (l1 := l1) hpl hql
      obtain ⟨xs, hxs⟩ : ∃ xs, (l0.set p (rd_T85 l0 (q : Int))).set q (rd_T85 l0 (p : Int)) = xs := ⟨_, rfl⟩
      rw [hxs] at hT
      have hxn : xs.length = l0.length := by rw [← hxs]; simp
      have hval := checkT_zero hc
      have hval' := hT.val hval
      have hc' := checkT_of hval'
      have hn0 := hv.n0
      have hn1 := hv.n1
      have h5 : (l0.map cvW).length ≤ 5 := by rw [List.length_map]; exact hn0
      have hlv1 := hT.leave h5 hval.ps hval'.ps
      have hlv2 := hT.symm.leave (by rw [hT.len0]; exact h5) hval'.ps hval.ps
      have hlm := Nat.le_antisymm hlv2 hlv1
      have e1 : (l1.map cvP).length = l1.length := List.length_map ..
      have hwl : (whoseL (l0.map cvW).length (l1.map cvP).length (truthsL (l0.map cvW) (l1.map cvP) wg)).length = l1.length := by rw [whoseL_len, e1]
      have hul : (whoseL (xs.map cvW).length ((turnY p q l1 l1.length).map cvP).length (truthsL (xs.map cvW) ((turnY p q l1 l1.length).map cvP) wg)).length = (whoseL (l0.map cvW).length (l1.map cvP).length (truthsL (l0.map cvW) (l1.map cvP) wg)).length := by rw [whoseL_len, whoseL_len, hT.len1]
      have hr : ∀ m, m < l1.length → ((whoseL (l0.map cvW).length (l1.map cvP).length (truthsL (l0.map cvW) (l1.map cvP) wg)).getD m []).length ≤ 1000000 := fun m hm => by
        have h1 := sel_le (whoP (l1.map cvP).length (truthsL (l0.map cvW) (l1.map cvP) wg) m) (l0.map cvW).length
        rw [whoseL_get _ _ _ _ (by omega)]
        omega
      have hrn : ∀ m, m < l1.length → _ := fun m hm => hT.rowN (wg := wg) m (by omega)
      obtain ⟨S, hS⟩ := rows_ev (whoseL (l0.map cvW).length (l1.map cvP).length (truthsL (l0.map cvW) (l1.map cvP) wg)) (whoseL (xs.map cvW).length ((turnY p q l1 l1.length).map cvP).length (truthsL (xs.map cvW) ((turnY p q l1 l1.length).map cvP) wg)) (swI p q) l1.length (fun m hm => by rw [hrn m hm]; exact hr m hm) (fun m hm v hv => hT.rowM m (by omega) hv)
      have hrow := fun (m : Nat) (hm : m < (whoseL (l0.map cvW).length (l1.map cvP).length (truthsL (l0.map cvW) (l1.map cvP) wg)).length) => And.intro (hr m (by omega)) (And.intro (hrn m (by omega)) (hS (K + S) (by omega) m (by omega)))
      rcases ask_cases hc with ⟨he, hts⟩ | ⟨he, hts⟩
      · have hts' := hT.ask hts
        have he' : askE (xs.map cvW) ((turnY p q l1 l1.length).map cvP) wg = 11 := by
          unfold askE
          rw [if_neg (fun h => h hc'), if_pos hts']
        exact Turned_ok (K + S) (lo := 0) (hi := 0) wg a1 a2 C0 g0 C1 g1 hv.thn rfl rfl (hK _ (by omega)) hn ep hpl eq hql rfl rfl hxs hxn (swap_f · _ _) rfl rfl (turnY_len _ _ _ _) (turnY_ms _ _ _ hv.thn.ms) (fun m _ => ⟨turnY_len _ _ _ _, rfl⟩) rfl rfl hc hc' rfl rfl hlm hwl hul (.inl ⟨he, he'⟩) hrow
      · have hts' : truthsL (xs.map cvW) ((turnY p q l1 l1.length).map cvP) wg ≠ [] := fun h => hts (hT.symm.ask h)
        have he' : askE (xs.map cvW) ((turnY p q l1 l1.length).map cvP) wg = 0 := by
          unfold askE
          rw [if_neg (fun h => h hc'), if_neg hts']
        exact Turned_ok (K + S) wg a1 a2 C0 g0 C1 g1 hv.thn rfl rfl (hK _ (by omega)) hn ep hpl eq hql rfl rfl hxs hxn (swap_f · _ _) rfl rfl (turnY_len _ _ _ _) (turnY_ms _ _ _ hv.thn.ms) (fun m _ => ⟨turnY_len _ _ _ _, rfl⟩) rfl rfl hc hc' rfl rfl hlm hwl hul (.inr ⟨he, he', rfl, rfl, rfl, hT.bounds hts hts'⟩) hrow
end Go.Proofs.Ytnbbbeghgomnoaa.X
namespace Go.Proofs.Ytnbbbeghgomnoaa.bundleTurned
open Go.ChangeShapes Go.WideShapes Go.ChangeAt Go.RowKit
open Go.ChangeMaps (open_string shut_string)
open Go.Proofs.Ytnbbbeghgomnoaa.X
theorem own : ownKnob Try.prog.godebug = none := by kernel_rfl
theorem laidOut : laidOutB Try.prog = true := by kernel_rfl
set_option maxRecDepth 100000 in
theorem lifted (os : Os) (started : os.Started) (H : Type) (enc : TypeId × Value → H) :
    ReturnsInHanded {} Try.checked os 15 .any (Rows.bundleTurnedSpec.pre6 enc Try.prog Try.f15 Rows.bundleTurnedRow.domain false) (Rows.bundleTurnedSpec.post enc Try.prog Try.f15 false true false false) := by
  refine returnsInHanded_of_change_sized (C := Try.checked) own started (by kernel_rfl) Try.func15
    (ChangeSpec.witness6 (enc := enc) (C := Try.checked) false ⟨#[], #[.agg #[.slice none 0 0, .slice none 0 0, .int .i64 0], .int .u8 0, .int .u8 0], []⟩ 8 (by kernel_rfl) (by kernel_rfl) (by kernel_rfl) (by kernel_rfl)) ?_
  intro W base args ds gs before hval0 hW hcnd hsz0 _
  have hsz : (DataW.weightsEach Try.prog (Try.f15.params.toList ++ Rows.bundleTurnedSpec.plain.varTypes Try.prog) (ds ++ gs)).all (· ≤ reachBytes) = true := hsz0
  have hval : ∀ (j : Nat) t v, Try.f15.params[j]? = some t → args[j]? = some v → Value.okWide Try.prog W .any base t v := hval0
  have hW' := hW
  obtain ⟨p, q, hA0, hV, rfl, hfz, hnd⟩ := hW
  have hA : DataW.TrodAll enc Try.prog W 0 (fun _ => true) true Try.f15.params.toList args.toList ds p := hA0
  rw [Try.params15] at hA hval hsz
  obtain ⟨v0, vs0, d0, ds0, p0, q0, hargs, rfl, rfl, h0, r0⟩ := trodAll_cons hA
  obtain ⟨v1, vs1, d1, ds1, p1, q1, rfl, rfl, rfl, h1, r1⟩ := trodAll_cons r0
  obtain ⟨v2, vs2, d2, ds2, p2, q2, rfl, rfl, rfl, h2, r2⟩ := trodAll_cons r1
  obtain ⟨rfl, rfl, rfl⟩ := trodAll_nil r2
  obtain rfl : args = #[v0, v1, v2] := by cases args; simp_all
  obtain ⟨rfl, rfl⟩ := trodVars_none hV
  have k0 := h0
  have lt0 : ∀ x ∈ p0, x.block < W.heap.size := by obtain ⟨m, hm⟩ := k0; exact DataW.trod_lt m _ _ _ hm
  obtain ⟨A0, c0, l0, A1, c1, l1, wg, rfl, C0, g0, C1, g1⟩ := open_table (hval 0 25 v0 rfl rfl) h0
  obtain ⟨a1, rfl, rfl, rfl, w1⟩ := open_int Try.underlying5 (hval 1 5 v1 rfl rfl) h1
  obtain ⟨a2, rfl, rfl, rfl, w2⟩ := open_int Try.underlying5 (hval 2 5 v2 rfl rfl) h2
  clear hA0 hval0 hsz0 hsz
  refine (BundleTurned_walk A0 c0 l0 A1 c1 l1 wg a1 a2 W C0 g0 C1 g1 w1 w2).mono fun e W' ⟨he, bel⟩ => ?_
  subst he
  exact ⟨_, rfl, _, _, _, [], _, [], hW', trodAll_mk1 (shut_bool Try.underlying4 _), (trodAll_cons_mk (Below.trod laidOut (by kernel_rfl) (of_decide_eq_true (by kernel_rfl)) k0 bel lt0) (trodAll_cons_mk (shut_int Try.underlying5 w1) (trodAll_cons_mk (shut_int Try.underlying5 w2) trodAll_mk0))), rfl, bel.frame _, fun h => by cases h⟩
theorem over : Rows.bundleTurnedRow.holds Try.pinned (OpenSpec.ofChange Rows.bundleTurnedSpec) :=
  OpenClaim.holds_of_wide 15 Try.f15 rfl rfl rfl rfl rfl rfl rfl ⟨rfl, rfl, rfl, rfl, rfl⟩ rfl rfl rfl rfl rfl (by kernel_rfl) Try.func15 (by kernel_rfl)
    (of_decide_eq_true (by kernel_rfl)) (by unfold Func.isWrapper; first | (rw [if_pos (by decide +kernel)]; kernel_rfl) | (rw [if_neg (by decide +kernel)]; exact ⟨rfl, rfl⟩))
    (fun os started H enc _ => lifted os started H enc)
theorem proved : Rows.BundleTurnedSaid := over
end Go.Proofs.Ytnbbbeghgomnoaa.bundleTurned
namespace Go.Proofs.Ytnbbbeghgomnoaa
theorem bundleTurned_holds : Rows.BundleTurnedSaid := bundleTurned.proved
#print axioms bundleTurned_holds
end Go.Proofs.Ytnbbbeghgomnoaa
