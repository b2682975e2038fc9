/-
  For every table that the statement lets in, without the counts of the smallest set all women counted right with some owners, and without those of any shorter or earlier list they did not.
-/
import Derived.Test.YtnbbbeghgomnoaaQLeft01
set_option linter.unusedVariables false
set_option linter.unusedSimpArgs false
namespace Go.Proofs.Ytnbbbeghgomnoaa.X
open Go.RowKit Go.Proofs.YtnbbbeghgomnoaaW.PrintWords Go.Proofs.YtnbbbeghgomnoaaW.PrintLast Go.Proofs.YtnbbbeghgomnoaaW.PrintMore
def someW (L0 : List S109) (m : Nat) : List S109 := L0.mapIdx fun j x => if m.testBit j then x else ⟨x.f0, ⟨0, 7⟩⟩
def someL (l0 : List S85) (m : Nat) : List S85 := l0.mapIdx fun j x => if m.testBit j then x else ⟨x.f0, ⟨0, 7⟩⟩
def someTo (l0 : List S85) (m w : Nat) : List S85 := l0.mapIdx fun j x => if w ≤ j || m.testBit j then x else ⟨x.f0, ⟨0, 7⟩⟩
theorem someL_len (l0 : List S85) (m : Nat) : (someL l0 m).length = l0.length := by simp [someL]
theorem someW_len (L0 : List S109) (m : Nat) : (someW L0 m).length = L0.length := by simp [someW]
theorem someTo_get (l0 : List S85) (m w i : Nat) (h : i < (someTo l0 m w).length) (h' : i < l0.length) : (someTo l0 m w)[i] = if w ≤ i || m.testBit i then l0[i] else ⟨l0[i].f0, ⟨0, 7⟩⟩ := by simp only [someTo, List.getElem_mapIdx]
theorem someL_cv (l0 : List S85) (m : Nat) : (someL l0 m).map cvW = someW (l0.map cvW) m := by
 unfold someL someW
 apply List.ext_getElem
 ·simp
 ·intro i h1 h2
  simp only [List.getElem_map, List.getElem_mapIdx]
  split <;> rfl
theorem bit_small : ∀ m, m < 64 → ∀ w, w < 6 → (Int.tmod (shr .i64 ((m : Nat) : Int) (IntKind.u64.wrap ((w : Nat) : Int))) 2 = 0) = (m.testBit w = false) := by
 have h : ∀ m, m < 64 → ∀ w, w < 6 → decide (Int.tmod (shr .i64 ((m : Nat) : Int) (IntKind.u64.wrap ((w : Nat) : Int))) 2 = 0) = !m.testBit w := by decide +kernel
 intro m hm w hw
 have h1 := h m hm w hw
 apply propext
 cases hb : m.testBit w
 ·rw [hb] at h1; exact ⟨fun _ => rfl, fun _ => of_decide_eq_true h1⟩
 ·rw [hb] at h1; exact ⟨fun e => absurd e (of_decide_eq_false h1), fun e => by cases e⟩
theorem some_ev {l0 : List S85} {l1 : List S71} (wg : Int) (h0 : l0.length ≤ 5) (m : Nat) (hm : m < 64) : Evt (fun k => posserlaw03_some.f k l0 l1 wg (m : Int)) (someL l0 m, l1, 0) := by
 have hlen : ∀ w, (someTo l0 m w).length = l0.length := fun w => by simp [someTo]
 have main : ∀ (d w : Nat), w + d = l0.length → Evt (fun k => posserlaw03_some.l0 k (m : Int) (w : Int) (someTo l0 m w) l1 0) (someL l0 m, l1, 0) := by
  intro d
  induction d with
  | zero =>
   intro w hw
   obtain rfl : w = l0.length := by omega
   have he : someTo l0 m l0.length = someL l0 m := by
    unfold someTo someL
    apply List.ext_getElem
    ·simp
    ·intro i h1 h2
     have hi : i < l0.length := by simpa using h1
     simp only [List.getElem_mapIdx]
     rw [decide_eq_false (by omega), Bool.false_or]
   rw [← he]
   refine Evt.succ (Evt.const _) (fun k => ?_)
   simp only [posserlaw03_some.l0]
   rw [if_neg (by rw [hlen]; omega)]
  | succ d ih =>
   intro w hw
   have hlt : w < l0.length := by omega
   have hget : (someTo l0 m w).getD w z85 = l0[w] := by
    rw [List.getD_eq_getElem?_getD, List.getElem?_eq_getElem (by rw [hlen]; exact hlt)]
    unfold someTo
    simp only [List.getElem_mapIdx, Option.getD_some]
    rw [decide_eq_true (Nat.le_refl _), Bool.true_or, if_pos rfl]
   refine Evt.succ (ih (w + 1) (by omega)) (fun k => ?_)
   simp only [posserlaw03_some.l0]
   rw [if_pos (by rw [hlen]; omega), if_pos (by rw [u64_small w (by omega)]; omega), wrap_succ w _ hlt (by omega), rd_T85_nat, hget]
   cases hb : m.testBit w with
   | false =>
    rw [if_pos (Eq.mpr (bit_small m hm w (by omega)) hb), if_pos (by omega), Int.toNat_natCast]
    congr 1
    apply List.ext_getElem
    ·simp [someTo]
    ·intro i h1 h2
     have hil : i < l0.length := by rw [hlen] at h2; exact h2
     rw [List.getElem_set, someTo_get _ _ _ _ h2 hil]
     by_cases e : w = i
     ·subst e
      rw [if_pos rfl, hb, decide_eq_false (by omega)]; rfl
     ·rw [if_neg e, someTo_get _ _ _ _ (by rw [hlen]; exact hil) hil]
      have hd : decide (w ≤ i) = decide (w + 1 ≤ i) := by
       by_cases h : w ≤ i
       ·rw [decide_eq_true h, decide_eq_true (by omega)]
       ·rw [decide_eq_false h, decide_eq_false (by omega)]
      rw [hd]
   | true =>
    rw [if_neg (fun e => by have h_ := Eq.mp (bit_small m hm w (by omega)) e; rw [hb] at h_; cases h_)]
    congr 1
    unfold someTo
    apply List.ext_getElem
    ·simp
    ·intro i h1 h2
     simp only [List.getElem_mapIdx]
     by_cases e : w = i
     ·subst e
      rw [hb, Bool.or_true, Bool.or_true]
     ·have hd : decide (w ≤ i) = decide (w + 1 ≤ i) := by
       by_cases h : w ≤ i
       ·rw [decide_eq_true h, decide_eq_true (by omega)]
       ·rw [decide_eq_false h, decide_eq_false (by omega)]
      rw [hd]
 have hz : someTo l0 m 0 = l0 := by
  unfold someTo
  apply List.ext_getElem
  ·simp
  ·intro i h1 h2
   simp
 have h1 := main l0.length 0 (by omega)
 rw [hz] at h1
 refine h1.congr (fun k => ?_)
 show posserlaw03_some.f k l0 l1 wg (m : Int) = _
 unfold posserlaw03_some.f
 simp only [Option.bind_some]
 rw [if_pos (by simp; omega)]
 rfl
theorem someW_f0 (L0 : List S109) (m j : Nat) : ((someW L0 m).getD j z109).f0 = (L0.getD j z109).f0 := by
 unfold someW
 rw [List.getD_eq_getElem?_getD, List.getD_eq_getElem?_getD, List.getElem?_mapIdx]
 cases L0[j]? with
 | none => rfl
 | some x =>
  show (if m.testBit j then x else (⟨x.f0, ⟨0, 7⟩⟩ : S109)).f0 = x.f0
  split <;> rfl
theorem ofL_some (L0 : List S109) (m : Nat) (ms : List Int) : ofL (someW L0 m) ms = ofL L0 ms := by
 unfold ofL
 rw [someW_len]
 refine congrArg (fun p => sel p L0.length) (funext fun j => ?_)
 rw [someW_f0]
theorem optsL_some (L0 : List S109) (L1 : List S110) (m : Nat) : optsL (someW L0 m) L1 = optsL L0 L1 := funext fun i => ofL_some L0 m _
theorem allL_some (L0 : List S109) (L1 : List S110) (m : Nat) : allL (someW L0 m) L1 = allL L0 L1 := by
 unfold allL
 rw [optsL_some]
theorem okP_some (L0 : List S109) (m : Nat) (z : S110) : okP (someW L0 m) z = okP L0 z := by
 unfold okP
 rw [someW_len, ofL_some]
theorem check_some {L0 : List S109} {L1 : List S110} {wg : Int} (h : Val L0 L1 wg) (m : Nat) : checkT (someW L0 m) L1 0 = 0 := by
 unfold checkT
 have hw : (someW L0 m).all okW = true := by
  rw [List.all_eq_true]
  intro x hx
  obtain ⟨i, hi, rfl⟩ := List.mem_iff_getElem.1 hx
  have hi' : i < L0.length := by rw [someW_len] at hi; exact hi
  have hg : (someW L0 m)[i] = if m.testBit i then L0[i] else ⟨L0[i].f0, ⟨0, 7⟩⟩ := by simp only [someW, List.getElem_mapIdx]
  rw [hg]
  have hok := List.all_eq_true.1 h.ws L0[i] (List.getElem_mem hi')
  split
  ·exact hok
  ·unfold okW at hok ⊢
   simp only [Bool.and_eq_true] at hok ⊢
   exact ⟨⟨⟨hok.1.1.1, decide_eq_true (Int.le_refl 0)⟩, decide_eq_true (show (0 : Int) ≤ 7 by omega)⟩, decide_eq_true (show (7 : Int) ≤ 7 by omega)⟩
 have hp : L1.all (okP (someW L0 m)) = true := by
  have : okP (someW L0 m) = okP L0 := funext fun z => okP_some L0 m z
  rw [this]; exact h.ps
 have hn0 := h.n0
 have hn1 := h.n1
 have hm := h.mn
 rw [manyT_eq] at hm ⊢
 rw [allL_some, someW_len, if_neg (by omega), hw, hp, if_neg (by decide), if_neg (by omega)]
theorem bad_some {L0 : List S109} {n1 : Nat} (hn1 : n1 ≤ 7) (m : Nat) (x : List Int) (j : Nat) (hj : j < L0.length) : bad (someW L0 m) n1 (pad x) j = (m.testBit j && bad L0 n1 (pad x) j) := by
 have hg : (someW L0 m).getD j z109 = if m.testBit j then L0.getD j z109 else ⟨(L0.getD j z109).f0, ⟨0, 7⟩⟩ := by
  unfold someW
  rw [List.getD_eq_getElem?_getD, List.getD_eq_getElem?_getD, List.getElem?_mapIdx, List.getElem?_eq_getElem hj]; rfl
 unfold bad
 rw [hg]
 cases hb : m.testBit j with
 | true => simp
 | false =>
  rw [if_neg (by decide), Bool.false_and]
  have hc := cnt_le (pad x) n1 (j : Int)
  unfold came
  rw [decide_eq_true (show (0 : Int) ≤ _ by omega), decide_eq_true (show _ ≤ (7 : Int) by show ((cnt (pad x) n1 (j : Int) : Nat) : Int) ≤ 7; omega)]; rfl
theorem sel_nil (p : Nat → Bool) (n : Nat) : (sel p n).length = 0 ↔ ∀ j, j < n → p j = false := by
 rw [List.length_eq_zero_iff]
 constructor
 ·intro h j hj
  cases hp : p j
  ·rfl
  ·have : (j : Int) ∈ sel p n := (sel_mem _ _ _).2 ⟨j, hj, hp, rfl⟩
   rw [h] at this; cases this
 ·intro h
  cases hs : sel p n with
  | nil => rfl
  | cons a r =>
   have : a ∈ sel p n := by rw [hs]; exact List.mem_cons_self
   obtain ⟨k, h1, h2, _⟩ := (sel_mem _ _ _).1 this
   rw [h k h1] at h2; cases h2
theorem isT_some {L0 : List S109} {n1 : Nat} (hn1 : n1 ≤ 7) (m : Nat) (hm : m < 2 ^ L0.length) (x : List Int) : isT (someW L0 m) n1 0 x = decide (bitsN (rightP L0 n1 x) L0.length &&& m = m) := by
 unfold isT
 rw [someW_len, Bool.eq_iff_iff, decide_eq_true_eq, decide_eq_true_eq]
 have h1 : ((sel (bad (someW L0 m) n1 (pad x)) L0.length).length : Int) ≤ 0 ↔ (sel (bad (someW L0 m) n1 (pad x)) L0.length).length = 0 := by omega
 rw [h1, sel_nil]
 constructor
 ·intro h
  refine Nat.eq_of_testBit_eq fun j => ?_
  rw [Nat.testBit_and, bitsN_bit]
  by_cases hj : j < L0.length
  ·have := h j hj
   rw [bad_some hn1 m x j hj] at this
   rw [decide_eq_true hj]
   unfold rightP
   cases hb : m.testBit j
   ·simp
   ·rw [hb, Bool.true_and] at this
    rw [this]; rfl
  ·have : m.testBit j = false := Nat.testBit_lt_two_pow (Nat.lt_of_lt_of_le hm (Nat.pow_le_pow_right (by omega) (by omega)))
   rw [this, Bool.and_false]
 ·intro h j hj
  rw [bad_some hn1 m x j hj]
  have h2 := congrArg (fun z => z.testBit j) h
  rw [Nat.testBit_and, bitsN_bit, decide_eq_true hj] at h2
  unfold rightP at h2
  cases hb : m.testBit j
  ·rfl
  ·rw [hb] at h2
   cases hc : bad L0 n1 (pad x) j
   ·rfl
   ·rw [hc] at h2; cases h2
theorem ask_some {L0 : List S109} {L1 : List S110} {wg : Int} (h : Val L0 L1 wg) (m : Nat) (hm : m < 2 ^ L0.length) : askE (someW L0 m) L1 0 = if canB (rightsL L0 L1) m = true then 0 else 11 := by
 unfold askE
 have hc := check_some h m
 rw [if_neg (fun e => e hc)]
 have ht : truthsL (someW L0 m) L1 0 = [] ↔ canB (rightsL L0 L1) m = false := by
  unfold truthsL canB rightsL
  rw [allL_some, List.filter_eq_nil_iff, List.any_map, List.any_eq_false]
  constructor
  ·intro h2 x hx
   have := h2 x hx
   rw [isT_some h.n1 m hm] at this
   exact this
  ·intro h2 x hx
   rw [isT_some h.n1 m hm]
   exact h2 x hx
 cases hb : canB (rightsL L0 L1) m with
 | true =>
  rw [if_neg (fun e => by rw [ht.1 e] at hb; cases hb), if_pos rfl]
 | false =>
  rw [if_pos (ht.2 hb), if_neg (by decide)]
end Go.Proofs.Ytnbbbeghgomnoaa.X
namespace Go.Proofs.Ytnbbbeghgomnoaa.X
open Go.RowKit Go.Proofs.YtnbbbeghgomnoaaW.PrintWords Go.Proofs.YtnbbbeghgomnoaaW.PrintLast Go.Proofs.YtnbbbeghgomnoaaW.PrintMore
theorem ready_no {l0 : List S85} {l1 : List S71} (wg : Int) (h : ¬ (thinR l0 l1 = true ∧ checkT (l0.map cvW) (l1.map cvP) wg = 0)) : Evt (fun k => posserlaw03_ready.f k l0 l1 wg) false := by
 obtain ⟨K, hK⟩ := Thin_ev l0 l1 wg
 cases hth : thinR l0 l1 with
 | false =>
  refine ⟨K, fun k hk => ?_⟩
  have g1 := hK k hk
  dsimp only at g1 ⊢
  unfold posserlaw03_ready.f
  rw [g1, hth]; rfl
 | true =>
  obtain ⟨L, hL⟩ := Fault_ev wg (thinR_iff.1 hth)
  have hc : ¬ checkT (l0.map cvW) (l1.map cvP) wg = 0 := fun e => h ⟨hth, e⟩
  refine ⟨K + L, fun k hk => ?_⟩
  have g1 := hK k (by omega)
  have g2 := hL k (by omega)
  dsimp only at g1 g2 ⊢
  unfold posserlaw03_ready.f
  rw [g1, hth]
  simp only [Option.bind_some, if_true]
  rw [g2]
  simp only [Option.bind_some]
  exact congrArg some (beq_eq_false_iff_ne.2 hc)
theorem ready_yes {l0 : List S85} {l1 : List S71} {wg : Int} (h : VR l0 l1 wg) (hc : checkT (l0.map cvW) (l1.map cvP) wg = 0) : Evt (fun k => posserlaw03_ready.f k l0 l1 wg) true := by
 obtain ⟨K, hK⟩ := Thin_ev l0 l1 wg
 obtain ⟨L, hL⟩ := Fault_ev wg h.thn
 refine ⟨K + L, fun k hk => ?_⟩
 have g1 := hK k (by omega)
 have g2 := hL k (by omega)
 dsimp only at g1 g2 ⊢
 unfold posserlaw03_ready.f
 rw [g1, thinR_iff.2 h.thn]
 simp only [Option.bind_some, if_true]
 rw [g2, hc]; rfl
theorem Table_f {l0 : List S85} {l1 : List S71} (wg : Int) (h : Thn l0 l1) : posserlaw03_Table.f l0 l1 wg = some (l0.map cvW, l1.map cvP, wg) := by
 unfold posserlaw03_Table.f
 rw [thinR_iff.2 h]; rfl
theorem u8_range {a : Int} (h : (Lit.int .u8 a).wf = true) : 0 ≤ a ∧ a ≤ 255 := by
 unfold Lit.wf at h
 rw [Bool.and_eq_true, decide_eq_true_eq, decide_eq_true_eq] at h
 exact ⟨h.1, h.2⟩
end Go.Proofs.Ytnbbbeghgomnoaa.X
namespace Go.Proofs.Ytnbbbeghgomnoaa.X
open Go.RowKit Go.Proofs.YtnbbbeghgomnoaaW.PrintWords Go.Proofs.YtnbbbeghgomnoaaW.PrintLast Go.Proofs.YtnbbbeghgomnoaaW.PrintMore
theorem some_thn {l0 : List S85} {l1 : List S71} (h : Thn l0 l1) (m : Nat) : Thn (someL l0 m) l1 := ⟨by rw [someL_len]; exact h.n0, h.n1, h.ms⟩
theorem whose_some {l0 : List S85} {l1 : List S71} {wg : Int} (h : VR l0 l1 wg) (m : Nat) (hm : m < 2 ^ l0.length) : ∃ r, bundle_Whose.f ((someL l0 m).map cvW) (l1.map cvP) 0 = some (r, if canB (rightsL (l0.map cvW) (l1.map cvP)) m = true then 0 else 11) := by
 have ha := ask_some h.val m (by rw [List.length_map]; exact hm)
 unfold bundle_Whose.f
 rw [if_pos (thinP_of (some_thn h.thn m)), someL_cv]
 by_cases hb : canB (rightsL (l0.map cvW) (l1.map cvP)) m = true
 ·rw [if_pos hb] at ha ⊢
  rw [if_pos ha]; exact ⟨_, rfl⟩
 ·rw [if_neg hb] at ha ⊢
  rw [if_neg (by rw [ha]; decide), ha]; exact ⟨_, rfl⟩
end Go.Proofs.Ytnbbbeghgomnoaa.X
namespace Go.Proofs.Ytnbbbeghgomnoaa.X
open Go.RowKit Go.Proofs.YtnbbbeghgomnoaaW.PrintWords Go.Proofs.YtnbbbeghgomnoaaW.PrintLast Go.Proofs.YtnbbbeghgomnoaaW.PrintMore
def bitsL (l : List Int) : Nat := l.foldl (fun a v => a ||| 2 ^ v.toNat) 0
theorem bitsL_snoc (l : List Int) (v : Int) : bitsL (l ++ [v]) = bitsL l ||| 2 ^ v.toNat := by
 unfold bitsL
 rw [List.foldl_append]; rfl
theorem sets_list1 : ∀ n : Nat, n < 6 → ∀ m : Nat, m < 2 ^ n → bitsL (setOf m) = m := by decide +kernel
theorem sets_list2 : ∀ n : Nat, n < 6 → ∀ m : Nat, m < 2 ^ n → ∀ i : Nat, i < (setOf m).length → 0 ≤ (setOf m).getD i 0 ∧ (setOf m).getD i 0 < (n : Int) := by decide +kernel
theorem sets_list3 : ∀ n : Nat, n < 6 → ∀ m : Nat, m < 2 ^ n → ∀ i : Nat, i < (setOf m).length → 0 < i → (setOf m).getD (i - 1) 0 < (setOf m).getD i 0 := by decide +kernel
theorem sets_list4 : ∀ n : Nat, n < 6 → ∀ m : Nat, m < 2 ^ n → ∀ i : Nat, i < 7 → bitsL ((setOf m).take i) < 32 := by decide +kernel
theorem sets_list (n : Nat) (hn : n < 6) (m : Nat) (hm : m < 2 ^ n) : bitsL (setOf m) = m ∧ (∀ i : Nat, i < (setOf m).length → 0 ≤ (setOf m).getD i 0 ∧ (setOf m).getD i 0 < (n : Int) ∧ (0 < i → (setOf m).getD (i - 1) 0 < (setOf m).getD i 0)) ∧ (∀ i : Nat, i < 7 → bitsL ((setOf m).take i) < 32) :=
 ⟨sets_list1 n hn m hm, fun i hi => ⟨(sets_list2 n hn m hm i hi).1, (sets_list2 n hn m hm i hi).2, sets_list3 n hn m hm i hi⟩, sets_list4 n hn m hm⟩
theorem and256 : ∀ a : Nat, a < 256 → ∀ n : Nat, n < 6 → Go.bits .and .i64 ((a : Nat) : Int) ((2 ^ n - 1 : Nat) : Int) = ((a &&& (2 ^ n - 1) : Nat) : Int) := by decide +kernel
set_option maxHeartbeats 4000000 in
theorem BundleLeft_pure (l0 : List S85) (l1 : List S71) (wg a1 : Int) (ha0 : 0 ≤ a1) (ha1 : a1 ≤ 255) : ∃ k, posserlaw03_BundleLeft.f k l0 l1 wg a1 = some true := by
 by_cases hr : thinR l0 l1 = true ∧ checkT (l0.map cvW) (l1.map cvP) wg = 0
 ·obtain ⟨hth, hc⟩ := hr
  have ht := thinR_iff.1 hth
  have hv := VR.of ht hc
  have h0 := hv.n0
  have hp5 := pow_small l0.length h0
  have hpos : 0 < 2 ^ l0.length := Nat.two_pow_pos _
  have hlen : (l0.map cvW).length = l0.length := List.length_map _
  have h0' : (l0.map cvW).length ≤ 5 := by rw [hlen]; exact h0
  obtain ⟨K, hK⟩ := ready_yes hv hc
  have hF : bundle_Leave.f (l0.map cvW) (l1.map cvP) wg = some (leaveL (l0.map cvW) (l1.map cvP), 0) := by
   unfold bundle_Leave.f
   rw [if_pos (thinP_of ht), if_pos hc]
  obtain ⟨s1, s2, s3⟩ := leaveF_inv (l0.map cvW) (l1.map cvP) h0' hv.val.ps _ (Nat.le_refl _)
  rw [leaveF_eq _ _ h0' hv.val.ps] at s1 s2 s3
  rw [hlen] at s1 s3
  obtain ⟨m0, hm0, hl⟩ := sets_of _ (by omega) _ s1
  rw [hl] at hF s2 s3
  obtain ⟨b1, b2, b3⟩ := sets_list _ (by omega) m0 hm0
  have hsl := setOf_len m0
  obtain ⟨x, rfl⟩ : ∃ x : Nat, a1 = (x : Int) := ⟨a1.toNat, by omega⟩
  have hx : x < 256 := by omega
  obtain ⟨m1, hm1⟩ : ∃ m1, x &&& (2 ^ l0.length - 1) = m1 := ⟨_, rfl⟩
  have hm1l : m1 < 2 ^ l0.length := by
   rw [← hm1]
   have : x &&& (2 ^ l0.length - 1) ≤ 2 ^ l0.length - 1 := Nat.and_le_right
   omega
  have hrl : ∀ m, restW l0.length m < 2 ^ l0.length := fun m => by
   unfold restW
   have h2 : 2 ^ l0.length - 1 < 2 ^ l0.length := by omega
   exact Nat.xor_lt_two_pow h2 (Nat.lt_of_le_of_lt Nat.and_le_left h2)
  have hcan : ∀ m, canB (rightsL (l0.map cvW) (l1.map cvP)) (restW l0.length m) = possL (l0.map cvW) (l1.map cvP) (setOf m) := fun m => by
   rw [← can_poss _ _ _ h0', hlen]
  obtain ⟨r1, hr1⟩ := whose_some hv (restW l0.length m0) (hrl _)
  obtain ⟨r2, hr2⟩ := whose_some hv (restW l0.length m1) (hrl _)
  rw [hcan, s2, if_pos rfl] at hr1
  rw [hcan] at hr2
  obtain ⟨A, hA⟩ := some_ev (l1 := l1) wg h0 (restW l0.length m0) (by have := hrl m0; omega)
  obtain ⟨B, hB⟩ := some_ev (l1 := l1) wg h0 (restW l0.length m1) (by have := hrl m1; omega)
  obtain ⟨C, hC⟩ := Bits_ev m1 (by omega)
  obtain ⟨D, hD⟩ := Shorter_ev (setOf m1) (setOf m0) (by have := setOf_len m1; omega) (by omega)
  have han : ∀ m : Nat, m < 2 ^ l0.length → Go.bits .andNot .i64 ((2 ^ l0.length - 1 : Nat) : Int) (m : Int) = ((restW l0.length m : Nat) : Int) := fun m hm => by
   unfold restW
   exact andNot_small (2 ^ l0.length - 1) (by omega) m (by omega)
  have hxa : Go.bits .and .i64 (wrap64 (x : Int)) ((2 ^ l0.length - 1 : Nat) : Int) = (m1 : Int) := by
   rw [wrap64_id _ (by omega) (by omega), and256 x hx l0.length (by omega), hm1]
  have main : ∀ (d i : Nat), i + d = (setOf m0).length → Evt (fun k => posserlaw03_BundleLeft.l0 k (x : Int) (setOf m0) ((bitsL ((setOf m0).take i) : Nat) : Int) (i : Int) l0 l1 wg) true := by
   intro d
   induction d with
   | zero =>
    intro i hi
    obtain rfl : i = (setOf m0).length := by omega
    rw [List.take_length, b1]
    refine ⟨A + B + C + D + 1, fun k hk => ?_⟩
    obtain ⟨k, rfl⟩ : ∃ m, k = m + 1 := ⟨k - 1, by omega⟩
    have g2 := hA k (by omega)
    have g3 := hB k (by omega)
    have g4 := hC k (by omega)
    have g5 := hD k (by omega)
    dsimp only at g2 g3 g4 g5 ⊢
    simp only [posserlaw03_BundleLeft.l0]
    rw [if_neg (by omega), Full_f l0 l1 wg h0]
    simp only [Option.bind_some]
    rw [han m0 hm0, g2]
    simp only [Option.bind_some]
    rw [Table_f 0 (some_thn ht _)]
    simp only [Option.bind_some]
    rw [hr1]
    simp only [Option.bind_some]
    rw [hxa, han m1 hm1l, g3]
    simp only [Option.bind_some]
    rw [Table_f 0 (some_thn ht _)]
    simp only [Option.bind_some]
    rw [hr2]
    simp only [Option.bind_some]
    rw [if_pos trivial]
    cases hq : possL (l0.map cvW) (l1.map cvP) (setOf m1) with
    | false =>
     rw [if_pos (by decide)]; rfl
    | true =>
     rw [if_neg (by decide), if_pos (by decide), g4]
     simp only [Option.bind_some]
     rw [show sel (fun j => m1.testBit j) 6 = setOf m1 from rfl, g5]
     simp only [Option.bind_some]
     rw [s3 m1 hm1l hq, if_neg (by decide)]; rfl
   | succ d ih =>
    intro i hi
    have hlt : i < (setOf m0).length := by omega
    obtain ⟨c1, c2, c3⟩ := b2 i hlt
    have c4 := b3 i (by omega)
    obtain ⟨v, hv2⟩ : ∃ v : Nat, (setOf m0).getD i 0 = (v : Int) := ⟨((setOf m0).getD i 0).toNat, by omega⟩
    have hih := ih (i + 1) (by omega)
    have htk : (setOf m0).take (i + 1) = (setOf m0).take i ++ [(v : Int)] := by
     rw [List.take_succ_eq_append_getElem hlt]
     rw [List.getD_eq_getElem?_getD, List.getElem?_eq_getElem hlt] at hv2
     rw [← hv2]; rfl
    rw [htk, bitsL_snoc, Int.toNat_natCast] at hih
    rw [hv2] at c1 c2 c3
    have hu : 0 ≤ IntKind.u64.wrap ((v : Nat) : Int) := by rw [u64_small v (by omega)]; omega
    refine Evt.succ hih (fun k => ?_)
    simp only [posserlaw03_BundleLeft.l0]
    rw [if_pos (by omega), if_pos (by omega), rd_nat, hv2, if_neg (by omega), if_neg (by omega)]
    by_cases hi0 : i = 0
    ·rw [if_neg (by omega), if_pos hu, or_small v (by omega) _ c4, wrap_succ i _ hlt (by omega)]
    ·have hw2 : wrap64 ((i : Int) - 1) = ((i - 1 : Nat) : Int) := by rw [wrap64_id _ (by omega) (by omega)]; omega
     have c5 := c3 (by omega)
     rw [if_pos (by omega), hw2, if_pos (by omega), if_pos (by omega), rd_nat, if_neg (by omega), if_pos hu, or_small v (by omega) _ c4, wrap_succ i _ hlt (by omega)]
  obtain ⟨M, hM⟩ := main (setOf m0).length 0 (by omega)
  refine ⟨K + M, ?_⟩
  have g1 := hK (K + M) (by omega)
  have g2 := hM (K + M) (by omega)
  dsimp only at g1 g2
  unfold posserlaw03_BundleLeft.f
  rw [g1]
  simp only [Option.bind_some, if_true]
  rw [Table_f wg ht]
  simp only [Option.bind_some]
  rw [hF]
  simp only [Option.bind_some]
  rw [if_pos trivial]
  exact g2
 ·obtain ⟨K, hK⟩ := ready_no wg hr
  refine ⟨K, ?_⟩
  have g1 := hK K (Nat.le_refl _)
  dsimp only at g1
  unfold posserlaw03_BundleLeft.f
  rw [g1]; rfl
theorem BundleLeft_walk (A0 : Option Addr) (c0 : Nat) (l0 : List S85) (A1 : Option Addr) (c1 : Nat) (l1 : List S71) (wg a1 : Int) (W : World) (C0 : Kd.C k85 W A0 l0.length l0) (g0 : l0.length ≤ c0) (C1 : Kd.C k71 W A1 l1.length l1) (g1 : l1.length ≤ c1) (w1 : (Lit.int .u8 a1).wf = true) :
  Calls Try.prog 17 #[.agg #[.slice A0 l0.length c0, .slice A1 l1.length c1, .int .i64 wg], .int .u8 a1] W fun e w' => e = .returned (.bool true) ∧ Below W.heap.size W w' := by
 obtain ⟨b0, b1⟩ := u8_range w1
 obtain ⟨k, hk⟩ := BundleLeft_pure l0 l1 wg a1 b0 b1
 exact posserlaw03_BundleLeft.calls k A0 c0 l0 A1 c1 l1 wg a1 true W C0 g0 C1 g1 hk
end Go.Proofs.Ytnbbbeghgomnoaa.X
namespace Go.Proofs.Ytnbbbeghgomnoaa.bundleLeft
open Go.ChangeShapes Go.WideShapes Go.ChangeAt Go.RowKit
open Go.ChangeMaps (open_string shut_string)
open Go.Proofs.Ytnbbbeghgomnoaa.X
theorem own : ownKnob Try.prog.godebug = none := by kernel_rfl
theorem laidOut : laidOutB Try.prog = true := by kernel_rfl
set_option maxRecDepth 100000 in
theorem lifted (os : Os) (started : os.Started) (H : Type) (enc : TypeId × Value → H) :
  ReturnsInHanded {} Try.checked os 17 .any (Rows.bundleLeftSpec.pre6 enc Try.prog Try.f17 Rows.bundleLeftRow.domain false) (Rows.bundleLeftSpec.post enc Try.prog Try.f17 false true false false) := by
 refine returnsInHanded_of_change_sized (C := Try.checked) own started (by kernel_rfl) Try.func17
  (ChangeSpec.witness6 (enc := enc) (C := Try.checked) false ⟨#[], #[.agg #[.slice none 0 0, .slice none 0 0, .int .i64 0], .int .u8 0], []⟩ 8 (by kernel_rfl) (by kernel_rfl) (by kernel_rfl) (by kernel_rfl)) ?_
 intro W base args ds gs before hval0 hW hcnd hsz0 _
 have hsz : (DataW.weightsEach Try.prog (Try.f17.params.toList ++ Rows.bundleLeftSpec.plain.varTypes Try.prog) (ds ++ gs)).all (· ≤ reachBytes) = true := hsz0
 have hval : ∀ (j : Nat) t v, Try.f17.params[j]? = some t → args[j]? = some v → Value.okWide Try.prog W .any base t v := hval0
 have hW' := hW
 obtain ⟨p, q, hA0, hV, rfl, hfz, hnd⟩ := hW
 have hA : DataW.TrodAll enc Try.prog W 0 (fun _ => true) true Try.f17.params.toList args.toList ds p := hA0
 rw [Try.params17] at hA hval hsz
 obtain ⟨v0, vs0, d0, ds0, p0, q0, hargs, rfl, rfl, h0, r0⟩ := trodAll_cons hA
 obtain ⟨v1, vs1, d1, ds1, p1, q1, rfl, rfl, rfl, h1, r1⟩ := trodAll_cons r0
 obtain ⟨rfl, rfl, rfl⟩ := trodAll_nil r1
 obtain rfl : args = #[v0, v1] := by cases args; simp_all
 obtain ⟨rfl, rfl⟩ := trodVars_none hV
 have k0 := h0
 have lt0 : ∀ x ∈ p0, x.block < W.heap.size := by obtain ⟨m, hm⟩ := k0; exact DataW.trod_lt m _ _ _ hm
 obtain ⟨A0, c0, l0, A1, c1, l1, wg, rfl, C0, g0, C1, g1⟩ := open_table (hval 0 25 v0 rfl rfl) h0
 obtain ⟨a1, rfl, rfl, rfl, w1⟩ := open_int Try.underlying5 (hval 1 5 v1 rfl rfl) h1
 clear hA0 hval0 hsz0 hsz
 refine (BundleLeft_walk A0 c0 l0 A1 c1 l1 wg a1 W C0 g0 C1 g1 w1).mono fun e W' ⟨he, bel⟩ => ?_
 subst he
 exact ⟨_, rfl, _, _, _, [], _, [], hW', trodAll_mk1 (shut_bool Try.underlying4 _), (trodAll_cons_mk (Below.trod laidOut (by kernel_rfl) (of_decide_eq_true (by kernel_rfl)) k0 bel lt0) (trodAll_cons_mk (shut_int Try.underlying5 w1) trodAll_mk0)), rfl, bel.frame _, fun h => by cases h⟩
theorem over : Rows.bundleLeftRow.holds Try.pinned (OpenSpec.ofChange Rows.bundleLeftSpec) :=
 OpenClaim.holds_of_wide 17 Try.f17 rfl rfl rfl rfl rfl rfl rfl ⟨rfl, rfl, rfl, rfl, rfl⟩ rfl rfl rfl rfl rfl (by kernel_rfl) Try.func17 (by kernel_rfl)
  (of_decide_eq_true (by kernel_rfl)) (by unfold Func.isWrapper; first | (rw [if_pos (by decide +kernel)]; kernel_rfl) | (rw [if_neg (by decide +kernel)]; exact ⟨rfl, rfl⟩))
  (fun os started H enc _ => lifted os started H enc)
theorem proved : Rows.BundleLeftSaid := over
end Go.Proofs.Ytnbbbeghgomnoaa.bundleLeft
namespace Go.Proofs.Ytnbbbeghgomnoaa
theorem bundleLeft_holds : Rows.BundleLeftSaid := bundleLeft.proved
#print axioms bundleLeft_holds
end Go.Proofs.Ytnbbbeghgomnoaa
