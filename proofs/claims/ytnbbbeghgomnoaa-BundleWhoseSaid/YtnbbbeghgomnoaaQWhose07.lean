/-
  BundleWhose: for every input the law returns true, and each argument reads behind the call as it read before; no condition.
-/
import Derived.Test.YtnbbbeghgomnoaaQWhose06
set_option linter.unusedVariables false
set_option linter.unusedSimpArgs false
namespace Go.Proofs.Ytnbbbeghgomnoaa.X
open Go.RowKit Go.Proofs.YtnbbbeghgomnoaaW.PrintWords Go.Proofs.YtnbbbeghgomnoaaW.PrintLast Go.Proofs.YtnbbbeghgomnoaaW.PrintMore
theorem rd_L1_nat (xs : List (List Int)) (i : Nat) : rd_L1 xs (i : Int) = xs.getD i [] := rfl
theorem truths_elem {l0 : List S109} {l1 : List S110} {wg : Int} {x : List Int} (h : x ∈ truthsL l0 l1 wg) : x.length = l1.length := ((allL_mem l0 l1 x).1 (truths_mem h)).1
theorem manyS_any (n1 : Nat) (ts : List (List Int)) (i w : Nat) (hi : i < n1) : whoP n1 ts i w = ts.any (fun x => x.getD i 0 == (w : Int)) := by
 unfold whoP manyS
 rw [if_pos ⟨by omega, by omega⟩, Int.toNat_natCast]
 rw [Bool.eq_iff_iff, decide_eq_true_eq, List.any_eq_true]
 constructor
 ·intro h
  have h2 : 0 < (ts.filter fun xs => pad xs i == (w : Int)).length := by omega
  obtain ⟨x, hx⟩ := List.exists_mem_of_length_pos h2
  rw [List.mem_filter] at hx
  exact ⟨x, hx.1, hx.2⟩
 ·rintro ⟨x, h1, h2⟩
  have h3 : 0 < (ts.filter fun xs => pad xs i == (w : Int)).length := List.length_pos_of_mem (List.mem_filter.2 ⟨h1, h2⟩)
  omega
theorem RWhose_ev {l0 : List S85} {l1 : List S71} (wg : Int) (h0 : l0.length ≤ 30) (ts : List (List Int)) (hts : ts.length ≤ 4611686018427387904) (i : Nat) (hel : ∀ x ∈ ts, i < x.length) :
  Evt (fun k => posserref03_Whose.f k l0 l1 wg ts (i : Int)) (sel (fun w => ts.any (fun x => x.getD i 0 == (w : Int))) l0.length) := by
 obtain ⟨p, hp⟩ : ∃ p : Nat → Bool, (fun (w : Nat) => ts.any (fun x => x.getD i 0 == (w : Int))) = p := ⟨_, rfl⟩
 have hpw : ∀ w : Nat, p w = ts.any (fun x => x.getD i 0 == (w : Int)) := fun w => by rw [← hp]
 rw [hp]
 have inner : ∀ (w : Nat) (out : List Int) (X : List Int), Evt (fun k => posserref03_Whose.l0 k ts (i : Int) (if p w = true then out ++ [(w : Int)] else out) ((w + 1 : Nat) : Int) l0 l1 wg) X → w < l0.length → out.length ≤ 30 →
   ∀ (d j : Nat) (b : Bool), j + d = ts.length → (b || (ts.drop j).any (fun x => x.getD i 0 == (w : Int))) = p w → Evt (fun k => posserref03_Whose.l1 k ts (i : Int) out (w : Int) b (j : Int) l0 l1 wg) X := by
  intro w out X hX hw ho d
  induction d with
  | zero =>
   intro j b hj hb
   rw [List.drop_eq_nil_of_le (by omega), List.any_nil, Bool.or_false] at hb
   subst hb
   refine Evt.succ hX (fun k => ?_)
   simp only [posserref03_Whose.l1]
   rw [if_neg (by omega), wrap_succ w _ hw (by omega)]
   by_cases hpp : p w = true
   ·rw [if_pos hpp, if_pos (by omega), if_pos hpp]
   ·rw [if_neg hpp, if_neg hpp]
  | succ d ih =>
   intro j b hj hb
   have hlt : j < ts.length := by omega
   have hd : ts.drop j = ts[j] :: ts.drop (j + 1) := List.drop_eq_getElem_cons hlt
   rw [hd, List.any_cons] at hb
   cases b with
   | true =>
    refine Evt.succ (ih (j + 1) true (by omega) (by rw [Bool.true_or] at hb ⊢; exact hb)) (fun k => ?_)
    simp only [posserref03_Whose.l1]
    rw [if_pos (by omega), if_pos trivial, wrap_succ j _ hlt (by omega)]
   | false =>
    have hg : rd_L1 ts (j : Int) = ts[j] := by rw [rd_L1_nat, List.getD_eq_getElem?_getD, List.getElem?_eq_getElem hlt]; rfl
    have hil := hel _ (List.getElem_mem hlt)
    refine Evt.succ (ih (j + 1) (ts[j].getD i 0 == (w : Int)) (by omega) (by rw [Bool.false_or] at hb; exact hb)) (fun k => ?_)
    simp only [posserref03_Whose.l1]
    rw [if_pos (by omega), if_neg (by decide), if_pos (by omega), if_pos (by omega), hg, if_pos (by omega), rd_nat, wrap_succ j _ hlt (by omega)]
 have main : ∀ (d w : Nat), w + d = l0.length → Evt (fun k => posserref03_Whose.l0 k ts (i : Int) (sel p w) (w : Int) l0 l1 wg) (sel p l0.length) := by
  intro d
  induction d with
  | zero =>
   intro w hw
   obtain rfl : w = l0.length := by omega
   refine Evt.succ (Evt.const _) (fun k => ?_)
   simp only [posserref03_Whose.l0]
   rw [if_neg (by omega)]
  | succ d ih =>
   intro w hw
   have hlt : w < l0.length := by omega
   have h2 := ih (w + 1) (by omega)
   have hs : sel p (w + 1) = if p w = true then sel p w ++ [(w : Int)] else sel p w := by
    by_cases hpp : p w = true
    ·rw [if_pos hpp, sel_yes _ _ hpp]
    ·rw [if_neg hpp, sel_no _ _ (Bool.eq_false_iff.2 hpp)]
   rw [hs] at h2
   have hsl := sel_le p w
   refine Evt.succ (inner w (sel p w) _ h2 hlt (by omega) ts.length 0 false (by omega) (by rw [Bool.false_or, List.drop_zero, ← hpw])) (fun k => ?_)
   simp only [posserref03_Whose.l0]
   rw [if_pos (by omega)]; rfl
 exact main l0.length 0 (by omega)
theorem BundleWhose_pure (l0 : List S85) (l1 : List S71) (wg : Int) : ∃ k, posserlaw03_BundleWhose.f k l0 l1 wg = some true := by
 obtain ⟨K, hK⟩ := Thin_ev l0 l1 wg
 cases hth : thinR l0 l1 with
 | false =>
  refine ⟨K, ?_⟩
  have g1 := hK K (Nat.le_refl _)
  dsimp only at g1
  unfold posserlaw03_BundleWhose.f
  rw [g1, hth]; rfl
 | true =>
  have ht := thinR_iff.1 hth
  obtain ⟨L, hL⟩ := sure_ev wg ht
  have hT : posserlaw03_Table.f l0 l1 wg = some (l0.map cvW, l1.map cvP, wg) := by
   unfold posserlaw03_Table.f
   rw [hth]; rfl
  have hW : bundle_Whose.f (l0.map cvW) (l1.map cvP) wg = some (if askE (l0.map cvW) (l1.map cvP) wg = 0 then (whoseL l0.length l1.length (truthsL (l0.map cvW) (l1.map cvP) wg), 0) else ([], askE (l0.map cvW) (l1.map cvP) wg)) := by
   unfold bundle_Whose.f
   rw [if_pos (thinP_of ht), List.length_map, List.length_map]
  by_cases he : askE (l0.map cvW) (l1.map cvP) wg = 0
  ·obtain ⟨hc, hne⟩ := askE_zero he
   have hv := VR.of ht hc
   obtain ⟨ts, hts⟩ : ∃ ts, truthsL (l0.map cvW) (l1.map cvP) wg = ts := ⟨_, rfl⟩
   have hlen : ts.length ≤ 2000 := by
    rw [← hts]
    exact Nat.le_trans (List.length_filter_le _ _) hv.mny
   have hel : ∀ x ∈ ts, x.length = l1.length := by
    intro x hx
    rw [← hts] at hx
    rw [truths_elem hx, List.length_map]
   have h1 := ht.n1
   have main : ∀ (d i : Nat), i + d = l1.length → Evt (fun k => posserlaw03_BundleWhose.l0 k (whoseL l0.length l1.length ts) ts (i : Int) l0 l1 wg) true := by
    intro d
    induction d with
    | zero =>
     intro i hi
     refine Evt.succ (Evt.const true) (fun k => ?_)
     simp only [posserlaw03_BundleWhose.l0]
     rw [if_neg (by simp [whoseL]; omega)]; rfl
    | succ d ih =>
     intro i hi
     have hlt : i < l1.length := by omega
     obtain ⟨A, hA⟩ := RWhose_ev (l0 := l0) (l1 := l1) wg ht.n0 ts (by omega) i (fun x hx => by rw [hel x hx]; exact hlt)
     have hrow : rd_L1 (whoseL l0.length l1.length ts) (i : Int) = sel (fun w => ts.any (fun x => x.getD i 0 == (w : Int))) l0.length := by
      rw [rd_L1_nat, List.getD_eq_getElem?_getD]
      unfold whoseL
      rw [List.getElem?_map, List.getElem?_range hlt]
      show sel (whoP l1.length ts i) l0.length = _
      refine congrArg (fun p => sel p l0.length) (funext fun w => manyS_any _ _ _ _ hlt)
     obtain ⟨B, hB⟩ := ints_ev (sel (fun w => ts.any (fun x => x.getD i 0 == (w : Int))) l0.length) (sel (fun w => ts.any (fun x => x.getD i 0 == (w : Int))) l0.length) (by have := sel_le (fun w => ts.any (fun x => x.getD i 0 == (w : Int))) l0.length; have := ht.n0; omega)
     obtain ⟨C, hC⟩ := ih (i + 1) (by omega)
     refine ⟨A + B + C + 1, fun k hk => ?_⟩
     obtain ⟨k, rfl⟩ : ∃ m, k = m + 1 := ⟨k - 1, by omega⟩
     have g1 := hA k (by omega)
     have g2 := hB k (by omega)
     have g3 := hC k (by omega)
     dsimp only at g1 g2 g3 ⊢
     simp only [posserlaw03_BundleWhose.l0]
     rw [if_pos (by simp [whoseL]; omega), if_pos (by omega), g1]
     simp only [Option.bind_some]
     rw [hrow, g2]
     simp only [Option.bind_some]
     rw [if_pos (by simp), wrap_succ i _ hlt (by omega)]
     exact g3
   obtain ⟨M, hM⟩ := main l1.length 0 (by omega)
   refine ⟨K + L + M, ?_⟩
   have g1 := hK (K + L + M) (by omega)
   have g2 := hL (K + L + M) (by omega)
   have g3 := hM (K + L + M) (by omega)
   dsimp only at g1 g2 g3
   unfold posserlaw03_BundleWhose.f
   rw [g1, hth]
   simp only [Option.bind_some, if_true]
   rw [hT]
   simp only [Option.bind_some]
   rw [hW]
   simp only [Option.bind_some]
   rw [g2]
   simp only [Option.bind_some]
   rw [if_pos he, if_pos he, hts, if_pos rfl, if_pos rfl, if_pos (by simp [whoseL])]
   exact g3
  ·refine ⟨K + L, ?_⟩
   have g1 := hK (K + L) (by omega)
   have g2 := hL (K + L) (by omega)
   dsimp only at g1 g2
   unfold posserlaw03_BundleWhose.f
   rw [g1, hth]
   simp only [Option.bind_some, if_true]
   rw [hT]
   simp only [Option.bind_some]
   rw [hW]
   simp only [Option.bind_some]
   rw [g2]
   simp only [Option.bind_some]
   rw [if_neg he, if_neg he]
   dsimp only
   rw [if_neg he, if_pos rfl]; rfl
theorem BundleWhose_walk (A0 : Option Addr) (c0 : Nat) (l0 : List S85) (A1 : Option Addr) (c1 : Nat) (l1 : List S71) (wg : Int) (W : World) (C0 : Kd.C k85 W A0 l0.length l0) (g0 : l0.length ≤ c0) (C1 : Kd.C k71 W A1 l1.length l1) (g1 : l1.length ≤ c1) :
  Calls Try.prog 3 #[.agg #[.slice A0 l0.length c0, .slice A1 l1.length c1, .int .i64 wg]] W fun e w' => e = .returned (.bool true) ∧ Below W.heap.size W w' := by
 obtain ⟨k, hk⟩ := BundleWhose_pure l0 l1 wg
 exact posserlaw03_BundleWhose.calls k A0 c0 l0 A1 c1 l1 wg true W C0 g0 C1 g1 hk
end Go.Proofs.Ytnbbbeghgomnoaa.X
namespace Go.Proofs.Ytnbbbeghgomnoaa.X
open Go.RowKit Go.ChangeShapes Go.WideShapes Go.Deep Go.Joins
open Go.Proofs.YtnbbbeghgomnoaaW.PrintWords
section
variable {H : Type} {enc : TypeId × Value → H} {W : World} {spare : Nat → Bool} {held : Bool}
theorem cOf85 : Try.prog.cellsOf 85 = 3 := by kernel_rfl
theorem cOf71 : Try.prog.cellsOf 71 = 2 := by kernel_rfl
theorem cOf65 : Try.prog.cellsOf 65 = 2 := by kernel_rfl
theorem cOf3 : Try.prog.cellsOf 3 = 1 := by kernel_rfl
theorem cOf39 : Try.prog.cellsOf 39 = 1 := by kernel_rfl
theorem list3 {α : Type} {l : List α} (h : l.length = 3) : ∃ a b c, l = [a, b, c] := by
 match l, h with
 | [a, b, c], _ => exact ⟨a, b, c, rfl⟩
theorem list2 {α : Type} {l : List α} (h : l.length = 2) : ∃ a b, l = [a, b] := by
 match l, h with
 | [a, b], _ => exact ⟨a, b, rfl⟩
theorem open_range {n : Nat} {cs : List Value} {x : DataW H × List MemPlace} (h : DataW.trod enc Try.prog W 0 spare held n 65 cs = some x) : ∃ lo hi : Int, cs = [.int .i64 lo, .int .i64 hi] := by
 obtain ⟨xs, m, _, _, hl, hxl, hf⟩ := DataW.trod_struct Try.underlying65 h
 rw [cOf65] at hl
 obtain ⟨u0, u1, rfl⟩ := list2 hl
 obtain ⟨y0, y1, rfl⟩ := list2 hxl
 have g0 : DataW.trod enc Try.prog W 0 spare held m 3 ((List.drop 0 [u0, u1]).take (Try.prog.cellsOf 3)) = some y0 := hf 0 _ rfl
 have g1 : DataW.trod enc Try.prog W 0 spare held m 3 ((List.drop 1 [u0, u1]).take (Try.prog.cellsOf 3)) = some y1 := hf 1 _ rfl
 rw [cOf3] at g0 g1
 simp only [List.drop, List.take] at g0 g1
 obtain ⟨lo, h0, _, _⟩ := DataW.trod_int Try.underlying3 g0
 obtain ⟨hi, h1, _, _⟩ := DataW.trod_int Try.underlying3 g1
 injection h0 with h0 _
 injection h1 with h1 _
 subst h0 h1
 exact ⟨lo, hi, rfl⟩
theorem open_woman {n : Nat} {cs : List Value} {x : DataW H × List MemPlace} (h : DataW.trod enc Try.prog W 0 spare held n 85 cs = some x) : ∃ z : S85, cs.length = 3 ∧ k85.K W z cs := by
 obtain ⟨xs, m, _, _, hl, hxl, hf⟩ := DataW.trod_struct Try.underlying85 h
 rw [cOf85] at hl
 obtain ⟨u0, u1, u2, rfl⟩ := list3 hl
 obtain ⟨y0, y1, rfl⟩ := list2 hxl
 have g0 : DataW.trod enc Try.prog W 0 spare held m 3 ((List.drop 0 [u0, u1, u2]).take (Try.prog.cellsOf 3)) = some y0 := hf 0 _ rfl
 have g1 : DataW.trod enc Try.prog W 0 spare held m 65 ((List.drop 1 [u0, u1, u2]).take (Try.prog.cellsOf 65)) = some y1 := hf 1 _ rfl
 rw [cOf3] at g0
 rw [cOf65] at g1
 simp only [List.drop, List.take] at g0 g1
 obtain ⟨mk, h0, _, _⟩ := DataW.trod_int Try.underlying3 g0
 obtain ⟨lo, hi, h1⟩ := open_range g1
 injection h0 with h0 _
 injection h1 with h1 h2
 injection h2 with h2 _
 subst h0 h1 h2
 exact ⟨⟨mk, ⟨lo, hi⟩⟩, rfl, k85_mk W ⟨mk, ⟨lo, hi⟩⟩⟩
theorem open_list {n : Nat} {cs : List Value} {x : DataW H × List MemPlace} (h : DataW.trod enc Try.prog W 0 spare held n 39 cs = some x) : ∃ (A : Option Addr) (c : Nat) (l : List Int), cs = [.slice A l.length c] ∧ l.length ≤ c ∧ Kd.C (Kd.int .i64) W A l.length l := by
 rcases open_slice Try.underlying39 h with ⟨rfl, _⟩ | ⟨a, len, cap, m, k, D, Pl, rfl, _, hl, hm, hmm, _, hi⟩
 ·exact ⟨none, 0, [], rfl, Nat.le_refl _, rfl, by simp, fun h => absurd h (by simp)⟩
 ·have hlm : len ≤ m := by rw [hmm]; split <;> omega
  have each : ∀ i, i < len → ∃ v : Int, W.cell? (a.add i) = some (.int .i64 v) := fun i hlt => by
   obtain ⟨cs', hc, ht⟩ := hi i (by omega)
   rw [cOf3] at hc
   obtain ⟨v, rfl, _, _⟩ := DataW.trod_int Try.underlying3 ht
   obtain ⟨_, _, hat⟩ := World.cells?_some hc
   have := hat 0 (by omega)
   rw [Go.Deep.add_add] at this
   exact ⟨v, by simpa using this⟩
  obtain ⟨q, hq⟩ := choose_lt each
  have hml : maxLen ≤ 9223372036854775807 := by unfold maxLen; omega
  refine ⟨some a, cap, (List.range len).map q, by simp, by simpa using hl, rfl, ?_, fun _ => ⟨a, rfl, fun j p hj => ?_⟩⟩
  ·simp only [List.length_map, List.length_range]
   omega
  ·have hjl : j < len := by
    have := (List.getElem?_eq_some_iff.1 hj).1
    simpa using this
   rw [List.getElem?_map, List.getElem?_range hjl] at hj
   obtain rfl := Option.some.inj hj
   refine ⟨[.int .i64 (q j)], rfl, rfl, fun i u hu => ?_⟩
   have hi0 : i = 0 := by
    have := (List.getElem?_eq_some_iff.1 hu).1
    simp at this; exact this
   subst hi0
   have hu' : Value.int .i64 (q j) = u := by simpa using hu
   subst hu'
   have := hq j hjl
   show W.cell? (a.add (j * 1 + 0)) = _
   rw [Nat.mul_one, Nat.add_zero]; exact this
theorem open_piece {n : Nat} {cs : List Value} {x : DataW H × List MemPlace} (h : DataW.trod enc Try.prog W 0 spare held n 71 cs = some x) : ∃ z : S71, cs.length = 2 ∧ k71.K W z cs := by
 obtain ⟨xs, m, _, _, hl, hxl, hf⟩ := DataW.trod_struct Try.underlying71 h
 rw [cOf71] at hl
 obtain ⟨u0, u1, rfl⟩ := list2 hl
 obtain ⟨y0, y1, rfl⟩ := list2 hxl
 have g0 : DataW.trod enc Try.prog W 0 spare held m 39 ((List.drop 0 [u0, u1]).take (Try.prog.cellsOf 39)) = some y0 := hf 0 _ rfl
 have g1 : DataW.trod enc Try.prog W 0 spare held m 3 ((List.drop 1 [u0, u1]).take (Try.prog.cellsOf 3)) = some y1 := hf 1 _ rfl
 rw [cOf39] at g0
 rw [cOf3] at g1
 simp only [List.drop, List.take] at g0 g1
 obtain ⟨A, c, l, h0, hc, hC⟩ := open_list g0
 obtain ⟨b, h1, _, _⟩ := DataW.trod_int Try.underlying3 g1
 injection h0 with h0 _
 injection h1 with h1 _
 subst h0 h1
 exact ⟨⟨l, b⟩, rfl, k71_mk W ⟨l, b⟩ hc hC⟩
theorem open_elems {α : Type} {d : Kd α} (z : α) {t e : TypeId} {n : Nat} {cs : List Value} {x : DataW H × List MemPlace} (ht : Try.prog.underlying t = some (.slice e)) (hs : Try.prog.cellsOf e = d.sz)
  (ho : ∀ {n : Nat} {cs : List Value} {x : DataW H × List MemPlace}, DataW.trod enc Try.prog W 0 spare held n e cs = some x → ∃ z : α, cs.length = d.sz ∧ d.K W z cs)
  (h : DataW.trod enc Try.prog W 0 spare held n t cs = some x) : ∃ (A : Option Addr) (c : Nat) (l : List α), cs = [.slice A l.length c] ∧ l.length ≤ c ∧ Kd.C d W A l.length l := by
 rcases open_slice ht h with ⟨rfl, _⟩ | ⟨a, len, cap, m, k, D, Pl, rfl, _, hl, hm, hmm, _, hi⟩
 ·exact ⟨none, 0, [], rfl, Nat.le_refl _, rfl, by simp, fun h => absurd h (by simp)⟩
 ·have hlm : len ≤ m := by rw [hmm]; split <;> omega
  have each : ∀ i, i < len → ∃ v : α, ∃ c : List Value, c.length = d.sz ∧ d.K W v c ∧ ∀ j u, c[j]? = some u → W.cell? (a.add (i * d.sz + j)) = some u := fun i hlt => by
   obtain ⟨cs', hc, ht⟩ := hi i (by omega)
   rw [hs] at hc
   obtain ⟨z, hl, hK⟩ := ho ht
   obtain ⟨_, _, hat⟩ := World.cells?_some hc
   refine ⟨z, cs', hl, hK, fun j u hu => ?_⟩
   have hj : j < d.sz := by
    have := (List.getElem?_eq_some_iff.1 hu).1
    omega
   have := hat j hj
   rw [Go.Deep.add_add] at this
   rw [this]; exact hu
  haveI : Inhabited α := ⟨z⟩
  obtain ⟨q, hq⟩ := choose_lt each
  have hml : maxLen ≤ 9223372036854775807 := by unfold maxLen; omega
  refine ⟨some a, cap, (List.range len).map q, by simp, by simpa using hl, rfl, ?_, fun _ => ⟨a, rfl, fun j p hj => ?_⟩⟩
  ·simp only [List.length_map, List.length_range]
   omega
  ·have hjl : j < len := by
    have := (List.getElem?_eq_some_iff.1 hj).1
    simpa using this
   rw [List.getElem?_map, List.getElem?_range hjl] at hj
   obtain rfl := Option.some.inj hj
   exact hq j hjl
set_option maxRecDepth 100000 in
theorem open_table {r : Reach} {b0 : Nat} {v : Value} {d : DataW H} {p : List MemPlace} (hv : Value.okWide Try.prog W r b0 25 v) (h : DataW.Trod enc Try.prog W 0 spare held 25 v d p) :
  ∃ (A0 : Option Addr) (c0 : Nat) (l0 : List S85) (A1 : Option Addr) (c1 : Nat) (l1 : List S71) (wg : Int), v = .agg #[.slice A0 l0.length c0, .slice A1 l1.length c1, .int .i64 wg] ∧
   Kd.C k85 W A0 l0.length l0 ∧ l0.length ≤ c0 ∧ Kd.C k71 W A1 l1.length l1 ∧ l1.length ≤ c1 := by
 obtain ⟨v0, v1, v2, y0, y1, y2, n, rfl, _, _, h0, h1, h2⟩ := open_agg3 Try.underlying25 (by kernel_rfl) (by kernel_rfl) hv h
 obtain ⟨A0, c0, l0, e0, g0, C0⟩ := open_elems (d := k85) z85 Try.underlying22 cOf85 open_woman h0
 obtain ⟨A1, c1, l1, e1, g1, C1⟩ := open_elems (d := k71) z71 Try.underlying23 cOf71 open_piece h1
 obtain ⟨wg, e2, _, _⟩ := DataW.trod_int Try.underlying3 h2
 injection e0 with e0 _
 injection e1 with e1 _
 injection e2 with e2 _
 subst e0 e1 e2
 exact ⟨A0, c0, l0, A1, c1, l1, wg, rfl, C0, g0, C1, g1⟩
end
end Go.Proofs.Ytnbbbeghgomnoaa.X
namespace Go.Proofs.Ytnbbbeghgomnoaa.bundleWhose
open Go.ChangeShapes Go.WideShapes Go.ChangeAt Go.RowKit
open Go.ChangeMaps (open_string shut_string)
open Go.Proofs.Ytnbbbeghgomnoaa.X
theorem own : ownKnob Try.prog.godebug = none := by kernel_rfl
theorem laidOut : laidOutB Try.prog = true := by kernel_rfl
set_option maxRecDepth 100000 in
theorem lifted (os : Os) (started : os.Started) (H : Type) (enc : TypeId × Value → H) :
  ReturnsInHanded {} Try.checked os 3 .any (Rows.bundleWhoseSpec.pre6 enc Try.prog Try.f3 Rows.bundleWhoseRow.domain false) (Rows.bundleWhoseSpec.post enc Try.prog Try.f3 false true false false) := by
 refine returnsInHanded_of_change_sized (C := Try.checked) own started (by kernel_rfl) Try.func3
  (ChangeSpec.witness6 (enc := enc) (C := Try.checked) false ⟨#[], #[.agg #[.slice none 0 0, .slice none 0 0, .int .i64 0]], []⟩ 8 (by kernel_rfl) (by kernel_rfl) (by kernel_rfl) (by kernel_rfl)) ?_
 intro W base args ds gs before hval0 hW hcnd hsz0 _
 have hsz : (DataW.weightsEach Try.prog (Try.f3.params.toList ++ Rows.bundleWhoseSpec.plain.varTypes Try.prog) (ds ++ gs)).all (· ≤ reachBytes) = true := hsz0
 have hval : ∀ (j : Nat) t v, Try.f3.params[j]? = some t → args[j]? = some v → Value.okWide Try.prog W .any base t v := hval0
 have hW' := hW
 obtain ⟨p, q, hA0, hV, rfl, hfz, hnd⟩ := hW
 have hA : DataW.TrodAll enc Try.prog W 0 (fun _ => true) true Try.f3.params.toList args.toList ds p := hA0
 rw [Try.params3] at hA hval hsz
 obtain ⟨v0, vs0, d0, ds0, p0, q0, hargs, rfl, rfl, h0, r0⟩ := trodAll_cons hA
 obtain ⟨rfl, rfl, rfl⟩ := trodAll_nil r0
 obtain rfl : args = #[v0] := by cases args; simp_all
 obtain ⟨rfl, rfl⟩ := trodVars_none hV
 have k0 := h0
 have lt0 : ∀ x ∈ p0, x.block < W.heap.size := by obtain ⟨m, hm⟩ := k0; exact DataW.trod_lt m _ _ _ hm
 obtain ⟨A0, c0, l0, A1, c1, l1, wg, rfl, C0, g0, C1, g1⟩ := open_table (hval 0 25 v0 rfl rfl) h0
 clear hA0 hval0 hsz0 hsz
 refine (BundleWhose_walk A0 c0 l0 A1 c1 l1 wg W C0 g0 C1 g1).mono fun e W' ⟨he, bel⟩ => ?_
 subst he
 exact ⟨_, rfl, _, _, _, [], _, [], hW', trodAll_mk1 (shut_bool Try.underlying4 _), (trodAll_cons_mk (Below.trod laidOut (by kernel_rfl) (of_decide_eq_true (by kernel_rfl)) k0 bel lt0) trodAll_mk0), rfl, bel.frame _, fun h => by cases h⟩
theorem over : Rows.bundleWhoseRow.holds Try.pinned (OpenSpec.ofChange Rows.bundleWhoseSpec) :=
 OpenClaim.holds_of_wide 3 Try.f3 rfl rfl rfl rfl rfl rfl rfl ⟨rfl, rfl, rfl, rfl, rfl⟩ rfl rfl rfl rfl rfl (by kernel_rfl) Try.func3 (by kernel_rfl)
  (of_decide_eq_true (by kernel_rfl)) (by unfold Func.isWrapper; first | (rw [if_pos (by decide +kernel)]; kernel_rfl) | (rw [if_neg (by decide +kernel)]; exact ⟨rfl, rfl⟩))
  (fun os started H enc _ => lifted os started H enc)
theorem proved : Rows.BundleWhoseSaid := over
end Go.Proofs.Ytnbbbeghgomnoaa.bundleWhose
namespace Go.Proofs.Ytnbbbeghgomnoaa
theorem bundleWhose_holds : Rows.BundleWhoseSaid := bundleWhose.proved
#print axioms bundleWhose_holds
end Go.Proofs.Ytnbbbeghgomnoaa
