/-
  For every table, and every list of owners, that the statement lets in: the error, what each woman owns, what is astray, and whether the owners are a truth are as the document says.
-/
import Derived.Test.YtnbbbeghgomnoaaQBase05
import Derived.Deep.DeepMust
import Derived.Test.YtnbbbeghgomnoaaRows
import Derived.WalkKit
import Derived.ProofKit
import Derived.OpenShut
import Derived.ShutString
import Derived.ChangeOld
import Derived.Below
import Derived.SizedLaws
set_option linter.unusedVariables false
set_option linter.unusedSimpArgs false
namespace Go.Proofs.YtnbbbeghgomnoaaW.PrintLast
open Go.Proofs.YtnbbbeghgomnoaaW.PrintWords (Aside0)
def freeT (T : List (List Nat × List Nat)) (l : List Bool) (i : Nat) : Bool := match T[i]? with
 | some r => r.2.all (fun j => l.getD j true)
 | none => false
def closedT (T : List (List Nat × List Nat)) (l : List Bool) : Bool := (List.range T.length).all fun j => !l.getD j false || match T[j]? with
 | some r => r.1.all (fun k => l.getD k false)
 | none => true
def reachT (T : List (List Nat × List Nat)) (i : Nat) : Nat → Nat → Bool
 | 0, _ => false
 | fuel + 1, d => match T[d]? with
  | some r => r.1.any fun j => j == i || reachT T i fuel j
  | none => false
def lastT (T : List (List Nat × List Nat)) (l : List Bool) (ds : List Nat) (i : Nat) : Bool := ds.all fun d => l.getD d true || reachT T i T.length d
section
variable {md : Region.Mode} {ops : Array Oper} {T : Bool × List (List Nat × List Nat)} {l l' li lj lk : Array Bool} {ds : List Nat} {i j k : Nat}
theorem needs_any (o : Oper) (p : Nat → Bool) : o.after.any (fun e => Region.binds md e && p e.on) = (needsOf md o).any p := by
 unfold needsOf
 rw [← Array.any_toList]
 induction o.after.toList with
 | nil => rfl
 | cons e r ih =>
  rw [List.any_cons, ih, List.filter_cons]
  cases h : Region.binds md e <;> simp
theorem free_eq : Region.free md ops l i = freeT (rtab md ops).2 l.toList i := by
 unfold Region.free freeT
 cases h : ops[i]? with
 | none => rw [rtab_none h]
 | some oi =>
  rw [rtab_some h]
  simp only [clashOf]
  rw [List.all_filter]
  congr 1
  funext j
  rw [gd]
  cases hj : ops[j]? with
  | none => cases (j == i) <;> cases (l.toList.getD j true) <;> simp
  | some oj =>
   cases (j == i) <;> cases (l.toList.getD j true) <;> cases (oj.after.any (fun e => Region.binds md e && e.on == i) || oi.apart ops oj) <;> simp_all
theorem closed_eq : Region.closedB md ops l = closedT (rtab md ops).2 l.toList := by
 unfold Region.closedB closedT
 rw [rtab_length]
 congr 1
 funext j
 rw [gd]
 cases h : ops[j]? with
 | none => rw [rtab_none h]
 | some o =>
  rw [rtab_some h]
  simp only
  rw [← needs_all]
  simp only [gd]
theorem reach_eq : ∀ (fuel d : Nat), Region.reachB md ops i fuel d = reachT (rtab md ops).2 i fuel d
 | 0, _ => rfl
 | fuel + 1, d => by
  unfold Region.reachB reachT
  cases h : ops[d]? with
  | none => rw [rtab_none h]
  | some o =>
   rw [rtab_some h]
   simp only
   rw [← needs_any]
   congr 1
   funext e
   rw [reach_eq fuel]
theorem last_eq : Region.lastB md ops l ds i = lastT (rtab md ops).2 l.toList ds i := by
 unfold Region.lastB lastT
 rw [rtab_length]
 congr 1
 funext d
 rw [gd, reach_eq]
theorem set_of (h : (l.toList.set i true == l'.toList) = true) : (l.setIfInBounds i true == l') = true := by
 rw [beq_iff_eq] at h ⊢
 apply Array.ext'
 rw [Array.toList_setIfInBounds]
 exact h
def anyT (T : Bool × List (List Nat × List Nat)) (l l' : List Bool) (i : Nat) : Bool := T.1 && freeT T.2 l i && readyAt T.2 l i && (l.set i true == l')
theorem any_of (hT : rtab md ops = T) (h : anyT T l.toList l'.toList i = true) : anyB md ops l l' i = true := by
 simp only [anyT, Bool.and_eq_true] at h
 obtain ⟨⟨⟨h1, h2⟩, h3⟩, h4⟩ := h
 have h5 := readyAt_mem h3 hT
 have h6 := set_of h4
 subst hT
 simp only [anyB, Bool.and_eq_true]
 exact ⟨⟨⟨h1, by rw [free_eq]; exact h2⟩, h5⟩, h6⟩
def takeT (T : Bool × List (List Nat × List Nat)) (ds : List Nat) (l l' : List Bool) (i : Nat) : Bool := T.1 && freeT T.2 l i && readyAt T.2 l i && closedT T.2 l && lastT T.2 l ds i && (l.set i true == l')
theorem take_of (hT : rtab md ops = T) (h : takeT T ds l.toList l'.toList i = true) : takeB md ops ds l l' i = true := by
 simp only [takeT, Bool.and_eq_true] at h
 obtain ⟨⟨⟨⟨⟨h1, h2⟩, h3⟩, h4⟩, h5⟩, h6⟩ := h
 have h7 := readyAt_mem h3 hT
 have h8 := set_of h6
 subst hT
 simp only [takeB, Bool.and_eq_true]
 exact ⟨⟨⟨⟨⟨h1, by rw [free_eq]; exact h2⟩, h7⟩, by rw [closed_eq]; exact h4⟩, by rw [last_eq]; exact h5⟩, h8⟩
theorem one_of (hT : rtab md ops = T) (h : (readyT T.2 l.toList == [i] && l.toList.set i true == l'.toList) = true) : readyB md ops l l' i = true := by
 simp only [Bool.and_eq_true] at h
 obtain ⟨h1, h2⟩ := h
 subst hT
 simp only [readyB, Bool.and_eq_true]
 exact ⟨by rw [ready_eq]; exact h1, set_of h2⟩
theorem done_of (hT : rtab md ops = T) (h : (readyT T.2 l.toList == []) = true) : (Region.ready md ops l == []) = true := by
 subst hT
 rw [ready_eq]
 exact h
def upM (B : List Nat) (d : Nat) : List Nat → Nat
 | [] => 0
 | n :: r => (2 ^ n ||| (if n < d then B.getD n 0 else 0)) ||| upM B d r
def waitsOk (T : List (List Nat × List Nat)) (B : List Nat) : Bool := (List.range T.length).all fun d => match T[d]? with
 | some r => (B.getD d 0 ||| upM B d r.1) == upM B d r.1
 | none => false
theorem upM_bit {B : List Nat} {d i : Nat} : ∀ {ns : List Nat}, (upM B d ns).testBit i = true → ∃ n ∈ ns, n = i ∨ (n < d ∧ (B.getD n 0).testBit i = true)
 | [], h => by simp [upM] at h
 | n :: r, h => by
  unfold upM at h
  rw [Nat.testBit_or, Nat.testBit_or, Bool.or_eq_true, Bool.or_eq_true] at h
  rcases h with (h | h) | h
  ·rw [Nat.testBit_two_pow] at h
   exact ⟨n, List.mem_cons_self, .inl (by simpa using h)⟩
  ·by_cases hn : n < d
   ·rw [if_pos hn] at h
    exact ⟨n, List.mem_cons_self, .inr ⟨hn, h⟩⟩
   ·rw [if_neg hn] at h
    simp at h
  ·obtain ⟨m, hm, h2⟩ := upM_bit h
   exact ⟨m, List.mem_cons_of_mem _ hm, h2⟩
theorem reach_bit {T : List (List Nat × List Nat)} {B : List Nat} (hB : waitsOk T B = true) : ∀ (fuel d : Nat), d < fuel → d < T.length → (B.getD d 0).testBit i = true → reachT T i fuel d = true
 | 0, d, h, _, _ => by omega
 | fuel + 1, d, h, hd, hb => by
  have h1 := List.all_eq_true.1 hB d (List.mem_range.2 hd)
  cases hr : T[d]? with
  | none => rw [hr] at h1; simp at h1
  | some r =>
   rw [hr] at h1
   simp only [beq_iff_eq] at h1
   have h2 : (upM B d r.1).testBit i = true := by rw [← h1, Nat.testBit_or, hb, Bool.true_or]
   obtain ⟨n, hn, h3⟩ := upM_bit h2
   unfold reachT
   rw [hr]
   simp only
   rw [List.any_eq_true]
   refine ⟨n, hn, ?_⟩
   rcases h3 with rfl | ⟨h4, h5⟩
   ·simp
   ·rw [reach_bit hB fuel n (by omega) (by omega) h5, Bool.or_true]
def lastW (T : List (List Nat × List Nat)) (B : List Nat) (l : List Bool) (ds : List Nat) (i : Nat) : Bool := ds.all fun d => l.getD d true || (decide (d < T.length) && (B.getD d 0).testBit i)
def takeW (T : Bool × List (List Nat × List Nat)) (B : List Nat) (ds : List Nat) (l l' : List Bool) (i : Nat) : Bool := T.1 && freeT T.2 l i && readyAt T.2 l i && closedT T.2 l && lastW T.2 B l ds i && (l.set i true == l')
theorem take_ofW {B : List Nat} (hT : rtab md ops = T) (hB : waitsOk T.2 B = true) (h : takeW T B ds l.toList l'.toList i = true) : takeB md ops ds l l' i = true := by
 refine take_of hT ?_
 simp only [takeW, takeT, Bool.and_eq_true] at h ⊢
 obtain ⟨⟨⟨⟨⟨h1, h2⟩, h3⟩, h4⟩, h5⟩, h6⟩ := h
 refine ⟨⟨⟨⟨⟨h1, h2⟩, h3⟩, h4⟩, ?_⟩, h6⟩
 unfold lastW at h5
 unfold lastT
 rw [List.all_eq_true] at h5 ⊢
 intro d hd
 have h7 := h5 d hd
 rw [Bool.or_eq_true, Bool.and_eq_true, decide_eq_true_eq] at h7
 rcases h7 with h7 | ⟨h8, h9⟩
 ·rw [h7, Bool.true_or]
 ·rw [reach_bit hB _ d h8 h8 h9, Bool.or_true]
theorem with_tabW {P : Program} {Q : Exit → Act → World → Prop} {S : World → Prop} {n : Nat} {a : Act} {w : World} {B : List Nat} (hT : rtab md ops = T) (hB : waitsOk T.2 B = true) (h : Aside0 (rtab md ops = T) → Aside0 (waitsOk T.2 B = true) → wpAnyLast P md ops Q S ds n l a w) : wpAnyLast P md ops Q S ds n l a w := h ⟨hT⟩ ⟨hB⟩
end
def opsIn : Code → Nat → Option (Array Oper)
 | .region id ops _, k => if id == k then some ops else none
 | .seq a b, k => match opsIn a k with
  | some o => some o
  | none => opsIn b k
 | .cond _ a b, k => match opsIn a k with
  | some o => some o
  | none => opsIn b k
 | .block _ c, k => opsIn c k
 | .loop c, k => opsIn c k
 | .scope c, k => opsIn c k
 | .rangeFunc _ _ a b, k => match opsIn a k with
  | some o => some o
  | none => opsIn b k
 | _, _ => none
def opsOf (f : Func) (k : Nat) : Array Oper := ((f.body.bind fun c => opsIn c k)).getD #[]
end Go.Proofs.YtnbbbeghgomnoaaW.PrintLast
namespace Go.Proofs.YtnbbbeghgomnoaaW.PrintMore
open Go.RowKit Go.Proofs.YtnbbbeghgomnoaaW.PrintWords
namespace Kd
open Go.Proofs.YtnbbbeghgomnoaaW.PrintWords.Kd
end Kd
namespace Kd
open Go.Proofs.YtnbbbeghgomnoaaW.PrintWords.Kd
section
variable {α : Type} {d : Kd α} {e base g N : Nat} {ok : Nat → Prop} {W w1 : World} {u v : Value} {xs : List α}
end
end Kd
end Go.Proofs.YtnbbbeghgomnoaaW.PrintMore
namespace Go.Proofs.YtnbbbeghgomnoaaW.PrintWords
open Go.RowKit
section
variable {P : Program} {ops : Array Oper} {rest : List Oper} {o : Oper} {a : Act} {Q : Exit → Act → World → Prop} {W : World}
end
theorem shl_small {k : IntKind} {x y j : Int} (h : shl k x y = j) (hy : y ≤ k.bits) : k.wrap (x * 2 ^ y.toNat) = j := by rw [← h]; unfold shl; rw [Nat.min_eq_left (by omega)]
theorem shr_small {k : IntKind} {x y j : Int} (h : shr k x y = j) (hy : y ≤ k.bits) : x / 2 ^ y.toNat = j := by rw [← h]; unfold shr; rw [Nat.min_eq_left (by omega)]
namespace Kd
section
variable {α : Type} {d : Kd α} {e base : Nat} {ok : Nat → Prop} {W w1 : World} {v : Value} {xs : List α}
end
section
variable {α : Type} {d : Kd α} {e base g n cap : Nat} {ok oki okp : Nat → Prop} {W : World} {xs : List α} {i : Int} {c : List Value}
end
section
variable {α : Type} {d : Kd α} {e base b b' g N : Nat} {ok ok1 : Nat → Prop} {W W2 w1 : World} {u v : Value} {xs ys : List α} {S : Nat → Prop}
end
end Kd
end Go.Proofs.YtnbbbeghgomnoaaW.PrintWords
namespace Go.Proofs.YtnbbbeghgomnoaaW.PrintWords
open Go.RowKit
namespace Kd
section
variable {α β : Type} {d : Kd α} {e base base' n m c g N' lo hi : Nat} {ok ok' S : Nat → Prop} {w W w1 : World} {A : Option Addr} {ad : Addr} {u v v1 : Value} {xs : List α}
end
end Kd
end Go.Proofs.YtnbbbeghgomnoaaW.PrintWords
namespace Go.Proofs.Ytnbbbeghgomnoaa.X
open Go.RowKit Go.Proofs.YtnbbbeghgomnoaaW.PrintWords Go.Proofs.YtnbbbeghgomnoaaW.PrintLast Go.Proofs.YtnbbbeghgomnoaaW.PrintMore
set_option maxHeartbeats 4000000 in
set_option maxRecDepth 100000 in
theorem ProveTruth_e {A0 : Option Addr} {c0 : Nat} {l0 : List S109} {A1 : Option Addr} {c1 : Nat} {l1 : List S110} (wg : Int) {Al : Option Addr} {cl : Nat} {l : List Int} {w : World} (ht : Tab A0 c0 l0 A1 c1 l1 w) (hrl : Kd.C (Kd.int .i64) w Al l.length l) (hcl : l.length ≤ cl) (hll : l.length ≤ 1000000) (he : checkT l0 l1 wg ≠ 0) :
  Calls Try.prog 60 #[.agg #[.slice A0 l0.length c0, .slice A1 l1.length c1, .int .i64 wg], .slice Al l.length cl] w fun e w' => e = .returned (.bool false) ∧ Below w.heap.size w w' := by
 have hu35 := Try.underlying35
 have hu121 := Try.underlying121
 have HT := Aside0.mk ht
 have HRL := Aside0.mk hrl
 have HCL := Aside0.mk hcl
 have HLL := Aside0.mk hll
 clear ht hrl hcl hll
 have HB := Aside0.mk (Below.refl w.heap.size w)
 have HE := Aside0.mk he
 clear he
 go_enter Try.func60, Try.ntmps60
 go_wp2_with (first | ((with_reducible refine gate_dst (N := 2) rfl ?_); refine sbox (N := 2) #[.slice A0 l0.length c0, .slice A1 l1.length c1, .int .i64 wg] 35 ?_; intro g2 hg W_ hbox hb; have GEg2 := Aside0.mk (by rw [hg]; exact HB.out.size : w.heap.size ≤ g2); replace HB := Aside0.mk (below_step HB.out hb); have BKg2 := Aside0.mk hbox; clear hb hbox hg; have hcz0 := sc 0 BKg2; have hcz1 := sc 1 BKg2; have hcz2 := sc 2 BKg2) | (go_at_call 61; go_must (refine (check_calls wg (HT.out.below HB.out)).mono ?_; rintro e W_ ⟨rfl, hb⟩; replace BKg2 := Aside0.mk (blk_below BKg2.out hb); replace HB := Aside0.mk (below_step HB.out hb); try (clear hcz0 hcz1 hcz2); clear hb; have he := HE.out; generalize hec : checkT l0 l1 wg = ec at *; have hne : (ec == (0 : Int)) = false := (by simpa using he))))
 go_ret
 exact ⟨rfl, HB.out⟩
set_option maxHeartbeats 4000000 in
set_option maxRecDepth 100000 in
theorem ProveTruth_no {A0 : Option Addr} {c0 : Nat} {l0 : List S109} {A1 : Option Addr} {c1 : Nat} {l1 : List S110} (wg : Int) {Al : Option Addr} {cl : Nat} {l : List Int} {w : World} (ht : Tab A0 c0 l0 A1 c1 l1 w) (hrl : Kd.C (Kd.int .i64) w Al l.length l) (hcl : l.length ≤ cl) (hll : l.length ≤ 1000000) (he : checkT l0 l1 wg = 0) (ha : areB l0 l1 l = false) :
  Calls Try.prog 60 #[.agg #[.slice A0 l0.length c0, .slice A1 l1.length c1, .int .i64 wg], .slice Al l.length cl] w fun e w' => e = .returned (.bool false) ∧ Below w.heap.size w w' := by
 have hu35 := Try.underlying35
 have hu121 := Try.underlying121
 have HT := Aside0.mk ht
 have HRL := Aside0.mk hrl
 have HCL := Aside0.mk hcl
 have HLL := Aside0.mk hll
 clear ht hrl hcl hll
 have HB := Aside0.mk (Below.refl w.heap.size w)
 have HE := Aside0.mk he
 have HN0 := Aside0.mk (checkT_zero he).n0
 have HN1 := Aside0.mk (checkT_zero he).n1
 have HAB := Aside0.mk ha
 clear he ha
 go_enter Try.func60, Try.ntmps60
 go_wp2_with (first | ((with_reducible refine gate_dst (N := 2) rfl ?_); refine sbox (N := 2) #[.slice A0 l0.length c0, .slice A1 l1.length c1, .int .i64 wg] 35 ?_; intro g2 hg W_ hbox hb; have GEg2 := Aside0.mk (by rw [hg]; exact HB.out.size : w.heap.size ≤ g2); replace HB := Aside0.mk (below_step HB.out hb); have BKg2 := Aside0.mk hbox; clear hb hbox hg; have hcz0 := sc 0 BKg2; have hcz1 := sc 1 BKg2; have hcz2 := sc 2 BKg2) | (go_at_call 61; go_must (refine (check_calls wg (HT.out.below HB.out)).mono ?_; rintro e W_ ⟨rfl, hb⟩; replace BKg2 := Aside0.mk (blk_below BKg2.out hb); replace HB := Aside0.mk (below_step HB.out hb); clear hb hcz0 hcz1 hcz2; rw [HE.out]; have hcz0 := sc 0 BKg2; have hcz1 := sc 1 BKg2; have hcz2 := sc 2 BKg2)) | (go_at_call 83; go_must (refine (listed_calls A0 c0 l0 A1 c1 l1 wg Al cl l _ (HT.out.below HB.out).r0 HT.out.h0 (HT.out.below HB.out).r1 HT.out.h1 (Kd.C_below HRL.out HB.out) HCL.out HT.out.n0 HN1.out HT.out.ms (by have := HLL.out; omega)).mono ?_; rintro e W_ ⟨o, rfl, ho1, ho2, hb⟩; replace BKg2 := Aside0.mk (blk_below BKg2.out hb); replace HB := Aside0.mk (below_step HB.out hb); clear hb hcz0 hcz1 hcz2; have HO1 := Aside0.mk ho1; have HO2 := Aside0.mk ho2; clear ho1 ho2; unfold ac; rw [HAB.out])))
 have hb := below_alloc (Below.refl W_.heap.size W_) (.cells #[.int .i64 (o 0), .int .i64 (o 1), .int .i64 (o 2), .int .i64 (o 3), .int .i64 (o 4), .int .i64 (o 5), .int .i64 (o 6)] 121)
 have BKg8 := Aside0.mk (heap_alloc_new W_ (.cells #[.int .i64 (o 0), .int .i64 (o 1), .int .i64 (o 2), .int .i64 (o 3), .int .i64 (o 4), .int .i64 (o 5), .int .i64 (o 6)] 121))
 replace BKg2 := Aside0.mk (blk_below BKg2.out hb)
 replace HB := Aside0.mk (below_step HB.out hb)
 clear hb
 try (clear hcz0 hcz1 hcz2)
 generalize W_.alloc (.cells #[.int .i64 (o 0), .int .i64 (o 1), .int .i64 (o 2), .int .i64 (o 3), .int .i64 (o 4), .int .i64 (o 5), .int .i64 (o 6)] 121) = W5 at *
 generalize W_.heap.size = g8 at *
 have hcz0 := sc 0 BKg2
 have hcz1 := sc 1 BKg2
 have hcz2 := sc 2 BKg2
 have hca0 := sc 0 BKg8
 have hca1 := sc 1 BKg8
 have hca2 := sc 2 BKg8
 have hca3 := sc 3 BKg8
 have hca4 := sc 4 BKg8
 have hca5 := sc 5 BKg8
 have hca6 := sc 6 BKg8
 refine start_ (n := 11) (S := fun w' => w'.cell? ⟨g2, 0, none⟩ = some (.slice A0 l0.length c0)) (ds := []) (lm 11 0) (by kernel_rfl) rfl (by kernel_rfl) (hcz0) (fun hHeld => ?_)
 have hb := below_drew1 (Below.refl W5.heap.size W5)
 replace BKg2 := Aside0.mk (blk_below BKg2.out hb)
 replace BKg8 := Aside0.mk (blk_below BKg8.out hb)
 replace HB := Aside0.mk (below_step HB.out hb)
 replace hcz0 := (hb.cell (World.block_lt_of_cell? _ _ hcz0)).trans hcz0
 generalize W5.drew = W6 at *
 clear hb
 refine sP (i := 0) (N := some 16) (lm 11 1) ?_
 refine sP (i := 1) (N := some 17) (lm 11 3) ?_
 refine pure_ (i := 2) (N := some 18) (v := undef) (a' := ?_) (lm 11 7) rfl rfl (by kernel_rfl) (fun _ _ _ h => h) (Or.inr ⟨by rfl, rfl⟩) ?_ ?_
 rotate_left
 ·simp only [Act.put, List.setIfInBounds_toArray, List.set_cons_zero, List.set_cons_succ, i64_w, i32_w]
  rfl
 refine pure_ (i := 3) (N := some 19) (v := undef) (a' := ?_) (lm 11 15) rfl rfl (by kernel_rfl) (fun _ _ _ h => h) (Or.inr ⟨by rfl, rfl⟩) ?_ ?_
 rotate_left
 ·simp only [Act.put, List.setIfInBounds_toArray, List.set_cons_zero, List.set_cons_succ, i64_w, i32_w]
  rfl
 refine pure_ (i := 4) (N := some 20) (v := undef) (a' := ?_) (lm 11 31) rfl rfl (by kernel_rfl) (fun _ _ _ h => h) (Or.inr ⟨by rfl, rfl⟩) ?_ ?_
 rotate_left
 ·simp only [Act.put, List.setIfInBounds_toArray, List.set_cons_zero, List.set_cons_succ, i64_w, i32_w]
  rfl
 refine pure_ (i := 5) (N := some 21) (v := undef) (a' := ?_) (lm 11 63) rfl rfl (by kernel_rfl) (fun _ _ _ h => h) (Or.inr ⟨by rfl, rfl⟩) ?_ ?_
 rotate_left
 ·simp only [Act.put, List.setIfInBounds_toArray, List.set_cons_zero, List.set_cons_succ, i64_w, i32_w]
  rfl
 refine pure_ (i := 6) (N := some 22) (v := undef) (a' := ?_) (lm 11 127) rfl rfl (by kernel_rfl) (fun _ _ _ h => h) (Or.inr ⟨by rfl, rfl⟩) ?_ ?_
 rotate_left
 ·simp only [Act.put, List.setIfInBounds_toArray, List.set_cons_zero, List.set_cons_succ, i64_w, i32_w]
  rfl
 refine pure_ (i := 7) (N := some 23) (v := undef) (a' := ?_) (lm 11 255) rfl rfl (by kernel_rfl) (fun _ _ _ h => h) (Or.inr ⟨by rfl, rfl⟩) ?_ ?_
 rotate_left
 ·simp only [Act.put, List.setIfInBounds_toArray, List.set_cons_zero, List.set_cons_succ, i64_w, i32_w]
  rfl
 refine pure_ (i := 8) (N := some 24) (v := undef) (a' := ?_) (lm 11 511) rfl rfl (by kernel_rfl) (fun _ _ _ h => h) (Or.inr ⟨by rfl, rfl⟩) ?_ ?_
 rotate_left
 ·simp only [Act.put, List.setIfInBounds_toArray, List.set_cons_zero, List.set_cons_succ, i64_w, i32_w]
  rfl
 refine sP (i := 9) (N := some 25) (lm 11 1023) ?_
 refine sP (i := 10) (N := some 4) (lm 11 2047) ?_
 refine done_ (by kernel_rfl) ?_
 go_wp2
 go_ret
 exact ⟨rfl, HB.out⟩
set_option maxHeartbeats 4000000 in
set_option maxRecDepth 100000 in
theorem ProveTruth_ok {A0 : Option Addr} {c0 : Nat} {l0 : List S109} {A1 : Option Addr} {c1 : Nat} {l1 : List S110} (wg : Int) {Al : Option Addr} {cl : Nat} {l : List Int} {w : World} (ht : Tab A0 c0 l0 A1 c1 l1 w) (hrl : Kd.C (Kd.int .i64) w Al l.length l) (hcl : l.length ≤ cl) (hll : l.length ≤ 1000000) (he : checkT l0 l1 wg = 0) (ha : areB l0 l1 l = true) :
  Calls Try.prog 60 #[.agg #[.slice A0 l0.length c0, .slice A1 l1.length c1, .int .i64 wg], .slice Al l.length cl] w fun e w' => e = .returned (.bool (isT l0 l1.length wg l)) ∧ Below w.heap.size w w' := by
 have hu35 := Try.underlying35
 have hu121 := Try.underlying121
 have HT := Aside0.mk ht
 have HRL := Aside0.mk hrl
 have HCL := Aside0.mk hcl
 have HLL := Aside0.mk hll
 clear ht hrl hcl hll
 have HB := Aside0.mk (Below.refl w.heap.size w)
 have HE := Aside0.mk he
 have HN0 := Aside0.mk (checkT_zero he).n0
 have HN1 := Aside0.mk (checkT_zero he).n1
 have HAB := Aside0.mk ha
 have HOW := Aside0.mk (allL_owners l0 l1 l (areB_mem.1 ha))
 clear he ha
 go_enter Try.func60, Try.ntmps60
 go_wp2_with (first | ((with_reducible refine gate_dst (N := 2) rfl ?_); refine sbox (N := 2) #[.slice A0 l0.length c0, .slice A1 l1.length c1, .int .i64 wg] 35 ?_; intro g2 hg W_ hbox hb; have GEg2 := Aside0.mk (by rw [hg]; exact HB.out.size : w.heap.size ≤ g2); replace HB := Aside0.mk (below_step HB.out hb); have BKg2 := Aside0.mk hbox; clear hb hbox hg; have hcz0 := sc 0 BKg2; have hcz1 := sc 1 BKg2; have hcz2 := sc 2 BKg2) | (go_at_call 61; go_must (refine (check_calls wg (HT.out.below HB.out)).mono ?_; rintro e W_ ⟨rfl, hb⟩; replace BKg2 := Aside0.mk (blk_below BKg2.out hb); replace HB := Aside0.mk (below_step HB.out hb); clear hb hcz0 hcz1 hcz2; rw [HE.out]; have hcz0 := sc 0 BKg2; have hcz1 := sc 1 BKg2; have hcz2 := sc 2 BKg2)) | (go_at_call 83; go_must (refine (listed_calls A0 c0 l0 A1 c1 l1 wg Al cl l _ (HT.out.below HB.out).r0 HT.out.h0 (HT.out.below HB.out).r1 HT.out.h1 (Kd.C_below HRL.out HB.out) HCL.out HT.out.n0 HN1.out HT.out.ms (by have := HLL.out; omega)).mono ?_; rintro e W_ ⟨o, rfl, ho1, ho2, hb⟩; replace BKg2 := Aside0.mk (blk_below BKg2.out hb); replace HB := Aside0.mk (below_step HB.out hb); clear hb hcz0 hcz1 hcz2; have HO1 := Aside0.mk ho1; have HO2 := Aside0.mk ho2; clear ho1 ho2; have ho_ : o = pad l := pad_of (HO1.out HAB.out) HO2.out; subst ho_; unfold ac; rw [HAB.out])))
 have hb := below_alloc (Below.refl W_.heap.size W_) (.cells #[.int .i64 (pad l 0), .int .i64 (pad l 1), .int .i64 (pad l 2), .int .i64 (pad l 3), .int .i64 (pad l 4), .int .i64 (pad l 5), .int .i64 (pad l 6)] 121)
 have BKg8 := Aside0.mk (heap_alloc_new W_ (.cells #[.int .i64 (pad l 0), .int .i64 (pad l 1), .int .i64 (pad l 2), .int .i64 (pad l 3), .int .i64 (pad l 4), .int .i64 (pad l 5), .int .i64 (pad l 6)] 121))
 replace BKg2 := Aside0.mk (blk_below BKg2.out hb)
 replace HB := Aside0.mk (below_step HB.out hb)
 clear hb
 try (clear hcz0 hcz1 hcz2)
 generalize W_.alloc (.cells #[.int .i64 (pad l 0), .int .i64 (pad l 1), .int .i64 (pad l 2), .int .i64 (pad l 3), .int .i64 (pad l 4), .int .i64 (pad l 5), .int .i64 (pad l 6)] 121) = W5 at *
 generalize W_.heap.size = g8 at *
 have hcz0 := sc 0 BKg2
 have hcz1 := sc 1 BKg2
 have hcz2 := sc 2 BKg2
 have hca0 := sc 0 BKg8
 have hca1 := sc 1 BKg8
 have hca2 := sc 2 BKg8
 have hca3 := sc 3 BKg8
 have hca4 := sc 4 BKg8
 have hca5 := sc 5 BKg8
 have hca6 := sc 6 BKg8
 refine start_ (n := 11) (S := fun w' => w'.cell? ⟨g2, 0, none⟩ = some (.slice A0 l0.length c0) ∧ w'.cell? ⟨g2, 1, none⟩ = some (.slice A1 l1.length c1) ∧ w'.cell? ⟨g2, 2, none⟩ = some (.int .i64 wg) ∧ w'.cell? ⟨g8, 0, none⟩ = some (.int .i64 (pad l 0)) ∧ w'.cell? ⟨g8, 1, none⟩ = some (.int .i64 (pad l 1)) ∧ w'.cell? ⟨g8, 2, none⟩ = some (.int .i64 (pad l 2)) ∧ w'.cell? ⟨g8, 3, none⟩ = some (.int .i64 (pad l 3)) ∧ w'.cell? ⟨g8, 4, none⟩ = some (.int .i64 (pad l 4)) ∧ w'.cell? ⟨g8, 5, none⟩ = some (.int .i64 (pad l 5)) ∧ w'.cell? ⟨g8, 6, none⟩ = some (.int .i64 (pad l 6))) (ds := []) (lm 11 0) (by kernel_rfl) rfl (by kernel_rfl) ⟨hcz0, hcz1, hcz2, hca0, hca1, hca2, hca3, hca4, hca5, hca6⟩ (fun hHeld => ?_)
 have hb := below_drew1 (Below.refl W5.heap.size W5)
 replace BKg2 := Aside0.mk (blk_below BKg2.out hb)
 replace BKg8 := Aside0.mk (blk_below BKg8.out hb)
 replace HB := Aside0.mk (below_step HB.out hb)
 replace hcz0 := (hb.cell (World.block_lt_of_cell? _ _ hcz0)).trans hcz0
 replace hcz1 := (hb.cell (World.block_lt_of_cell? _ _ hcz1)).trans hcz1
 replace hcz2 := (hb.cell (World.block_lt_of_cell? _ _ hcz2)).trans hcz2
 replace hca0 := (hb.cell (World.block_lt_of_cell? _ _ hca0)).trans hca0
 replace hca1 := (hb.cell (World.block_lt_of_cell? _ _ hca1)).trans hca1
 replace hca2 := (hb.cell (World.block_lt_of_cell? _ _ hca2)).trans hca2
 replace hca3 := (hb.cell (World.block_lt_of_cell? _ _ hca3)).trans hca3
 replace hca4 := (hb.cell (World.block_lt_of_cell? _ _ hca4)).trans hca4
 replace hca5 := (hb.cell (World.block_lt_of_cell? _ _ hca5)).trans hca5
 replace hca6 := (hb.cell (World.block_lt_of_cell? _ _ hca6)).trans hca6
 generalize W5.drew = W6 at *
 clear hb
 refine sP (i := 0) (N := some 16) (lm 11 1) ?_
 refine sP (i := 1) (N := some 17) (lm 11 3) ?_
 refine sP (i := 6) (N := some 22) (lm 11 67) ?_
 refine take_ (i := 2) (N := some 18) (v := ?_) (a' := ?_) (lm 11 71) rfl rfl (by kernel_rfl) (fun _ _ _ h => h) (Or.inl ⟨by rfl, ?_⟩) hHeld ?_ ?_
 rotate_left
 ·rintro w' ⟨s0, s1, s2, s3, s4, s5, s6, s7, s8, s9⟩
  go_simp
  with_reducible rfl
 rotate_left
 ·simp only [Act.put, List.setIfInBounds_toArray, List.set_cons_zero, List.set_cons_succ, i64_w, i32_w]
  rfl
 refine take_ (i := 3) (N := some 19) (v := ?_) (a' := ?_) (lm 11 79) rfl rfl (by kernel_rfl) (fun _ _ _ h => h) (Or.inl ⟨by rfl, ?_⟩) hHeld ?_ ?_
 rotate_left
 ·rintro w' ⟨s0, s1, s2, s3, s4, s5, s6, s7, s8, s9⟩
  go_simp
  with_reducible rfl
 rotate_left
 ·simp only [Act.put, List.setIfInBounds_toArray, List.set_cons_zero, List.set_cons_succ, i64_w, i32_w]
  rfl
 refine take_ (i := 7) (N := some 23) (v := ?_) (a' := ?_) (lm 11 207) rfl rfl (by kernel_rfl) (fun _ _ _ h => h) (Or.inl ⟨by rfl, ?_⟩) hHeld ?_ ?_
 rotate_left
 ·rintro w' ⟨s0, s1, s2, s3, s4, s5, s6, s7, s8, s9⟩
  go_simp
  with_reducible rfl
 rotate_left
 ·simp only [Act.put, List.setIfInBounds_toArray, List.set_cons_zero, List.set_cons_succ, i64_w, i32_w]
  rfl
 refine one_ (i := 4) (N := some 20) (lm 11 223) rfl rfl (by kernel_rfl) (by decide) (fun K hK => ?_)
 refine goes_ Try.func86 (by kernel_rfl) rfl #[.agg #[.slice A0 l0.length c0, .slice A1 l1.length c1, .int .i64 wg], .agg #[.int .i64 (pad l 0), .int .i64 (pad l 1), .int .i64 (pad l 2), .int .i64 (pad l 3), .int .i64 (pad l 4), .int .i64 (pad l 5), .int .i64 (pad l 6)]] (by rfl) rfl rfl (by simp only [List.map_toArray, List.map_cons, List.map_nil]; rfl) ?_
 with_reducible refine (wrong_calls A0 c0 l0 A1 c1 l1 wg (pad l) W6 (HT.out.below HB.out).r0 HT.out.n0 HN1.out HOW.out).mono ?_
 rintro e W7 ⟨v20, rfl, ho, hb⟩
 refine ⟨_, rfl, ?_⟩
 replace hcz0 := (hb.cell (World.block_lt_of_cell? _ _ hcz0)).trans hcz0
 replace hcz1 := (hb.cell (World.block_lt_of_cell? _ _ hcz1)).trans hcz1
 replace hcz2 := (hb.cell (World.block_lt_of_cell? _ _ hcz2)).trans hcz2
 replace hca0 := (hb.cell (World.block_lt_of_cell? _ _ hca0)).trans hca0
 replace hca1 := (hb.cell (World.block_lt_of_cell? _ _ hca1)).trans hca1
 replace hca2 := (hb.cell (World.block_lt_of_cell? _ _ hca2)).trans hca2
 replace hca3 := (hb.cell (World.block_lt_of_cell? _ _ hca3)).trans hca3
 replace hca4 := (hb.cell (World.block_lt_of_cell? _ _ hca4)).trans hca4
 replace hca5 := (hb.cell (World.block_lt_of_cell? _ _ hca5)).trans hca5
 replace hca6 := (hb.cell (World.block_lt_of_cell? _ _ hca6)).trans hca6
 replace BKg2 := Aside0.mk (blk_below BKg2.out hb)
 replace BKg8 := Aside0.mk (blk_below BKg8.out hb)
 replace HB := Aside0.mk (below_step HB.out hb)
 obtain ⟨Ab, cb, eb⟩ := Kd.R_slice ho
 subst eb
 clear ho
 clear hb
 refine hK.out _ _ ⟨hcz0, hcz1, hcz2, hca0, hca1, hca2, hca3, hca4, hca5, hca6⟩ (fun hHeld => ?_)
 clear hK K
 refine sN ?_
 refine sP (i := 5) (N := some 21) (lm 11 255) ?_
 refine sP (i := 8) (N := some 24) (lm 11 511) ?_
 refine sP (i := 9) (N := some 25) (lm 11 1023) ?_
 refine sP (i := 10) (N := some 4) (lm 11 2047) ?_
 refine done_ (by kernel_rfl) ?_
 go_wp2
 go_ret
 exact ⟨rfl, HB.out⟩
def provedT (l0 : List S109) (l1 : List S110) (wg : Int) (l : List Int) : Bool := decide (checkT l0 l1 wg = 0) && (areB l0 l1 l && isT l0 l1.length wg l)
theorem ProveTruth_calls {A0 : Option Addr} {c0 : Nat} {l0 : List S109} {A1 : Option Addr} {c1 : Nat} {l1 : List S110} (wg : Int) {Al : Option Addr} {cl : Nat} {l : List Int} {w : World} (ht : Tab A0 c0 l0 A1 c1 l1 w) (hrl : Kd.C (Kd.int .i64) w Al l.length l) (hcl : l.length ≤ cl) (hll : l.length ≤ 1000000) :
  Calls Try.prog 60 #[.agg #[.slice A0 l0.length c0, .slice A1 l1.length c1, .int .i64 wg], .slice Al l.length cl] w fun e w' => e = .returned (.bool (provedT l0 l1 wg l)) ∧ Below w.heap.size w w' := by
 unfold provedT
 by_cases he : checkT l0 l1 wg = 0
 ·cases ha : areB l0 l1 l with
  | true => rw [decide_eq_true he]; exact ProveTruth_ok wg ht hrl hcl hll he ha
  | false => rw [decide_eq_true he]; exact ProveTruth_no wg ht hrl hcl hll he ha
 ·rw [decide_eq_false he]; exact ProveTruth_e wg ht hrl hcl hll he
end Go.Proofs.Ytnbbbeghgomnoaa.X
namespace Go.Proofs.Ytnbbbeghgomnoaa.X
open Go.RowKit Go.Proofs.YtnbbbeghgomnoaaW.PrintWords Go.Proofs.YtnbbbeghgomnoaaW.PrintLast Go.Proofs.YtnbbbeghgomnoaaW.PrintMore
attribute [local go_sem] max2_int min2_int max_two min_two max_three min_three max_four min_four
set_option linter.unusedVariables false
set_option linter.unusedSimpArgs false
set_option maxHeartbeats 8000000 in
set_option maxRecDepth 100000 in
theorem posserlaw03_fault.calls (k : Nat) (A0_0 : Option Addr) (c0_0 : Nat) (l0_0 : List (S85)) (A0_1 : Option Addr) (c0_1 : Nat) (l0_1 : List (S71)) (a0_2 : Int) (r : Int) (w : World) (hr0_0 : Kd.C k85 w A0_0 l0_0.length l0_0) (hc0_0 : l0_0.length ≤ c0_0) (hr0_1 : Kd.C k71 w A0_1 l0_1.length l0_1) (hc0_1 : l0_1.length ≤ c0_1) (h : posserlaw03_fault.f k l0_0 l0_1 a0_2 = some r) :
  Calls Try.prog 33 #[.agg #[.slice A0_0 l0_0.length c0_0, .slice A0_1 l0_1.length c0_1, .int .i64 a0_2]] w fun e w' => e = .returned (.int .i64 r) ∧ Below w.heap.size w w' := by
 have hu25 := Try.underlying25
 have HR0_0 := Aside0.mk hr0_0
 have HC0_0 := Aside0.mk hc0_0
 clear hr0_0 hc0_0
 have HR0_1 := Aside0.mk hr0_1
 have HC0_1 := Aside0.mk hc0_1
 clear hr0_1 hc0_1
 have HB := Aside0.mk (Below.refl w.heap.size w)
 have H : ((posserref03_Fault.f k l0_0 l0_1 a0_2).bind fun t132 => (some t132)) = some r := h
 clear h
 replace H := Option.bind_eq_some_iff.mp H
 obtain ⟨t132, A20, H⟩ := H
 replace H : (some t132) = some r := H
 have A2 := Aside0.mk A20
 clear A20
 obtain rfl := Option.some.inj H
 go_enter Try.func33, Try.ntmps33
 go_wp2_with (first | ((with_reducible refine gate_dst (N := 1) rfl ?_); refine sbox (N := 1) #[.slice A0_0 l0_0.length c0_0, .slice A0_1 l0_1.length c0_1, .int .i64 a0_2] 25 ?_; intro gb131 hg w3 hbox hb; have BK131 := Aside0.mk (hbox); have GW131 := Aside0.mk (sge hg HB : w.heap.size ≤ gb131); have GE131 := Aside0.mk (sge hg HB : w.heap.size ≤ gb131); replace HB := Aside0.mk (sbs HB hb); clear hb hbox hg; have hcz4_0 := sc 0 BK131; have hcz4_1 := sc 1 BK131; have hcz4_2 := sc 2 BK131; have hfz4_0 := blk_frozen BK131.out 0; have hfz4_1 := blk_frozen BK131.out 1; have hfz4_2 := blk_frozen BK131.out 2) | ((with_reducible refine gate_callee (f := 75) rfl ?_); refine goesL_ (some 4) rfl rfl Try.func75 (by kernel_rfl) rfl #[.agg #[.slice A0_0 l0_0.length c0_0, .slice A0_1 l0_1.length c0_1, .int .i64 a0_2]] rfl (by (try simp only [List.map_toArray, List.map_cons, List.map_nil]); first | done | rfl | (simp only [List.length_drop, List.length_take]; rfl)) ?_; (with_reducible refine (posserref03_Fault.calls k _ _ l0_0 _ _ l0_1 a0_2 t132 _ ?side1 ?side2 ?side3 ?side4 A2.out).mono ?_); (case side1 => exact sCb HR0_0 HB); (case side2 => exact HC0_0.out); (case side3 => exact sCb HR0_1 HB); (case side4 => exact HC0_1.out); rintro e w5 ⟨rfl, hb⟩; refine ⟨_, rfl, ?_⟩; replace BK131 := Aside0.mk (sbb BK131 hb); replace HB := Aside0.mk (sbs1 HB GE131 hb); (try clear hb); (try clear hb2); (try clear hk); (try clear hi)))
 go_ret
 exact ⟨by first | rfl | (simp [errW_none, errW_some] <;> rfl) | (simp [*, errW_none, errW_some] <;> rfl), (sbe1 HB GE131)⟩
end Go.Proofs.Ytnbbbeghgomnoaa.X
namespace Go.Proofs.Ytnbbbeghgomnoaa.X
open Go.RowKit Go.Proofs.YtnbbbeghgomnoaaW.PrintWords Go.Proofs.YtnbbbeghgomnoaaW.PrintLast Go.Proofs.YtnbbbeghgomnoaaW.PrintMore
attribute [local go_sem] max2_int min2_int max_two min_two max_three min_three max_four min_four
set_option linter.unusedVariables false
set_option linter.unusedSimpArgs false
def posserref03_AreOwners.T6 : Bool × List (List Nat × List Nat) := (true, [([], []), ([], []), ([0, 1], [0, 1]), ([], []), ([], []), ([3, 4], [3, 4]), ([5], [5]), ([2, 6, 2], [2, 6]), ([7], [7])])
def posserref03_AreOwners.B6 : List Nat := [0, 0, 3, 0, 0, 24, 56, 127, 255]
theorem posserref03_AreOwners.tab6 : rtab .any (opsOf Try.f62 6) = posserref03_AreOwners.T6 := by kernel_rfl
theorem posserref03_AreOwners.bits6 : waitsOk posserref03_AreOwners.T6.2 posserref03_AreOwners.B6 = true := by kernel_rfl
set_option maxHeartbeats 8000000 in
set_option maxRecDepth 100000 in
theorem posserref03_AreOwners.calls (k : Nat) (A0_0 : Option Addr) (c0_0 : Nat) (l0_0 : List (S85)) (A0_1 : Option Addr) (c0_1 : Nat) (l0_1 : List (S71)) (a0_2 : Int) (A1 : Option Addr) (c1 : Nat) (l1 : List Int) (r : Bool) (w : World) (hr0_0 : Kd.C k85 w A0_0 l0_0.length l0_0) (hc0_0 : l0_0.length ≤ c0_0) (hr0_1 : Kd.C k71 w A0_1 l0_1.length l0_1) (hc0_1 : l0_1.length ≤ c0_1) (hr1 : Kd.C (Kd.int .i64) w A1 l1.length l1) (hc1 : l1.length ≤ c1) (h : posserref03_AreOwners.f k l0_0 l0_1 a0_2 l1 = some r) :
  Calls Try.prog 62 #[.agg #[.slice A0_0 l0_0.length c0_0, .slice A0_1 l0_1.length c0_1, .int .i64 a0_2], .slice A1 l1.length c1] w fun e w' => e = .returned (.bool r) ∧ Below w.heap.size w w' := by
 have hu25 := Try.underlying25
 have HR0_0 := Aside0.mk hr0_0
 have HC0_0 := Aside0.mk hc0_0
 clear hr0_0 hc0_0
 have HR0_1 := Aside0.mk hr0_1
 have HC0_1 := Aside0.mk hc0_1
 clear hr0_1 hc0_1
 have HR1 := Aside0.mk hr1
 have HC1 := Aside0.mk hc1
 clear hr1 hc1
 have HB := Aside0.mk (Below.refl w.heap.size w)
 have H : (if (l1.length : Int) = (l0_1.length : Int) then (posserref03_AreOwners.l0 k l1 0 l0_0 l0_1 a0_2) else (some false)) = some r := h
 clear h
 by_cases c3 : (l1.length : Int) = (l0_1.length : Int)
 ·rw [if_pos c3] at H
  have c3b0 : ((l1.length : Int) == (l0_1.length : Int)) = true := beq_iff_eq.mpr c3
  have c3b1 : ((l1.length : Int) != (l0_1.length : Int)) = false := bne_eq_false_iff_eq.mpr c3
  have c3b2 : (l1.length == l0_1.length) = true := by first | simpa using c3 | (simp at c3 ⊢; omega)
  clear c3
  have H' := Aside0.mk H
  clear H
  go_enter Try.func62, Try.ntmps62
  go_wp2_with (first | ((with_reducible refine gate_dst (N := 2) rfl ?_); refine sbox (N := 2) #[.slice A0_0 l0_0.length c0_0, .slice A0_1 l0_1.length c0_1, .int .i64 a0_2] 25 ?_; intro gb137 hg w4 hbox hb; have BK137 := Aside0.mk (hbox); have GW137 := Aside0.mk (sge hg HB : w.heap.size ≤ gb137); have GE137 := Aside0.mk (sge hg HB : w.heap.size ≤ gb137); replace HB := Aside0.mk (sbs HB hb); clear hb hbox hg; have hcz5_0 := sc 0 BK137; have hcz5_1 := sc 1 BK137; have hcz5_2 := sc 2 BK137; have hfz5_0 := blk_frozen BK137.out 0; have hfz5_1 := blk_frozen BK137.out 1; have hfz5_2 := blk_frozen BK137.out 2))
  go_loopg [5] k (fun kq v5 w' => ∃ (x5_1 : Int), v5 = .int .i64 x5_1 ∧ Aside0 (posserref03_AreOwners.l0 kq l1 x5_1 l0_0 l0_1 a0_2 = some r) ∧ Aside0 (kq ≤ k) ∧ Aside0 (w'.heap[gb137]? = some (.cells #[(.slice A0_0 l0_0.length c0_0), (.slice A0_1 l0_1.length c0_1), .int .i64 a0_2] 25 (0, 0))) ∧ Aside0 (Below w.heap.size w w'))
  case atStart => exact ⟨(0), (by first | rfl | (simp; done) | (simp [*]; done)), H', ⟨Nat.le_refl _⟩, ⟨by (with_reducible repeat (first | refine blk_drewN ?_ _ | refine blk_drew ?_ | refine blk_alloc ?_ _)); exact BK137.out⟩, ⟨(sbe1 HB GE137)⟩⟩
  case round =>
   clear H'
   try clear c1
   try clear p2
   try clear c3
   try clear c3b0
   try clear c3b1
   try clear c3b2
   try clear hcz5_0
   try clear hcz5_1
   try clear hcz5_2
   try clear hfz5_0
   try clear hfz5_1
   try clear hfz5_2
   obtain ⟨x5_1, rfl, HA, HK1, BK137, HB⟩ := hrel
   cases gk with
   | zero => exact absurd HA.out (by simp [posserref03_AreOwners.l0])
   | succ k1 =>
    have H := HA.out
    clear HA
    simp only [posserref03_AreOwners.l0] at H
    by_cases c6 : x5_1 < (l1.length : Int)
    ·rw [if_pos c6] at H
     have c6b0 : decide (x5_1 < (l1.length : Int)) = true := decide_eq_true c6
     clear c6
     replace H := Option.bind_eq_some_iff.mp H
     obtain ⟨t138, A70, H⟩ := H
     replace H : (if 0 ≤ x5_1 then ((posserref03_Has.f k1 t138 (rd l1 x5_1)).bind fun t142 => (if t142 = true then (posserref03_AreOwners.l0 k1 l1 (wrap64 (x5_1 + 1)) l0_0 l0_1 a0_2) else (some false))) else (none)) = some r := H
     have A7 := Aside0.mk A70
     clear A70
     by_cases c8 : 0 ≤ x5_1
     ·rw [if_pos c8] at H
      have c8b0 : decide (0 ≤ x5_1) = true := decide_eq_true c8
      clear c8
      replace H := Option.bind_eq_some_iff.mp H
      obtain ⟨t142, A90, H⟩ := H
      replace H : (if t142 = true then (posserref03_AreOwners.l0 k1 l1 (wrap64 (x5_1 + 1)) l0_0 l0_1 a0_2) else (some false)) = some r := H
      have A9 := Aside0.mk A90
      clear A90
      by_cases c10 : t142 = true
      ·subst c10
       have H1 : (posserref03_AreOwners.l0 k1 l1 (wrap64 (x5_1 + 1)) l0_0 l0_1 a0_2) = some r := by rw [if_pos rfl] at H; exact H
       clear H
       have H := H1
       clear H1
       have H' := Aside0.mk H
       clear H
       try go_wp2
       replace BK137 := Aside0.mk (blk_drew BK137.out)
       replace HB := Aside0.mk (below_drew1 HB.out)
       have p141 : 0 ≤ (x5_1 : Int) := of_decide_eq_true (by first | (with_reducible assumption) | assumption)
       have q141 : x5_1 < (l1.length : Int) := of_decide_eq_true (by first | (with_reducible assumption) | assumption)
       obtain ⟨ad141, e141, hx141_0⟩ := Kd.at_int HR1.out x5_1 p141 q141
       have hw141_0 := hx141_0
       cases e141
       replace hx141_0 := (HB.out.cell (World.block_lt_of_cell? w _ hx141_0)).trans hx141_0
       replace p141 := eq_true p141
       replace q141 := eq_true q141
       refine start_ (n := 9) (S := fun w' => w'.cell? ⟨gb137, 0, none⟩ = some (.slice A0_0 l0_0.length c0_0) ∧ w'.cell? ⟨gb137, 1, none⟩ = some (.slice A0_1 l0_1.length c0_1) ∧ w'.cell? ⟨gb137, 2, none⟩ = some (.int .i64 a0_2) ∧ w'.cell? (ad141.add (x5_1).toNat) = some (.int .i64 (rd l1 x5_1))) (ds := []) (lm 9 0) (by kernel_rfl) rfl (by kernel_rfl) ⟨(blk_cell BK137.out 0).trans rfl, (blk_cell BK137.out 1).trans rfl, (blk_cell BK137.out 2).trans rfl, ((HB.out.cell (World.block_lt_of_cell? w _ hw141_0)).trans hw141_0)⟩ (fun hHeld => ?_); refine with_tabW posserref03_AreOwners.tab6 posserref03_AreOwners.bits6 (fun HT_ HW_ => ?_)
       generalize wr.drew = w11 at BK137 HB hx141_0 hHeld ⊢
       refine sP (i := 1) (N := some 19) (lm 9 2) ?_ (hc := any_of HT_.out (by kernel_rfl))
       refine sP (i := 3) (N := some 21) (lm 9 10) ?_ (hc := any_of HT_.out (by kernel_rfl))
       refine sP (i := 4) (N := some 22) (lm 9 26) ?_ (hc := any_of HT_.out (by kernel_rfl))
       refine sP (i := 5) (N := some 23) (lm 9 58) ?_ (hc := any_of HT_.out (by kernel_rfl))
       refine take_ (i := 0) (N := some 18) (v := ?_) (a' := ?_) (lm 9 59) rfl rfl (take_ofW HT_.out HW_.out (by kernel_rfl)) (fun _ _ _ h => h) (Or.inl ⟨by rfl, ?_⟩) hHeld ?_ ?_
       rotate_left
       ·rintro w' ⟨s0, s1, s2, s3⟩
        go_simp
        with_reducible rfl
       rotate_left
       ·simp only [Act.put, List.setIfInBounds_toArray, List.set_cons_zero, List.set_cons_succ, i64_w, i32_w]
        rfl
       refine take_ (i := 6) (N := some 24) (v := ?_) (a' := ?_) (lm 9 123) rfl rfl (take_ofW HT_.out HW_.out (by kernel_rfl)) (fun _ _ _ h => h) (Or.inl ⟨by rfl, ?_⟩) hHeld ?_ ?_
       rotate_left
       ·rintro w' ⟨s0, s1, s2, s3⟩
        go_simp
        with_reducible rfl
       rotate_left
       ·simp only [Act.put, List.setIfInBounds_toArray, List.set_cons_zero, List.set_cons_succ, i64_w, i32_w]
        rfl
       refine one_ (i := 2) (N := some 20) (lm 9 127) rfl rfl (one_of HT_.out (by kernel_rfl)) (by decide) (fun K hK => ?_)
       refine goes_ Try.func94 (by kernel_rfl) rfl #[.agg #[.slice A0_0 l0_0.length c0_0, .slice A0_1 l0_1.length c0_1, .int .i64 a0_2], .int .i64 x5_1] (by rfl) rfl rfl (by (try simp only [List.map_toArray, List.map_cons, List.map_nil]); first | done | rfl | (simp only [List.length_drop, List.length_take]; rfl)) ?_
       with_reducible refine (posserref03_WomenOf.calls k1 _ _ l0_0 _ _ l0_1 a0_2 x5_1 t138 _ ?side1 ?side2 ?side3 ?side4 A7.out).mono ?_
       (case side1 => exact sCb HR0_0 HB)
       (case side2 => exact HC0_0.out)
       (case side3 => exact sCb HR0_1 HB)
       (case side4 => exact HC0_1.out)
       rintro e w12 ⟨v139, rfl, ho0, hb⟩
       refine ⟨_, rfl, ?_⟩
       have HO140 := Aside0.mk (Kd.R_lower ho0 (below_size (sbe1 HB GE137)))
       replace BK137 := Aside0.mk (sbb BK137 hb)
       replace HB := Aside0.mk (sbs1 HB GE137 hb)
       (try clear hb)
       (try clear hb2)
       (try clear hk)
       (try clear hi)
       (try clear ho0)
       obtain ⟨Ao13, co13, eo13⟩ := Kd.R_slice HO140.out
       (first | subst eo13 | (injection eo13 with f1_ f2_ f3_; have f4_ := f1_.symm; have f5_ := f3_.symm; clear f1_ f2_ f3_; subst f4_; subst f5_))
       refine hK.out _ _ ⟨(blk_cell BK137.out 0).trans rfl, (blk_cell BK137.out 1).trans rfl, (blk_cell BK137.out 2).trans rfl, ((HB.out.cell (World.block_lt_of_cell? w _ hw141_0)).trans hw141_0)⟩ (fun hHeld => ?_)
       clear hK K
       refine sN ?_
       refine one_ (i := 7) (N := some 25) (lm 9 255) rfl rfl (one_of HT_.out (by kernel_rfl)) (by decide) (fun K hK => ?_)
       refine goes_ Try.func56 (by kernel_rfl) rfl #[.slice Ao13 t138.length co13, .int .i64 (rd l1 x5_1)] (by rfl) rfl rfl (by (try simp only [List.map_toArray, List.map_cons, List.map_nil]); first | done | rfl | (simp only [List.length_drop, List.length_take]; rfl)) ?_
       with_reducible refine (posserref03_Has.calls k1 _ _ t138 (rd l1 x5_1) true _ ?side1 ?side2 A9.out).mono ?_
       (case side1 => repeat (first | exact (Kd.R_reads' HO140.out).2.2 | (with_reducible refine Kd.C_alloc ?_ _) | (with_reducible refine Kd.C_drewN ?_ _) | (with_reducible refine Kd.C_drew ?_)))
       (case side2 => exact (Kd.R_reads' HO140.out).2.1)
       rintro e w' ⟨rfl, ⟨nd, rfl⟩⟩
       refine ⟨_, rfl, ?_⟩
       refine hK.out _ _ ⟨(blk_cell BK137.out 0).trans rfl, (blk_cell BK137.out 1).trans rfl, (blk_cell BK137.out 2).trans rfl, ((HB.out.cell (World.block_lt_of_cell? w _ hw141_0)).trans hw141_0)⟩ (fun hHeld => ?_)
       clear hK K
       refine sN ?_
       refine sP (i := 8) (N := some 26) (lm 9 511) ?_ (hc := any_of HT_.out (by kernel_rfl))
       refine done_ (done_of HT_.out (by kernel_rfl)) ?_
       try go_wp2
       go_roundg k1
       case measure => have := HK1.out; omega
       case rel => exact ⟨(wrap64 (x5_1 + 1)), (by first | rfl | (simp; done) | (simp [*]; done)), H', ⟨by have := HK1.out; omega⟩, ⟨by (with_reducible repeat (first | refine blk_drewN ?_ _ | refine blk_drew ?_ | refine blk_alloc ?_ _)); exact BK137.out⟩, ⟨(sbe1 HB GE137)⟩⟩
      ·replace c10 := Bool.eq_false_iff.mpr c10
       subst c10
       have H1 : (some false) = some r := by rw [if_neg (show ¬ (false = true) by decide)] at H; exact H
       clear H
       have H := H1
       clear H1
       obtain rfl := Option.some.inj H
       try go_wp2
       replace BK137 := Aside0.mk (blk_drew BK137.out)
       replace HB := Aside0.mk (below_drew1 HB.out)
       have p141 : 0 ≤ (x5_1 : Int) := of_decide_eq_true (by first | (with_reducible assumption) | assumption)
       have q141 : x5_1 < (l1.length : Int) := of_decide_eq_true (by first | (with_reducible assumption) | assumption)
       obtain ⟨ad141, e141, hx141_0⟩ := Kd.at_int HR1.out x5_1 p141 q141
       have hw141_0 := hx141_0
       cases e141
       replace hx141_0 := (HB.out.cell (World.block_lt_of_cell? w _ hx141_0)).trans hx141_0
       replace p141 := eq_true p141
       replace q141 := eq_true q141
       refine start_ (n := 9) (S := fun w' => w'.cell? ⟨gb137, 0, none⟩ = some (.slice A0_0 l0_0.length c0_0) ∧ w'.cell? ⟨gb137, 1, none⟩ = some (.slice A0_1 l0_1.length c0_1) ∧ w'.cell? ⟨gb137, 2, none⟩ = some (.int .i64 a0_2) ∧ w'.cell? (ad141.add (x5_1).toNat) = some (.int .i64 (rd l1 x5_1))) (ds := []) (lm 9 0) (by kernel_rfl) rfl (by kernel_rfl) ⟨(blk_cell BK137.out 0).trans rfl, (blk_cell BK137.out 1).trans rfl, (blk_cell BK137.out 2).trans rfl, ((HB.out.cell (World.block_lt_of_cell? w _ hw141_0)).trans hw141_0)⟩ (fun hHeld => ?_); refine with_tabW posserref03_AreOwners.tab6 posserref03_AreOwners.bits6 (fun HT_ HW_ => ?_)
       generalize wr.drew = w14 at BK137 HB hx141_0 hHeld ⊢
       refine sP (i := 1) (N := some 19) (lm 9 2) ?_ (hc := any_of HT_.out (by kernel_rfl))
       refine sP (i := 3) (N := some 21) (lm 9 10) ?_ (hc := any_of HT_.out (by kernel_rfl))
       refine sP (i := 4) (N := some 22) (lm 9 26) ?_ (hc := any_of HT_.out (by kernel_rfl))
       refine sP (i := 5) (N := some 23) (lm 9 58) ?_ (hc := any_of HT_.out (by kernel_rfl))
       refine take_ (i := 0) (N := some 18) (v := ?_) (a' := ?_) (lm 9 59) rfl rfl (take_ofW HT_.out HW_.out (by kernel_rfl)) (fun _ _ _ h => h) (Or.inl ⟨by rfl, ?_⟩) hHeld ?_ ?_
       rotate_left
       ·rintro w' ⟨s0, s1, s2, s3⟩
        go_simp
        with_reducible rfl
       rotate_left
       ·simp only [Act.put, List.setIfInBounds_toArray, List.set_cons_zero, List.set_cons_succ, i64_w, i32_w]
        rfl
       refine take_ (i := 6) (N := some 24) (v := ?_) (a' := ?_) (lm 9 123) rfl rfl (take_ofW HT_.out HW_.out (by kernel_rfl)) (fun _ _ _ h => h) (Or.inl ⟨by rfl, ?_⟩) hHeld ?_ ?_
       rotate_left
       ·rintro w' ⟨s0, s1, s2, s3⟩
        go_simp
        with_reducible rfl
       rotate_left
       ·simp only [Act.put, List.setIfInBounds_toArray, List.set_cons_zero, List.set_cons_succ, i64_w, i32_w]
        rfl
       refine one_ (i := 2) (N := some 20) (lm 9 127) rfl rfl (one_of HT_.out (by kernel_rfl)) (by decide) (fun K hK => ?_)
       refine goes_ Try.func94 (by kernel_rfl) rfl #[.agg #[.slice A0_0 l0_0.length c0_0, .slice A0_1 l0_1.length c0_1, .int .i64 a0_2], .int .i64 x5_1] (by rfl) rfl rfl (by (try simp only [List.map_toArray, List.map_cons, List.map_nil]); first | done | rfl | (simp only [List.length_drop, List.length_take]; rfl)) ?_
       with_reducible refine (posserref03_WomenOf.calls k1 _ _ l0_0 _ _ l0_1 a0_2 x5_1 t138 _ ?side1 ?side2 ?side3 ?side4 A7.out).mono ?_
       (case side1 => exact sCb HR0_0 HB)
       (case side2 => exact HC0_0.out)
       (case side3 => exact sCb HR0_1 HB)
       (case side4 => exact HC0_1.out)
       rintro e w15 ⟨v139, rfl, ho0, hb⟩
       refine ⟨_, rfl, ?_⟩
       have HO140 := Aside0.mk (Kd.R_lower ho0 (below_size (sbe1 HB GE137)))
       replace BK137 := Aside0.mk (sbb BK137 hb)
       replace HB := Aside0.mk (sbs1 HB GE137 hb)
       (try clear hb)
       (try clear hb2)
       (try clear hk)
       (try clear hi)
       (try clear ho0)
       obtain ⟨Ao16, co16, eo16⟩ := Kd.R_slice HO140.out
       (first | subst eo16 | (injection eo16 with f1_ f2_ f3_; have f4_ := f1_.symm; have f5_ := f3_.symm; clear f1_ f2_ f3_; subst f4_; subst f5_))
       refine hK.out _ _ ⟨(blk_cell BK137.out 0).trans rfl, (blk_cell BK137.out 1).trans rfl, (blk_cell BK137.out 2).trans rfl, ((HB.out.cell (World.block_lt_of_cell? w _ hw141_0)).trans hw141_0)⟩ (fun hHeld => ?_)
       clear hK K
       refine sN ?_
       refine one_ (i := 7) (N := some 25) (lm 9 255) rfl rfl (one_of HT_.out (by kernel_rfl)) (by decide) (fun K hK => ?_)
       refine goes_ Try.func56 (by kernel_rfl) rfl #[.slice Ao16 t138.length co16, .int .i64 (rd l1 x5_1)] (by rfl) rfl rfl (by (try simp only [List.map_toArray, List.map_cons, List.map_nil]); first | done | rfl | (simp only [List.length_drop, List.length_take]; rfl)) ?_
       with_reducible refine (posserref03_Has.calls k1 _ _ t138 (rd l1 x5_1) false _ ?side1 ?side2 A9.out).mono ?_
       (case side1 => repeat (first | exact (Kd.R_reads' HO140.out).2.2 | (with_reducible refine Kd.C_alloc ?_ _) | (with_reducible refine Kd.C_drewN ?_ _) | (with_reducible refine Kd.C_drew ?_)))
       (case side2 => exact (Kd.R_reads' HO140.out).2.1)
       rintro e w' ⟨rfl, ⟨nd, rfl⟩⟩
       refine ⟨_, rfl, ?_⟩
       refine hK.out _ _ ⟨(blk_cell BK137.out 0).trans rfl, (blk_cell BK137.out 1).trans rfl, (blk_cell BK137.out 2).trans rfl, ((HB.out.cell (World.block_lt_of_cell? w _ hw141_0)).trans hw141_0)⟩ (fun hHeld => ?_)
       clear hK K
       refine sN ?_
       refine sP (i := 8) (N := some 26) (lm 9 511) ?_ (hc := any_of HT_.out (by kernel_rfl))
       refine done_ (done_of HT_.out (by kernel_rfl)) ?_
       try go_wp2
       go_ret
       exact ⟨by first | rfl | (simp [errW_none, errW_some] <;> rfl) | (simp [*, errW_none, errW_some] <;> rfl), (sbe1 HB GE137)⟩
     ·rw [if_neg c8] at H
      exact absurd H (by simp)
    ·rw [if_neg c6] at H
     have c6b0 : decide (x5_1 < (l1.length : Int)) = false := decide_eq_false c6
     clear c6
     obtain rfl := Option.some.inj H
     go_wp2
     go_ret
     exact ⟨by first | rfl | (simp [errW_none, errW_some] <;> rfl) | (simp [*, errW_none, errW_some] <;> rfl), (sbe1 HB GE137)⟩
 ·rw [if_neg c3] at H
  have c3b0 : ((l1.length : Int) == (l0_1.length : Int)) = false := beq_eq_false_iff_ne.mpr c3
  have c3b1 : ((l1.length : Int) != (l0_1.length : Int)) = true := bne_iff_ne.mpr c3
  have c3b2 : (l1.length == l0_1.length) = false := by first | simpa using c3 | (simp at c3 ⊢; omega)
  obtain rfl := Option.some.inj H
  go_enter Try.func62, Try.ntmps62
  go_wp2_with (first | ((with_reducible refine gate_dst (N := 2) rfl ?_); refine sbox (N := 2) #[.slice A0_0 l0_0.length c0_0, .slice A0_1 l0_1.length c0_1, .int .i64 a0_2] 25 ?_; intro gb137 hg w17 hbox hb; have BK137 := Aside0.mk (hbox); have GW137 := Aside0.mk (sge hg HB : w.heap.size ≤ gb137); have GE137 := Aside0.mk (sge hg HB : w.heap.size ≤ gb137); replace HB := Aside0.mk (sbs HB hb); clear hb hbox hg; have hcz18_0 := sc 0 BK137; have hcz18_1 := sc 1 BK137; have hcz18_2 := sc 2 BK137; have hfz18_0 := blk_frozen BK137.out 0; have hfz18_1 := blk_frozen BK137.out 1; have hfz18_2 := blk_frozen BK137.out 2))
  go_ret
  exact ⟨by first | rfl | (simp [errW_none, errW_some] <;> rfl) | (simp [*, errW_none, errW_some] <;> rfl), (sbe1 HB GE137)⟩
end Go.Proofs.Ytnbbbeghgomnoaa.X
namespace Go.Proofs.Ytnbbbeghgomnoaa.X
open Go.RowKit Go.Proofs.YtnbbbeghgomnoaaW.PrintWords Go.Proofs.YtnbbbeghgomnoaaW.PrintLast Go.Proofs.YtnbbbeghgomnoaaW.PrintMore
attribute [local go_sem] max2_int min2_int max_two min_two max_three min_three max_four min_four
set_option linter.unusedVariables false
set_option linter.unusedSimpArgs false
set_option maxHeartbeats 8000000 in
set_option maxRecDepth 100000 in
theorem posserref03_Own.calls (k : Nat) (A0 : Option Addr) (c0 : Nat) (l0 : List Int) (a1 : Int) (r : Int) (w : World) (hr0 : Kd.C (Kd.int .i64) w A0 l0.length l0) (hc0 : l0.length ≤ c0) (h : posserref03_Own.f k l0 a1 = some r) :
  Calls Try.prog 63 #[.slice A0 l0.length c0, .int .i64 a1] w fun e w' => e = .returned (.int .i64 r) ∧ Drawn0 w w' := by
 have HR0 := Aside0.mk hr0
 have HC0 := Aside0.mk hc0
 clear hr0 hc0
 have H : (posserref03_Own.l0 k l0 a1 0 0) = some r := h
 clear h
 have H' := Aside0.mk H
 clear H
 go_enter Try.func63, Try.ntmps63
 go_wp2
 go_loopg [5, 6] k (fun kq v5 v6 w' => ∃ (x5_1 : Int) (x6_1 : Int), v5 = .int .i64 x5_1 ∧ v6 = .int .i64 x6_1 ∧ Aside0 (posserref03_Own.l0 kq l0 a1 x5_1 x6_1 = some r) ∧ Aside0 (kq ≤ k) ∧ Drawn0 w w')
 case atStart => exact ⟨(0), (0), (by first | rfl | (simp; done) | (simp [*]; done)), (by first | rfl | (simp; done) | (simp [*]; done)), H', ⟨Nat.le_refl _⟩, by repeat (first | exact Drawn0.refl _ | apply Drawn0.step)⟩
 case round =>
  clear H'
  try clear p2
  obtain ⟨x5_1, x6_1, rfl, rfl, HA, HK1, ⟨m1, rfl⟩⟩ := hrel
  cases gk with
  | zero => exact absurd HA.out (by simp [posserref03_Own.l0])
  | succ k1 =>
   have H := HA.out
   clear HA
   simp only [posserref03_Own.l0] at H
   by_cases c3 : x6_1 < (l0.length : Int)
   ·rw [if_pos c3] at H
    have c3b0 : decide (x6_1 < (l0.length : Int)) = true := decide_eq_true c3
    clear c3
    by_cases c4 : 0 ≤ x6_1
    ·rw [if_pos c4] at H
     have c4b0 : decide (0 ≤ x6_1) = true := decide_eq_true c4
     clear c4
     by_cases c5 : (rd l0 x6_1) = a1
     ·rw [if_pos c5] at H
      have c5b0 : ((rd l0 x6_1) == a1) = true := beq_iff_eq.mpr c5
      have c5b1 : ((rd l0 x6_1) != a1) = false := bne_eq_false_iff_eq.mpr c5
      clear c5
      have H' := Aside0.mk H
      clear H
      have p143 : 0 ≤ (x6_1 : Int) := of_decide_eq_true (by first | (with_reducible assumption) | assumption)
      have q143 : x6_1 < (l0.length : Int) := of_decide_eq_true (by first | (with_reducible assumption) | assumption)
      obtain ⟨ad143, e143, hx143_0⟩ := Kd.at_int HR0.out x6_1 p143 q143
      cases e143
      replace p143 := eq_true p143
      replace q143 := eq_true q143
      go_wp2
      go_roundg k1
      case measure => have := HK1.out; omega
      case rel => exact ⟨(wrap64 (x5_1 + 1)), (wrap64 (x6_1 + 1)), (by first | rfl | (simp; done) | (simp [*]; done)), (by first | rfl | (simp; done) | (simp [*]; done)), H', ⟨by have := HK1.out; omega⟩, by repeat (first | exact Drawn0.refl _ | apply Drawn0.step)⟩
     ·rw [if_neg c5] at H
      have c5b0 : ((rd l0 x6_1) == a1) = false := beq_eq_false_iff_ne.mpr c5
      have c5b1 : ((rd l0 x6_1) != a1) = true := bne_iff_ne.mpr c5
      have H' := Aside0.mk H
      clear H
      have p143 : 0 ≤ (x6_1 : Int) := of_decide_eq_true (by first | (with_reducible assumption) | assumption)
      have q143 : x6_1 < (l0.length : Int) := of_decide_eq_true (by first | (with_reducible assumption) | assumption)
      obtain ⟨ad143, e143, hx143_0⟩ := Kd.at_int HR0.out x6_1 p143 q143
      cases e143
      replace p143 := eq_true p143
      replace q143 := eq_true q143
      go_wp2
      go_roundg k1
      case measure => have := HK1.out; omega
      case rel => exact ⟨(x5_1), (wrap64 (x6_1 + 1)), (by first | rfl | (simp; done) | (simp [*]; done)), (by first | rfl | (simp; done) | (simp [*]; done)), H', ⟨by have := HK1.out; omega⟩, by repeat (first | exact Drawn0.refl _ | apply Drawn0.step)⟩
    ·rw [if_neg c4] at H
     exact absurd H (by simp)
   ·rw [if_neg c3] at H
    have c3b0 : decide (x6_1 < (l0.length : Int)) = false := decide_eq_false c3
    clear c3
    obtain rfl := Option.some.inj H
    go_wp2
    go_ret
    exact ⟨by first | rfl | (simp; done) | (simp [*]; done), by repeat (first | exact Drawn0.refl _ | apply Drawn0.step)⟩
end Go.Proofs.Ytnbbbeghgomnoaa.X
namespace Go.Proofs.Ytnbbbeghgomnoaa.X
open Go.RowKit Go.Proofs.YtnbbbeghgomnoaaW.PrintWords Go.Proofs.YtnbbbeghgomnoaaW.PrintLast Go.Proofs.YtnbbbeghgomnoaaW.PrintMore
attribute [local go_sem] max2_int min2_int max_two min_two max_three min_three max_four min_four
set_option linter.unusedVariables false
set_option linter.unusedSimpArgs false
set_option maxHeartbeats 8000000 in
set_option maxRecDepth 100000 in
theorem posserref03_Right.calls (k : Nat) (A0_0 : Option Addr) (c0_0 : Nat) (l0_0 : List (S85)) (A0_1 : Option Addr) (c0_1 : Nat) (l0_1 : List (S71)) (a0_2 : Int) (A1 : Option Addr) (c1 : Nat) (l1 : List Int) (r : Int) (w : World) (hr0_0 : Kd.C k85 w A0_0 l0_0.length l0_0) (hc0_0 : l0_0.length ≤ c0_0) (hr0_1 : Kd.C k71 w A0_1 l0_1.length l0_1) (hc0_1 : l0_1.length ≤ c0_1) (hr1 : Kd.C (Kd.int .i64) w A1 l1.length l1) (hc1 : l1.length ≤ c1) (h : posserref03_Right.f k l0_0 l0_1 a0_2 l1 = some r) :
  Calls Try.prog 77 #[.agg #[.slice A0_0 l0_0.length c0_0, .slice A0_1 l0_1.length c0_1, .int .i64 a0_2], .slice A1 l1.length c1] w fun e w' => e = .returned (.int .i64 r) ∧ Below w.heap.size w w' := by
 have hu25 := Try.underlying25
 have HR0_0 := Aside0.mk hr0_0
 have HC0_0 := Aside0.mk hc0_0
 clear hr0_0 hc0_0
 have HR0_1 := Aside0.mk hr0_1
 have HC0_1 := Aside0.mk hc0_1
 clear hr0_1 hc0_1
 have HR1 := Aside0.mk hr1
 have HC1 := Aside0.mk hc1
 clear hr1 hc1
 have HB := Aside0.mk (Below.refl w.heap.size w)
 have H : (posserref03_Right.l0 k l1 0 0 l0_0 l0_1 a0_2) = some r := h
 clear h
 have H' := Aside0.mk H
 clear H
 go_enter Try.func77, Try.ntmps77
 go_wp2_with (first | ((with_reducible refine gate_dst (N := 2) rfl ?_); refine sbox (N := 2) #[.slice A0_0 l0_0.length c0_0, .slice A0_1 l0_1.length c0_1, .int .i64 a0_2] 25 ?_; intro gb144 hg w3 hbox hb; have BK144 := Aside0.mk (hbox); have GW144 := Aside0.mk (sge hg HB : w.heap.size ≤ gb144); have GE144 := Aside0.mk (sge hg HB : w.heap.size ≤ gb144); replace HB := Aside0.mk (sbs HB hb); clear hb hbox hg))
 repeat (go_quiet (first | ((with_reducible refine gate_dst (N := 2) rfl ?_); refine sbox (N := 2) #[.slice A0_0 l0_0.length c0_0, .slice A0_1 l0_1.length c0_1, .int .i64 a0_2] 25 ?_; intro gb144 hg w3 hbox hb; have BK144 := Aside0.mk (hbox); have GW144 := Aside0.mk (sge hg HB : w.heap.size ≤ gb144); have GE144 := Aside0.mk (sge hg HB : w.heap.size ≤ gb144); replace HB := Aside0.mk (sbs HB hb); clear hb hbox hg)); try go_wp2_with (first | ((with_reducible refine gate_dst (N := 2) rfl ?_); refine sbox (N := 2) #[.slice A0_0 l0_0.length c0_0, .slice A0_1 l0_1.length c0_1, .int .i64 a0_2] 25 ?_; intro gb144 hg w3 hbox hb; have BK144 := Aside0.mk (hbox); have GW144 := Aside0.mk (sge hg HB : w.heap.size ≤ gb144); have GE144 := Aside0.mk (sge hg HB : w.heap.size ≤ gb144); replace HB := Aside0.mk (sbs HB hb); clear hb hbox hg)))
 go_loopg [5, 6] k (fun kq v5 v6 w' => ∃ (x5_1 : Int) (x6_1 : Int), v5 = .int .i64 x5_1 ∧ v6 = .int .i64 x6_1 ∧ Aside0 (posserref03_Right.l0 kq l1 x5_1 x6_1 l0_0 l0_1 a0_2 = some r) ∧ Aside0 (kq ≤ k) ∧ Aside0 (w'.heap[gb144]? = some (.cells #[(.slice A0_0 l0_0.length c0_0), (.slice A0_1 l0_1.length c0_1), .int .i64 a0_2] 25 (0, 0))) ∧ Aside0 (Below w.heap.size w w'))
 case atStart => exact ⟨(0), (0), (by first | rfl | (simp; done) | (simp [*]; done)), (by first | rfl | (simp; done) | (simp [*]; done)), H', ⟨Nat.le_refl _⟩, ⟨by (with_reducible repeat (first | refine blk_drewN ?_ _ | refine blk_drew ?_ | refine blk_alloc ?_ _)); exact BK144.out⟩, ⟨(sbe1 HB GE144)⟩⟩
 case round =>
  clear H'
  try clear c1
  try clear p2
  obtain ⟨x5_1, x6_1, rfl, rfl, HA, HK1, BK144, HB⟩ := hrel
  cases gk with
  | zero => exact absurd HA.out (by simp [posserref03_Right.l0])
  | succ k1 =>
   have H := HA.out
   clear HA
   simp only [posserref03_Right.l0] at H
   by_cases c4 : x6_1 < (l0_0.length : Int)
   ·rw [if_pos c4] at H
    have c4b0 : decide (x6_1 < (l0_0.length : Int)) = true := decide_eq_true c4
    clear c4
    replace H := Option.bind_eq_some_iff.mp H
    obtain ⟨t145, A50, H⟩ := H
    replace H : (if 0 ≤ x6_1 then ((posserref03_In.f t145 ((rd_T85 l0_0 x6_1).f1.f0) ((rd_T85 l0_0 x6_1).f1.f1)).bind fun t148 => (if t148 = true then (if 0 ≤ (IntKind.u64.wrap (x6_1)) then (posserref03_Right.l0 k1 l1 (Go.bits .or .i64 x5_1 (shl .i64 1 (IntKind.u64.wrap (x6_1)))) (wrap64 (x6_1 + 1)) l0_0 l0_1 a0_2) else (none)) else (posserref03_Right.l0 k1 l1 x5_1 (wrap64 (x6_1 + 1)) l0_0 l0_1 a0_2))) else (none)) = some r := H
    have A5 := Aside0.mk A50
    clear A50
    by_cases c6 : 0 ≤ x6_1
    ·rw [if_pos c6] at H
     have c6b0 : decide (0 ≤ x6_1) = true := decide_eq_true c6
     clear c6
     replace H := Option.bind_eq_some_iff.mp H
     obtain ⟨t148, A70, H⟩ := H
     replace H : (if t148 = true then (if 0 ≤ (IntKind.u64.wrap (x6_1)) then (posserref03_Right.l0 k1 l1 (Go.bits .or .i64 x5_1 (shl .i64 1 (IntKind.u64.wrap (x6_1)))) (wrap64 (x6_1 + 1)) l0_0 l0_1 a0_2) else (none)) else (posserref03_Right.l0 k1 l1 x5_1 (wrap64 (x6_1 + 1)) l0_0 l0_1 a0_2)) = some r := H
     have A7 := Aside0.mk A70
     clear A70
     by_cases c8 : t148 = true
     ·subst c8
      have H1 : (if 0 ≤ (IntKind.u64.wrap (x6_1)) then (posserref03_Right.l0 k1 l1 (Go.bits .or .i64 x5_1 (shl .i64 1 (IntKind.u64.wrap (x6_1)))) (wrap64 (x6_1 + 1)) l0_0 l0_1 a0_2) else (none)) = some r := by rw [if_pos rfl] at H; exact H
      clear H
      have H := H1
      clear H1
      obtain ⟨ji9, hji9⟩ : ∃ j_ : Int, (IntKind.u64.wrap (x6_1)) = j_ := ⟨_, rfl⟩
      replace H : (if 0 ≤ (ji9) then (posserref03_Right.l0 k1 l1 (Go.bits .or .i64 x5_1 (shl .i64 1 (ji9))) (wrap64 (x6_1 + 1)) l0_0 l0_1 a0_2) else (none)) = some r := by first | (rw [hji9] at H; exact H) | (simp only [hji9] at H ⊢; exact H)
      (try rw [hji9] at A5)
      (try rw [hji9] at A7)
      by_cases c10 : 0 ≤ (ji9)
      ·rw [if_pos c10] at H
       have c10b0 := eq_true c10
       have c10b1 : decide (0 ≤ (ji9)) = true := decide_eq_true c10
       clear c10
       obtain ⟨ji11, hji11⟩ : ∃ j_ : Int, (shl .i64 1 (ji9)) = j_ := ⟨_, rfl⟩
       replace H : (posserref03_Right.l0 k1 l1 (Go.bits .or .i64 x5_1 (ji11)) (wrap64 (x6_1 + 1)) l0_0 l0_1 a0_2) = some r := by first | (rw [hji11] at H; exact H) | (simp only [hji11] at H ⊢; exact H)
       (try rw [hji11] at A5)
       (try rw [hji11] at A7)
       have hji11_ : (IntKind.i64.wrap (1 * 2 ^ min (ji9).toNat 64)) = ji11 := hji11
       have hji11z : (ji9) ≤ 64 → (IntKind.i64.wrap (1 * 2 ^ (ji9).toNat)) = ji11 := shl_small hji11
       have hji11u : (IntKind.i64.wrap (2 ^ min (ji9).toNat 64)) = ji11 := by have h_ := hji11_; rw [Int.one_mul] at h_; exact h_
       have hji11v : (ji9) ≤ 64 → (IntKind.i64.wrap (2 ^ (ji9).toNat)) = ji11 := fun hle_ => by have h_ := hji11z hle_; rw [Int.one_mul] at h_; exact h_
       have hji11y : (wrap64 (1 * 2 ^ min (ji9).toNat 64)) = ji11 := (i64_w _).symm.trans hji11_
       have hji11x : (ji9) ≤ 64 → (wrap64 (1 * 2 ^ (ji9).toNat)) = ji11 := fun h_ => (i64_w _).symm.trans (hji11z h_)
       have H' := Aside0.mk H
       clear H
       have hcz12_0 := sc 0 BK144
       have hcz12_1 := sc 1 BK144
       have hcz12_2 := sc 2 BK144
       have hfz12_0 := blk_frozen BK144.out 0
       have hfz12_1 := blk_frozen BK144.out 1
       have hfz12_2 := blk_frozen BK144.out 2
       go_wp2_with (first | (go_at_call 63; (with_reducible refine (posserref03_Own.calls k1 _ _ l1 x6_1 t145 _ ?side1 ?side2 A5.out).mono ?_); (case side1 => exact sCb HR1 HB); (case side2 => exact HC1.out); rintro e w' ⟨rfl, ⟨nd, rfl⟩⟩; (try first | exact ⟨rfl, _, World.drewN_drewN _ _ _⟩ | exact ⟨rfl, _, Eq.trans (World.drewN_drewN _ _ _) (congrArg (World.drewN _) (Nat.add_assoc _ _ _))⟩); have p146 : 0 ≤ (x6_1 : Int) := of_decide_eq_true (by first | (with_reducible assumption) | assumption); have q146 : x6_1 < (l0_0.length : Int) := of_decide_eq_true (by first | (with_reducible assumption) | assumption); obtain ⟨ad146, e146, hx146_0, hx146_1, hx146_2⟩ := at_T85 HR0_0.out x6_1 p146 q146; cases e146; replace hx146_0 := (HB.out.cell (World.block_lt_of_cell? w _ hx146_0)).trans hx146_0; replace hx146_1 := (HB.out.cell (World.block_lt_of_cell? w _ hx146_1)).trans hx146_1; replace hx146_2 := (HB.out.cell (World.block_lt_of_cell? w _ hx146_2)).trans hx146_2; replace p146 := eq_true p146; replace q146 := eq_true q146; have p147 : 0 ≤ (x6_1 : Int) := of_decide_eq_true (by first | (with_reducible assumption) | assumption); have q147 : x6_1 < (l0_0.length : Int) := of_decide_eq_true (by first | (with_reducible assumption) | assumption); obtain ⟨ad147, e147, hx147_0, hx147_1, hx147_2⟩ := at_T85 HR0_0.out x6_1 p147 q147; obtain rfl : ad146 = ad147 := (by injection e147); replace hx147_0 := (HB.out.cell (World.block_lt_of_cell? w _ hx147_0)).trans hx147_0; replace hx147_1 := (HB.out.cell (World.block_lt_of_cell? w _ hx147_1)).trans hx147_1; replace hx147_2 := (HB.out.cell (World.block_lt_of_cell? w _ hx147_2)).trans hx147_2; replace p147 := eq_true p147; replace q147 := eq_true q147) | (go_at_call 49; (with_reducible refine (posserref03_In.calls t145 ((rd_T85 l0_0 x6_1).f1.f0) ((rd_T85 l0_0 x6_1).f1.f1) true _ A7.out).mono ?_); rintro e w' ⟨rfl, ⟨nd, rfl⟩⟩; (try first | exact ⟨rfl, _, World.drewN_drewN _ _ _⟩ | exact ⟨rfl, _, Eq.trans (World.drewN_drewN _ _ _) (congrArg (World.drewN _) (Nat.add_assoc _ _ _))⟩)))
       repeat (go_quiet (first | (go_at_call 63; (with_reducible refine (posserref03_Own.calls k1 _ _ l1 x6_1 t145 _ ?side1 ?side2 A5.out).mono ?_); (case side1 => exact sCb HR1 HB); (case side2 => exact HC1.out); rintro e w' ⟨rfl, ⟨nd, rfl⟩⟩; (try first | exact ⟨rfl, _, World.drewN_drewN _ _ _⟩ | exact ⟨rfl, _, Eq.trans (World.drewN_drewN _ _ _) (congrArg (World.drewN _) (Nat.add_assoc _ _ _))⟩); have p146 : 0 ≤ (x6_1 : Int) := of_decide_eq_true (by first | (with_reducible assumption) | assumption); have q146 : x6_1 < (l0_0.length : Int) := of_decide_eq_true (by first | (with_reducible assumption) | assumption); obtain ⟨ad146, e146, hx146_0, hx146_1, hx146_2⟩ := at_T85 HR0_0.out x6_1 p146 q146; cases e146; replace hx146_0 := (HB.out.cell (World.block_lt_of_cell? w _ hx146_0)).trans hx146_0; replace hx146_1 := (HB.out.cell (World.block_lt_of_cell? w _ hx146_1)).trans hx146_1; replace hx146_2 := (HB.out.cell (World.block_lt_of_cell? w _ hx146_2)).trans hx146_2; replace p146 := eq_true p146; replace q146 := eq_true q146; have p147 : 0 ≤ (x6_1 : Int) := of_decide_eq_true (by first | (with_reducible assumption) | assumption); have q147 : x6_1 < (l0_0.length : Int) := of_decide_eq_true (by first | (with_reducible assumption) | assumption); obtain ⟨ad147, e147, hx147_0, hx147_1, hx147_2⟩ := at_T85 HR0_0.out x6_1 p147 q147; obtain rfl : ad146 = ad147 := (by injection e147); replace hx147_0 := (HB.out.cell (World.block_lt_of_cell? w _ hx147_0)).trans hx147_0; replace hx147_1 := (HB.out.cell (World.block_lt_of_cell? w _ hx147_1)).trans hx147_1; replace hx147_2 := (HB.out.cell (World.block_lt_of_cell? w _ hx147_2)).trans hx147_2; replace p147 := eq_true p147; replace q147 := eq_true q147) | (go_at_call 49; (with_reducible refine (posserref03_In.calls t145 ((rd_T85 l0_0 x6_1).f1.f0) ((rd_T85 l0_0 x6_1).f1.f1) true _ A7.out).mono ?_); rintro e w' ⟨rfl, ⟨nd, rfl⟩⟩; (try first | exact ⟨rfl, _, World.drewN_drewN _ _ _⟩ | exact ⟨rfl, _, Eq.trans (World.drewN_drewN _ _ _) (congrArg (World.drewN _) (Nat.add_assoc _ _ _))⟩))); try go_wp2_with (first | (go_at_call 63; (with_reducible refine (posserref03_Own.calls k1 _ _ l1 x6_1 t145 _ ?side1 ?side2 A5.out).mono ?_); (case side1 => exact sCb HR1 HB); (case side2 => exact HC1.out); rintro e w' ⟨rfl, ⟨nd, rfl⟩⟩; (try first | exact ⟨rfl, _, World.drewN_drewN _ _ _⟩ | exact ⟨rfl, _, Eq.trans (World.drewN_drewN _ _ _) (congrArg (World.drewN _) (Nat.add_assoc _ _ _))⟩); have p146 : 0 ≤ (x6_1 : Int) := of_decide_eq_true (by first | (with_reducible assumption) | assumption); have q146 : x6_1 < (l0_0.length : Int) := of_decide_eq_true (by first | (with_reducible assumption) | assumption); obtain ⟨ad146, e146, hx146_0, hx146_1, hx146_2⟩ := at_T85 HR0_0.out x6_1 p146 q146; cases e146; replace hx146_0 := (HB.out.cell (World.block_lt_of_cell? w _ hx146_0)).trans hx146_0; replace hx146_1 := (HB.out.cell (World.block_lt_of_cell? w _ hx146_1)).trans hx146_1; replace hx146_2 := (HB.out.cell (World.block_lt_of_cell? w _ hx146_2)).trans hx146_2; replace p146 := eq_true p146; replace q146 := eq_true q146; have p147 : 0 ≤ (x6_1 : Int) := of_decide_eq_true (by first | (with_reducible assumption) | assumption); have q147 : x6_1 < (l0_0.length : Int) := of_decide_eq_true (by first | (with_reducible assumption) | assumption); obtain ⟨ad147, e147, hx147_0, hx147_1, hx147_2⟩ := at_T85 HR0_0.out x6_1 p147 q147; obtain rfl : ad146 = ad147 := (by injection e147); replace hx147_0 := (HB.out.cell (World.block_lt_of_cell? w _ hx147_0)).trans hx147_0; replace hx147_1 := (HB.out.cell (World.block_lt_of_cell? w _ hx147_1)).trans hx147_1; replace hx147_2 := (HB.out.cell (World.block_lt_of_cell? w _ hx147_2)).trans hx147_2; replace p147 := eq_true p147; replace q147 := eq_true q147) | (go_at_call 49; (with_reducible refine (posserref03_In.calls t145 ((rd_T85 l0_0 x6_1).f1.f0) ((rd_T85 l0_0 x6_1).f1.f1) true _ A7.out).mono ?_); rintro e w' ⟨rfl, ⟨nd, rfl⟩⟩; (try first | exact ⟨rfl, _, World.drewN_drewN _ _ _⟩ | exact ⟨rfl, _, Eq.trans (World.drewN_drewN _ _ _) (congrArg (World.drewN _) (Nat.add_assoc _ _ _))⟩))))
       go_roundg k1
       case measure => have := HK1.out; omega
       case rel => exact ⟨(Go.bits .or .i64 x5_1 (ji11)), (wrap64 (x6_1 + 1)), (by first | rfl | (simp; done) | (simp only [← hji11] <;> (first | rfl | simp)) | (simp [*]; done)), (by first | rfl | (simp; done) | (simp [*]; done)), H', ⟨by have := HK1.out; omega⟩, ⟨by (with_reducible repeat (first | refine blk_drewN ?_ _ | refine blk_drew ?_ | refine blk_alloc ?_ _)); exact BK144.out⟩, ⟨(sbe1 HB GE144)⟩⟩
      ·rw [if_neg c10] at H
       exact absurd H (by simp)
     ·replace c8 := Bool.eq_false_iff.mpr c8
      subst c8
      have H1 : (posserref03_Right.l0 k1 l1 x5_1 (wrap64 (x6_1 + 1)) l0_0 l0_1 a0_2) = some r := by rw [if_neg (show ¬ (false = true) by decide)] at H; exact H
      clear H
      have H := H1
      clear H1
      have H' := Aside0.mk H
      clear H
      have hcz13_0 := sc 0 BK144
      have hcz13_1 := sc 1 BK144
      have hcz13_2 := sc 2 BK144
      have hfz13_0 := blk_frozen BK144.out 0
      have hfz13_1 := blk_frozen BK144.out 1
      have hfz13_2 := blk_frozen BK144.out 2
      go_wp2_with (first | (go_at_call 63; (with_reducible refine (posserref03_Own.calls k1 _ _ l1 x6_1 t145 _ ?side1 ?side2 A5.out).mono ?_); (case side1 => exact sCb HR1 HB); (case side2 => exact HC1.out); rintro e w' ⟨rfl, ⟨nd, rfl⟩⟩; (try first | exact ⟨rfl, _, World.drewN_drewN _ _ _⟩ | exact ⟨rfl, _, Eq.trans (World.drewN_drewN _ _ _) (congrArg (World.drewN _) (Nat.add_assoc _ _ _))⟩); have p146 : 0 ≤ (x6_1 : Int) := of_decide_eq_true (by first | (with_reducible assumption) | assumption); have q146 : x6_1 < (l0_0.length : Int) := of_decide_eq_true (by first | (with_reducible assumption) | assumption); obtain ⟨ad146, e146, hx146_0, hx146_1, hx146_2⟩ := at_T85 HR0_0.out x6_1 p146 q146; cases e146; replace hx146_0 := (HB.out.cell (World.block_lt_of_cell? w _ hx146_0)).trans hx146_0; replace hx146_1 := (HB.out.cell (World.block_lt_of_cell? w _ hx146_1)).trans hx146_1; replace hx146_2 := (HB.out.cell (World.block_lt_of_cell? w _ hx146_2)).trans hx146_2; replace p146 := eq_true p146; replace q146 := eq_true q146; have p147 : 0 ≤ (x6_1 : Int) := of_decide_eq_true (by first | (with_reducible assumption) | assumption); have q147 : x6_1 < (l0_0.length : Int) := of_decide_eq_true (by first | (with_reducible assumption) | assumption); obtain ⟨ad147, e147, hx147_0, hx147_1, hx147_2⟩ := at_T85 HR0_0.out x6_1 p147 q147; obtain rfl : ad146 = ad147 := (by injection e147); replace hx147_0 := (HB.out.cell (World.block_lt_of_cell? w _ hx147_0)).trans hx147_0; replace hx147_1 := (HB.out.cell (World.block_lt_of_cell? w _ hx147_1)).trans hx147_1; replace hx147_2 := (HB.out.cell (World.block_lt_of_cell? w _ hx147_2)).trans hx147_2; replace p147 := eq_true p147; replace q147 := eq_true q147) | (go_at_call 49; (with_reducible refine (posserref03_In.calls t145 ((rd_T85 l0_0 x6_1).f1.f0) ((rd_T85 l0_0 x6_1).f1.f1) false _ A7.out).mono ?_); rintro e w' ⟨rfl, ⟨nd, rfl⟩⟩; (try first | exact ⟨rfl, _, World.drewN_drewN _ _ _⟩ | exact ⟨rfl, _, Eq.trans (World.drewN_drewN _ _ _) (congrArg (World.drewN _) (Nat.add_assoc _ _ _))⟩)))
      repeat (go_quiet (first | (go_at_call 63; (with_reducible refine (posserref03_Own.calls k1 _ _ l1 x6_1 t145 _ ?side1 ?side2 A5.out).mono ?_); (case side1 => exact sCb HR1 HB); (case side2 => exact HC1.out); rintro e w' ⟨rfl, ⟨nd, rfl⟩⟩; (try first | exact ⟨rfl, _, World.drewN_drewN _ _ _⟩ | exact ⟨rfl, _, Eq.trans (World.drewN_drewN _ _ _) (congrArg (World.drewN _) (Nat.add_assoc _ _ _))⟩); have p146 : 0 ≤ (x6_1 : Int) := of_decide_eq_true (by first | (with_reducible assumption) | assumption); have q146 : x6_1 < (l0_0.length : Int) := of_decide_eq_true (by first | (with_reducible assumption) | assumption); obtain ⟨ad146, e146, hx146_0, hx146_1, hx146_2⟩ := at_T85 HR0_0.out x6_1 p146 q146; cases e146; replace hx146_0 := (HB.out.cell (World.block_lt_of_cell? w _ hx146_0)).trans hx146_0; replace hx146_1 := (HB.out.cell (World.block_lt_of_cell? w _ hx146_1)).trans hx146_1; replace hx146_2 := (HB.out.cell (World.block_lt_of_cell? w _ hx146_2)).trans hx146_2; replace p146 := eq_true p146; replace q146 := eq_true q146; have p147 : 0 ≤ (x6_1 : Int) := of_decide_eq_true (by first | (with_reducible assumption) | assumption); have q147 : x6_1 < (l0_0.length : Int) := of_decide_eq_true (by first | (with_reducible assumption) | assumption); obtain ⟨ad147, e147, hx147_0, hx147_1, hx147_2⟩ := at_T85 HR0_0.out x6_1 p147 q147; obtain rfl : ad146 = ad147 := (by injection e147); replace hx147_0 := (HB.out.cell (World.block_lt_of_cell? w _ hx147_0)).trans hx147_0; replace hx147_1 := (HB.out.cell (World.block_lt_of_cell? w _ hx147_1)).trans hx147_1; replace hx147_2 := (HB.out.cell (World.block_lt_of_cell? w _ hx147_2)).trans hx147_2; replace p147 := eq_true p147; replace q147 := eq_true q147) | (go_at_call 49; (with_reducible refine (posserref03_In.calls t145 ((rd_T85 l0_0 x6_1).f1.f0) ((rd_T85 l0_0 x6_1).f1.f1) false _ A7.out).mono ?_); rintro e w' ⟨rfl, ⟨nd, rfl⟩⟩; (try first | exact ⟨rfl, _, World.drewN_drewN _ _ _⟩ | exact ⟨rfl, _, Eq.trans (World.drewN_drewN _ _ _) (congrArg (World.drewN _) (Nat.add_assoc _ _ _))⟩))); try go_wp2_with (first | (go_at_call 63; (with_reducible refine (posserref03_Own.calls k1 _ _ l1 x6_1 t145 _ ?side1 ?side2 A5.out).mono ?_); (case side1 => exact sCb HR1 HB); (case side2 => exact HC1.out); rintro e w' ⟨rfl, ⟨nd, rfl⟩⟩; (try first | exact ⟨rfl, _, World.drewN_drewN _ _ _⟩ | exact ⟨rfl, _, Eq.trans (World.drewN_drewN _ _ _) (congrArg (World.drewN _) (Nat.add_assoc _ _ _))⟩); have p146 : 0 ≤ (x6_1 : Int) := of_decide_eq_true (by first | (with_reducible assumption) | assumption); have q146 : x6_1 < (l0_0.length : Int) := of_decide_eq_true (by first | (with_reducible assumption) | assumption); obtain ⟨ad146, e146, hx146_0, hx146_1, hx146_2⟩ := at_T85 HR0_0.out x6_1 p146 q146; cases e146; replace hx146_0 := (HB.out.cell (World.block_lt_of_cell? w _ hx146_0)).trans hx146_0; replace hx146_1 := (HB.out.cell (World.block_lt_of_cell? w _ hx146_1)).trans hx146_1; replace hx146_2 := (HB.out.cell (World.block_lt_of_cell? w _ hx146_2)).trans hx146_2; replace p146 := eq_true p146; replace q146 := eq_true q146; have p147 : 0 ≤ (x6_1 : Int) := of_decide_eq_true (by first | (with_reducible assumption) | assumption); have q147 : x6_1 < (l0_0.length : Int) := of_decide_eq_true (by first | (with_reducible assumption) | assumption); obtain ⟨ad147, e147, hx147_0, hx147_1, hx147_2⟩ := at_T85 HR0_0.out x6_1 p147 q147; obtain rfl : ad146 = ad147 := (by injection e147); replace hx147_0 := (HB.out.cell (World.block_lt_of_cell? w _ hx147_0)).trans hx147_0; replace hx147_1 := (HB.out.cell (World.block_lt_of_cell? w _ hx147_1)).trans hx147_1; replace hx147_2 := (HB.out.cell (World.block_lt_of_cell? w _ hx147_2)).trans hx147_2; replace p147 := eq_true p147; replace q147 := eq_true q147) | (go_at_call 49; (with_reducible refine (posserref03_In.calls t145 ((rd_T85 l0_0 x6_1).f1.f0) ((rd_T85 l0_0 x6_1).f1.f1) false _ A7.out).mono ?_); rintro e w' ⟨rfl, ⟨nd, rfl⟩⟩; (try first | exact ⟨rfl, _, World.drewN_drewN _ _ _⟩ | exact ⟨rfl, _, Eq.trans (World.drewN_drewN _ _ _) (congrArg (World.drewN _) (Nat.add_assoc _ _ _))⟩))))
      go_roundg k1
      case measure => have := HK1.out; omega
      case rel => exact ⟨(x5_1), (wrap64 (x6_1 + 1)), (by first | rfl | (simp; done) | (simp [*]; done)), (by first | rfl | (simp; done) | (simp [*]; done)), H', ⟨by have := HK1.out; omega⟩, ⟨by (with_reducible repeat (first | refine blk_drewN ?_ _ | refine blk_drew ?_ | refine blk_alloc ?_ _)); exact BK144.out⟩, ⟨(sbe1 HB GE144)⟩⟩
    ·rw [if_neg c6] at H
     exact absurd H (by simp)
   ·rw [if_neg c4] at H
    have c4b0 : decide (x6_1 < (l0_0.length : Int)) = false := decide_eq_false c4
    clear c4
    obtain rfl := Option.some.inj H
    have hcz14_0 := sc 0 BK144
    have hcz14_1 := sc 1 BK144
    have hcz14_2 := sc 2 BK144
    have hfz14_0 := blk_frozen BK144.out 0
    have hfz14_1 := blk_frozen BK144.out 1
    have hfz14_2 := blk_frozen BK144.out 2
    go_wp2
    repeat (go_quiet (fail); try go_wp2)
    go_ret
    exact ⟨by first | rfl | (simp [errW_none, errW_some] <;> rfl) | (simp [*, errW_none, errW_some] <;> rfl), (sbe1 HB GE144)⟩
end Go.Proofs.Ytnbbbeghgomnoaa.X
namespace Go.Proofs.Ytnbbbeghgomnoaa.X
open Go.RowKit Go.Proofs.YtnbbbeghgomnoaaW.PrintWords Go.Proofs.YtnbbbeghgomnoaaW.PrintLast Go.Proofs.YtnbbbeghgomnoaaW.PrintMore
attribute [local go_sem] max2_int min2_int max_two min_two max_three min_three max_four min_four
set_option linter.unusedVariables false
set_option linter.unusedSimpArgs false
set_option maxHeartbeats 8000000 in
set_option maxRecDepth 100000 in
theorem posserref03_Bits.calls (k : Nat) (a0 : Int) (r : List Int) (w : World) (h : posserref03_Bits.f k a0 = some r) :
  Calls Try.prog 48 #[.int .i64 a0] w fun e w' => ∃ v0_ : Value, e = .returned (v0_) ∧ Kd.R (Kd.int .i64) 3 w' w.heap.size (fun _ => True) v0_ r ∧ Below w.heap.size w w' := by
 have HB := Aside0.mk (Below.refl w.heap.size w)
 have H : (posserref03_Bits.l0 k a0 ([] : List Int) 0) = some r := h
 clear h
 have H' := Aside0.mk H
 clear H
 go_enter Try.func48, Try.ntmps48
 go_wp2
 go_loopg [3, 4] k (fun kq v3 v4 w' => ∃ (x3_1 : List Int) (x4_1 : Int), v4 = .int .i64 x4_1 ∧ Aside0 (posserref03_Bits.l0 kq a0 x3_1 x4_1 = some r) ∧ Aside0 (kq ≤ k) ∧ Aside0 (Kd.R (Kd.int .i64) 3 w' w.heap.size (fun _ => True) v3 x3_1) ∧ Aside0 (Below w.heap.size w w'))
 case atStart => exact ⟨(([] : List Int)), (0), (by first | rfl | (simp; done) | (simp [*]; done)), H', ⟨Nat.le_refl _⟩, ⟨by first | exact Kd.R_nil _ _ _ _ _ | exact Kd.N_nil _ _ _ _ _ | exact Kd.V_nil _ _ _ _ _ | exact Kd.Q_nil _ _ _ _ _ | exact Kd.S_nil _ _ _ _ _⟩, ⟨(sbe HB)⟩⟩
 case round =>
  clear H'
  obtain ⟨x3_1, x4_1, rfl, HA, HK1, HO_3, HB⟩ := hrel
  cases gk with
  | zero => exact absurd HA.out (by simp [posserref03_Bits.l0])
  | succ k1 =>
   have H := HA.out
   clear HA
   simp only [posserref03_Bits.l0] at H
   obtain ⟨ji2, hji2⟩ : ∃ j_ : Int, (IntKind.u64.wrap (x4_1)) = j_ := ⟨_, rfl⟩
   replace H : (if 0 ≤ (ji2) then (if (shr .i64 a0 (ji2)) > 0 then (if (Int.tmod (shr .i64 a0 (ji2)) 2) = 1 then (if x3_1.length < 17592186044416 then (posserref03_Bits.l0 k1 a0 (x3_1 ++ [x4_1]) (wrap64 (x4_1 + 1))) else (none)) else (posserref03_Bits.l0 k1 a0 x3_1 (wrap64 (x4_1 + 1)))) else (some x3_1)) else (none)) = some r := by first | (rw [hji2] at H; exact H) | (simp only [hji2] at H ⊢; exact H)
   by_cases c3 : 0 ≤ (ji2)
   ·rw [if_pos c3] at H
    have c3b0 := eq_true c3
    have c3b1 : decide (0 ≤ (ji2)) = true := decide_eq_true c3
    clear c3
    obtain ⟨ji4, hji4⟩ : ∃ j_ : Int, (shr .i64 a0 (ji2)) = j_ := ⟨_, rfl⟩
    replace H : (if (ji4) > 0 then (if (Int.tmod (ji4) 2) = 1 then (if x3_1.length < 17592186044416 then (posserref03_Bits.l0 k1 a0 (x3_1 ++ [x4_1]) (wrap64 (x4_1 + 1))) else (none)) else (posserref03_Bits.l0 k1 a0 x3_1 (wrap64 (x4_1 + 1)))) else (some x3_1)) = some r := by first | (rw [hji4] at H; exact H) | (simp only [hji4] at H ⊢; exact H)
    have hji4_ : (a0 / 2 ^ min (ji2).toNat 64) = ji4 := hji4
    have hji4z : (ji2) ≤ 64 → (a0 / 2 ^ (ji2).toNat) = ji4 := shr_small hji4
    by_cases c5 : (ji4) > 0
    ·rw [if_pos c5] at H
     have c5b0 : decide (0 < (ji4)) = true := decide_eq_true c5
     clear c5
     have c6b0 := eq_true (of_decide_eq_true (by first | (with_reducible assumption) | assumption) : 0 ≤ (ji2))
     by_cases c7 : (Int.tmod (ji4) 2) = 1
     ·rw [if_pos c7] at H
      have c7b0 : ((Int.tmod (ji4) 2) == 1) = true := beq_iff_eq.mpr c7
      have c7b1 : ((Int.tmod (ji4) 2) != 1) = false := bne_eq_false_iff_eq.mpr c7
      clear c7
      by_cases c8 : x3_1.length < 17592186044416
      ·rw [if_pos c8] at H
       have LMc8 := Aside0.mk c8
       clear c8
       obtain ⟨y133, hy133⟩ : ∃ y_ : List Int, y_ = (x3_1 ++ [x4_1]) := ⟨_, rfl⟩
       replace H : (posserref03_Bits.l0 k1 a0 y133 (wrap64 (x4_1 + 1))) = some r := by first | (rw [hy133]; with_reducible exact H) | (have H2_ := (Option.bind_some _ _).symm.trans H; rw [hy133]; with_reducible exact H2_) | (have H2_ := (Option.bind_some _ _).symm.trans H; with_reducible exact H2_) | with_reducible exact H | (rw [hy133]; exact H) | exact H
       have Ny133 := Aside0.mk hy133
       clear hy133
       have H' := Aside0.mk H
       clear H
       go_wp2_with (first | ((with_reducible refine gate_builtin (b := .append) (xs := #[.tmp 18, .tmp 20]) rfl ?_); at_builtin; refine Kd.R_append (Kd.int .i64) (w0 := w) w.heap.size rfl (.tmp 18) (.tmp 20) 39 3 (.int .i64 0) 8 rfl Try.underlying39 info3 rfl (by decide) (by omega) u3 x3_1 x4_1 [.int .i64 x4_1] (fun _ => True) (fun _ => False) rfl rfl ?aP (fun _ hk => hk.elim) ?aF ?aO ?aB ?aS ?aL ?_; (case aP => exact rfl); (case aB => exact (sbe HB)); (case aF => exact (fun _ _ => trivial)); (case aO => exact (sR HO_3)); (case aS => exact (below_size (sbe HB))); (case aL => have := LMc8.out; omega); intro v134 w9 ho hb hg hat; rw [← Ny133.out] at ho; have n0_ := Aside0.mk (hb); have n1_ := Aside0.mk (ho); clear HB; clear HO_3; have HB := n0_; have HO135 := n1_; clear n0_ n1_; clear ho hb hg hat))
       go_roundg k1
       case measure => have := HK1.out; omega
       case rel => exact ⟨(y133), (wrap64 (x4_1 + 1)), (by first | rfl | (simp; done) | (simp [*]; done)), H', ⟨by have := HK1.out; omega⟩, ⟨by (with_reducible repeat (first | apply Kd.R_alloc | apply Kd.R_drewN | apply Kd.R_drew)); exact HO135.out⟩, ⟨(sbe HB)⟩⟩
      ·rw [if_neg c8] at H
       exact absurd H (by simp)
     ·rw [if_neg c7] at H
      have c7b0 : ((Int.tmod (ji4) 2) == 1) = false := beq_eq_false_iff_ne.mpr c7
      have c7b1 : ((Int.tmod (ji4) 2) != 1) = true := bne_iff_ne.mpr c7
      have H' := Aside0.mk H
      clear H
      go_wp2
      go_roundg k1
      case measure => have := HK1.out; omega
      case rel => exact ⟨(x3_1), (wrap64 (x4_1 + 1)), (by first | rfl | (simp; done) | (simp [*]; done)), H', ⟨by have := HK1.out; omega⟩, ⟨by (with_reducible repeat (first | apply Kd.R_alloc | apply Kd.R_drewN | apply Kd.R_drew)); exact HO_3.out⟩, ⟨(sbe HB)⟩⟩
    ·rw [if_neg c5] at H
     have c5b0 : decide (0 < (ji4)) = false := decide_eq_false c5
     clear c5
     obtain rfl := Option.some.inj H
     go_wp2
     go_ret
     exact ⟨_, by first | rfl | (simp [errW_none, errW_some] <;> rfl) | (simp only [← hji2, ← hji4]; first | rfl | (simp [errW_none, errW_some] <;> rfl)) | (simp [*, errW_none, errW_some] <;> rfl), by (with_reducible repeat (first | apply Kd.R_alloc | apply Kd.R_drewN | apply Kd.R_drew)); exact HO_3.out, (sbe HB)⟩
   ·rw [if_neg c3] at H
    exact absurd H (by simp)
end Go.Proofs.Ytnbbbeghgomnoaa.X
namespace Go.Proofs.Ytnbbbeghgomnoaa.X
open Go.RowKit Go.Proofs.YtnbbbeghgomnoaaW.PrintWords Go.Proofs.YtnbbbeghgomnoaaW.PrintLast Go.Proofs.YtnbbbeghgomnoaaW.PrintMore
attribute [local go_sem] max2_int min2_int max_two min_two max_three min_three max_four min_four
set_option linter.unusedVariables false
set_option linter.unusedSimpArgs false
set_option maxHeartbeats 8000000 in
set_option maxRecDepth 100000 in
theorem posserref03_Full.calls (A0_0 : Option Addr) (c0_0 : Nat) (l0_0 : List (S85)) (A0_1 : Option Addr) (c0_1 : Nat) (l0_1 : List (S71)) (a0_2 : Int) (r : Int) (w : World) (hr0_0 : Kd.C k85 w A0_0 l0_0.length l0_0) (hc0_0 : l0_0.length ≤ c0_0) (hr0_1 : Kd.C k71 w A0_1 l0_1.length l0_1) (hc0_1 : l0_1.length ≤ c0_1) (h : posserref03_Full.f l0_0 l0_1 a0_2 = some r) :
  Calls Try.prog 58 #[.agg #[.slice A0_0 l0_0.length c0_0, .slice A0_1 l0_1.length c0_1, .int .i64 a0_2]] w fun e w' => e = .returned (.int .i64 r) ∧ Below w.heap.size w w' := by
 have hu25 := Try.underlying25
 have HR0_0 := Aside0.mk hr0_0
 have HC0_0 := Aside0.mk hc0_0
 clear hr0_0 hc0_0
 have HR0_1 := Aside0.mk hr0_1
 have HC0_1 := Aside0.mk hc0_1
 clear hr0_1 hc0_1
 have HB := Aside0.mk (Below.refl w.heap.size w)
 have H : (if 0 ≤ (IntKind.u64.wrap ((l0_0.length : Int))) then (some (wrap64 ((shl .i64 1 (IntKind.u64.wrap ((l0_0.length : Int)))) - 1))) else (none)) = some r := h
 clear h
 obtain ⟨ji2, hji2⟩ : ∃ j_ : Int, (IntKind.u64.wrap ((l0_0.length : Int))) = j_ := ⟨_, rfl⟩
 replace H : (if 0 ≤ (ji2) then (some (wrap64 ((shl .i64 1 (ji2)) - 1))) else (none)) = some r := by first | (rw [hji2] at H; exact H) | (simp only [hji2] at H ⊢; exact H)
 by_cases c3 : 0 ≤ (ji2)
 ·rw [if_pos c3] at H
  have c3b0 := eq_true c3
  have c3b1 : decide (0 ≤ (ji2)) = true := decide_eq_true c3
  clear c3
  obtain ⟨ji4, hji4⟩ : ∃ j_ : Int, (shl .i64 1 (ji2)) = j_ := ⟨_, rfl⟩
  replace H : (some (wrap64 ((ji4) - 1))) = some r := by first | (rw [hji4] at H; exact H) | (simp only [hji4] at H ⊢; exact H)
  have hji4_ : (IntKind.i64.wrap (1 * 2 ^ min (ji2).toNat 64)) = ji4 := hji4
  have hji4z : (ji2) ≤ 64 → (IntKind.i64.wrap (1 * 2 ^ (ji2).toNat)) = ji4 := shl_small hji4
  have hji4u : (IntKind.i64.wrap (2 ^ min (ji2).toNat 64)) = ji4 := by have h_ := hji4_; rw [Int.one_mul] at h_; exact h_
  have hji4v : (ji2) ≤ 64 → (IntKind.i64.wrap (2 ^ (ji2).toNat)) = ji4 := fun hle_ => by have h_ := hji4z hle_; rw [Int.one_mul] at h_; exact h_
  have hji4y : (wrap64 (1 * 2 ^ min (ji2).toNat 64)) = ji4 := (i64_w _).symm.trans hji4_
  have hji4x : (ji2) ≤ 64 → (wrap64 (1 * 2 ^ (ji2).toNat)) = ji4 := fun h_ => (i64_w _).symm.trans (hji4z h_)
  obtain rfl := Option.some.inj H
  go_enter Try.func58, Try.ntmps58
  go_wp2_with (first | ((with_reducible refine gate_dst (N := 1) rfl ?_); refine sbox (N := 1) #[.slice A0_0 l0_0.length c0_0, .slice A0_1 l0_1.length c0_1, .int .i64 a0_2] 25 ?_; intro gb136 hg w5 hbox hb; have BK136 := Aside0.mk (hbox); have GW136 := Aside0.mk (sge hg HB : w.heap.size ≤ gb136); have GE136 := Aside0.mk (sge hg HB : w.heap.size ≤ gb136); replace HB := Aside0.mk (sbs HB hb); clear hb hbox hg; have hcz6_0 := sc 0 BK136; have hcz6_1 := sc 1 BK136; have hcz6_2 := sc 2 BK136; have hfz6_0 := blk_frozen BK136.out 0; have hfz6_1 := blk_frozen BK136.out 1; have hfz6_2 := blk_frozen BK136.out 2))
  go_ret
  exact ⟨by first | rfl | (simp [errW_none, errW_some] <;> rfl) | (simp only [← hji2, ← hji4]; first | rfl | (simp [errW_none, errW_some] <;> rfl)) | (simp [*, errW_none, errW_some] <;> rfl), (sbe1 HB GE136)⟩
 ·rw [if_neg c3] at H
  exact absurd H (by simp)
end Go.Proofs.Ytnbbbeghgomnoaa.X
namespace Go.Proofs.Ytnbbbeghgomnoaa.X
open Go.RowKit Go.Proofs.YtnbbbeghgomnoaaW.PrintWords Go.Proofs.YtnbbbeghgomnoaaW.PrintLast Go.Proofs.YtnbbbeghgomnoaaW.PrintMore
attribute [local go_sem] max2_int min2_int max_two min_two max_three min_three max_four min_four
set_option linter.unusedVariables false
set_option linter.unusedSimpArgs false
def posserref03_IsTruth.T1 : Bool × List (List Nat × List Nat) := (true, [([], []), ([], []), ([0, 1], [0, 1]), ([2, 2], [2]), ([3], [3]), ([4, 3, 3], [3, 4]), ([3], [3]), ([3], [3]), ([6, 7, 5, 3], [3, 6, 7]), ([5, 8, 3], [3, 5, 8]), ([9, 8, 3], [3, 9]), ([10, 3], [3, 10]), ([3], [3]), ([12, 3], [3, 12]), ([11, 13, 3], [3, 11, 13]), ([3, 14], [3, 14]), ([15, 10, 0, 1, 2, 3, 4, 5, 6, 7, 8, 9, 10, 11, 12, 13, 14, 15], [15])])
def posserref03_IsTruth.B1 : List Nat := [0, 0, 3, 7, 15, 31, 15, 15, 255, 511, 1023, 2047, 15, 4111, 16383, 32767, 65535]
theorem posserref03_IsTruth.tab1 : rtab .any (opsOf Try.f42 1) = posserref03_IsTruth.T1 := by kernel_rfl
theorem posserref03_IsTruth.bits1 : waitsOk posserref03_IsTruth.T1.2 posserref03_IsTruth.B1 = true := by kernel_rfl
set_option maxHeartbeats 8000000 in
set_option maxRecDepth 100000 in
theorem posserref03_IsTruth.calls (k : Nat) (A0_0 : Option Addr) (c0_0 : Nat) (l0_0 : List (S85)) (A0_1 : Option Addr) (c0_1 : Nat) (l0_1 : List (S71)) (a0_2 : Int) (A1 : Option Addr) (c1 : Nat) (l1 : List Int) (r : Bool) (w : World) (hr0_0 : Kd.C k85 w A0_0 l0_0.length l0_0) (hc0_0 : l0_0.length ≤ c0_0) (hr0_1 : Kd.C k71 w A0_1 l0_1.length l0_1) (hc0_1 : l0_1.length ≤ c0_1) (hr1 : Kd.C (Kd.int .i64) w A1 l1.length l1) (hc1 : l1.length ≤ c1) (h : posserref03_IsTruth.f k l0_0 l0_1 a0_2 l1 = some r) :
  Calls Try.prog 42 #[.agg #[.slice A0_0 l0_0.length c0_0, .slice A0_1 l0_1.length c0_1, .int .i64 a0_2], .slice A1 l1.length c1] w fun e w' => e = .returned (.bool r) ∧ Below w.heap.size w w' := by
 have hu25 := Try.underlying25
 have HR0_0 := Aside0.mk hr0_0
 have HC0_0 := Aside0.mk hc0_0
 clear hr0_0 hc0_0
 have HR0_1 := Aside0.mk hr0_1
 have HC0_1 := Aside0.mk hc0_1
 clear hr0_1 hc0_1
 have HR1 := Aside0.mk hr1
 have HC1 := Aside0.mk hc1
 clear hr1 hc1
 have HB := Aside0.mk (Below.refl w.heap.size w)
 have H : ((posserref03_AreOwners.f k l0_0 l0_1 a0_2 l1).bind fun t150 => (if t150 = true then ((posserref03_Full.f l0_0 l0_1 a0_2).bind fun t151 => ((posserref03_Right.f k l0_0 l0_1 a0_2 l1).bind fun t152 => ((posserref03_Bits.f k (Go.bits .andNot .i64 t151 t152)).bind fun t153 => (some (decide ((t153.length : Int) ≤ a0_2)))))) else (some false))) = some r := h
 clear h
 replace H := Option.bind_eq_some_iff.mp H
 obtain ⟨t150, A30, H⟩ := H
 replace H : (if t150 = true then ((posserref03_Full.f l0_0 l0_1 a0_2).bind fun t151 => ((posserref03_Right.f k l0_0 l0_1 a0_2 l1).bind fun t152 => ((posserref03_Bits.f k (Go.bits .andNot .i64 t151 t152)).bind fun t153 => (some (decide ((t153.length : Int) ≤ a0_2)))))) else (some false)) = some r := H
 have A3 := Aside0.mk A30
 clear A30
 by_cases c4 : t150 = true
 ·subst c4
  have H1 : ((posserref03_Full.f l0_0 l0_1 a0_2).bind fun t151 => ((posserref03_Right.f k l0_0 l0_1 a0_2 l1).bind fun t152 => ((posserref03_Bits.f k (Go.bits .andNot .i64 t151 t152)).bind fun t153 => (some (decide ((t153.length : Int) ≤ a0_2)))))) = some r := by rw [if_pos rfl] at H; exact H
  clear H
  have H := H1
  clear H1
  replace H := Option.bind_eq_some_iff.mp H
  obtain ⟨t151, A50, H⟩ := H
  replace H : ((posserref03_Right.f k l0_0 l0_1 a0_2 l1).bind fun t152 => ((posserref03_Bits.f k (Go.bits .andNot .i64 t151 t152)).bind fun t153 => (some (decide ((t153.length : Int) ≤ a0_2))))) = some r := H
  have A5 := Aside0.mk A50
  clear A50
  replace H := Option.bind_eq_some_iff.mp H
  obtain ⟨t152, A60, H⟩ := H
  replace H : ((posserref03_Bits.f k (Go.bits .andNot .i64 t151 t152)).bind fun t153 => (some (decide ((t153.length : Int) ≤ a0_2)))) = some r := H
  have A6 := Aside0.mk A60
  clear A60
  replace H := Option.bind_eq_some_iff.mp H
  obtain ⟨t153, A70, H⟩ := H
  replace H : (some (decide ((t153.length : Int) ≤ a0_2))) = some r := H
  have A7 := Aside0.mk A70
  clear A70
  obtain rfl := Option.some.inj H
  go_enter Try.func42, Try.ntmps42
  try go_wp2_with (first | ((with_reducible refine gate_dst (N := 2) rfl ?_); (try (refine gate_guard (by rfl) ?_; dsimp only)); refine sbox (N := 2) #[.slice A0_0 l0_0.length c0_0, .slice A0_1 l0_1.length c0_1, .int .i64 a0_2] 25 ?_; intro gb149 hg w8 hbox hb; have BK149 := Aside0.mk (hbox); have GW149 := Aside0.mk (sge hg HB : w.heap.size ≤ gb149); have GE149 := Aside0.mk (sge hg HB : w.heap.size ≤ gb149); replace HB := Aside0.mk (sbs HB hb); clear hb hbox hg))
  replace BK149 := Aside0.mk (blk_drew BK149.out)
  replace HB := Aside0.mk (below_drew1 HB.out)
  refine start_ (n := 17) (S := fun w' => w'.cell? ⟨gb149, 0, none⟩ = some (.slice A0_0 l0_0.length c0_0) ∧ w'.cell? ⟨gb149, 1, none⟩ = some (.slice A0_1 l0_1.length c0_1) ∧ w'.cell? ⟨gb149, 2, none⟩ = some (.int .i64 a0_2)) (ds := []) (lm 17 0) (by kernel_rfl) rfl (by kernel_rfl) ⟨(blk_cell BK149.out 0).trans rfl, (blk_cell BK149.out 1).trans rfl, (blk_cell BK149.out 2).trans rfl⟩ (fun hHeld => ?_); refine with_tabW posserref03_IsTruth.tab1 posserref03_IsTruth.bits1 (fun HT_ HW_ => ?_)
  generalize w8.drew = w9 at BK149 HB hHeld ⊢
  refine sP (i := 1) (N := some 6) (lm 17 2) ?_ (hc := any_of HT_.out (by kernel_rfl))
  refine take_ (i := 0) (N := some 5) (v := ?_) (a' := ?_) (lm 17 3) rfl rfl (take_ofW HT_.out HW_.out (by kernel_rfl)) (fun _ _ _ h => h) (Or.inl ⟨by rfl, ?_⟩) hHeld ?_ ?_
  rotate_left
  ·rintro w' ⟨s0, s1, s2⟩
   go_simp
   with_reducible rfl
  rotate_left
  ·simp only [Act.put, List.setIfInBounds_toArray, List.set_cons_zero, List.set_cons_succ, i64_w, i32_w]
   rfl
  refine one_ (i := 2) (N := some 7) (lm 17 7) rfl rfl (one_of HT_.out (by kernel_rfl)) (by decide) (fun K hK => ?_)
  refine goes_ Try.func62 (by kernel_rfl) rfl #[.agg #[.slice A0_0 l0_0.length c0_0, .slice A0_1 l0_1.length c0_1, .int .i64 a0_2], .slice A1 l1.length c1] (by rfl) rfl rfl (by (try simp only [List.map_toArray, List.map_cons, List.map_nil]); first | done | rfl | (simp only [List.length_drop, List.length_take]; rfl)) ?_
  with_reducible refine (posserref03_AreOwners.calls k _ _ l0_0 _ _ l0_1 a0_2 _ _ l1 true _ ?side1 ?side2 ?side3 ?side4 ?side5 ?side6 A3.out).mono ?_
  (case side1 => exact sCb HR0_0 HB)
  (case side2 => exact HC0_0.out)
  (case side3 => exact sCb HR0_1 HB)
  (case side4 => exact HC0_1.out)
  (case side5 => exact sCb HR1 HB)
  (case side6 => exact HC1.out)
  rintro e w10 ⟨rfl, hb⟩
  refine ⟨_, rfl, ?_⟩
  replace BK149 := Aside0.mk (sbb BK149 hb)
  replace HB := Aside0.mk (sbs1 HB GE149 hb)
  (try clear hb)
  (try clear hb2)
  (try clear hk)
  (try clear hi)
  refine hK.out _ _ ⟨(blk_cell BK149.out 0).trans rfl, (blk_cell BK149.out 1).trans rfl, (blk_cell BK149.out 2).trans rfl⟩ (fun hHeld => ?_)
  clear hK K
  refine sN ?_
  refine sP (i := 3) (N := some 8) (lm 17 15) ?_ (hc := any_of HT_.out (by kernel_rfl))
  refine sP (i := 7) (N := some 12) (lm 17 143) ?_ (hc := any_of HT_.out (by kernel_rfl))
  refine sP (i := 12) (N := some 17) (lm 17 4239) ?_ (hc := any_of HT_.out (by kernel_rfl))
  refine take_ (i := 4) (N := some 9) (v := ?_) (a' := ?_) (lm 17 4255) rfl rfl (take_ofW HT_.out HW_.out (by kernel_rfl)) (fun _ _ _ h => h) (Or.inl ⟨by rfl, ?_⟩) hHeld ?_ ?_
  rotate_left
  ·rintro w' ⟨s0, s1, s2⟩
   go_simp
   with_reducible rfl
  rotate_left
  ·simp only [Act.put, List.setIfInBounds_toArray, List.set_cons_zero, List.set_cons_succ, i64_w, i32_w]
   rfl
  refine take_ (i := 6) (N := some 11) (v := ?_) (a' := ?_) (lm 17 4319) rfl rfl (take_ofW HT_.out HW_.out (by kernel_rfl)) (fun _ _ _ h => h) (Or.inl ⟨by rfl, ?_⟩) hHeld ?_ ?_
  rotate_left
  ·rintro w' ⟨s0, s1, s2⟩
   go_simp
   with_reducible rfl
  rotate_left
  ·simp only [Act.put, List.setIfInBounds_toArray, List.set_cons_zero, List.set_cons_succ, i64_w, i32_w]
   rfl
  refine take_ (i := 13) (N := some 18) (v := ?_) (a' := ?_) (lm 17 12511) rfl rfl (take_ofW HT_.out HW_.out (by kernel_rfl)) (fun _ _ _ h => h) (Or.inl ⟨by rfl, ?_⟩) hHeld ?_ ?_
  rotate_left
  ·rintro w' ⟨s0, s1, s2⟩
   go_simp
   with_reducible rfl
  rotate_left
  ·simp only [Act.put, List.setIfInBounds_toArray, List.set_cons_zero, List.set_cons_succ, i64_w, i32_w]
   rfl
  refine one_ (i := 5) (N := some 10) (lm 17 12543) rfl rfl (one_of HT_.out (by kernel_rfl)) (by decide) (fun K hK => ?_)
  refine goes_ Try.func58 (by kernel_rfl) rfl #[.agg #[.slice A0_0 l0_0.length c0_0, .slice A0_1 l0_1.length c0_1, .int .i64 a0_2]] (by rfl) rfl rfl (by (try simp only [List.map_toArray, List.map_cons, List.map_nil]); first | done | rfl | (simp only [List.length_drop, List.length_take]; rfl)) ?_
  with_reducible refine (posserref03_Full.calls _ _ l0_0 _ _ l0_1 a0_2 t151 _ ?side1 ?side2 ?side3 ?side4 A5.out).mono ?_
  (case side1 => exact sCb HR0_0 HB)
  (case side2 => exact HC0_0.out)
  (case side3 => exact sCb HR0_1 HB)
  (case side4 => exact HC0_1.out)
  rintro e w11 ⟨rfl, hb⟩
  refine ⟨_, rfl, ?_⟩
  replace BK149 := Aside0.mk (sbb BK149 hb)
  replace HB := Aside0.mk (sbs1 HB GE149 hb)
  (try clear hb)
  (try clear hb2)
  (try clear hk)
  (try clear hi)
  refine hK.out _ _ ⟨(blk_cell BK149.out 0).trans rfl, (blk_cell BK149.out 1).trans rfl, (blk_cell BK149.out 2).trans rfl⟩ (fun hHeld => ?_)
  clear hK K
  refine sN ?_
  refine one_ (i := 8) (N := some 13) (lm 17 12799) rfl rfl (one_of HT_.out (by kernel_rfl)) (by decide) (fun K hK => ?_)
  refine goes_ Try.func77 (by kernel_rfl) rfl #[.agg #[.slice A0_0 l0_0.length c0_0, .slice A0_1 l0_1.length c0_1, .int .i64 a0_2], .slice A1 l1.length c1] (by rfl) rfl rfl (by (try simp only [List.map_toArray, List.map_cons, List.map_nil]); first | done | rfl | (simp only [List.length_drop, List.length_take]; rfl)) ?_
  with_reducible refine (posserref03_Right.calls k _ _ l0_0 _ _ l0_1 a0_2 _ _ l1 t152 _ ?side1 ?side2 ?side3 ?side4 ?side5 ?side6 A6.out).mono ?_
  (case side1 => exact sCb HR0_0 HB)
  (case side2 => exact HC0_0.out)
  (case side3 => exact sCb HR0_1 HB)
  (case side4 => exact HC0_1.out)
  (case side5 => exact sCb HR1 HB)
  (case side6 => exact HC1.out)
  rintro e w12 ⟨rfl, hb⟩
  refine ⟨_, rfl, ?_⟩
  replace BK149 := Aside0.mk (sbb BK149 hb)
  replace HB := Aside0.mk (sbs1 HB GE149 hb)
  (try clear hb)
  (try clear hb2)
  (try clear hk)
  (try clear hi)
  refine hK.out _ _ ⟨(blk_cell BK149.out 0).trans rfl, (blk_cell BK149.out 1).trans rfl, (blk_cell BK149.out 2).trans rfl⟩ (fun hHeld => ?_)
  clear hK K
  refine sN ?_
  refine sP (i := 9) (N := some 14) (lm 17 13311) ?_ (hc := any_of HT_.out (by kernel_rfl))
  refine one_ (i := 10) (N := some 15) (lm 17 14335) rfl rfl (one_of HT_.out (by kernel_rfl)) (by decide) (fun K hK => ?_)
  refine goes_ Try.func48 (by kernel_rfl) rfl #[.int .i64 (Go.bits .andNot .i64 t151 t152)] (by rfl) rfl rfl (by (try simp only [List.map_toArray, List.map_cons, List.map_nil]); first | done | rfl | (simp only [List.length_drop, List.length_take]; rfl)) ?_
  with_reducible refine (posserref03_Bits.calls k (Go.bits .andNot .i64 t151 t152) t153 _ A7.out).mono ?_
  rintro e w13 ⟨v154, rfl, ho0, hb⟩
  refine ⟨_, rfl, ?_⟩
  have HO155 := Aside0.mk (Kd.R_lower ho0 (below_size (sbe1 HB GE149)))
  replace BK149 := Aside0.mk (sbb BK149 hb)
  replace HB := Aside0.mk (sbs1 HB GE149 hb)
  (try clear hb)
  (try clear hb2)
  (try clear hk)
  (try clear hi)
  (try clear ho0)
  obtain ⟨Ao14, co14, eo14⟩ := Kd.R_slice HO155.out
  (first | subst eo14 | (injection eo14 with f1_ f2_ f3_; have f4_ := f1_.symm; have f5_ := f3_.symm; clear f1_ f2_ f3_; subst f4_; subst f5_))
  refine hK.out _ _ ⟨(blk_cell BK149.out 0).trans rfl, (blk_cell BK149.out 1).trans rfl, (blk_cell BK149.out 2).trans rfl⟩ (fun hHeld => ?_)
  clear hK K
  refine sN ?_
  refine sP (i := 11) (N := some 16) (lm 17 16383) ?_ (hc := any_of HT_.out (by kernel_rfl))
  refine sP (i := 14) (N := some 19) (lm 17 32767) ?_ (hc := any_of HT_.out (by kernel_rfl))
  refine sP (i := 15) (N := some 20) (lm 17 65535) ?_ (hc := any_of HT_.out (by kernel_rfl))
  refine sP (i := 16) (N := some 4) (lm 17 131071) ?_ (hc := any_of HT_.out (by kernel_rfl))
  refine done_ (done_of HT_.out (by kernel_rfl)) ?_
  try go_wp2
  go_ret
  exact ⟨by first | rfl | (simp [errW_none, errW_some] <;> rfl) | (simp [*, errW_none, errW_some] <;> rfl), (sbe1 HB GE149)⟩
 ·replace c4 := Bool.eq_false_iff.mpr c4
  subst c4
  have H1 : (some false) = some r := by rw [if_neg (show ¬ (false = true) by decide)] at H; exact H
  clear H
  have H := H1
  clear H1
  obtain rfl := Option.some.inj H
  go_enter Try.func42, Try.ntmps42
  try go_wp2_with (first | ((with_reducible refine gate_dst (N := 2) rfl ?_); (try (refine gate_guard (by rfl) ?_; dsimp only)); refine sbox (N := 2) #[.slice A0_0 l0_0.length c0_0, .slice A0_1 l0_1.length c0_1, .int .i64 a0_2] 25 ?_; intro gb149 hg w15 hbox hb; have BK149 := Aside0.mk (hbox); have GW149 := Aside0.mk (sge hg HB : w.heap.size ≤ gb149); have GE149 := Aside0.mk (sge hg HB : w.heap.size ≤ gb149); replace HB := Aside0.mk (sbs HB hb); clear hb hbox hg))
  replace BK149 := Aside0.mk (blk_drew BK149.out)
  replace HB := Aside0.mk (below_drew1 HB.out)
  refine start_ (n := 17) (S := fun w' => w'.cell? ⟨gb149, 0, none⟩ = some (.slice A0_0 l0_0.length c0_0) ∧ w'.cell? ⟨gb149, 1, none⟩ = some (.slice A0_1 l0_1.length c0_1) ∧ w'.cell? ⟨gb149, 2, none⟩ = some (.int .i64 a0_2)) (ds := []) (lm 17 0) (by kernel_rfl) rfl (by kernel_rfl) ⟨(blk_cell BK149.out 0).trans rfl, (blk_cell BK149.out 1).trans rfl, (blk_cell BK149.out 2).trans rfl⟩ (fun hHeld => ?_); refine with_tabW posserref03_IsTruth.tab1 posserref03_IsTruth.bits1 (fun HT_ HW_ => ?_)
  generalize w15.drew = w16 at BK149 HB hHeld ⊢
  refine sP (i := 1) (N := some 6) (lm 17 2) ?_ (hc := any_of HT_.out (by kernel_rfl))
  refine take_ (i := 0) (N := some 5) (v := ?_) (a' := ?_) (lm 17 3) rfl rfl (take_ofW HT_.out HW_.out (by kernel_rfl)) (fun _ _ _ h => h) (Or.inl ⟨by rfl, ?_⟩) hHeld ?_ ?_
  rotate_left
  ·rintro w' ⟨s0, s1, s2⟩
   go_simp
   with_reducible rfl
  rotate_left
  ·simp only [Act.put, List.setIfInBounds_toArray, List.set_cons_zero, List.set_cons_succ, i64_w, i32_w]
   rfl
  refine one_ (i := 2) (N := some 7) (lm 17 7) rfl rfl (one_of HT_.out (by kernel_rfl)) (by decide) (fun K hK => ?_)
  refine goes_ Try.func62 (by kernel_rfl) rfl #[.agg #[.slice A0_0 l0_0.length c0_0, .slice A0_1 l0_1.length c0_1, .int .i64 a0_2], .slice A1 l1.length c1] (by rfl) rfl rfl (by (try simp only [List.map_toArray, List.map_cons, List.map_nil]); first | done | rfl | (simp only [List.length_drop, List.length_take]; rfl)) ?_
  with_reducible refine (posserref03_AreOwners.calls k _ _ l0_0 _ _ l0_1 a0_2 _ _ l1 false _ ?side1 ?side2 ?side3 ?side4 ?side5 ?side6 A3.out).mono ?_
  (case side1 => exact sCb HR0_0 HB)
  (case side2 => exact HC0_0.out)
  (case side3 => exact sCb HR0_1 HB)
  (case side4 => exact HC0_1.out)
  (case side5 => exact sCb HR1 HB)
  (case side6 => exact HC1.out)
  rintro e w17 ⟨rfl, hb⟩
  refine ⟨_, rfl, ?_⟩
  replace BK149 := Aside0.mk (sbb BK149 hb)
  replace HB := Aside0.mk (sbs1 HB GE149 hb)
  (try clear hb)
  (try clear hb2)
  (try clear hk)
  (try clear hi)
  refine hK.out _ _ ⟨(blk_cell BK149.out 0).trans rfl, (blk_cell BK149.out 1).trans rfl, (blk_cell BK149.out 2).trans rfl⟩ (fun hHeld => ?_)
  clear hK K
  refine sN ?_
  refine sP (i := 3) (N := some 8) (lm 17 15) ?_ (hc := any_of HT_.out (by kernel_rfl))
  refine pure_ (i := 4) (N := some 9) (v := undef) (a' := ?_) (lm 17 31) rfl rfl (any_of HT_.out (by kernel_rfl)) (fun _ _ _ h => h) (Or.inr ⟨by rfl, rfl⟩) ?_ ?_
  rotate_left
  ·simp only [Act.put, List.setIfInBounds_toArray, List.set_cons_zero, List.set_cons_succ, i64_w, i32_w]
   rfl
  refine pure_ (i := 5) (N := some 10) (v := undef) (a' := ?_) (lm 17 63) rfl rfl (any_of HT_.out (by kernel_rfl)) (fun _ _ _ h => h) (Or.inr ⟨by rfl, rfl⟩) ?_ ?_
  rotate_left
  ·simp only [Act.put, List.setIfInBounds_toArray, List.set_cons_zero, List.set_cons_succ, i64_w, i32_w]
   rfl
  refine pure_ (i := 6) (N := some 11) (v := undef) (a' := ?_) (lm 17 127) rfl rfl (any_of HT_.out (by kernel_rfl)) (fun _ _ _ h => h) (Or.inr ⟨by rfl, rfl⟩) ?_ ?_
  rotate_left
  ·simp only [Act.put, List.setIfInBounds_toArray, List.set_cons_zero, List.set_cons_succ, i64_w, i32_w]
   rfl
  refine pure_ (i := 7) (N := some 12) (v := undef) (a' := ?_) (lm 17 255) rfl rfl (any_of HT_.out (by kernel_rfl)) (fun _ _ _ h => h) (Or.inr ⟨by rfl, rfl⟩) ?_ ?_
  rotate_left
  ·simp only [Act.put, List.setIfInBounds_toArray, List.set_cons_zero, List.set_cons_succ, i64_w, i32_w]
   rfl
  refine pure_ (i := 8) (N := some 13) (v := undef) (a' := ?_) (lm 17 511) rfl rfl (any_of HT_.out (by kernel_rfl)) (fun _ _ _ h => h) (Or.inr ⟨by rfl, rfl⟩) ?_ ?_
  rotate_left
  ·simp only [Act.put, List.setIfInBounds_toArray, List.set_cons_zero, List.set_cons_succ, i64_w, i32_w]
   rfl
  refine pure_ (i := 9) (N := some 14) (v := undef) (a' := ?_) (lm 17 1023) rfl rfl (any_of HT_.out (by kernel_rfl)) (fun _ _ _ h => h) (Or.inr ⟨by rfl, rfl⟩) ?_ ?_
  rotate_left
  ·simp only [Act.put, List.setIfInBounds_toArray, List.set_cons_zero, List.set_cons_succ, i64_w, i32_w]
   rfl
  refine pure_ (i := 10) (N := some 15) (v := undef) (a' := ?_) (lm 17 2047) rfl rfl (any_of HT_.out (by kernel_rfl)) (fun _ _ _ h => h) (Or.inr ⟨by rfl, rfl⟩) ?_ ?_
  rotate_left
  ·simp only [Act.put, List.setIfInBounds_toArray, List.set_cons_zero, List.set_cons_succ, i64_w, i32_w]
   rfl
  refine pure_ (i := 11) (N := some 16) (v := undef) (a' := ?_) (lm 17 4095) rfl rfl (any_of HT_.out (by kernel_rfl)) (fun _ _ _ h => h) (Or.inr ⟨by rfl, rfl⟩) ?_ ?_
  rotate_left
  ·simp only [Act.put, List.setIfInBounds_toArray, List.set_cons_zero, List.set_cons_succ, i64_w, i32_w]
   rfl
  refine pure_ (i := 12) (N := some 17) (v := undef) (a' := ?_) (lm 17 8191) rfl rfl (any_of HT_.out (by kernel_rfl)) (fun _ _ _ h => h) (Or.inr ⟨by rfl, rfl⟩) ?_ ?_
  rotate_left
  ·simp only [Act.put, List.setIfInBounds_toArray, List.set_cons_zero, List.set_cons_succ, i64_w, i32_w]
   rfl
  refine pure_ (i := 13) (N := some 18) (v := undef) (a' := ?_) (lm 17 16383) rfl rfl (any_of HT_.out (by kernel_rfl)) (fun _ _ _ h => h) (Or.inr ⟨by rfl, rfl⟩) ?_ ?_
  rotate_left
  ·simp only [Act.put, List.setIfInBounds_toArray, List.set_cons_zero, List.set_cons_succ, i64_w, i32_w]
   rfl
  refine pure_ (i := 14) (N := some 19) (v := undef) (a' := ?_) (lm 17 32767) rfl rfl (any_of HT_.out (by kernel_rfl)) (fun _ _ _ h => h) (Or.inr ⟨by rfl, rfl⟩) ?_ ?_
  rotate_left
  ·simp only [Act.put, List.setIfInBounds_toArray, List.set_cons_zero, List.set_cons_succ, i64_w, i32_w]
   rfl
  refine sP (i := 15) (N := some 20) (lm 17 65535) ?_ (hc := any_of HT_.out (by kernel_rfl))
  refine sP (i := 16) (N := some 4) (lm 17 131071) ?_ (hc := any_of HT_.out (by kernel_rfl))
  refine done_ (done_of HT_.out (by kernel_rfl)) ?_
  try go_wp2
  go_ret
  exact ⟨by first | rfl | (simp [errW_none, errW_some] <;> rfl) | (simp [*, errW_none, errW_some] <;> rfl), (sbe1 HB GE149)⟩
end Go.Proofs.Ytnbbbeghgomnoaa.X
namespace Go.Proofs.Ytnbbbeghgomnoaa.X
open Go.RowKit Go.Proofs.YtnbbbeghgomnoaaW.PrintWords Go.Proofs.YtnbbbeghgomnoaaW.PrintLast Go.Proofs.YtnbbbeghgomnoaaW.PrintMore
attribute [local go_sem] max2_int min2_int max_two min_two max_three min_three max_four min_four
set_option linter.unusedVariables false
set_option linter.unusedSimpArgs false
def posserref03_Astray.l0 : Nat → List Int → List Int → Int → List (S85) → List (S71) → Int → Option (List Int)
  | 0, _, _, _, _, _, _ => none
  | k + 1, x1, x5, x6, x336000, x336001, x336002 => if x6 < (x1.length : Int) then (if 0 ≤ x6 then (if x6 < (x336001.length : Int) then (if ((rd_T71 x336001 x6).f1) = (rd x1 x6) then (posserref03_Astray.l0 k x1 x5 (wrap64 (x6 + 1)) x336000 x336001 x336002) else (if x5.length < 17592186044416 then (posserref03_Astray.l0 k x1 (x5 ++ [x6]) (wrap64 (x6 + 1)) x336000 x336001 x336002) else (none))) else (none)) else (none)) else (some x5)
def posserref03_Astray.f (k : Nat) (l0_0 : List (S85)) (l0_1 : List (S71)) (a0_2 : Int) (l1 : List Int) : Option (List Int) := posserref03_Astray.l0 k l1 ([] : List Int) 0 l0_0 l0_1 a0_2
set_option maxHeartbeats 8000000 in
set_option maxRecDepth 100000 in
theorem posserref03_Astray.calls (k : Nat) (A0_0 : Option Addr) (c0_0 : Nat) (l0_0 : List (S85)) (A0_1 : Option Addr) (c0_1 : Nat) (l0_1 : List (S71)) (a0_2 : Int) (A1 : Option Addr) (c1 : Nat) (l1 : List Int) (r : List Int) (w : World) (hr0_0 : Kd.C k85 w A0_0 l0_0.length l0_0) (hc0_0 : l0_0.length ≤ c0_0) (hr0_1 : Kd.C k71 w A0_1 l0_1.length l0_1) (hc0_1 : l0_1.length ≤ c0_1) (hr1 : Kd.C (Kd.int .i64) w A1 l1.length l1) (hc1 : l1.length ≤ c1) (h : posserref03_Astray.f k l0_0 l0_1 a0_2 l1 = some r) :
    Calls Try.prog 43 #[.agg #[.slice A0_0 l0_0.length c0_0, .slice A0_1 l0_1.length c0_1, .int .i64 a0_2], .slice A1 l1.length c1] w fun e w' => ∃ v0_ : Value, e = .returned (v0_) ∧ Kd.R (Kd.int .i64) 3 w' w.heap.size (fun _ => True) v0_ r ∧ Below w.heap.size w w' := by
  have hu25 := Try.underlying25
  have HR0_0 := Aside0.mk hr0_0
  have HC0_0 := Aside0.mk hc0_0
  clear hr0_0 hc0_0
  have HR0_1 := Aside0.mk hr0_1
  have HC0_1 := Aside0.mk hc0_1
  clear hr0_1 hc0_1
  have HR1 := Aside0.mk hr1
  have HC1 := Aside0.mk hc1
  clear hr1 hc1
  have HB := Aside0.mk (Below.refl w.heap.size w)
  have H : (posserref03_Astray.l0 k l1 ([] : List Int) 0 l0_0 l0_1 a0_2) = some r := h
  clear h
  have H' := Aside0.mk H
  clear H
  go_enter Try.func43, Try.ntmps43
  go_wp2_with (first | ((with_reducible refine gate_dst (N := 2) rfl ?_); refine box_event ?hg (N := 2) ?hd (cs := #[.slice A0_0 l0_0.length c0_0, .slice A0_1 l0_1.length c0_1, .int .i64 a0_2]) (t := 25) ?hr ?_; (case hd => rfl); (case hg => rfl); (case hr => first | (go_simp; done) | (go_simp; rfl)); intro gb335 hg w3 hbox hb; have n0_ := Aside0.mk (below_step (by repeat (first | (with_reducible first | exact HB.out | apply below_alloc | apply pw_below_drewN | apply below_drew1) | exact HB.out)) hb); have n1_ := Aside0.mk (hbox); have n2_ := Aside0.mk ((by rw [hg]; exact (below_size (by repeat (first | (with_reducible first | exact HB.out | apply below_alloc | apply pw_below_drewN | apply below_drew1) | exact HB.out))) : w.heap.size ≤ gb335)); have n3_ := Aside0.mk ((by rw [hg]; exact (below_size (by repeat (first | (with_reducible first | exact HB.out | apply below_alloc | apply pw_below_drewN | apply below_drew1) | exact HB.out))) : w.heap.size ≤ gb335)); clear HB; have HB := n0_; have BK335 := n1_; have GW335 := n2_; have GE335 := n3_; clear n0_ n1_ n2_ n3_; clear hb hbox hg))
  repeat (go_quiet (first | ((with_reducible refine gate_dst (N := 2) rfl ?_); refine box_event ?hg (N := 2) ?hd (cs := #[.slice A0_0 l0_0.length c0_0, .slice A0_1 l0_1.length c0_1, .int .i64 a0_2]) (t := 25) ?hr ?_; (case hd => rfl); (case hg => rfl); (case hr => first | (go_simp; done) | (go_simp; rfl)); intro gb335 hg w3 hbox hb; have n0_ := Aside0.mk (below_step (by repeat (first | (with_reducible first | exact HB.out | apply below_alloc | apply pw_below_drewN | apply below_drew1) | exact HB.out)) hb); have n1_ := Aside0.mk (hbox); have n2_ := Aside0.mk ((by rw [hg]; exact (below_size (by repeat (first | (with_reducible first | exact HB.out | apply below_alloc | apply pw_below_drewN | apply below_drew1) | exact HB.out))) : w.heap.size ≤ gb335)); have n3_ := Aside0.mk ((by rw [hg]; exact (below_size (by repeat (first | (with_reducible first | exact HB.out | apply below_alloc | apply pw_below_drewN | apply below_drew1) | exact HB.out))) : w.heap.size ≤ gb335)); clear HB; have HB := n0_; have BK335 := n1_; have GW335 := n2_; have GE335 := n3_; clear n0_ n1_ n2_ n3_; clear hb hbox hg)); try go_wp2_with (first | ((with_reducible refine gate_dst (N := 2) rfl ?_); refine box_event ?hg (N := 2) ?hd (cs := #[.slice A0_0 l0_0.length c0_0, .slice A0_1 l0_1.length c0_1, .int .i64 a0_2]) (t := 25) ?hr ?_; (case hd => rfl); (case hg => rfl); (case hr => first | (go_simp; done) | (go_simp; rfl)); intro gb335 hg w3 hbox hb; have n0_ := Aside0.mk (below_step (by repeat (first | (with_reducible first | exact HB.out | apply below_alloc | apply pw_below_drewN | apply below_drew1) | exact HB.out)) hb); have n1_ := Aside0.mk (hbox); have n2_ := Aside0.mk ((by rw [hg]; exact (below_size (by repeat (first | (with_reducible first | exact HB.out | apply below_alloc | apply pw_below_drewN | apply below_drew1) | exact HB.out))) : w.heap.size ≤ gb335)); have n3_ := Aside0.mk ((by rw [hg]; exact (below_size (by repeat (first | (with_reducible first | exact HB.out | apply below_alloc | apply pw_below_drewN | apply below_drew1) | exact HB.out))) : w.heap.size ≤ gb335)); clear HB; have HB := n0_; have BK335 := n1_; have GW335 := n2_; have GE335 := n3_; clear n0_ n1_ n2_ n3_; clear hb hbox hg)))
  go_loopg [5, 6] k (fun kq v5 v6 w' => ∃ (x5_1 : List Int) (x6_1 : Int), v6 = .int .i64 x6_1 ∧ Aside0 (posserref03_Astray.l0 kq l1 x5_1 x6_1 l0_0 l0_1 a0_2 = some r) ∧ Aside0 (kq ≤ k) ∧ Aside0 (Kd.R (Kd.int .i64) 3 w' w.heap.size (fun _ => True) v5 x5_1) ∧ Aside0 (w'.heap[gb335]? = some (.cells #[(.slice A0_0 l0_0.length c0_0), (.slice A0_1 l0_1.length c0_1), .int .i64 a0_2] 25 (0, 0))) ∧ Aside0 (Below w.heap.size w w'))
  case atStart => exact ⟨(([] : List Int)), (0), (by first | rfl | (simp; done) | (simp [*]; done)), H', ⟨Nat.le_refl _⟩, ⟨by first | exact Kd.R_nil _ _ _ _ _ | exact Kd.N_nil _ _ _ _ _ | exact Kd.V_nil _ _ _ _ _ | exact Kd.Q_nil _ _ _ _ _ | exact Kd.S_nil _ _ _ _ _⟩, ⟨by (with_reducible repeat (first | refine blk_drewN ?_ _ | refine blk_drew ?_ | refine blk_alloc ?_ _)); exact BK335.out⟩, ⟨by repeat (first | (with_reducible first | exact HB.out | apply below_alloc | apply pw_below_drewN | apply below_drew1 | refine below_set ?_ GE335.out) | exact HB.out)⟩⟩
  case round =>
    clear H'
    try clear c1
    try clear p2
    obtain ⟨x5_1, x6_1, rfl, HA, HK1, HO_5, BK335, HB⟩ := hrel
    cases gk with
    | zero => exact absurd HA.out (by simp [posserref03_Astray.l0])
    | succ k1 =>
      have H := HA.out
      clear HA
      simp only [posserref03_Astray.l0] at H
      by_cases c4 : x6_1 < (l1.length : Int)
      · rw [if_pos c4] at H
        have c4b0 : decide (x6_1 < (l1.length : Int)) = true := decide_eq_true c4
        clear c4
        by_cases c5 : 0 ≤ x6_1
        · rw [if_pos c5] at H
          have c5b0 : decide (0 ≤ x6_1) = true := decide_eq_true c5
          clear c5
          by_cases c6 : x6_1 < (l0_1.length : Int)
          · rw [if_pos c6] at H
            have c6b0 : decide (x6_1 < (l0_1.length : Int)) = true := decide_eq_true c6
            clear c6
            by_cases c7 : ((rd_T71 l0_1 x6_1).f1) = (rd l1 x6_1)
            · rw [if_pos c7] at H
              have c7b0 : (((rd_T71 l0_1 x6_1).f1) == (rd l1 x6_1)) = true := beq_iff_eq.mpr c7
              have c7b1 : (((rd_T71 l0_1 x6_1).f1) != (rd l1 x6_1)) = false := bne_eq_false_iff_eq.mpr c7
              clear c7
              have H' := Aside0.mk H
              clear H
              have hcz8_0 : wr.cell? ⟨gb335, 0, none⟩ = some (.slice A0_0 l0_0.length c0_0) := (blk_cell BK335.out 0).trans rfl
              have hcz8_1 : wr.cell? ⟨gb335, 1, none⟩ = some (.slice A0_1 l0_1.length c0_1) := (blk_cell BK335.out 1).trans rfl
              have hcz8_2 : wr.cell? ⟨gb335, 2, none⟩ = some (.int .i64 a0_2) := (blk_cell BK335.out 2).trans rfl
              have hfz8_0 := blk_frozen BK335.out 0
              have hfz8_1 := blk_frozen BK335.out 1
              have hfz8_2 := blk_frozen BK335.out 2
              have p336 : 0 ≤ (x6_1 : Int) := of_decide_eq_true (by first | (with_reducible assumption) | assumption)
              have q336 : x6_1 < (l0_1.length : Int) := of_decide_eq_true (by first | (with_reducible assumption) | assumption)
              obtain ⟨ad336, A336_0, c336_0, e336, hx336_0, hx336_1, hl336_0, hi336_0⟩ := at_T71 HR0_1.out x6_1 p336 q336
              cases e336
              replace hx336_0 := (HB.out.cell (World.block_lt_of_cell? w _ hx336_0)).trans hx336_0
              replace hx336_1 := (HB.out.cell (World.block_lt_of_cell? w _ hx336_1)).trans hx336_1
              have HR336_0 := Aside0.mk hi336_0
              have HC336_0 := Aside0.mk hl336_0
              clear hi336_0 hl336_0
              replace p336 := eq_true p336
              replace q336 := eq_true q336
              have p337 : 0 ≤ (x6_1 : Int) := of_decide_eq_true (by first | (with_reducible assumption) | assumption)
              have q337 : x6_1 < (l1.length : Int) := of_decide_eq_true (by first | (with_reducible assumption) | assumption)
              obtain ⟨ad337, e337, hx337_0⟩ := Kd.at_int HR1.out x6_1 p337 q337
              cases e337
              replace hx337_0 := (HB.out.cell (World.block_lt_of_cell? w _ hx337_0)).trans hx337_0
              replace p337 := eq_true p337
              replace q337 := eq_true q337
              go_wp2
              repeat (go_quiet (fail); try go_wp2)
              go_roundg k1
              case measure => have := HK1.out; omega
              case rel => exact ⟨(x5_1), (wrap64 (x6_1 + 1)), (by first | rfl | (simp; done) | (simp [*]; done)), H', ⟨by have := HK1.out; omega⟩, ⟨by (with_reducible repeat (first | apply Kd.R_alloc | apply Kd.R_drewN | apply Kd.R_drew)); exact HO_5.out⟩, ⟨by (with_reducible repeat (first | refine blk_drewN ?_ _ | refine blk_drew ?_ | refine blk_alloc ?_ _)); exact BK335.out⟩, ⟨by repeat (first | (with_reducible first | exact HB.out | apply below_alloc | apply pw_below_drewN | apply below_drew1 | refine below_set ?_ GE335.out) | exact HB.out)⟩⟩
            · rw [if_neg c7] at H
              have c7b0 : (((rd_T71 l0_1 x6_1).f1) == (rd l1 x6_1)) = false := beq_eq_false_iff_ne.mpr c7
              have c7b1 : (((rd_T71 l0_1 x6_1).f1) != (rd l1 x6_1)) = true := bne_iff_ne.mpr c7
              by_cases c9 : x5_1.length < 17592186044416
              · rw [if_pos c9] at H
                have LMc9 := Aside0.mk c9
                clear c9
                obtain ⟨y338, hy338⟩ : ∃ y_ : List Int, y_ = (x5_1 ++ [x6_1]) := ⟨_, rfl⟩
                replace H : (posserref03_Astray.l0 k1 l1 y338 (wrap64 (x6_1 + 1)) l0_0 l0_1 a0_2) = some r := by first | (rw [hy338]; with_reducible exact H) | (have H2_ := (Option.bind_some _ _).symm.trans H; rw [hy338]; with_reducible exact H2_) | (have H2_ := (Option.bind_some _ _).symm.trans H; with_reducible exact H2_) | with_reducible exact H | (rw [hy338]; exact H) | exact H
                have Ny338 := Aside0.mk hy338
                clear hy338
                have H' := Aside0.mk H
                clear H
                have hcz10_0 : wr.cell? ⟨gb335, 0, none⟩ = some (.slice A0_0 l0_0.length c0_0) := (blk_cell BK335.out 0).trans rfl
                have hcz10_1 : wr.cell? ⟨gb335, 1, none⟩ = some (.slice A0_1 l0_1.length c0_1) := (blk_cell BK335.out 1).trans rfl
                have hcz10_2 : wr.cell? ⟨gb335, 2, none⟩ = some (.int .i64 a0_2) := (blk_cell BK335.out 2).trans rfl
                have hfz10_0 := blk_frozen BK335.out 0
                have hfz10_1 := blk_frozen BK335.out 1
                have hfz10_2 := blk_frozen BK335.out 2
                have p336 : 0 ≤ (x6_1 : Int) := of_decide_eq_true (by first | (with_reducible assumption) | assumption)
                have q336 : x6_1 < (l0_1.length : Int) := of_decide_eq_true (by first | (with_reducible assumption) | assumption)
                obtain ⟨ad336, A336_0, c336_0, e336, hx336_0, hx336_1, hl336_0, hi336_0⟩ := at_T71 HR0_1.out x6_1 p336 q336
                cases e336
                replace hx336_0 := (HB.out.cell (World.block_lt_of_cell? w _ hx336_0)).trans hx336_0
                replace hx336_1 := (HB.out.cell (World.block_lt_of_cell? w _ hx336_1)).trans hx336_1
                have HR336_0 := Aside0.mk hi336_0
                have HC336_0 := Aside0.mk hl336_0
                clear hi336_0 hl336_0
                replace p336 := eq_true p336
                replace q336 := eq_true q336
                have p337 : 0 ≤ (x6_1 : Int) := of_decide_eq_true (by first | (with_reducible assumption) | assumption)
                have q337 : x6_1 < (l1.length : Int) := of_decide_eq_true (by first | (with_reducible assumption) | assumption)
                obtain ⟨ad337, e337, hx337_0⟩ := Kd.at_int HR1.out x6_1 p337 q337
                cases e337
                replace hx337_0 := (HB.out.cell (World.block_lt_of_cell? w _ hx337_0)).trans hx337_0
                replace p337 := eq_true p337
                replace q337 := eq_true q337
                go_wp2_with (first | ((with_reducible refine gate_builtin (b := .append) (xs := #[.tmp 24, .tmp 26]) rfl ?_); at_builtin; refine Kd.R_append (Kd.int .i64) (w0 := w) w.heap.size rfl (.tmp 24) (.tmp 26) 39 3 (.int .i64 0) 8 rfl Try.underlying39 info3 rfl (by decide) (by omega) u5 x5_1 x6_1 [.int .i64 x6_1] (fun _ => True) (fun _ => False) rfl rfl ?aP (fun _ hk => hk.elim) ?aF ?aO ?aB ?aS ?aL ?_; (case aP => exact rfl); (case aB => exact (by repeat (first | (with_reducible first | exact HB.out | apply below_alloc | apply pw_below_drewN | apply below_drew1 | refine below_set ?_ GE335.out) | exact HB.out))); (case aF => exact (fun _ _ => trivial)); (case aO => exact (by (with_reducible repeat (first | apply Kd.R_alloc | apply Kd.R_drewN | apply Kd.R_drew)); exact HO_5.out)); (case aS => exact (below_size (by repeat (first | (with_reducible first | exact HB.out | apply below_alloc | apply pw_below_drewN | apply below_drew1 | refine below_set ?_ GE335.out) | exact HB.out)))); (case aL => have := LMc9.out; omega); intro v339 w11 ho hb hg hat; rw [← Ny338.out] at ho; have n0_ := Aside0.mk (blk_grown (g := gb335) (o := .cells #[.slice A0_0 l0_0.length c0_0, .slice (some ad336) l0_1.length c0_1, .int .i64 a0_2] 25 (0, 0)) (by (with_reducible repeat (first | refine blk_drewN ?_ _ | refine blk_drew ?_ | refine blk_alloc ?_ _)); exact BK335.out) hg (Kd.R_ne HO_5.out BK335.out (by decide))); have n1_ := Aside0.mk (hb); have n2_ := Aside0.mk (ho); clear BK335; clear HB; clear HO_5; have BK335 := n0_; have HB := n1_; have HO340 := n2_; clear n0_ n1_ n2_; clear ho hb hg hat))
                repeat (go_quiet (first | ((with_reducible refine gate_builtin (b := .append) (xs := #[.tmp 24, .tmp 26]) rfl ?_); at_builtin; refine Kd.R_append (Kd.int .i64) (w0 := w) w.heap.size rfl (.tmp 24) (.tmp 26) 39 3 (.int .i64 0) 8 rfl Try.underlying39 info3 rfl (by decide) (by omega) u5 x5_1 x6_1 [.int .i64 x6_1] (fun _ => True) (fun _ => False) rfl rfl ?aP (fun _ hk => hk.elim) ?aF ?aO ?aB ?aS ?aL ?_; (case aP => exact rfl); (case aB => exact (by repeat (first | (with_reducible first | exact HB.out | apply below_alloc | apply pw_below_drewN | apply below_drew1 | refine below_set ?_ GE335.out) | exact HB.out))); (case aF => exact (fun _ _ => trivial)); (case aO => exact (by (with_reducible repeat (first | apply Kd.R_alloc | apply Kd.R_drewN | apply Kd.R_drew)); exact HO_5.out)); (case aS => exact (below_size (by repeat (first | (with_reducible first | exact HB.out | apply below_alloc | apply pw_below_drewN | apply below_drew1 | refine below_set ?_ GE335.out) | exact HB.out)))); (case aL => have := LMc9.out; omega); intro v339 w11 ho hb hg hat; rw [← Ny338.out] at ho; have n0_ := Aside0.mk (blk_grown (g := gb335) (o := .cells #[.slice A0_0 l0_0.length c0_0, .slice (some ad336) l0_1.length c0_1, .int .i64 a0_2] 25 (0, 0)) (by (with_reducible repeat (first | refine blk_drewN ?_ _ | refine blk_drew ?_ | refine blk_alloc ?_ _)); exact BK335.out) hg (Kd.R_ne HO_5.out BK335.out (by decide))); have n1_ := Aside0.mk (hb); have n2_ := Aside0.mk (ho); clear BK335; clear HB; clear HO_5; have BK335 := n0_; have HB := n1_; have HO340 := n2_; clear n0_ n1_ n2_; clear ho hb hg hat)); try go_wp2_with (first | ((with_reducible refine gate_builtin (b := .append) (xs := #[.tmp 24, .tmp 26]) rfl ?_); at_builtin; refine Kd.R_append (Kd.int .i64) (w0 := w) w.heap.size rfl (.tmp 24) (.tmp 26) 39 3 (.int .i64 0) 8 rfl Try.underlying39 info3 rfl (by decide) (by omega) u5 x5_1 x6_1 [.int .i64 x6_1] (fun _ => True) (fun _ => False) rfl rfl ?aP (fun _ hk => hk.elim) ?aF ?aO ?aB ?aS ?aL ?_; (case aP => exact rfl); (case aB => exact (by repeat (first | (with_reducible first | exact HB.out | apply below_alloc | apply pw_below_drewN | apply below_drew1 | refine below_set ?_ GE335.out) | exact HB.out))); (case aF => exact (fun _ _ => trivial)); (case aO => exact (by (with_reducible repeat (first | apply Kd.R_alloc | apply Kd.R_drewN | apply Kd.R_drew)); exact HO_5.out)); (case aS => exact (below_size (by repeat (first | (with_reducible first | exact HB.out | apply below_alloc | apply pw_below_drewN | apply below_drew1 | refine below_set ?_ GE335.out) | exact HB.out)))); (case aL => have := LMc9.out; omega); intro v339 w11 ho hb hg hat; rw [← Ny338.out] at ho; have n0_ := Aside0.mk (blk_grown (g := gb335) (o := .cells #[.slice A0_0 l0_0.length c0_0, .slice (some ad336) l0_1.length c0_1, .int .i64 a0_2] 25 (0, 0)) (by (with_reducible repeat (first | refine blk_drewN ?_ _ | refine blk_drew ?_ | refine blk_alloc ?_ _)); exact BK335.out) hg (Kd.R_ne HO_5.out BK335.out (by decide))); have n1_ := Aside0.mk (hb); have n2_ := Aside0.mk (ho); clear BK335; clear HB; clear HO_5; have BK335 := n0_; have HB := n1_; have HO340 := n2_; clear n0_ n1_ n2_; clear ho hb hg hat)))
                go_roundg k1
                case measure => have := HK1.out; omega
                case rel => exact ⟨(y338), (wrap64 (x6_1 + 1)), (by first | rfl | (simp; done) | (simp [*]; done)), H', ⟨by have := HK1.out; omega⟩, ⟨by (with_reducible repeat (first | apply Kd.R_alloc | apply Kd.R_drewN | apply Kd.R_drew)); exact HO340.out⟩, ⟨by (with_reducible repeat (first | refine blk_drewN ?_ _ | refine blk_drew ?_ | refine blk_alloc ?_ _)); exact BK335.out⟩, ⟨by repeat (first | (with_reducible first | exact HB.out | apply below_alloc | apply pw_below_drewN | apply below_drew1 | refine below_set ?_ GE335.out) | exact HB.out)⟩⟩
              · rw [if_neg c9] at H
                exact absurd H (by simp)
          · rw [if_neg c6] at H
            exact absurd H (by simp)
        · rw [if_neg c5] at H
          exact absurd H (by simp)
      · rw [if_neg c4] at H
        have c4b0 : decide (x6_1 < (l1.length : Int)) = false := decide_eq_false c4
        clear c4
        obtain rfl := Option.some.inj H
        go_wp2
        repeat (go_quiet (fail); try go_wp2)
        go_ret
        exact ⟨_, by first | rfl | (simp [errW_none, errW_some] <;> rfl) | (simp [*, errW_none, errW_some] <;> rfl), by (with_reducible repeat (first | apply Kd.R_alloc | apply Kd.R_drewN | apply Kd.R_drew)); exact HO_5.out, by repeat (first | (with_reducible first | exact HB.out | apply below_alloc | apply pw_below_drewN | apply below_drew1 | refine below_set ?_ GE335.out) | exact HB.out)⟩
end Go.Proofs.Ytnbbbeghgomnoaa.X
namespace Go.Proofs.Ytnbbbeghgomnoaa.X
open Go.RowKit Go.Proofs.YtnbbbeghgomnoaaW.PrintWords Go.Proofs.YtnbbbeghgomnoaaW.PrintLast Go.Proofs.YtnbbbeghgomnoaaW.PrintMore
theorem Evt.all {α β : Type} {g : α → Nat → Option β} {r : α → β} : ∀ (l : List α), (∀ x ∈ l, Evt (g x) (r x)) → ∃ K, ∀ k, K ≤ k → ∀ x ∈ l, g x k = some (r x)
  | [], _ => ⟨0, fun _ _ _ h => by cases h⟩
  | a :: l, h => by
    obtain ⟨K, hK⟩ := h a (List.mem_cons_self ..)
    obtain ⟨L, hL⟩ := Evt.all l fun x hx => h x (List.mem_cons_of_mem _ hx)
    refine ⟨K + L, fun k hk x hx => ?_⟩
    rcases List.mem_cons.1 hx with rfl | hx
    · exact hK k (by omega)
    · exact hL k (by omega) x hx
theorem RAstray_ev {l0 : List S85} {l1 : List S71} (wg : Int) (h1 : l1.length ≤ 30) (x : List Int) (hx : x.length = l1.length) : Evt (fun k => posserref03_Astray.f k l0 l1 wg x) (sel (off (l1.map cvP) (pad x)) (l1.map cvP).length) := by
  rw [List.length_map]
  have main : ∀ (d i : Nat), i + d = l1.length → Evt (fun k => posserref03_Astray.l0 k x (sel (off (l1.map cvP) (pad x)) i) (i : Int) l0 l1 wg) (sel (off (l1.map cvP) (pad x)) l1.length) := by
    intro d
    induction d with
    | zero =>
      intro i hi
      obtain rfl : i = l1.length := by omega
      refine Evt.succ (Evt.const _) (fun k => ?_)
      simp only [posserref03_Astray.l0]
      rw [if_neg (by omega)]
    | succ d ih =>
      intro i hi
      have hlt : i < l1.length := by omega
      have hoff : off (l1.map cvP) (pad x) i = !decide ((l1.getD i z71).f1 = x.getD i 0) := by
        unfold off
        rw [cvP_getD]; rfl
      have hn := ih (i + 1) (by omega)
      by_cases he : (l1.getD i z71).f1 = x.getD i 0
      · rw [sel_no _ _ (by rw [hoff, decide_eq_true he]; rfl)] at hn
        refine Evt.succ hn (fun k => ?_)
        simp only [posserref03_Astray.l0]
        rw [if_pos (by omega), if_pos (by omega), if_pos (by omega), rd_nat, rd_T71_nat, if_pos he, wrap_succ i _ hlt (by omega)]
      · rw [sel_yes _ _ (by rw [hoff, decide_eq_false he]; rfl)] at hn
        refine Evt.succ hn (fun k => ?_)
        simp only [posserref03_Astray.l0]
        have := sel_le (off (l1.map cvP) (pad x)) i
        rw [if_pos (by omega), if_pos (by omega), if_pos (by omega), rd_nat, rd_T71_nat, if_neg he, if_pos (by omega), wrap_succ i _ hlt (by omega)]
  exact main l1.length 0 (by omega)
end Go.Proofs.Ytnbbbeghgomnoaa.X
namespace Go.Proofs.Ytnbbbeghgomnoaa.X
open Go.RowKit Go.Proofs.YtnbbbeghgomnoaaW.PrintWords Go.Proofs.YtnbbbeghgomnoaaW.PrintLast Go.Proofs.YtnbbbeghgomnoaaW.PrintMore
abbrev RI (w : World) (b : Nat) (v : Value) (xs : List Int) : Prop := Kd.R (Kd.int .i64) 3 w b (fun _ => True) v xs
section
variable {A0 : Option Addr} {c0 : Nat} {l0 : List S109} {A1 : Option Addr} {c1 : Nat} {l1 : List S110} {w : World}
theorem tab_c {A0 : Option Addr} {c0 : Nat} {l0 : List S85} {A1 : Option Addr} {c1 : Nat} {l1 : List S71} (wg : Int) {w : World} (ht : RTab A0 c0 l0 A1 c1 l1 w) {L0 : List S109} {L1 : List S110} (h0 : l0.map cvW = L0) (h1 : l1.map cvP = L1) :
    Calls Try.prog 23 #[.agg #[.slice A0 l0.length c0, .slice A1 l1.length c1, .int .i64 wg]] w fun e w' => ∃ B0 d0 B1 d1, e = .returned (.agg #[.slice B0 L0.length d0, .slice B1 L1.length d1, .int .i64 wg]) ∧ Tab B0 d0 L0 B1 d1 L1 w' ∧ Below w.heap.size w w' := by
  subst h0 h1
  refine (Table_calls wg ht).mono ?_
  rintro e w' ⟨B0, d0, B1, d1, rfl, h, _, _, hb⟩
  exact ⟨B0, d0, B1, d1, by simp only [List.length_map], h, hb⟩
end
theorem list_c {A : Option Addr} {c : Nat} {l : List Int} {w : World} (hr : Kd.C (Kd.int .i64) w A l.length l) (hl : l.length ≤ 1000000) :
    Calls Try.prog 41 #[.slice A l.length c] w fun e w' => ∃ B d, e = .returned (.slice B l.length d) ∧ RI w' w.heap.size (.slice B l.length d) l ∧ Below w.heap.size w w' := by
  refine (list_calls A c l w hr hl).mono ?_
  rintro e w' ⟨v, rfl, h, hb⟩
  obtain ⟨B, d, rfl⟩ := Kd.R_slice h
  exact ⟨B, d, rfl, h, hb⟩
end Go.Proofs.Ytnbbbeghgomnoaa.X
namespace Go.Proofs.Ytnbbbeghgomnoaa.X
open Go.RowKit Go.Proofs.YtnbbbeghgomnoaaW.PrintWords Go.Proofs.YtnbbbeghgomnoaaW.PrintLast Go.Proofs.YtnbbbeghgomnoaaW.PrintMore
section
variable {A0 : Option Addr} {c0 : Nat} {l0 : List S109} {A1 : Option Addr} {c1 : Nat} {l1 : List S110} {Al : Option Addr} {cl : Nat} {l : List Int} {w : World} {b : Nat}
theorem play_n (wg : Int) (ht : Tab A0 c0 l0 A1 c1 l1 w) (hr : RI w b (.slice Al l.length cl) l) (hll : l.length ≤ 1000000) {E : Int} (he : checkT l0 l1 wg = E) (hE : E ≠ 0) :
    Calls Try.prog 50 #[.agg #[.slice A0 l0.length c0, .slice A1 l1.length c1, .int .i64 wg], .slice Al l.length cl] w fun e w' => e = .returned (.tuple #[.slice none 0 0, .slice none 0 0, .int .i64 E]) ∧ Below w.heap.size w w' := by
  subst he
  exact Play_e wg ht (Kd.R_reads' hr).2.2 (Kd.R_reads' hr).2.1 hll hE
theorem play_no (wg : Int) (ht : Tab A0 c0 l0 A1 c1 l1 w) (hr : RI w b (.slice Al l.length cl) l) (hll : l.length ≤ 1000000) (he : checkT l0 l1 wg = 0) (ha : areB l0 l1 l = false) :
    Calls Try.prog 50 #[.agg #[.slice A0 l0.length c0, .slice A1 l1.length c1, .int .i64 wg], .slice Al l.length cl] w fun e w' => e = .returned (.tuple #[.slice none 0 0, .slice none 0 0, .int .i64 2]) ∧ Below w.heap.size w w' :=
  Play_no wg ht (Kd.R_reads' hr).2.2 (Kd.R_reads' hr).2.1 hll he ha
theorem play_c (wg : Int) (ht : Tab A0 c0 l0 A1 c1 l1 w) (hr : RI w b (.slice Al l.length cl) l) (hll : l.length ≤ 1000000) (he : checkT l0 l1 wg = 0) (ha : areB l0 l1 l = true) {os xs : List Int} (ho : ownL l0.length l1.length (pad l) = os) (hx : sel (off l1 (pad l)) l1.length = xs) :
    Calls Try.prog 50 #[.agg #[.slice A0 l0.length c0, .slice A1 l1.length c1, .int .i64 wg], .slice Al l.length cl] w fun e w' => ∃ v1 v2, e = .returned (.tuple #[v1, v2, .int .i64 0]) ∧ RI w' w.heap.size v1 os ∧ RI w' w.heap.size v2 xs ∧ Below w.heap.size w w' := by
  subst ho hx
  refine (Play_ok wg ht (Kd.R_reads' hr).2.2 (Kd.R_reads' hr).2.1 hll he ha).mono ?_
  rintro e w' ⟨v1, v2, h1, h2, h3, _, h4⟩
  exact ⟨v1, v2, h1, h2, h3, h4⟩
theorem prove_c (wg : Int) (ht : Tab A0 c0 l0 A1 c1 l1 w) (hr : RI w b (.slice Al l.length cl) l) (hll : l.length ≤ 1000000) {t : Bool} (hp : provedT l0 l1 wg l = t) :
    Calls Try.prog 60 #[.agg #[.slice A0 l0.length c0, .slice A1 l1.length c1, .int .i64 wg], .slice Al l.length cl] w fun e w' => e = .returned (.bool t) ∧ Below w.heap.size w w' := by
  subst hp
  exact ProveTruth_calls wg ht (Kd.R_reads' hr).2.2 (Kd.R_reads' hr).2.1 hll
theorem check_c (wg : Int) (ht : Tab A0 c0 l0 A1 c1 l1 w) {E : Int} (he : checkT l0 l1 wg = E) :
    Calls Try.prog 61 #[.agg #[.slice A0 l0.length c0, .slice A1 l1.length c1, .int .i64 wg]] w fun e w' => e = .returned (.int .i64 E) ∧ Below w.heap.size w w' := by
  subst he
  exact check_calls wg ht
end
end Go.Proofs.Ytnbbbeghgomnoaa.X
namespace Go.Proofs.Ytnbbbeghgomnoaa.X
open Go.RowKit Go.Proofs.YtnbbbeghgomnoaaW.PrintWords Go.Proofs.YtnbbbeghgomnoaaW.PrintLast Go.Proofs.YtnbbbeghgomnoaaW.PrintMore
set_option maxHeartbeats 4000000 in
set_option maxRecDepth 100000 in
theorem Plays_no (k : Nat) {A0 : Option Addr} {c0 : Nat} {l0 : List S85} {A1 : Option Addr} {c1 : Nat} {l1 : List S71} (wg : Int) {AL : Option Addr} {cL : Nat} {l : List Int} {w : World} (r0 : Kd.C k85 w A0 l0.length l0) (g0 : l0.length ≤ c0) (r1 : Kd.C k71 w A1 l1.length l1) (g1 : l1.length ≤ c1) (rL : Kd.C (Kd.int .i64) w AL l.length l) (gL : l.length ≤ cL) (hth : posserlaw03_Thin.f k l0 l1 wg = some false) :
    Calls Try.prog 18 #[.agg #[.slice A0 l0.length c0, .slice A1 l1.length c1, .int .i64 wg], .slice AL l.length cL] w fun e w' => e = .returned (.bool true) ∧ Below w.heap.size w w' := by
  have hu25 := Try.underlying25
  have hu35 := Try.underlying35
  have hu55 := Try.underlying55
  have HR0 := Aside0.mk r0
  have HC0 := Aside0.mk g0
  have HR1 := Aside0.mk r1
  have HC1 := Aside0.mk g1
  clear r0 g0 r1 g1
  have HRL := Aside0.mk rL
  have HCL := Aside0.mk gL
  clear rL gL
  have HTH := Aside0.mk hth
  clear hth
  have HB := Aside0.mk (Below.refl w.heap.size w)
  go_enter Try.func18, Try.ntmps18
  go_wp2_with (first | ((with_reducible refine gate_dst (N := 2) rfl ?_); refine box_event ?hg (N := 2) ?hd (cs := #[.slice A0 l0.length c0, .slice A1 l1.length c1, .int .i64 wg]) (t := 25) ?hr ?_; (case hd => rfl); (case hg => rfl); (case hr => first | (go_simp; done) | (go_simp; rfl)); intro g2 hg W_ hbox hb; have GEg2 := Aside0.mk (by rw [hg]; exact HB.out.size : w.heap.size ≤ g2); (try clear hcg2_0 hcg2_1 hcg2_2); (try replace HB := Aside0.mk (below_step HB.out hb)); (try replace HT := Aside0.mk (HT.out.below hb)); (try replace BKg2 := Aside0.mk (blk_below BKg2.out hb)); (try replace HQ := Aside0.mk (Kd.R_below HQ.out hb)); (try replace HO := Aside0.mk (Kd.R_below HO.out hb)); (try replace HX := Aside0.mk (Kd.R_below HX.out hb)); (try replace HP := Aside0.mk (Kd.R_below HP.out hb)); have BKg2 := Aside0.mk hbox; clear hb hbox hg; (try have hcg2_0 : W_.cell? ⟨g2, 0, none⟩ = some (.slice A0 l0.length c0) := (blk_cell BKg2.out 0).trans rfl); (try have hcg2_1 : W_.cell? ⟨g2, 1, none⟩ = some (.slice A1 l1.length c1) := (blk_cell BKg2.out 1).trans rfl); (try have hcg2_2 : W_.cell? ⟨g2, 2, none⟩ = some (.int .i64 wg) := (blk_cell BKg2.out 2).trans rfl)) | (go_at_call 20; go_must (refine (posserlaw03_Thin.calls k A0 c0 l0 A1 c1 l1 wg false _ (Kd.C_below HR0.out HB.out) HC0.out (Kd.C_below HR1.out HB.out) HC1.out HTH.out).mono ?_; rintro e W_ ⟨rfl, hb⟩; (try clear hcg2_0 hcg2_1 hcg2_2); (try replace HB := Aside0.mk (below_step HB.out hb)); (try replace HT := Aside0.mk (HT.out.below hb)); (try replace BKg2 := Aside0.mk (blk_below BKg2.out hb)); (try replace HQ := Aside0.mk (Kd.R_below HQ.out hb)); (try replace HO := Aside0.mk (Kd.R_below HO.out hb)); (try replace HX := Aside0.mk (Kd.R_below HX.out hb)); (try replace HP := Aside0.mk (Kd.R_below HP.out hb)); skip; clear hb; (try have hcg2_0 : W_.cell? ⟨g2, 0, none⟩ = some (.slice A0 l0.length c0) := (blk_cell BKg2.out 0).trans rfl); (try have hcg2_1 : W_.cell? ⟨g2, 1, none⟩ = some (.slice A1 l1.length c1) := (blk_cell BKg2.out 1).trans rfl); (try have hcg2_2 : W_.cell? ⟨g2, 2, none⟩ = some (.int .i64 wg) := (blk_cell BKg2.out 2).trans rfl))) | (go_at_call 21; go_must (refine (awake_calls _).mono ?_; rintro e W_ ⟨rfl, hb⟩; (try clear hcg2_0 hcg2_1 hcg2_2); (try replace HB := Aside0.mk (below_step HB.out hb)); (try replace HT := Aside0.mk (HT.out.below hb)); (try replace BKg2 := Aside0.mk (blk_below BKg2.out hb)); (try replace HQ := Aside0.mk (Kd.R_below HQ.out hb)); (try replace HO := Aside0.mk (Kd.R_below HO.out hb)); (try replace HX := Aside0.mk (Kd.R_below HX.out hb)); (try replace HP := Aside0.mk (Kd.R_below HP.out hb)); skip; clear hb; (try have hcg2_0 : W_.cell? ⟨g2, 0, none⟩ = some (.slice A0 l0.length c0) := (blk_cell BKg2.out 0).trans rfl); (try have hcg2_1 : W_.cell? ⟨g2, 1, none⟩ = some (.slice A1 l1.length c1) := (blk_cell BKg2.out 1).trans rfl); (try have hcg2_2 : W_.cell? ⟨g2, 2, none⟩ = some (.int .i64 wg) := (blk_cell BKg2.out 2).trans rfl))))
  go_ret
  exact ⟨rfl, HB.out⟩
set_option maxHeartbeats 4000000 in
set_option maxRecDepth 100000 in
theorem Plays_long (k : Nat) {A0 : Option Addr} {c0 : Nat} {l0 : List S85} {A1 : Option Addr} {c1 : Nat} {l1 : List S71} (wg : Int) {AL : Option Addr} {cL : Nat} {l : List Int} {w : World} (r0 : Kd.C k85 w A0 l0.length l0) (g0 : l0.length ≤ c0) (r1 : Kd.C k71 w A1 l1.length l1) (g1 : l1.length ≤ c1) (rL : Kd.C (Kd.int .i64) w AL l.length l) (gL : l.length ≤ cL) (hth : posserlaw03_Thin.f k l0 l1 wg = some true) (hl : 30 < l.length) :
    Calls Try.prog 18 #[.agg #[.slice A0 l0.length c0, .slice A1 l1.length c1, .int .i64 wg], .slice AL l.length cL] w fun e w' => e = .returned (.bool true) ∧ Below w.heap.size w w' := by
  have hu25 := Try.underlying25
  have hu35 := Try.underlying35
  have hu55 := Try.underlying55
  have HR0 := Aside0.mk r0
  have HC0 := Aside0.mk g0
  have HR1 := Aside0.mk r1
  have HC1 := Aside0.mk g1
  clear r0 g0 r1 g1
  have HRL := Aside0.mk rL
  have HCL := Aside0.mk gL
  clear rL gL
  have HTH := Aside0.mk hth
  clear hth
  have hl1 : decide ((l.length : Int) > 30) = true := decide_eq_true (by omega)
  have hl2 : (l.length : Int) > 30 := by omega
  clear hl
  have HB := Aside0.mk (Below.refl w.heap.size w)
  go_enter Try.func18, Try.ntmps18
  go_wp2_with (first | ((with_reducible refine gate_dst (N := 2) rfl ?_); refine box_event ?hg (N := 2) ?hd (cs := #[.slice A0 l0.length c0, .slice A1 l1.length c1, .int .i64 wg]) (t := 25) ?hr ?_; (case hd => rfl); (case hg => rfl); (case hr => first | (go_simp; done) | (go_simp; rfl)); intro g2 hg W_ hbox hb; have GEg2 := Aside0.mk (by rw [hg]; exact HB.out.size : w.heap.size ≤ g2); (try clear hcg2_0 hcg2_1 hcg2_2); (try replace HB := Aside0.mk (below_step HB.out hb)); (try replace HT := Aside0.mk (HT.out.below hb)); (try replace BKg2 := Aside0.mk (blk_below BKg2.out hb)); (try replace HQ := Aside0.mk (Kd.R_below HQ.out hb)); (try replace HO := Aside0.mk (Kd.R_below HO.out hb)); (try replace HX := Aside0.mk (Kd.R_below HX.out hb)); (try replace HP := Aside0.mk (Kd.R_below HP.out hb)); have BKg2 := Aside0.mk hbox; clear hb hbox hg; (try have hcg2_0 : W_.cell? ⟨g2, 0, none⟩ = some (.slice A0 l0.length c0) := (blk_cell BKg2.out 0).trans rfl); (try have hcg2_1 : W_.cell? ⟨g2, 1, none⟩ = some (.slice A1 l1.length c1) := (blk_cell BKg2.out 1).trans rfl); (try have hcg2_2 : W_.cell? ⟨g2, 2, none⟩ = some (.int .i64 wg) := (blk_cell BKg2.out 2).trans rfl)) | (go_at_call 20; go_must (refine (posserlaw03_Thin.calls k A0 c0 l0 A1 c1 l1 wg true _ (Kd.C_below HR0.out HB.out) HC0.out (Kd.C_below HR1.out HB.out) HC1.out HTH.out).mono ?_; rintro e W_ ⟨rfl, hb⟩; (try clear hcg2_0 hcg2_1 hcg2_2); (try replace HB := Aside0.mk (below_step HB.out hb)); (try replace HT := Aside0.mk (HT.out.below hb)); (try replace BKg2 := Aside0.mk (blk_below BKg2.out hb)); (try replace HQ := Aside0.mk (Kd.R_below HQ.out hb)); (try replace HO := Aside0.mk (Kd.R_below HO.out hb)); (try replace HX := Aside0.mk (Kd.R_below HX.out hb)); (try replace HP := Aside0.mk (Kd.R_below HP.out hb)); skip; clear hb; (try have hcg2_0 : W_.cell? ⟨g2, 0, none⟩ = some (.slice A0 l0.length c0) := (blk_cell BKg2.out 0).trans rfl); (try have hcg2_1 : W_.cell? ⟨g2, 1, none⟩ = some (.slice A1 l1.length c1) := (blk_cell BKg2.out 1).trans rfl); (try have hcg2_2 : W_.cell? ⟨g2, 2, none⟩ = some (.int .i64 wg) := (blk_cell BKg2.out 2).trans rfl))) | (go_at_call 21; go_must (refine (awake_calls _).mono ?_; rintro e W_ ⟨rfl, hb⟩; (try clear hcg2_0 hcg2_1 hcg2_2); (try replace HB := Aside0.mk (below_step HB.out hb)); (try replace HT := Aside0.mk (HT.out.below hb)); (try replace BKg2 := Aside0.mk (blk_below BKg2.out hb)); (try replace HQ := Aside0.mk (Kd.R_below HQ.out hb)); (try replace HO := Aside0.mk (Kd.R_below HO.out hb)); (try replace HX := Aside0.mk (Kd.R_below HX.out hb)); (try replace HP := Aside0.mk (Kd.R_below HP.out hb)); skip; clear hb; (try have hcg2_0 : W_.cell? ⟨g2, 0, none⟩ = some (.slice A0 l0.length c0) := (blk_cell BKg2.out 0).trans rfl); (try have hcg2_1 : W_.cell? ⟨g2, 1, none⟩ = some (.slice A1 l1.length c1) := (blk_cell BKg2.out 1).trans rfl); (try have hcg2_2 : W_.cell? ⟨g2, 2, none⟩ = some (.int .i64 wg) := (blk_cell BKg2.out 2).trans rfl))))
  go_ret
  exact ⟨rfl, HB.out⟩
set_option maxHeartbeats 4000000 in
set_option maxRecDepth 100000 in
theorem Plays_err (k : Nat) {A0 : Option Addr} {c0 : Nat} {l0 : List S85} {A1 : Option Addr} {c1 : Nat} {l1 : List S71} (wg : Int) {AL : Option Addr} {cL : Nat} {l : List Int} {w : World} (r0 : Kd.C k85 w A0 l0.length l0) (g0 : l0.length ≤ c0) (r1 : Kd.C k71 w A1 l1.length l1) (g1 : l1.length ≤ c1) (rL : Kd.C (Kd.int .i64) w AL l.length l) (gL : l.length ≤ cL) (ht : Thn l0 l1) {L0 : List S109} {L1 : List S110} (h0 : l0.map cvW = L0) (h1 : l1.map cvP = L1) (hth : posserlaw03_Thin.f k l0 l1 wg = some true) (hl : l.length ≤ 30) {E : Int} (hfa : posserlaw03_fault.f k l0 l1 wg = some E) (hE : E ≠ 0) (hck : checkT L0 L1 wg = E) (hpr : provedT L0 L1 wg l = false) :
    Calls Try.prog 18 #[.agg #[.slice A0 l0.length c0, .slice A1 l1.length c1, .int .i64 wg], .slice AL l.length cL] w fun e w' => e = .returned (.bool true) ∧ Below w.heap.size w w' := by
  have hu25 := Try.underlying25
  have hu35 := Try.underlying35
  have hu55 := Try.underlying55
  have HR0 := Aside0.mk r0
  have HC0 := Aside0.mk g0
  have HR1 := Aside0.mk r1
  have HC1 := Aside0.mk g1
  clear r0 g0 r1 g1
  have HRL := Aside0.mk rL
  have HCL := Aside0.mk gL
  clear rL gL
  have HRT := Aside0.mk (show RTab A0 c0 l0 A1 c1 l1 w from ⟨HR0.out, HC0.out, HR1.out, HC1.out, ht.n0, ht.n1, ht.ms⟩)
  clear ht
  have HL0 := Aside0.mk h0
  have HL1 := Aside0.mk h1
  have HTH := Aside0.mk hth
  have HFA := Aside0.mk hfa
  have HPR := Aside0.mk hpr
  have HCK := Aside0.mk hck
  clear h0 h1 hth hfa hpr hck
  have hl1 : decide ((l.length : Int) > 30) = false := decide_eq_false (by omega)
  have hl2 : ¬ ((l.length : Int) > 30) := by omega
  have HLL := Aside0.mk (show l.length ≤ 1000000 by omega)
  clear hl
  have hE1 : (E == 0) = false := by simpa using hE
  have hE2 : (E != 0) = true := by simpa using hE
  have HE0 := Aside0.mk hE
  clear hE
  have HB := Aside0.mk (Below.refl w.heap.size w)
  go_enter Try.func18, Try.ntmps18
  go_wp2_with (first | ((with_reducible refine gate_dst (N := 2) rfl ?_); refine box_event ?hg (N := 2) ?hd (cs := #[.slice A0 l0.length c0, .slice A1 l1.length c1, .int .i64 wg]) (t := 25) ?hr ?_; (case hd => rfl); (case hg => rfl); (case hr => first | (go_simp; done) | (go_simp; rfl)); intro g2 hg W_ hbox hb; have GEg2 := Aside0.mk (by rw [hg]; exact HB.out.size : w.heap.size ≤ g2); (try clear hcg2_0 hcg2_1 hcg2_2); (try replace HB := Aside0.mk (below_step HB.out hb)); (try replace HT := Aside0.mk (HT.out.below hb)); (try replace BKg2 := Aside0.mk (blk_below BKg2.out hb)); (try replace HQ := Aside0.mk (Kd.R_below HQ.out hb)); (try replace HO := Aside0.mk (Kd.R_below HO.out hb)); (try replace HX := Aside0.mk (Kd.R_below HX.out hb)); (try replace HP := Aside0.mk (Kd.R_below HP.out hb)); have BKg2 := Aside0.mk hbox; clear hb hbox hg; (try have hcg2_0 : W_.cell? ⟨g2, 0, none⟩ = some (.slice A0 l0.length c0) := (blk_cell BKg2.out 0).trans rfl); (try have hcg2_1 : W_.cell? ⟨g2, 1, none⟩ = some (.slice A1 l1.length c1) := (blk_cell BKg2.out 1).trans rfl); (try have hcg2_2 : W_.cell? ⟨g2, 2, none⟩ = some (.int .i64 wg) := (blk_cell BKg2.out 2).trans rfl)) | (go_at_call 20; go_must (refine (posserlaw03_Thin.calls k A0 c0 l0 A1 c1 l1 wg true _ (Kd.C_below HR0.out HB.out) HC0.out (Kd.C_below HR1.out HB.out) HC1.out HTH.out).mono ?_; rintro e W_ ⟨rfl, hb⟩; (try clear hcg2_0 hcg2_1 hcg2_2); (try replace HB := Aside0.mk (below_step HB.out hb)); (try replace HT := Aside0.mk (HT.out.below hb)); (try replace BKg2 := Aside0.mk (blk_below BKg2.out hb)); (try replace HQ := Aside0.mk (Kd.R_below HQ.out hb)); (try replace HO := Aside0.mk (Kd.R_below HO.out hb)); (try replace HX := Aside0.mk (Kd.R_below HX.out hb)); (try replace HP := Aside0.mk (Kd.R_below HP.out hb)); skip; clear hb; (try have hcg2_0 : W_.cell? ⟨g2, 0, none⟩ = some (.slice A0 l0.length c0) := (blk_cell BKg2.out 0).trans rfl); (try have hcg2_1 : W_.cell? ⟨g2, 1, none⟩ = some (.slice A1 l1.length c1) := (blk_cell BKg2.out 1).trans rfl); (try have hcg2_2 : W_.cell? ⟨g2, 2, none⟩ = some (.int .i64 wg) := (blk_cell BKg2.out 2).trans rfl))) | (go_at_call 23; go_must (refine (tab_c _ (HRT.out.below HB.out) HL0.out HL1.out).mono ?_; rintro e W_ ⟨B0, d0, B1, d1, rfl, ht, hb⟩; (try clear hcg2_0 hcg2_1 hcg2_2); (try replace HB := Aside0.mk (below_step HB.out hb)); (try replace HT := Aside0.mk (HT.out.below hb)); (try replace BKg2 := Aside0.mk (blk_below BKg2.out hb)); (try replace HQ := Aside0.mk (Kd.R_below HQ.out hb)); (try replace HO := Aside0.mk (Kd.R_below HO.out hb)); (try replace HX := Aside0.mk (Kd.R_below HX.out hb)); (try replace HP := Aside0.mk (Kd.R_below HP.out hb)); (try clear HT); have HT := Aside0.mk ht; clear ht; clear hb; (try have hcg2_0 : W_.cell? ⟨g2, 0, none⟩ = some (.slice A0 l0.length c0) := (blk_cell BKg2.out 0).trans rfl); (try have hcg2_1 : W_.cell? ⟨g2, 1, none⟩ = some (.slice A1 l1.length c1) := (blk_cell BKg2.out 1).trans rfl); (try have hcg2_2 : W_.cell? ⟨g2, 2, none⟩ = some (.int .i64 wg) := (blk_cell BKg2.out 2).trans rfl))) | (go_at_call 41; go_must (refine (list_c (Kd.C_below HRL.out HB.out) HLL.out).mono ?_; rintro e W_ ⟨AQ, cQ, rfl, ho, hb⟩; (try clear hcg2_0 hcg2_1 hcg2_2); (try replace HB := Aside0.mk (below_step HB.out hb)); (try replace HT := Aside0.mk (HT.out.below hb)); (try replace BKg2 := Aside0.mk (blk_below BKg2.out hb)); (try replace HQ := Aside0.mk (Kd.R_below HQ.out hb)); (try replace HO := Aside0.mk (Kd.R_below HO.out hb)); (try replace HX := Aside0.mk (Kd.R_below HX.out hb)); (try replace HP := Aside0.mk (Kd.R_below HP.out hb)); (try clear HQ); have HQ := Aside0.mk ho; clear ho; clear hb; (try have hcg2_0 : W_.cell? ⟨g2, 0, none⟩ = some (.slice A0 l0.length c0) := (blk_cell BKg2.out 0).trans rfl); (try have hcg2_1 : W_.cell? ⟨g2, 1, none⟩ = some (.slice A1 l1.length c1) := (blk_cell BKg2.out 1).trans rfl); (try have hcg2_2 : W_.cell? ⟨g2, 2, none⟩ = some (.int .i64 wg) := (blk_cell BKg2.out 2).trans rfl))) | (go_at_call 33; go_must (refine (posserlaw03_fault.calls k A0 c0 l0 A1 c1 l1 wg E _ (Kd.C_below HR0.out HB.out) HC0.out (Kd.C_below HR1.out HB.out) HC1.out HFA.out).mono ?_; rintro e W_ ⟨rfl, hb⟩; (try clear hcg2_0 hcg2_1 hcg2_2); (try replace HB := Aside0.mk (below_step HB.out hb)); (try replace HT := Aside0.mk (HT.out.below hb)); (try replace BKg2 := Aside0.mk (blk_below BKg2.out hb)); (try replace HQ := Aside0.mk (Kd.R_below HQ.out hb)); (try replace HO := Aside0.mk (Kd.R_below HO.out hb)); (try replace HX := Aside0.mk (Kd.R_below HX.out hb)); (try replace HP := Aside0.mk (Kd.R_below HP.out hb)); skip; clear hb; (try have hcg2_0 : W_.cell? ⟨g2, 0, none⟩ = some (.slice A0 l0.length c0) := (blk_cell BKg2.out 0).trans rfl); (try have hcg2_1 : W_.cell? ⟨g2, 1, none⟩ = some (.slice A1 l1.length c1) := (blk_cell BKg2.out 1).trans rfl); (try have hcg2_2 : W_.cell? ⟨g2, 2, none⟩ = some (.int .i64 wg) := (blk_cell BKg2.out 2).trans rfl))) | (go_at_call 60; go_must (refine (prove_c _ HT.out HQ.out HLL.out HPR.out).mono ?_; rintro e W_ ⟨rfl, hb⟩; (try clear hcg2_0 hcg2_1 hcg2_2); (try replace HB := Aside0.mk (below_step HB.out hb)); (try replace HT := Aside0.mk (HT.out.below hb)); (try replace BKg2 := Aside0.mk (blk_below BKg2.out hb)); (try replace HQ := Aside0.mk (Kd.R_below HQ.out hb)); (try replace HO := Aside0.mk (Kd.R_below HO.out hb)); (try replace HX := Aside0.mk (Kd.R_below HX.out hb)); (try replace HP := Aside0.mk (Kd.R_below HP.out hb)); skip; clear hb; (try have hcg2_0 : W_.cell? ⟨g2, 0, none⟩ = some (.slice A0 l0.length c0) := (blk_cell BKg2.out 0).trans rfl); (try have hcg2_1 : W_.cell? ⟨g2, 1, none⟩ = some (.slice A1 l1.length c1) := (blk_cell BKg2.out 1).trans rfl); (try have hcg2_2 : W_.cell? ⟨g2, 2, none⟩ = some (.int .i64 wg) := (blk_cell BKg2.out 2).trans rfl))) | (go_at_call 61; go_must (refine (check_c _ HT.out HCK.out).mono ?_; rintro e W_ ⟨rfl, hb⟩; (try clear hcg2_0 hcg2_1 hcg2_2); (try replace HB := Aside0.mk (below_step HB.out hb)); (try replace HT := Aside0.mk (HT.out.below hb)); (try replace BKg2 := Aside0.mk (blk_below BKg2.out hb)); (try replace HQ := Aside0.mk (Kd.R_below HQ.out hb)); (try replace HO := Aside0.mk (Kd.R_below HO.out hb)); (try replace HX := Aside0.mk (Kd.R_below HX.out hb)); (try replace HP := Aside0.mk (Kd.R_below HP.out hb)); skip; clear hb; (try have hcg2_0 : W_.cell? ⟨g2, 0, none⟩ = some (.slice A0 l0.length c0) := (blk_cell BKg2.out 0).trans rfl); (try have hcg2_1 : W_.cell? ⟨g2, 1, none⟩ = some (.slice A1 l1.length c1) := (blk_cell BKg2.out 1).trans rfl); (try have hcg2_2 : W_.cell? ⟨g2, 2, none⟩ = some (.int .i64 wg) := (blk_cell BKg2.out 2).trans rfl))) | (go_at_call 21; go_must (refine (awake_calls _).mono ?_; rintro e W_ ⟨rfl, hb⟩; (try clear hcg2_0 hcg2_1 hcg2_2); (try replace HB := Aside0.mk (below_step HB.out hb)); (try replace HT := Aside0.mk (HT.out.below hb)); (try replace BKg2 := Aside0.mk (blk_below BKg2.out hb)); (try replace HQ := Aside0.mk (Kd.R_below HQ.out hb)); (try replace HO := Aside0.mk (Kd.R_below HO.out hb)); (try replace HX := Aside0.mk (Kd.R_below HX.out hb)); (try replace HP := Aside0.mk (Kd.R_below HP.out hb)); skip; clear hb; (try have hcg2_0 : W_.cell? ⟨g2, 0, none⟩ = some (.slice A0 l0.length c0) := (blk_cell BKg2.out 0).trans rfl); (try have hcg2_1 : W_.cell? ⟨g2, 1, none⟩ = some (.slice A1 l1.length c1) := (blk_cell BKg2.out 1).trans rfl); (try have hcg2_2 : W_.cell? ⟨g2, 2, none⟩ = some (.int .i64 wg) := (blk_cell BKg2.out 2).trans rfl))) | (go_at_call 50; go_must (refine (play_n _ HT.out HQ.out HLL.out HCK.out HE0.out).mono ?_; rintro e W_ ⟨rfl, hb⟩; (try clear hcg2_0 hcg2_1 hcg2_2); (try replace HB := Aside0.mk (below_step HB.out hb)); (try replace HT := Aside0.mk (HT.out.below hb)); (try replace BKg2 := Aside0.mk (blk_below BKg2.out hb)); (try replace HQ := Aside0.mk (Kd.R_below HQ.out hb)); (try replace HO := Aside0.mk (Kd.R_below HO.out hb)); (try replace HX := Aside0.mk (Kd.R_below HX.out hb)); (try replace HP := Aside0.mk (Kd.R_below HP.out hb)); skip; clear hb; (try have hcg2_0 : W_.cell? ⟨g2, 0, none⟩ = some (.slice A0 l0.length c0) := (blk_cell BKg2.out 0).trans rfl); (try have hcg2_1 : W_.cell? ⟨g2, 1, none⟩ = some (.slice A1 l1.length c1) := (blk_cell BKg2.out 1).trans rfl); (try have hcg2_2 : W_.cell? ⟨g2, 2, none⟩ = some (.int .i64 wg) := (blk_cell BKg2.out 2).trans rfl))))
  go_ret
  exact ⟨rfl, HB.out⟩
set_option maxHeartbeats 4000000 in
set_option maxRecDepth 100000 in
theorem Plays_range (k : Nat) {A0 : Option Addr} {c0 : Nat} {l0 : List S85} {A1 : Option Addr} {c1 : Nat} {l1 : List S71} (wg : Int) {AL : Option Addr} {cL : Nat} {l : List Int} {w : World} (r0 : Kd.C k85 w A0 l0.length l0) (g0 : l0.length ≤ c0) (r1 : Kd.C k71 w A1 l1.length l1) (g1 : l1.length ≤ c1) (rL : Kd.C (Kd.int .i64) w AL l.length l) (gL : l.length ≤ cL) (ht : Thn l0 l1) {L0 : List S109} {L1 : List S110} (h0 : l0.map cvW = L0) (h1 : l1.map cvP = L1) (hth : posserlaw03_Thin.f k l0 l1 wg = some true) (hl : l.length ≤ 30) (hfa : posserlaw03_fault.f k l0 l1 wg = some 0) (hck : checkT L0 L1 wg = 0) (hpr : provedT L0 L1 wg l = false) (hab : areB L0 L1 l = false) (hit : posserref03_IsTruth.f k l0 l1 wg l = some false) (har : posserref03_AreOwners.f k l0 l1 wg l = some false) :
    Calls Try.prog 18 #[.agg #[.slice A0 l0.length c0, .slice A1 l1.length c1, .int .i64 wg], .slice AL l.length cL] w fun e w' => e = .returned (.bool true) ∧ Below w.heap.size w w' := by
  have hu25 := Try.underlying25
  have hu35 := Try.underlying35
  have hu55 := Try.underlying55
  have HR0 := Aside0.mk r0
  have HC0 := Aside0.mk g0
  have HR1 := Aside0.mk r1
  have HC1 := Aside0.mk g1
  clear r0 g0 r1 g1
  have HRL := Aside0.mk rL
  have HCL := Aside0.mk gL
  clear rL gL
  have HRT := Aside0.mk (show RTab A0 c0 l0 A1 c1 l1 w from ⟨HR0.out, HC0.out, HR1.out, HC1.out, ht.n0, ht.n1, ht.ms⟩)
  clear ht
  have HL0 := Aside0.mk h0
  have HL1 := Aside0.mk h1
  have HTH := Aside0.mk hth
  have HFA := Aside0.mk hfa
  have HPR := Aside0.mk hpr
  have HCK := Aside0.mk hck
  clear h0 h1 hth hfa hpr hck
  have hl1 : decide ((l.length : Int) > 30) = false := decide_eq_false (by omega)
  have hl2 : ¬ ((l.length : Int) > 30) := by omega
  have HLL := Aside0.mk (show l.length ≤ 1000000 by omega)
  clear hl
  have HAB := Aside0.mk hab
  have HIT := Aside0.mk hit
  have HAR := Aside0.mk har
  clear hab hit har
  have HB := Aside0.mk (Below.refl w.heap.size w)
  go_enter Try.func18, Try.ntmps18
  go_wp2_with (first | ((with_reducible refine gate_dst (N := 2) rfl ?_); refine box_event ?hg (N := 2) ?hd (cs := #[.slice A0 l0.length c0, .slice A1 l1.length c1, .int .i64 wg]) (t := 25) ?hr ?_; (case hd => rfl); (case hg => rfl); (case hr => first | (go_simp; done) | (go_simp; rfl)); intro g2 hg W_ hbox hb; have GEg2 := Aside0.mk (by rw [hg]; exact HB.out.size : w.heap.size ≤ g2); (try clear hcg2_0 hcg2_1 hcg2_2); (try replace HB := Aside0.mk (below_step HB.out hb)); (try replace HT := Aside0.mk (HT.out.below hb)); (try replace BKg2 := Aside0.mk (blk_below BKg2.out hb)); (try replace HQ := Aside0.mk (Kd.R_below HQ.out hb)); (try replace HO := Aside0.mk (Kd.R_below HO.out hb)); (try replace HX := Aside0.mk (Kd.R_below HX.out hb)); (try replace HP := Aside0.mk (Kd.R_below HP.out hb)); have BKg2 := Aside0.mk hbox; clear hb hbox hg; (try have hcg2_0 : W_.cell? ⟨g2, 0, none⟩ = some (.slice A0 l0.length c0) := (blk_cell BKg2.out 0).trans rfl); (try have hcg2_1 : W_.cell? ⟨g2, 1, none⟩ = some (.slice A1 l1.length c1) := (blk_cell BKg2.out 1).trans rfl); (try have hcg2_2 : W_.cell? ⟨g2, 2, none⟩ = some (.int .i64 wg) := (blk_cell BKg2.out 2).trans rfl)) | (go_at_call 20; go_must (refine (posserlaw03_Thin.calls k A0 c0 l0 A1 c1 l1 wg true _ (Kd.C_below HR0.out HB.out) HC0.out (Kd.C_below HR1.out HB.out) HC1.out HTH.out).mono ?_; rintro e W_ ⟨rfl, hb⟩; (try clear hcg2_0 hcg2_1 hcg2_2); (try replace HB := Aside0.mk (below_step HB.out hb)); (try replace HT := Aside0.mk (HT.out.below hb)); (try replace BKg2 := Aside0.mk (blk_below BKg2.out hb)); (try replace HQ := Aside0.mk (Kd.R_below HQ.out hb)); (try replace HO := Aside0.mk (Kd.R_below HO.out hb)); (try replace HX := Aside0.mk (Kd.R_below HX.out hb)); (try replace HP := Aside0.mk (Kd.R_below HP.out hb)); skip; clear hb; (try have hcg2_0 : W_.cell? ⟨g2, 0, none⟩ = some (.slice A0 l0.length c0) := (blk_cell BKg2.out 0).trans rfl); (try have hcg2_1 : W_.cell? ⟨g2, 1, none⟩ = some (.slice A1 l1.length c1) := (blk_cell BKg2.out 1).trans rfl); (try have hcg2_2 : W_.cell? ⟨g2, 2, none⟩ = some (.int .i64 wg) := (blk_cell BKg2.out 2).trans rfl))) | (go_at_call 23; go_must (refine (tab_c _ (HRT.out.below HB.out) HL0.out HL1.out).mono ?_; rintro e W_ ⟨B0, d0, B1, d1, rfl, ht, hb⟩; (try clear hcg2_0 hcg2_1 hcg2_2); (try replace HB := Aside0.mk (below_step HB.out hb)); (try replace HT := Aside0.mk (HT.out.below hb)); (try replace BKg2 := Aside0.mk (blk_below BKg2.out hb)); (try replace HQ := Aside0.mk (Kd.R_below HQ.out hb)); (try replace HO := Aside0.mk (Kd.R_below HO.out hb)); (try replace HX := Aside0.mk (Kd.R_below HX.out hb)); (try replace HP := Aside0.mk (Kd.R_below HP.out hb)); (try clear HT); have HT := Aside0.mk ht; clear ht; clear hb; (try have hcg2_0 : W_.cell? ⟨g2, 0, none⟩ = some (.slice A0 l0.length c0) := (blk_cell BKg2.out 0).trans rfl); (try have hcg2_1 : W_.cell? ⟨g2, 1, none⟩ = some (.slice A1 l1.length c1) := (blk_cell BKg2.out 1).trans rfl); (try have hcg2_2 : W_.cell? ⟨g2, 2, none⟩ = some (.int .i64 wg) := (blk_cell BKg2.out 2).trans rfl))) | (go_at_call 41; go_must (refine (list_c (Kd.C_below HRL.out HB.out) HLL.out).mono ?_; rintro e W_ ⟨AQ, cQ, rfl, ho, hb⟩; (try clear hcg2_0 hcg2_1 hcg2_2); (try replace HB := Aside0.mk (below_step HB.out hb)); (try replace HT := Aside0.mk (HT.out.below hb)); (try replace BKg2 := Aside0.mk (blk_below BKg2.out hb)); (try replace HQ := Aside0.mk (Kd.R_below HQ.out hb)); (try replace HO := Aside0.mk (Kd.R_below HO.out hb)); (try replace HX := Aside0.mk (Kd.R_below HX.out hb)); (try replace HP := Aside0.mk (Kd.R_below HP.out hb)); (try clear HQ); have HQ := Aside0.mk ho; clear ho; clear hb; (try have hcg2_0 : W_.cell? ⟨g2, 0, none⟩ = some (.slice A0 l0.length c0) := (blk_cell BKg2.out 0).trans rfl); (try have hcg2_1 : W_.cell? ⟨g2, 1, none⟩ = some (.slice A1 l1.length c1) := (blk_cell BKg2.out 1).trans rfl); (try have hcg2_2 : W_.cell? ⟨g2, 2, none⟩ = some (.int .i64 wg) := (blk_cell BKg2.out 2).trans rfl))) | (go_at_call 33; go_must (refine (posserlaw03_fault.calls k A0 c0 l0 A1 c1 l1 wg 0 _ (Kd.C_below HR0.out HB.out) HC0.out (Kd.C_below HR1.out HB.out) HC1.out HFA.out).mono ?_; rintro e W_ ⟨rfl, hb⟩; (try clear hcg2_0 hcg2_1 hcg2_2); (try replace HB := Aside0.mk (below_step HB.out hb)); (try replace HT := Aside0.mk (HT.out.below hb)); (try replace BKg2 := Aside0.mk (blk_below BKg2.out hb)); (try replace HQ := Aside0.mk (Kd.R_below HQ.out hb)); (try replace HO := Aside0.mk (Kd.R_below HO.out hb)); (try replace HX := Aside0.mk (Kd.R_below HX.out hb)); (try replace HP := Aside0.mk (Kd.R_below HP.out hb)); skip; clear hb; (try have hcg2_0 : W_.cell? ⟨g2, 0, none⟩ = some (.slice A0 l0.length c0) := (blk_cell BKg2.out 0).trans rfl); (try have hcg2_1 : W_.cell? ⟨g2, 1, none⟩ = some (.slice A1 l1.length c1) := (blk_cell BKg2.out 1).trans rfl); (try have hcg2_2 : W_.cell? ⟨g2, 2, none⟩ = some (.int .i64 wg) := (blk_cell BKg2.out 2).trans rfl))) | (go_at_call 60; go_must (refine (prove_c _ HT.out HQ.out HLL.out HPR.out).mono ?_; rintro e W_ ⟨rfl, hb⟩; (try clear hcg2_0 hcg2_1 hcg2_2); (try replace HB := Aside0.mk (below_step HB.out hb)); (try replace HT := Aside0.mk (HT.out.below hb)); (try replace BKg2 := Aside0.mk (blk_below BKg2.out hb)); (try replace HQ := Aside0.mk (Kd.R_below HQ.out hb)); (try replace HO := Aside0.mk (Kd.R_below HO.out hb)); (try replace HX := Aside0.mk (Kd.R_below HX.out hb)); (try replace HP := Aside0.mk (Kd.R_below HP.out hb)); skip; clear hb; (try have hcg2_0 : W_.cell? ⟨g2, 0, none⟩ = some (.slice A0 l0.length c0) := (blk_cell BKg2.out 0).trans rfl); (try have hcg2_1 : W_.cell? ⟨g2, 1, none⟩ = some (.slice A1 l1.length c1) := (blk_cell BKg2.out 1).trans rfl); (try have hcg2_2 : W_.cell? ⟨g2, 2, none⟩ = some (.int .i64 wg) := (blk_cell BKg2.out 2).trans rfl))) | (go_at_call 61; go_must (refine (check_c _ HT.out HCK.out).mono ?_; rintro e W_ ⟨rfl, hb⟩; (try clear hcg2_0 hcg2_1 hcg2_2); (try replace HB := Aside0.mk (below_step HB.out hb)); (try replace HT := Aside0.mk (HT.out.below hb)); (try replace BKg2 := Aside0.mk (blk_below BKg2.out hb)); (try replace HQ := Aside0.mk (Kd.R_below HQ.out hb)); (try replace HO := Aside0.mk (Kd.R_below HO.out hb)); (try replace HX := Aside0.mk (Kd.R_below HX.out hb)); (try replace HP := Aside0.mk (Kd.R_below HP.out hb)); skip; clear hb; (try have hcg2_0 : W_.cell? ⟨g2, 0, none⟩ = some (.slice A0 l0.length c0) := (blk_cell BKg2.out 0).trans rfl); (try have hcg2_1 : W_.cell? ⟨g2, 1, none⟩ = some (.slice A1 l1.length c1) := (blk_cell BKg2.out 1).trans rfl); (try have hcg2_2 : W_.cell? ⟨g2, 2, none⟩ = some (.int .i64 wg) := (blk_cell BKg2.out 2).trans rfl))) | (go_at_call 21; go_must (refine (awake_calls _).mono ?_; rintro e W_ ⟨rfl, hb⟩; (try clear hcg2_0 hcg2_1 hcg2_2); (try replace HB := Aside0.mk (below_step HB.out hb)); (try replace HT := Aside0.mk (HT.out.below hb)); (try replace BKg2 := Aside0.mk (blk_below BKg2.out hb)); (try replace HQ := Aside0.mk (Kd.R_below HQ.out hb)); (try replace HO := Aside0.mk (Kd.R_below HO.out hb)); (try replace HX := Aside0.mk (Kd.R_below HX.out hb)); (try replace HP := Aside0.mk (Kd.R_below HP.out hb)); skip; clear hb; (try have hcg2_0 : W_.cell? ⟨g2, 0, none⟩ = some (.slice A0 l0.length c0) := (blk_cell BKg2.out 0).trans rfl); (try have hcg2_1 : W_.cell? ⟨g2, 1, none⟩ = some (.slice A1 l1.length c1) := (blk_cell BKg2.out 1).trans rfl); (try have hcg2_2 : W_.cell? ⟨g2, 2, none⟩ = some (.int .i64 wg) := (blk_cell BKg2.out 2).trans rfl))) | (go_at_call 50; go_must (refine (play_no _ HT.out HQ.out HLL.out HCK.out HAB.out).mono ?_; rintro e W_ ⟨rfl, hb⟩; (try clear hcg2_0 hcg2_1 hcg2_2); (try replace HB := Aside0.mk (below_step HB.out hb)); (try replace HT := Aside0.mk (HT.out.below hb)); (try replace BKg2 := Aside0.mk (blk_below BKg2.out hb)); (try replace HQ := Aside0.mk (Kd.R_below HQ.out hb)); (try replace HO := Aside0.mk (Kd.R_below HO.out hb)); (try replace HX := Aside0.mk (Kd.R_below HX.out hb)); (try replace HP := Aside0.mk (Kd.R_below HP.out hb)); skip; clear hb; (try have hcg2_0 : W_.cell? ⟨g2, 0, none⟩ = some (.slice A0 l0.length c0) := (blk_cell BKg2.out 0).trans rfl); (try have hcg2_1 : W_.cell? ⟨g2, 1, none⟩ = some (.slice A1 l1.length c1) := (blk_cell BKg2.out 1).trans rfl); (try have hcg2_2 : W_.cell? ⟨g2, 2, none⟩ = some (.int .i64 wg) := (blk_cell BKg2.out 2).trans rfl))) | (go_at_call 42; go_must (refine (posserref03_IsTruth.calls k A0 c0 l0 A1 c1 l1 wg AL cL l false _ (Kd.C_below HR0.out HB.out) HC0.out (Kd.C_below HR1.out HB.out) HC1.out (Kd.C_below HRL.out HB.out) HCL.out HIT.out).mono ?_; rintro e W_ ⟨rfl, hb⟩; (try clear hcg2_0 hcg2_1 hcg2_2); (try replace HB := Aside0.mk (below_step HB.out hb)); (try replace HT := Aside0.mk (HT.out.below hb)); (try replace BKg2 := Aside0.mk (blk_below BKg2.out hb)); (try replace HQ := Aside0.mk (Kd.R_below HQ.out hb)); (try replace HO := Aside0.mk (Kd.R_below HO.out hb)); (try replace HX := Aside0.mk (Kd.R_below HX.out hb)); (try replace HP := Aside0.mk (Kd.R_below HP.out hb)); skip; clear hb; (try have hcg2_0 : W_.cell? ⟨g2, 0, none⟩ = some (.slice A0 l0.length c0) := (blk_cell BKg2.out 0).trans rfl); (try have hcg2_1 : W_.cell? ⟨g2, 1, none⟩ = some (.slice A1 l1.length c1) := (blk_cell BKg2.out 1).trans rfl); (try have hcg2_2 : W_.cell? ⟨g2, 2, none⟩ = some (.int .i64 wg) := (blk_cell BKg2.out 2).trans rfl))) | (go_at_call 62; go_must (refine (posserref03_AreOwners.calls k A0 c0 l0 A1 c1 l1 wg AL cL l false _ (Kd.C_below HR0.out HB.out) HC0.out (Kd.C_below HR1.out HB.out) HC1.out (Kd.C_below HRL.out HB.out) HCL.out HAR.out).mono ?_; rintro e W_ ⟨rfl, hb⟩; (try clear hcg2_0 hcg2_1 hcg2_2); (try replace HB := Aside0.mk (below_step HB.out hb)); (try replace HT := Aside0.mk (HT.out.below hb)); (try replace BKg2 := Aside0.mk (blk_below BKg2.out hb)); (try replace HQ := Aside0.mk (Kd.R_below HQ.out hb)); (try replace HO := Aside0.mk (Kd.R_below HO.out hb)); (try replace HX := Aside0.mk (Kd.R_below HX.out hb)); (try replace HP := Aside0.mk (Kd.R_below HP.out hb)); skip; clear hb; (try have hcg2_0 : W_.cell? ⟨g2, 0, none⟩ = some (.slice A0 l0.length c0) := (blk_cell BKg2.out 0).trans rfl); (try have hcg2_1 : W_.cell? ⟨g2, 1, none⟩ = some (.slice A1 l1.length c1) := (blk_cell BKg2.out 1).trans rfl); (try have hcg2_2 : W_.cell? ⟨g2, 2, none⟩ = some (.int .i64 wg) := (blk_cell BKg2.out 2).trans rfl))))
  go_ret
  exact ⟨rfl, HB.out⟩
set_option maxHeartbeats 4000000 in
set_option maxRecDepth 100000 in
theorem Plays_ok (k : Nat) {A0 : Option Addr} {c0 : Nat} {l0 : List S85} {A1 : Option Addr} {c1 : Nat} {l1 : List S71} (wg : Int) {AL : Option Addr} {cL : Nat} {l : List Int} {w : World} (r0 : Kd.C k85 w A0 l0.length l0) (g0 : l0.length ≤ c0) (r1 : Kd.C k71 w A1 l1.length l1) (g1 : l1.length ≤ c1) (rL : Kd.C (Kd.int .i64) w AL l.length l) (gL : l.length ≤ cL) (ht : Thn l0 l1) {L0 : List S109} {L1 : List S110} (h0 : l0.map cvW = L0) (h1 : l1.map cvP = L1) (hth : posserlaw03_Thin.f k l0 l1 wg = some true) (hl : l.length ≤ 30) (hfa : posserlaw03_fault.f k l0 l1 wg = some 0) (hck : checkT L0 L1 wg = 0) {b : Bool} (hpr : provedT L0 L1 wg l = b) (hab : areB L0 L1 l = true) (hit : posserref03_IsTruth.f k l0 l1 wg l = some b) (har : posserref03_AreOwners.f k l0 l1 wg l = some true) {os xs : List Int} (ho : ownL L0.length L1.length (pad l) = os) (hx : sel (off L1 (pad l)) L1.length = xs) (hxs : posserref03_Astray.f k l0 l1 wg l = some xs) (hin : posserlaw03_ints.f k xs xs = some true) (lo : os.length = l0.length) (hos : ∀ i : Nat, i < os.length → posserref03_Own.f k l (i : Int) = some (rd os (i : Int))) :
    Calls Try.prog 18 #[.agg #[.slice A0 l0.length c0, .slice A1 l1.length c1, .int .i64 wg], .slice AL l.length cL] w fun e w' => e = .returned (.bool true) ∧ Below w.heap.size w w' := by
  have hu25 := Try.underlying25
  have hu35 := Try.underlying35
  have hu55 := Try.underlying55
  have HR0 := Aside0.mk r0
  have HC0 := Aside0.mk g0
  have HR1 := Aside0.mk r1
  have HC1 := Aside0.mk g1
  clear r0 g0 r1 g1
  have HRL := Aside0.mk rL
  have HCL := Aside0.mk gL
  clear rL gL
  have HRT := Aside0.mk (show RTab A0 c0 l0 A1 c1 l1 w from ⟨HR0.out, HC0.out, HR1.out, HC1.out, ht.n0, ht.n1, ht.ms⟩)
  clear ht
  have HL0 := Aside0.mk h0
  have HL1 := Aside0.mk h1
  have HTH := Aside0.mk hth
  have HFA := Aside0.mk hfa
  have HPR := Aside0.mk hpr
  have HCK := Aside0.mk hck
  clear h0 h1 hth hfa hpr hck
  have hl1 : decide ((l.length : Int) > 30) = false := decide_eq_false (by omega)
  have hl2 : ¬ ((l.length : Int) > 30) := by omega
  have HLL := Aside0.mk (show l.length ≤ 1000000 by omega)
  clear hl
  have HAB := Aside0.mk hab
  have HIT := Aside0.mk hit
  have HAR := Aside0.mk har
  have HSO := Aside0.mk ho
  have HSX := Aside0.mk hx
  have HXS := Aside0.mk hxs
  have HIN := Aside0.mk hin
  have HOS := Aside0.mk hos
  clear hab hit har ho hx hxs hin hos
  have hbb : (b != b) = false := by simp
  have hlo : ((os.length : Int) != (l0.length : Int)) = false := by rw [lo]; simp
  have HLO := Aside0.mk lo
  clear lo
  have HB := Aside0.mk (Below.refl w.heap.size w)
  go_enter Try.func18, Try.ntmps18
  go_wp2_with (first | ((with_reducible refine gate_dst (N := 2) rfl ?_); refine box_event ?hg (N := 2) ?hd (cs := #[.slice A0 l0.length c0, .slice A1 l1.length c1, .int .i64 wg]) (t := 25) ?hr ?_; (case hd => rfl); (case hg => rfl); (case hr => first | (go_simp; done) | (go_simp; rfl)); intro g2 hg W_ hbox hb; have GEg2 := Aside0.mk (by rw [hg]; exact HB.out.size : w.heap.size ≤ g2); (try clear hcg2_0 hcg2_1 hcg2_2); (try replace HB := Aside0.mk (below_step HB.out hb)); (try replace HT := Aside0.mk (HT.out.below hb)); (try replace BKg2 := Aside0.mk (blk_below BKg2.out hb)); (try replace HQ := Aside0.mk (Kd.R_below HQ.out hb)); (try replace HO := Aside0.mk (Kd.R_below HO.out hb)); (try replace HX := Aside0.mk (Kd.R_below HX.out hb)); (try replace HP := Aside0.mk (Kd.R_below HP.out hb)); have BKg2 := Aside0.mk hbox; clear hb hbox hg; (try have hcg2_0 : W_.cell? ⟨g2, 0, none⟩ = some (.slice A0 l0.length c0) := (blk_cell BKg2.out 0).trans rfl); (try have hcg2_1 : W_.cell? ⟨g2, 1, none⟩ = some (.slice A1 l1.length c1) := (blk_cell BKg2.out 1).trans rfl); (try have hcg2_2 : W_.cell? ⟨g2, 2, none⟩ = some (.int .i64 wg) := (blk_cell BKg2.out 2).trans rfl)) | (go_at_call 20; go_must (refine (posserlaw03_Thin.calls k A0 c0 l0 A1 c1 l1 wg true _ (Kd.C_below HR0.out HB.out) HC0.out (Kd.C_below HR1.out HB.out) HC1.out HTH.out).mono ?_; rintro e W_ ⟨rfl, hb⟩; (try clear hcg2_0 hcg2_1 hcg2_2); (try replace HB := Aside0.mk (below_step HB.out hb)); (try replace HT := Aside0.mk (HT.out.below hb)); (try replace BKg2 := Aside0.mk (blk_below BKg2.out hb)); (try replace HQ := Aside0.mk (Kd.R_below HQ.out hb)); (try replace HO := Aside0.mk (Kd.R_below HO.out hb)); (try replace HX := Aside0.mk (Kd.R_below HX.out hb)); (try replace HP := Aside0.mk (Kd.R_below HP.out hb)); skip; clear hb; (try have hcg2_0 : W_.cell? ⟨g2, 0, none⟩ = some (.slice A0 l0.length c0) := (blk_cell BKg2.out 0).trans rfl); (try have hcg2_1 : W_.cell? ⟨g2, 1, none⟩ = some (.slice A1 l1.length c1) := (blk_cell BKg2.out 1).trans rfl); (try have hcg2_2 : W_.cell? ⟨g2, 2, none⟩ = some (.int .i64 wg) := (blk_cell BKg2.out 2).trans rfl))) | (go_at_call 23; go_must (refine (tab_c _ (HRT.out.below HB.out) HL0.out HL1.out).mono ?_; rintro e W_ ⟨B0, d0, B1, d1, rfl, ht, hb⟩; (try clear hcg2_0 hcg2_1 hcg2_2); (try replace HB := Aside0.mk (below_step HB.out hb)); (try replace HT := Aside0.mk (HT.out.below hb)); (try replace BKg2 := Aside0.mk (blk_below BKg2.out hb)); (try replace HQ := Aside0.mk (Kd.R_below HQ.out hb)); (try replace HO := Aside0.mk (Kd.R_below HO.out hb)); (try replace HX := Aside0.mk (Kd.R_below HX.out hb)); (try replace HP := Aside0.mk (Kd.R_below HP.out hb)); (try clear HT); have HT := Aside0.mk ht; clear ht; clear hb; (try have hcg2_0 : W_.cell? ⟨g2, 0, none⟩ = some (.slice A0 l0.length c0) := (blk_cell BKg2.out 0).trans rfl); (try have hcg2_1 : W_.cell? ⟨g2, 1, none⟩ = some (.slice A1 l1.length c1) := (blk_cell BKg2.out 1).trans rfl); (try have hcg2_2 : W_.cell? ⟨g2, 2, none⟩ = some (.int .i64 wg) := (blk_cell BKg2.out 2).trans rfl))) | (go_at_call 41; go_must (refine (list_c (Kd.C_below HRL.out HB.out) HLL.out).mono ?_; rintro e W_ ⟨AQ, cQ, rfl, ho, hb⟩; (try clear hcg2_0 hcg2_1 hcg2_2); (try replace HB := Aside0.mk (below_step HB.out hb)); (try replace HT := Aside0.mk (HT.out.below hb)); (try replace BKg2 := Aside0.mk (blk_below BKg2.out hb)); (try replace HQ := Aside0.mk (Kd.R_below HQ.out hb)); (try replace HO := Aside0.mk (Kd.R_below HO.out hb)); (try replace HX := Aside0.mk (Kd.R_below HX.out hb)); (try replace HP := Aside0.mk (Kd.R_below HP.out hb)); (try clear HQ); have HQ := Aside0.mk ho; clear ho; clear hb; (try have hcg2_0 : W_.cell? ⟨g2, 0, none⟩ = some (.slice A0 l0.length c0) := (blk_cell BKg2.out 0).trans rfl); (try have hcg2_1 : W_.cell? ⟨g2, 1, none⟩ = some (.slice A1 l1.length c1) := (blk_cell BKg2.out 1).trans rfl); (try have hcg2_2 : W_.cell? ⟨g2, 2, none⟩ = some (.int .i64 wg) := (blk_cell BKg2.out 2).trans rfl))) | (go_at_call 33; go_must (refine (posserlaw03_fault.calls k A0 c0 l0 A1 c1 l1 wg 0 _ (Kd.C_below HR0.out HB.out) HC0.out (Kd.C_below HR1.out HB.out) HC1.out HFA.out).mono ?_; rintro e W_ ⟨rfl, hb⟩; (try clear hcg2_0 hcg2_1 hcg2_2); (try replace HB := Aside0.mk (below_step HB.out hb)); (try replace HT := Aside0.mk (HT.out.below hb)); (try replace BKg2 := Aside0.mk (blk_below BKg2.out hb)); (try replace HQ := Aside0.mk (Kd.R_below HQ.out hb)); (try replace HO := Aside0.mk (Kd.R_below HO.out hb)); (try replace HX := Aside0.mk (Kd.R_below HX.out hb)); (try replace HP := Aside0.mk (Kd.R_below HP.out hb)); skip; clear hb; (try have hcg2_0 : W_.cell? ⟨g2, 0, none⟩ = some (.slice A0 l0.length c0) := (blk_cell BKg2.out 0).trans rfl); (try have hcg2_1 : W_.cell? ⟨g2, 1, none⟩ = some (.slice A1 l1.length c1) := (blk_cell BKg2.out 1).trans rfl); (try have hcg2_2 : W_.cell? ⟨g2, 2, none⟩ = some (.int .i64 wg) := (blk_cell BKg2.out 2).trans rfl))) | (go_at_call 60; go_must (refine (prove_c _ HT.out HQ.out HLL.out HPR.out).mono ?_; rintro e W_ ⟨rfl, hb⟩; (try clear hcg2_0 hcg2_1 hcg2_2); (try replace HB := Aside0.mk (below_step HB.out hb)); (try replace HT := Aside0.mk (HT.out.below hb)); (try replace BKg2 := Aside0.mk (blk_below BKg2.out hb)); (try replace HQ := Aside0.mk (Kd.R_below HQ.out hb)); (try replace HO := Aside0.mk (Kd.R_below HO.out hb)); (try replace HX := Aside0.mk (Kd.R_below HX.out hb)); (try replace HP := Aside0.mk (Kd.R_below HP.out hb)); skip; clear hb; (try have hcg2_0 : W_.cell? ⟨g2, 0, none⟩ = some (.slice A0 l0.length c0) := (blk_cell BKg2.out 0).trans rfl); (try have hcg2_1 : W_.cell? ⟨g2, 1, none⟩ = some (.slice A1 l1.length c1) := (blk_cell BKg2.out 1).trans rfl); (try have hcg2_2 : W_.cell? ⟨g2, 2, none⟩ = some (.int .i64 wg) := (blk_cell BKg2.out 2).trans rfl))) | (go_at_call 61; go_must (refine (check_c _ HT.out HCK.out).mono ?_; rintro e W_ ⟨rfl, hb⟩; (try clear hcg2_0 hcg2_1 hcg2_2); (try replace HB := Aside0.mk (below_step HB.out hb)); (try replace HT := Aside0.mk (HT.out.below hb)); (try replace BKg2 := Aside0.mk (blk_below BKg2.out hb)); (try replace HQ := Aside0.mk (Kd.R_below HQ.out hb)); (try replace HO := Aside0.mk (Kd.R_below HO.out hb)); (try replace HX := Aside0.mk (Kd.R_below HX.out hb)); (try replace HP := Aside0.mk (Kd.R_below HP.out hb)); skip; clear hb; (try have hcg2_0 : W_.cell? ⟨g2, 0, none⟩ = some (.slice A0 l0.length c0) := (blk_cell BKg2.out 0).trans rfl); (try have hcg2_1 : W_.cell? ⟨g2, 1, none⟩ = some (.slice A1 l1.length c1) := (blk_cell BKg2.out 1).trans rfl); (try have hcg2_2 : W_.cell? ⟨g2, 2, none⟩ = some (.int .i64 wg) := (blk_cell BKg2.out 2).trans rfl))) | (go_at_call 50; go_must (refine (play_c _ HT.out HQ.out HLL.out HCK.out HAB.out HSO.out HSX.out).mono ?_; rintro e W_ ⟨v1, v2, rfl, ho1, ho2, hb⟩; (try clear hcg2_0 hcg2_1 hcg2_2); (try replace HB := Aside0.mk (below_step HB.out hb)); (try replace HT := Aside0.mk (HT.out.below hb)); (try replace BKg2 := Aside0.mk (blk_below BKg2.out hb)); (try replace HQ := Aside0.mk (Kd.R_below HQ.out hb)); (try replace HO := Aside0.mk (Kd.R_below HO.out hb)); (try replace HX := Aside0.mk (Kd.R_below HX.out hb)); (try replace HP := Aside0.mk (Kd.R_below HP.out hb)); have HO := Aside0.mk ho1; obtain ⟨AHO, cHO, eHO⟩ := Kd.R_slice HO.out; subst eHO; clear ho1; have HX := Aside0.mk ho2; obtain ⟨AHX, cHX, eHX⟩ := Kd.R_slice HX.out; subst eHX; clear ho2; clear hb; (try have hcg2_0 : W_.cell? ⟨g2, 0, none⟩ = some (.slice A0 l0.length c0) := (blk_cell BKg2.out 0).trans rfl); (try have hcg2_1 : W_.cell? ⟨g2, 1, none⟩ = some (.slice A1 l1.length c1) := (blk_cell BKg2.out 1).trans rfl); (try have hcg2_2 : W_.cell? ⟨g2, 2, none⟩ = some (.int .i64 wg) := (blk_cell BKg2.out 2).trans rfl))) | (go_at_call 42; go_must (refine (posserref03_IsTruth.calls k A0 c0 l0 A1 c1 l1 wg AL cL l b _ (Kd.C_below HR0.out HB.out) HC0.out (Kd.C_below HR1.out HB.out) HC1.out (Kd.C_below HRL.out HB.out) HCL.out HIT.out).mono ?_; rintro e W_ ⟨rfl, hb⟩; (try clear hcg2_0 hcg2_1 hcg2_2); (try replace HB := Aside0.mk (below_step HB.out hb)); (try replace HT := Aside0.mk (HT.out.below hb)); (try replace BKg2 := Aside0.mk (blk_below BKg2.out hb)); (try replace HQ := Aside0.mk (Kd.R_below HQ.out hb)); (try replace HO := Aside0.mk (Kd.R_below HO.out hb)); (try replace HX := Aside0.mk (Kd.R_below HX.out hb)); (try replace HP := Aside0.mk (Kd.R_below HP.out hb)); skip; clear hb; (try have hcg2_0 : W_.cell? ⟨g2, 0, none⟩ = some (.slice A0 l0.length c0) := (blk_cell BKg2.out 0).trans rfl); (try have hcg2_1 : W_.cell? ⟨g2, 1, none⟩ = some (.slice A1 l1.length c1) := (blk_cell BKg2.out 1).trans rfl); (try have hcg2_2 : W_.cell? ⟨g2, 2, none⟩ = some (.int .i64 wg) := (blk_cell BKg2.out 2).trans rfl))) | (go_at_call 62; go_must (refine (posserref03_AreOwners.calls k A0 c0 l0 A1 c1 l1 wg AL cL l true _ (Kd.C_below HR0.out HB.out) HC0.out (Kd.C_below HR1.out HB.out) HC1.out (Kd.C_below HRL.out HB.out) HCL.out HAR.out).mono ?_; rintro e W_ ⟨rfl, hb⟩; (try clear hcg2_0 hcg2_1 hcg2_2); (try replace HB := Aside0.mk (below_step HB.out hb)); (try replace HT := Aside0.mk (HT.out.below hb)); (try replace BKg2 := Aside0.mk (blk_below BKg2.out hb)); (try replace HQ := Aside0.mk (Kd.R_below HQ.out hb)); (try replace HO := Aside0.mk (Kd.R_below HO.out hb)); (try replace HX := Aside0.mk (Kd.R_below HX.out hb)); (try replace HP := Aside0.mk (Kd.R_below HP.out hb)); skip; clear hb; (try have hcg2_0 : W_.cell? ⟨g2, 0, none⟩ = some (.slice A0 l0.length c0) := (blk_cell BKg2.out 0).trans rfl); (try have hcg2_1 : W_.cell? ⟨g2, 1, none⟩ = some (.slice A1 l1.length c1) := (blk_cell BKg2.out 1).trans rfl); (try have hcg2_2 : W_.cell? ⟨g2, 2, none⟩ = some (.int .i64 wg) := (blk_cell BKg2.out 2).trans rfl))) | (go_at_call 43; go_must (refine (posserref03_Astray.calls k A0 c0 l0 A1 c1 l1 wg AL cL l xs _ (Kd.C_below HR0.out HB.out) HC0.out (Kd.C_below HR1.out HB.out) HC1.out (Kd.C_below HRL.out HB.out) HCL.out HXS.out).mono ?_; rintro e W_ ⟨v_, rfl, ho, hb⟩; (try clear hcg2_0 hcg2_1 hcg2_2); (try replace HB := Aside0.mk (below_step HB.out hb)); (try replace HT := Aside0.mk (HT.out.below hb)); (try replace BKg2 := Aside0.mk (blk_below BKg2.out hb)); (try replace HQ := Aside0.mk (Kd.R_below HQ.out hb)); (try replace HO := Aside0.mk (Kd.R_below HO.out hb)); (try replace HX := Aside0.mk (Kd.R_below HX.out hb)); (try replace HP := Aside0.mk (Kd.R_below HP.out hb)); have HP := Aside0.mk ho; obtain ⟨AHP, cHP, eHP⟩ := Kd.R_slice HP.out; subst eHP; clear ho; clear hb; (try have hcg2_0 : W_.cell? ⟨g2, 0, none⟩ = some (.slice A0 l0.length c0) := (blk_cell BKg2.out 0).trans rfl); (try have hcg2_1 : W_.cell? ⟨g2, 1, none⟩ = some (.slice A1 l1.length c1) := (blk_cell BKg2.out 1).trans rfl); (try have hcg2_2 : W_.cell? ⟨g2, 2, none⟩ = some (.int .i64 wg) := (blk_cell BKg2.out 2).trans rfl))) | (go_at_call 25; go_must (refine (posserlaw03_ints.calls k AHX cHX xs AHP cHP xs true _ (Kd.R_reads' HX.out).2.2 (Kd.R_reads' HX.out).2.1 (Kd.R_reads' HP.out).2.2 (Kd.R_reads' HP.out).2.1 HIN.out).mono ?_; rintro e Wq ⟨rfl, ⟨nd, rfl⟩⟩; have hb := pw_below_drewN (Below.refl W_.heap.size W_) nd; (try clear hcg2_0 hcg2_1 hcg2_2); (try replace HB := Aside0.mk (below_step HB.out hb)); (try replace HT := Aside0.mk (HT.out.below hb)); (try replace BKg2 := Aside0.mk (blk_below BKg2.out hb)); (try replace HQ := Aside0.mk (Kd.R_below HQ.out hb)); (try replace HO := Aside0.mk (Kd.R_below HO.out hb)); (try replace HX := Aside0.mk (Kd.R_below HX.out hb)); (try replace HP := Aside0.mk (Kd.R_below HP.out hb)); skip; clear hb; generalize W_.drewN nd = W_ at *; (try have hcg2_0 : W_.cell? ⟨g2, 0, none⟩ = some (.slice A0 l0.length c0) := (blk_cell BKg2.out 0).trans rfl); (try have hcg2_1 : W_.cell? ⟨g2, 1, none⟩ = some (.slice A1 l1.length c1) := (blk_cell BKg2.out 1).trans rfl); (try have hcg2_2 : W_.cell? ⟨g2, 2, none⟩ = some (.int .i64 wg) := (blk_cell BKg2.out 2).trans rfl))))
  obtain ⟨W1, hW1⟩ : ∃ W1 : World, W1 = W_ := ⟨_, rfl⟩
  subst hW1
  (try clear hcg2_0 hcg2_1 hcg2_2)
  go_loopg [10] os.length (fun kq v10 w' => ∃ m : Nat, v10 = .int .i64 (m : Int) ∧ Aside0 (m + kq = os.length) ∧ Aside0 (Below W1.heap.size W1 w'))
  case atStart => exact ⟨0, rfl, ⟨Nat.zero_add _⟩, ⟨Below.refl _ _⟩⟩
  case round =>
    obtain ⟨m, rfl, HM, HB1⟩ := hrel
    by_cases hlt : m < os.length
    · cases gk with
      | zero => have := HM.out; omega
      | succ k1 =>
      have hwm := wrap_succ m _ hlt (by have := HLO.out; have := HRT.out.n0; omega)
      obtain ⟨ado, eo, hco0⟩ := Kd.at_int (Kd.C_below (Kd.R_reads' HO.out).2.2 HB1.out) (m : Int) (by omega) (by omega)
      subst eo
      simp only [Int.toNat_natCast] at hco0
      have HOS := Aside0.mk (HOS.out m hlt)
      generalize rd os (m : Int) = y at *
      have hyy : (y != y) = false := by simp
      go_wp2
      refine start_ (n := 8) (S := fun w' => w'.cell? (ado.add m) = some (.int .i64 y)) (ds := []) #[false, false, false, false, false, false, false, false] (by kernel_rfl) rfl rfl (hco0) (fun hHeld => ?_)
      have hb := below_drew1 (Below.refl wr.heap.size wr)
      have n0_ := Aside0.mk (below_step HB1.out hb)
      clear HB1
      have HB1 := n0_
      clear n0_
      replace hco0 := (hb.cell (World.block_lt_of_cell? _ _ hco0)).trans hco0
      generalize wr.drew = W7 at *
      clear hb
      refine pure_ (i := 0) (N := some 100) (v := ?_) (a' := ?_) #[true, false, false, false, false, false, false, false] rfl rfl (by kernel_rfl) (fun _ _ _ h => h) (Or.inl ⟨by rfl, ?_⟩) ?_ ?_
      rotate_left
      · intro w'
        go_simp
        with_reducible rfl
      rotate_left
      · simp only [Act.put, List.setIfInBounds_toArray, List.set_cons_zero, List.set_cons_succ, i64_w, i32_w]
        rfl
      refine pure_ (i := 1) (N := some 101) (v := ?_) (a' := ?_) #[true, true, false, false, false, false, false, false] rfl rfl (by kernel_rfl) (fun _ _ _ h => h) (Or.inl ⟨by rfl, ?_⟩) ?_ ?_
      rotate_left
      · intro w'
        go_simp
        with_reducible rfl
      rotate_left
      · simp only [Act.put, List.setIfInBounds_toArray, List.set_cons_zero, List.set_cons_succ, i64_w, i32_w]
        rfl
      refine pure_ (i := 2) (N := some 102) (v := ?_) (a' := ?_) #[true, true, true, false, false, false, false, false] rfl rfl (by kernel_rfl) (fun _ _ _ h => h) (Or.inl ⟨by rfl, ?_⟩) ?_ ?_
      rotate_left
      · intro w'
        go_simp
        with_reducible rfl
      rotate_left
      · simp only [Act.put, List.setIfInBounds_toArray, List.set_cons_zero, List.set_cons_succ, i64_w, i32_w]
        rfl
      refine pure_ (i := 4) (N := some 104) (v := ?_) (a' := ?_) #[true, true, true, false, true, false, false, false] rfl rfl (by kernel_rfl) (fun _ _ _ h => h) (Or.inl ⟨by rfl, ?_⟩) ?_ ?_
      rotate_left
      · intro w'
        go_simp
        with_reducible rfl
      rotate_left
      · simp only [Act.put, List.setIfInBounds_toArray, List.set_cons_zero, List.set_cons_succ, i64_w, i32_w]
        rfl
      refine pure_ (i := 5) (N := some 105) (v := ?_) (a' := ?_) #[true, true, true, false, true, true, false, false] rfl rfl (by kernel_rfl) (fun _ _ _ h => h) (Or.inl ⟨by rfl, ?_⟩) ?_ ?_
      rotate_left
      · intro w'
        go_simp
        with_reducible rfl
      rotate_left
      · simp only [Act.put, List.setIfInBounds_toArray, List.set_cons_zero, List.set_cons_succ, i64_w, i32_w]
        rfl
      refine take_ (i := 3) (N := some 103) (v := ?_) (a' := ?_) #[true, true, true, true, true, true, false, false] rfl rfl (by kernel_rfl) (fun _ _ _ h => h) (Or.inl ⟨by rfl, ?_⟩) hHeld ?_ ?_
      rotate_left
      · intro w' s0
        go_simp
        with_reducible rfl
      rotate_left
      · simp only [Act.put, List.setIfInBounds_toArray, List.set_cons_zero, List.set_cons_succ, i64_w, i32_w]
        rfl
      refine one_ (i := 6) (N := some 106) #[true, true, true, true, true, true, true, false] rfl rfl (by kernel_rfl) (by decide) (fun K hK => ?_)
      refine goes_ Try.func63 (by kernel_rfl) rfl #[.slice AL l.length cL, .int .i64 (m : Int)] (by rfl) rfl rfl (by simp only [List.map_toArray, List.map_cons, List.map_nil]; rfl) ?_
      with_reducible refine (posserref03_Own.calls k AL cL l (m : Int) y _ (Kd.C_below HRL.out (below_step HB.out HB1.out)) HCL.out HOS.out).mono ?_
      rintro e Wx ⟨rfl, ⟨nd, rfl⟩⟩
      have hb := pw_below_drewN (Below.refl W7.heap.size W7) nd
      replace hco0 := (hb.cell (World.block_lt_of_cell? _ _ hco0)).trans hco0
      have n0_ := Aside0.mk (below_step HB1.out hb)
      clear HB1
      have HB1 := n0_
      clear n0_
      clear hb
      generalize W7.drewN nd = W8 at *
      refine ⟨_, rfl, ?_⟩
      refine hK.out _ _ (hco0) (fun hHeld => ?_)
      clear hK K
      refine norm_ (a' := ?_) ?_ ?_
      rotate_left
      · show Act.put _ (some 106) _ = _
        simp only [Act.put, List.setIfInBounds_toArray, List.set_cons_zero, List.set_cons_succ, i64_w, i32_w]
        rfl
      refine pure_ (i := 7) (N := some 107) (v := ?_) (a' := ?_) #[true, true, true, true, true, true, true, true] rfl rfl (by kernel_rfl) (fun _ _ _ h => h) (Or.inl ⟨by rfl, ?_⟩) ?_ ?_
      rotate_left
      · intro w'
        go_simp
        with_reducible rfl
      rotate_left
      · simp only [Act.put, List.setIfInBounds_toArray, List.set_cons_zero, List.set_cons_succ, i64_w, i32_w]
        rfl
      refine done_ (by kernel_rfl) ?_
      go_wp2
      go_roundg k1
      case measure => omega
      case rel => exact ⟨m + 1, by go_num, ⟨by have := HM.out; omega⟩, HB1⟩
    · go_wp2_with (first | (go_at_call 21; go_must (have hb0 := Aside0.mk (below_step HB.out HB1.out); refine (awake_calls _).mono ?_; rintro e W_ ⟨rfl, hb⟩; replace HB := Aside0.mk (below_step hb0.out hb))))
      go_ret
      exact ⟨rfl, HB.out⟩
end Go.Proofs.Ytnbbbeghgomnoaa.X
namespace Go.Proofs.Ytnbbbeghgomnoaa.X
open Go.RowKit Go.Proofs.YtnbbbeghgomnoaaW.PrintWords Go.Proofs.YtnbbbeghgomnoaaW.PrintLast Go.Proofs.YtnbbbeghgomnoaaW.PrintMore
theorem BundlePlays_walk (A0 : Option Addr) (c0 : Nat) (l0 : List S85) (A1 : Option Addr) (c1 : Nat) (l1 : List S71) (wg : Int) (AL : Option Addr) (cL : Nat) (l : List Int) (W : World) (C0 : Kd.C k85 W A0 l0.length l0) (g0 : l0.length ≤ c0) (C1 : Kd.C k71 W A1 l1.length l1) (g1 : l1.length ≤ c1) (CL : Kd.C (Kd.int .i64) W AL l.length l) (gL : l.length ≤ cL) :
    Calls Try.prog 18 #[.agg #[.slice A0 l0.length c0, .slice A1 l1.length c1, .int .i64 wg], .slice AL l.length cL] W fun e w' => e = .returned (.bool true) ∧ Below W.heap.size W w' := by
  obtain ⟨K, hK⟩ := Thin_ev l0 l1 wg
  by_cases hth : thinR l0 l1 = true
  · rw [hth] at hK
    by_cases hl : 30 < l.length
    · exact Plays_long K wg C0 g0 C1 g1 CL gL (hK K (Nat.le_refl _)) hl
    · have hl' : l.length ≤ 30 := by omega
      have ht := thinR_iff.1 hth
      obtain ⟨L, hL⟩ := fault_ev wg ht
      by_cases hc : checkT (l0.map cvW) (l1.map cvP) wg = 0
      · have hv := VR.of ht hc
        rw [hc] at hL
        obtain ⟨M, hM⟩ := AreOwners_ev wg ht l
        obtain ⟨N, hN⟩ := IsTruth_ev wg ht hv.n0 l
        by_cases hab : areB (l0.map cvW) (l1.map cvP) l = true
        · have hll : l.length = l1.length := by
            unfold areB at hab
            rw [Bool.and_eq_true, decide_eq_true_eq, List.length_map] at hab
            exact hab.1
          rw [hab] at hM hN
          obtain ⟨J, hJ⟩ := RAstray_ev (l0 := l0) (l1 := l1) wg ht.n1 l hll
          obtain ⟨xs, hxs⟩ : ∃ xs, sel (off (l1.map cvP) (pad l)) (l1.map cvP).length = xs := ⟨_, rfl⟩
          rw [hxs] at hJ
          obtain ⟨I, hI⟩ := ints_ev xs xs (by rw [← hxs]; exact Nat.le_trans (sel_le _ _) (by rw [List.length_map]; omega))
          obtain ⟨os, hos⟩ : ∃ os, ownL (l0.map cvW).length (l1.map cvP).length (pad l) = os := ⟨_, rfl⟩
          have hol : os.length = l0.length := by rw [← hos, ownL_length, List.length_map]
          obtain ⟨H, hH⟩ := Evt.all (List.range os.length) (g := fun i k => posserref03_Own.f k l ((i : Nat) : Int)) (r := fun i => rd os ((i : Nat) : Int)) (fun i hi => by
            have h := Own_ev l ((i : Nat) : Int) (by omega)
            have hi' : i < os.length := List.mem_range.1 hi
            have e : rd os ((i : Nat) : Int) = ((cnt (pad l) l.length ((i : Nat) : Int) : Nat) : Int) := by
              rw [rd_nat, ← hos, List.getD_eq_getElem?_getD, ownL_get _ _ _ _ (by rw [List.length_map]; omega), List.length_map, hll]; rfl
            show Evt (fun k => posserref03_Own.f k l ((i : Nat) : Int)) (rd os ((i : Nat) : Int))
            rw [e]; exact h)
          obtain ⟨k, hk⟩ : ∃ k, k = K + L + M + N + J + I + H := ⟨_, rfl⟩
          have e1 := hK k (by omega)
          have e2 := hL k (by omega)
          have e3 := hM k (by omega)
          have e4 := hN k (by omega)
          have e5 := hJ k (by omega)
          have e6 := hI k (by omega)
          have e7 := hH k (by omega)
          dsimp only at e1 e2 e3 e4 e5 e6 e7
          refine Plays_ok k wg C0 g0 C1 g1 CL gL ht rfl rfl e1 hl' e2 hc (b := isT (l0.map cvW) l1.length wg l) ?_ hab (by rw [e4, Bool.true_and]) e3 hos hxs e5 (by rw [e6]; simp) hol (fun i hi => e7 i (List.mem_range.2 hi))
          unfold provedT
          rw [hc, hab, decide_eq_true rfl, Bool.true_and, Bool.true_and, List.length_map]
        · have hab' := Bool.eq_false_iff.2 hab
          rw [hab'] at hM hN
          obtain ⟨k, hk⟩ : ∃ k, k = K + L + M + N := ⟨_, rfl⟩
          refine Plays_range k wg C0 g0 C1 g1 CL gL ht rfl rfl (hK k (by omega)) hl' (hL k (by omega)) hc ?_ hab' (hN k (by omega)) (hM k (by omega))
          unfold provedT
          rw [hab', Bool.false_and, Bool.and_false]
      · obtain ⟨k, hk⟩ : ∃ k, k = K + L := ⟨_, rfl⟩
        refine Plays_err k wg C0 g0 C1 g1 CL gL ht rfl rfl (hK k (by omega)) hl' (hL k (by omega)) hc rfl ?_
        unfold provedT
        rw [decide_eq_false hc, Bool.false_and]
  · rw [Bool.eq_false_iff.2 hth] at hK
    exact Plays_no K wg C0 g0 C1 g1 CL gL (hK K (Nat.le_refl _))
end Go.Proofs.Ytnbbbeghgomnoaa.X
namespace Go.Proofs.Ytnbbbeghgomnoaa.bundlePlays
open Go.ChangeShapes Go.WideShapes Go.ChangeAt Go.RowKit
open Go.ChangeMaps (open_string shut_string)
open Go.Proofs.Ytnbbbeghgomnoaa.X
theorem own : ownKnob Try.prog.godebug = none := by kernel_rfl
theorem laidOut : laidOutB Try.prog = true := by kernel_rfl
set_option maxRecDepth 100000 in
theorem lifted (os : Os) (started : os.Started) (H : Type) (enc : TypeId × Value → H) :
    ReturnsInHanded {} Try.checked os 18 .any (Rows.bundlePlaysSpec.pre6 enc Try.prog Try.f18 Rows.bundlePlaysRow.domain false) (Rows.bundlePlaysSpec.post enc Try.prog Try.f18 false true false false) := by
  refine returnsInHanded_of_change_sized (C := Try.checked) own started (by kernel_rfl) Try.func18
    (ChangeSpec.witness6 (enc := enc) (C := Try.checked) false ⟨#[], #[.agg #[.slice none 0 0, .slice none 0 0, .int .i64 0], .slice none 0 0], []⟩ 8 (by kernel_rfl) (by kernel_rfl) (by kernel_rfl) (by kernel_rfl)) ?_
  intro W base args ds gs before hval0 hW hcnd hsz0 _
  have hsz : (DataW.weightsEach Try.prog (Try.f18.params.toList ++ Rows.bundlePlaysSpec.plain.varTypes Try.prog) (ds ++ gs)).all (· ≤ reachBytes) = true := hsz0
  have hval : ∀ (j : Nat) t v, Try.f18.params[j]? = some t → args[j]? = some v → Value.okWide Try.prog W .any base t v := hval0
  have hW' := hW
  obtain ⟨p, q, hA0, hV, rfl, hfz, hnd⟩ := hW
  have hA : DataW.TrodAll enc Try.prog W 0 (fun _ => true) true Try.f18.params.toList args.toList ds p := hA0
  rw [Try.params18] at hA hval hsz
  obtain ⟨v0, vs0, d0, ds0, p0, q0, hargs, rfl, rfl, h0, r0⟩ := trodAll_cons hA
  obtain ⟨v1, vs1, d1, ds1, p1, q1, rfl, rfl, rfl, h1, r1⟩ := trodAll_cons r0
  obtain ⟨rfl, rfl, rfl⟩ := trodAll_nil r1
  obtain rfl : args = #[v0, v1] := by cases args; simp_all
  obtain ⟨rfl, rfl⟩ := trodVars_none hV
  have k0 := h0
  have lt0 : ∀ x ∈ p0, x.block < W.heap.size := by obtain ⟨m, hm⟩ := k0; exact DataW.trod_lt m _ _ _ hm
  obtain ⟨A0, c0, l0, A1, c1, l1, wg, rfl, C0, g0, C1, g1⟩ := open_table (hval 0 25 v0 rfl rfl) h0
  have k1 := h1
  have lt1 : ∀ x ∈ p1, x.block < W.heap.size := by obtain ⟨m, hm⟩ := k1; exact DataW.trod_lt m _ _ _ hm
  obtain ⟨fuel1, hf1⟩ := h1
  obtain ⟨AL1, cL1, lL1, e1, gL1, CL1⟩ := open_list hf1
  obtain ⟨a_, n_, c_, rfl⟩ := okWide_slice Try.underlying39 (hval 1 39 v1 rfl rfl)
  simp only [Value.cells] at e1
  injection e1 with e1 _
  injection e1 with ea_ en_ ec_
  subst ea_ en_ ec_
  clear hA0 hval0 hsz0 hsz
  refine (BundlePlays_walk A0 c0 l0 A1 c1 l1 wg _ _ lL1 W C0 g0 C1 g1 CL1 gL1).mono fun e W' ⟨he, bel⟩ => ?_
  subst he
  exact ⟨_, rfl, _, _, _, [], _, [], hW', trodAll_mk1 (shut_bool Try.underlying4 _), (trodAll_cons_mk (Below.trod laidOut (by kernel_rfl) (of_decide_eq_true (by kernel_rfl)) k0 bel lt0) (trodAll_cons_mk (Below.trod laidOut (by kernel_rfl) (of_decide_eq_true (by kernel_rfl)) k1 bel lt1) trodAll_mk0)), rfl, bel.frame _, fun h => by cases h⟩
theorem over : Rows.bundlePlaysRow.holds Try.pinned (OpenSpec.ofChange Rows.bundlePlaysSpec) :=
  OpenClaim.holds_of_wide 18 Try.f18 rfl rfl rfl rfl rfl rfl rfl ⟨rfl, rfl, rfl, rfl, rfl⟩ rfl rfl rfl rfl rfl (by kernel_rfl) Try.func18 (by kernel_rfl)
    (of_decide_eq_true (by kernel_rfl)) (by unfold Func.isWrapper; first | (rw [if_pos (by decide +kernel)]; kernel_rfl) | (rw [if_neg (by decide +kernel)]; exact ⟨rfl, rfl⟩))
    (fun os started H enc _ => lifted os started H enc)
theorem proved : Rows.BundlePlaysSaid := over
end Go.Proofs.Ytnbbbeghgomnoaa.bundlePlays
namespace Go.Proofs.Ytnbbbeghgomnoaa
theorem bundlePlays_holds : Rows.BundlePlaysSaid := bundlePlays.proved
#print axioms bundlePlays_holds
end Go.Proofs.Ytnbbbeghgomnoaa
