/-
  For every table that the statement lets in, the first wrong count and the smallest set are as the document says, or the error is.
-/
import Derived.Test.YtnbbbeghgomnoaaQBase05
import Derived.Test.YtnbbbeghgomnoaaRows
import Derived.WalkKit
import Derived.ProofKit
import Derived.OpenShut
import Derived.ShutString
import Derived.ChangeOld
import Derived.Below
import Derived.SizedLaws
set_option linter.unusedVariables false
set_option linter.unusedSimpArgs false
namespace Go.Proofs.YtnbbbeghgomnoaaW.PrintLast
open Go.Proofs.YtnbbbeghgomnoaaW.PrintWords (Aside0)
def freeT (T : List (List Nat × List Nat)) (l : List Bool) (i : Nat) : Bool := match T[i]? with
 | some r => r.2.all (fun j => l.getD j true)
 | none => false
def closedT (T : List (List Nat × List Nat)) (l : List Bool) : Bool := (List.range T.length).all fun j => !l.getD j false || match T[j]? with
 | some r => r.1.all (fun k => l.getD k false)
 | none => true
def reachT (T : List (List Nat × List Nat)) (i : Nat) : Nat → Nat → Bool
 | 0, _ => false
 | fuel + 1, d => match T[d]? with
  | some r => r.1.any fun j => j == i || reachT T i fuel j
  | none => false
def lastT (T : List (List Nat × List Nat)) (l : List Bool) (ds : List Nat) (i : Nat) : Bool := ds.all fun d => l.getD d true || reachT T i T.length d
section
variable {md : Region.Mode} {ops : Array Oper} {T : Bool × List (List Nat × List Nat)} {l l' li lj lk : Array Bool} {ds : List Nat} {i j k : Nat}
theorem needs_any (o : Oper) (p : Nat → Bool) : o.after.any (fun e => Region.binds md e && p e.on) = (needsOf md o).any p := by
 unfold needsOf
 rw [← Array.any_toList]
 induction o.after.toList with
 | nil => rfl
 | cons e r ih =>
  rw [List.any_cons, ih, List.filter_cons]
  cases h : Region.binds md e <;> simp
theorem free_eq : Region.free md ops l i = freeT (rtab md ops).2 l.toList i := by
 unfold Region.free freeT
 cases h : ops[i]? with
 | none => rw [rtab_none h]
 | some oi =>
  rw [rtab_some h]
  simp only [clashOf]
  rw [List.all_filter]
  congr 1
  funext j
  rw [gd]
  cases hj : ops[j]? with
  | none => cases (j == i) <;> cases (l.toList.getD j true) <;> simp
  | some oj =>
   cases (j == i) <;> cases (l.toList.getD j true) <;> cases (oj.after.any (fun e => Region.binds md e && e.on == i) || oi.apart ops oj) <;> simp_all
theorem closed_eq : Region.closedB md ops l = closedT (rtab md ops).2 l.toList := by
 unfold Region.closedB closedT
 rw [rtab_length]
 congr 1
 funext j
 rw [gd]
 cases h : ops[j]? with
 | none => rw [rtab_none h]
 | some o =>
  rw [rtab_some h]
  simp only
  rw [← needs_all]
  simp only [gd]
theorem reach_eq : ∀ (fuel d : Nat), Region.reachB md ops i fuel d = reachT (rtab md ops).2 i fuel d
 | 0, _ => rfl
 | fuel + 1, d => by
  unfold Region.reachB reachT
  cases h : ops[d]? with
  | none => rw [rtab_none h]
  | some o =>
   rw [rtab_some h]
   simp only
   rw [← needs_any]
   congr 1
   funext e
   rw [reach_eq fuel]
theorem last_eq : Region.lastB md ops l ds i = lastT (rtab md ops).2 l.toList ds i := by
 unfold Region.lastB lastT
 rw [rtab_length]
 congr 1
 funext d
 rw [gd, reach_eq]
theorem set_of (h : (l.toList.set i true == l'.toList) = true) : (l.setIfInBounds i true == l') = true := by
 rw [beq_iff_eq] at h ⊢
 apply Array.ext'
 rw [Array.toList_setIfInBounds]
 exact h
def anyT (T : Bool × List (List Nat × List Nat)) (l l' : List Bool) (i : Nat) : Bool := T.1 && freeT T.2 l i && readyAt T.2 l i && (l.set i true == l')
theorem any_of (hT : rtab md ops = T) (h : anyT T l.toList l'.toList i = true) : anyB md ops l l' i = true := by
 simp only [anyT, Bool.and_eq_true] at h
 obtain ⟨⟨⟨h1, h2⟩, h3⟩, h4⟩ := h
 have h5 := readyAt_mem h3 hT
 have h6 := set_of h4
 subst hT
 simp only [anyB, Bool.and_eq_true]
 exact ⟨⟨⟨h1, by rw [free_eq]; exact h2⟩, h5⟩, h6⟩
def takeT (T : Bool × List (List Nat × List Nat)) (ds : List Nat) (l l' : List Bool) (i : Nat) : Bool := T.1 && freeT T.2 l i && readyAt T.2 l i && closedT T.2 l && lastT T.2 l ds i && (l.set i true == l')
theorem take_of (hT : rtab md ops = T) (h : takeT T ds l.toList l'.toList i = true) : takeB md ops ds l l' i = true := by
 simp only [takeT, Bool.and_eq_true] at h
 obtain ⟨⟨⟨⟨⟨h1, h2⟩, h3⟩, h4⟩, h5⟩, h6⟩ := h
 have h7 := readyAt_mem h3 hT
 have h8 := set_of h6
 subst hT
 simp only [takeB, Bool.and_eq_true]
 exact ⟨⟨⟨⟨⟨h1, by rw [free_eq]; exact h2⟩, h7⟩, by rw [closed_eq]; exact h4⟩, by rw [last_eq]; exact h5⟩, h8⟩
theorem one_of (hT : rtab md ops = T) (h : (readyT T.2 l.toList == [i] && l.toList.set i true == l'.toList) = true) : readyB md ops l l' i = true := by
 simp only [Bool.and_eq_true] at h
 obtain ⟨h1, h2⟩ := h
 subst hT
 simp only [readyB, Bool.and_eq_true]
 exact ⟨by rw [ready_eq]; exact h1, set_of h2⟩
theorem done_of (hT : rtab md ops = T) (h : (readyT T.2 l.toList == []) = true) : (Region.ready md ops l == []) = true := by
 subst hT
 rw [ready_eq]
 exact h
def upM (B : List Nat) (d : Nat) : List Nat → Nat
 | [] => 0
 | n :: r => (2 ^ n ||| (if n < d then B.getD n 0 else 0)) ||| upM B d r
def waitsOk (T : List (List Nat × List Nat)) (B : List Nat) : Bool := (List.range T.length).all fun d => match T[d]? with
 | some r => (B.getD d 0 ||| upM B d r.1) == upM B d r.1
 | none => false
theorem upM_bit {B : List Nat} {d i : Nat} : ∀ {ns : List Nat}, (upM B d ns).testBit i = true → ∃ n ∈ ns, n = i ∨ (n < d ∧ (B.getD n 0).testBit i = true)
 | [], h => by simp [upM] at h
 | n :: r, h => by
  unfold upM at h
  rw [Nat.testBit_or, Nat.testBit_or, Bool.or_eq_true, Bool.or_eq_true] at h
  rcases h with (h | h) | h
  ·rw [Nat.testBit_two_pow] at h
   exact ⟨n, List.mem_cons_self, .inl (by simpa using h)⟩
  ·by_cases hn : n < d
   ·rw [if_pos hn] at h
    exact ⟨n, List.mem_cons_self, .inr ⟨hn, h⟩⟩
   ·rw [if_neg hn] at h
    simp at h
  ·obtain ⟨m, hm, h2⟩ := upM_bit h
   exact ⟨m, List.mem_cons_of_mem _ hm, h2⟩
theorem reach_bit {T : List (List Nat × List Nat)} {B : List Nat} (hB : waitsOk T B = true) : ∀ (fuel d : Nat), d < fuel → d < T.length → (B.getD d 0).testBit i = true → reachT T i fuel d = true
 | 0, d, h, _, _ => by omega
 | fuel + 1, d, h, hd, hb => by
  have h1 := List.all_eq_true.1 hB d (List.mem_range.2 hd)
  cases hr : T[d]? with
  | none => rw [hr] at h1; simp at h1
  | some r =>
   rw [hr] at h1
   simp only [beq_iff_eq] at h1
   have h2 : (upM B d r.1).testBit i = true := by rw [← h1, Nat.testBit_or, hb, Bool.true_or]
   obtain ⟨n, hn, h3⟩ := upM_bit h2
   unfold reachT
   rw [hr]
   simp only
   rw [List.any_eq_true]
   refine ⟨n, hn, ?_⟩
   rcases h3 with rfl | ⟨h4, h5⟩
   ·simp
   ·rw [reach_bit hB fuel n (by omega) (by omega) h5, Bool.or_true]
def lastW (T : List (List Nat × List Nat)) (B : List Nat) (l : List Bool) (ds : List Nat) (i : Nat) : Bool := ds.all fun d => l.getD d true || (decide (d < T.length) && (B.getD d 0).testBit i)
def takeW (T : Bool × List (List Nat × List Nat)) (B : List Nat) (ds : List Nat) (l l' : List Bool) (i : Nat) : Bool := T.1 && freeT T.2 l i && readyAt T.2 l i && closedT T.2 l && lastW T.2 B l ds i && (l.set i true == l')
theorem take_ofW {B : List Nat} (hT : rtab md ops = T) (hB : waitsOk T.2 B = true) (h : takeW T B ds l.toList l'.toList i = true) : takeB md ops ds l l' i = true := by
 refine take_of hT ?_
 simp only [takeW, takeT, Bool.and_eq_true] at h ⊢
 obtain ⟨⟨⟨⟨⟨h1, h2⟩, h3⟩, h4⟩, h5⟩, h6⟩ := h
 refine ⟨⟨⟨⟨⟨h1, h2⟩, h3⟩, h4⟩, ?_⟩, h6⟩
 unfold lastW at h5
 unfold lastT
 rw [List.all_eq_true] at h5 ⊢
 intro d hd
 have h7 := h5 d hd
 rw [Bool.or_eq_true, Bool.and_eq_true, decide_eq_true_eq] at h7
 rcases h7 with h7 | ⟨h8, h9⟩
 ·rw [h7, Bool.true_or]
 ·rw [reach_bit hB _ d h8 h8 h9, Bool.or_true]
theorem with_tabW {P : Program} {Q : Exit → Act → World → Prop} {S : World → Prop} {n : Nat} {a : Act} {w : World} {B : List Nat} (hT : rtab md ops = T) (hB : waitsOk T.2 B = true) (h : Aside0 (rtab md ops = T) → Aside0 (waitsOk T.2 B = true) → wpAnyLast P md ops Q S ds n l a w) : wpAnyLast P md ops Q S ds n l a w := h ⟨hT⟩ ⟨hB⟩
end
def opsIn : Code → Nat → Option (Array Oper)
 | .region id ops _, k => if id == k then some ops else none
 | .seq a b, k => match opsIn a k with
  | some o => some o
  | none => opsIn b k
 | .cond _ a b, k => match opsIn a k with
  | some o => some o
  | none => opsIn b k
 | .block _ c, k => opsIn c k
 | .loop c, k => opsIn c k
 | .scope c, k => opsIn c k
 | .rangeFunc _ _ a b, k => match opsIn a k with
  | some o => some o
  | none => opsIn b k
 | _, _ => none
def opsOf (f : Func) (k : Nat) : Array Oper := ((f.body.bind fun c => opsIn c k)).getD #[]
end Go.Proofs.YtnbbbeghgomnoaaW.PrintLast
namespace Go.Proofs.YtnbbbeghgomnoaaW.PrintWords
open Go.RowKit
namespace Kd
section
variable {α : Type} {d : Kd α} {e base n cc g : Nat} {ok ok' okp S : Nat → Prop} {w w1 W W1 : World} {A : Option Addr} {u v v1 : Value} {xs : List α} {x : α} {c : List Value}
theorem N_lt (h : N d e w base ok v xs) : ∀ k, v.ownBlock = some k → k < w.heap.size := by
 obtain ⟨_, rows, _, hR, _⟩ := h
 exact R_lt hR
theorem N_base (h : N d e w base ok v xs) : ∀ k, v.ownBlock = some k → base ≤ k := by
 obtain ⟨_, rows, _, hR, _⟩ := h
 exact R_base hR
theorem N_bound (h : N d e w base ok v xs) : N d e w base (fun k => ok k ∧ k < w.heap.size) v xs := by
 have hlt := N_lt h
 obtain ⟨h0, rows, hl, hR, hf⟩ := h
 exact ⟨fun k hk => ⟨h0 k hk, hlt k hk⟩, rows, hl, hR, fun j x c hx hc => FK_mono (FK_bound (hf j x c hx hc)) (fun k hk => ⟨⟨hk.1.1, hk.2⟩, hk.1.2⟩)⟩
theorem N_elder' (h : N d e W base ok v xs) (hbase : ∀ k, u.ownBlock = some k → W.heap.size ≤ k) (hb : Below W.heap.size W w1) : N d e w1 base (fun k => ok k ∧ some k ≠ u.ownBlock) v xs :=
 N_mono (N_below (N_bound h) hb) (fun k hk => ⟨hk.1, fun he => by have := hbase k he.symm; have := hk.2; omega⟩)
theorem N_old (h : N d e W base ok v xs) (hb : Below W.heap.size W w1) : N d e w1 base (fun k => ok k ∧ k < W.heap.size) v xs := N_below (N_bound h) hb
theorem N_told {b : Nat} (h : N d e w1 base (fun k => ok k ∧ k < b) v xs) (hbase : ∀ k, u.ownBlock = some k → b ≤ k) : N d e w1 base (fun k => (ok k ∧ some k ≠ u.ownBlock) ∧ k < b) v xs :=
 N_mono h (fun k hk => ⟨⟨hk.1, fun e => Nat.lt_irrefl _ (Nat.lt_of_lt_of_le hk.2 (hbase k e.symm))⟩, hk.2⟩)
end
end Kd
end Go.Proofs.YtnbbbeghgomnoaaW.PrintWords
namespace Go.Proofs.YtnbbbeghgomnoaaW.PrintMore
open Go.RowKit Go.Proofs.YtnbbbeghgomnoaaW.PrintWords
namespace Kd
open Go.Proofs.YtnbbbeghgomnoaaW.PrintWords.Kd
end Kd
namespace Kd
open Go.Proofs.YtnbbbeghgomnoaaW.PrintWords.Kd
section
variable {α : Type} {d : Kd α} {e base g N : Nat} {ok : Nat → Prop} {W w1 : World} {u v : Value} {xs : List α}
end
end Kd
end Go.Proofs.YtnbbbeghgomnoaaW.PrintMore
namespace Go.Proofs.YtnbbbeghgomnoaaW.PrintWords
open Go.RowKit
section
variable {P : Program} {ops : Array Oper} {rest : List Oper} {o : Oper} {a : Act} {Q : Exit → Act → World → Prop} {W : World}
end
theorem shl_small {k : IntKind} {x y j : Int} (h : shl k x y = j) (hy : y ≤ k.bits) : k.wrap (x * 2 ^ y.toNat) = j := by rw [← h]; unfold shl; rw [Nat.min_eq_left (by omega)]
theorem shr_small {k : IntKind} {x y j : Int} (h : shr k x y = j) (hy : y ≤ k.bits) : x / 2 ^ y.toNat = j := by rw [← h]; unfold shr; rw [Nat.min_eq_left (by omega)]
namespace Kd
section
variable {α : Type} {d : Kd α} {e base : Nat} {ok : Nat → Prop} {W w1 : World} {v : Value} {xs : List α}
end
section
variable {α : Type} {d : Kd α} {e base g n cap : Nat} {ok oki okp : Nat → Prop} {W : World} {xs : List α} {i : Int} {c : List Value}
end
section
variable {α : Type} {d : Kd α} {e base b b' g N : Nat} {ok ok1 : Nat → Prop} {W W2 w1 : World} {u v : Value} {xs ys : List α} {S : Nat → Prop}
end
end Kd
end Go.Proofs.YtnbbbeghgomnoaaW.PrintWords
namespace Go.Proofs.YtnbbbeghgomnoaaW.PrintWords
open Go.RowKit
namespace Kd
section
variable {α β : Type} {d : Kd α} {e base base' n m c g N' lo hi : Nat} {ok ok' S : Nat → Prop} {w W w1 : World} {A : Option Addr} {ad : Addr} {u v v1 : Value} {xs : List α}
end
end Kd
end Go.Proofs.YtnbbbeghgomnoaaW.PrintWords
namespace Go.Proofs.Ytnbbbeghgomnoaa.X
open Go.RowKit Go.Proofs.YtnbbbeghgomnoaaW.PrintWords Go.Proofs.YtnbbbeghgomnoaaW.PrintLast Go.Proofs.YtnbbbeghgomnoaaW.PrintMore
section
variable {w W0 W W' : World} {g g' : Nat} {o : Obj}
theorem sCb1 {g0 : Nat} {α : Type} {d : Kd α} {A : Option Addr} {n : Nat} {xs : List α} (h : Aside0 (Kd.C d w A n xs)) (hb : Aside0 (Below w.heap.size w W0)) (h0 : Aside0 (w.heap.size ≤ g0)) (k : Below w.heap.size w W0 → w.heap.size ≤ g0 → Below w.heap.size w W := by intro k_ h0_; repeat (first | exact k_ | apply below_alloc | apply pw_below_drewN | apply below_drew1 | refine below_set ?_ h0_)) : Kd.C d W A n xs := Kd.C_below h.out (k hb.out h0.out)
theorem sN_ {α : Type} {d : Kd α} {e base : Nat} {ok : Nat → Prop} {v : Value} {xs : List α} (h : Aside0 (Kd.N d e W0 base ok v xs)) (k : Kd.N d e W0 base ok v xs → Kd.N d e W base ok v xs := by intro k_; (with_reducible repeat (first | apply Kd.N_alloc | apply Kd.N_drewN | apply Kd.N_drew)); exact k_) : Kd.N d e W base ok v xs := k h.out
end
section
variable {P : Program} {ops : Array Oper} {Q : Exit → Act → World → Prop} {md : Region.Mode} {S : World → Prop} {ds : List Nat}
end
section
variable {P : Program} {ops : Array Oper} {rest : List Oper} {Q : Exit → Act → World → Prop} {a : Act} {o : Oper} {W : World}
end
end Go.Proofs.Ytnbbbeghgomnoaa.X
namespace Go.Proofs.Ytnbbbeghgomnoaa.X
open Go.RowKit Go.Proofs.YtnbbbeghgomnoaaW.PrintWords Go.Proofs.YtnbbbeghgomnoaaW.PrintLast Go.Proofs.YtnbbbeghgomnoaaW.PrintMore
attribute [local go_sem] max2_int min2_int max_two min_two max_three min_three max_four min_four
set_option linter.unusedVariables false
set_option linter.unusedSimpArgs false
set_option maxHeartbeats 8000000 in
set_option maxRecDepth 100000 in
theorem posserref03_Own.calls (k : Nat) (A0 : Option Addr) (c0 : Nat) (l0 : List Int) (a1 : Int) (r : Int) (w : World) (hr0 : Kd.C (Kd.int .i64) w A0 l0.length l0) (hc0 : l0.length ≤ c0) (h : posserref03_Own.f k l0 a1 = some r) :
  Calls Try.prog 63 #[.slice A0 l0.length c0, .int .i64 a1] w fun e w' => e = .returned (.int .i64 r) ∧ Drawn0 w w' := by
 have HR0 := Aside0.mk hr0
 have HC0 := Aside0.mk hc0
 clear hr0 hc0
 have H : (posserref03_Own.l0 k l0 a1 0 0) = some r := h
 clear h
 have H' := Aside0.mk H
 clear H
 go_enter Try.func63, Try.ntmps63
 go_wp2
 go_loopg [5, 6] k (fun kq v5 v6 w' => ∃ (x5_1 : Int) (x6_1 : Int), v5 = .int .i64 x5_1 ∧ v6 = .int .i64 x6_1 ∧ Aside0 (posserref03_Own.l0 kq l0 a1 x5_1 x6_1 = some r) ∧ Aside0 (kq ≤ k) ∧ Drawn0 w w')
 case atStart => exact ⟨(0), (0), (by first | rfl | (simp; done) | (simp [*]; done)), (by first | rfl | (simp; done) | (simp [*]; done)), H', ⟨Nat.le_refl _⟩, by repeat (first | exact Drawn0.refl _ | apply Drawn0.step)⟩
 case round =>
  clear H'
  try clear p2
  obtain ⟨x5_1, x6_1, rfl, rfl, HA, HK1, ⟨m1, rfl⟩⟩ := hrel
  cases gk with
  | zero => exact absurd HA.out (by simp [posserref03_Own.l0])
  | succ k1 =>
   have H := HA.out
   clear HA
   simp only [posserref03_Own.l0] at H
   by_cases c3 : x6_1 < (l0.length : Int)
   ·rw [if_pos c3] at H
    have c3b0 : decide (x6_1 < (l0.length : Int)) = true := decide_eq_true c3
    clear c3
    by_cases c4 : 0 ≤ x6_1
    ·rw [if_pos c4] at H
     have c4b0 : decide (0 ≤ x6_1) = true := decide_eq_true c4
     clear c4
     by_cases c5 : (rd l0 x6_1) = a1
     ·rw [if_pos c5] at H
      have c5b0 : ((rd l0 x6_1) == a1) = true := beq_iff_eq.mpr c5
      have c5b1 : ((rd l0 x6_1) != a1) = false := bne_eq_false_iff_eq.mpr c5
      clear c5
      have H' := Aside0.mk H
      clear H
      have p143 : 0 ≤ (x6_1 : Int) := of_decide_eq_true (by first | (with_reducible assumption) | assumption)
      have q143 : x6_1 < (l0.length : Int) := of_decide_eq_true (by first | (with_reducible assumption) | assumption)
      obtain ⟨ad143, e143, hx143_0⟩ := Kd.at_int HR0.out x6_1 p143 q143
      cases e143
      replace p143 := eq_true p143
      replace q143 := eq_true q143
      go_wp2
      go_roundg k1
      case measure => have := HK1.out; omega
      case rel => exact ⟨(wrap64 (x5_1 + 1)), (wrap64 (x6_1 + 1)), (by first | rfl | (simp; done) | (simp [*]; done)), (by first | rfl | (simp; done) | (simp [*]; done)), H', ⟨by have := HK1.out; omega⟩, by repeat (first | exact Drawn0.refl _ | apply Drawn0.step)⟩
     ·rw [if_neg c5] at H
      have c5b0 : ((rd l0 x6_1) == a1) = false := beq_eq_false_iff_ne.mpr c5
      have c5b1 : ((rd l0 x6_1) != a1) = true := bne_iff_ne.mpr c5
      have H' := Aside0.mk H
      clear H
      have p143 : 0 ≤ (x6_1 : Int) := of_decide_eq_true (by first | (with_reducible assumption) | assumption)
      have q143 : x6_1 < (l0.length : Int) := of_decide_eq_true (by first | (with_reducible assumption) | assumption)
      obtain ⟨ad143, e143, hx143_0⟩ := Kd.at_int HR0.out x6_1 p143 q143
      cases e143
      replace p143 := eq_true p143
      replace q143 := eq_true q143
      go_wp2
      go_roundg k1
      case measure => have := HK1.out; omega
      case rel => exact ⟨(x5_1), (wrap64 (x6_1 + 1)), (by first | rfl | (simp; done) | (simp [*]; done)), (by first | rfl | (simp; done) | (simp [*]; done)), H', ⟨by have := HK1.out; omega⟩, by repeat (first | exact Drawn0.refl _ | apply Drawn0.step)⟩
    ·rw [if_neg c4] at H
     exact absurd H (by simp)
   ·rw [if_neg c3] at H
    have c3b0 : decide (x6_1 < (l0.length : Int)) = false := decide_eq_false c3
    clear c3
    obtain rfl := Option.some.inj H
    go_wp2
    go_ret
    exact ⟨by first | rfl | (simp; done) | (simp [*]; done), by repeat (first | exact Drawn0.refl _ | apply Drawn0.step)⟩
end Go.Proofs.Ytnbbbeghgomnoaa.X
namespace Go.Proofs.Ytnbbbeghgomnoaa.X
open Go.RowKit Go.Proofs.YtnbbbeghgomnoaaW.PrintWords Go.Proofs.YtnbbbeghgomnoaaW.PrintLast Go.Proofs.YtnbbbeghgomnoaaW.PrintMore
attribute [local go_sem] max2_int min2_int max_two min_two max_three min_three max_four min_four
set_option linter.unusedVariables false
set_option linter.unusedSimpArgs false
set_option maxHeartbeats 8000000 in
set_option maxRecDepth 100000 in
theorem posserref03_Right.calls (k : Nat) (A0_0 : Option Addr) (c0_0 : Nat) (l0_0 : List (S85)) (A0_1 : Option Addr) (c0_1 : Nat) (l0_1 : List (S71)) (a0_2 : Int) (A1 : Option Addr) (c1 : Nat) (l1 : List Int) (r : Int) (w : World) (hr0_0 : Kd.C k85 w A0_0 l0_0.length l0_0) (hc0_0 : l0_0.length ≤ c0_0) (hr0_1 : Kd.C k71 w A0_1 l0_1.length l0_1) (hc0_1 : l0_1.length ≤ c0_1) (hr1 : Kd.C (Kd.int .i64) w A1 l1.length l1) (hc1 : l1.length ≤ c1) (h : posserref03_Right.f k l0_0 l0_1 a0_2 l1 = some r) :
  Calls Try.prog 77 #[.agg #[.slice A0_0 l0_0.length c0_0, .slice A0_1 l0_1.length c0_1, .int .i64 a0_2], .slice A1 l1.length c1] w fun e w' => e = .returned (.int .i64 r) ∧ Below w.heap.size w w' := by
 have hu25 := Try.underlying25
 have HR0_0 := Aside0.mk hr0_0
 have HC0_0 := Aside0.mk hc0_0
 clear hr0_0 hc0_0
 have HR0_1 := Aside0.mk hr0_1
 have HC0_1 := Aside0.mk hc0_1
 clear hr0_1 hc0_1
 have HR1 := Aside0.mk hr1
 have HC1 := Aside0.mk hc1
 clear hr1 hc1
 have HB := Aside0.mk (Below.refl w.heap.size w)
 have H : (posserref03_Right.l0 k l1 0 0 l0_0 l0_1 a0_2) = some r := h
 clear h
 have H' := Aside0.mk H
 clear H
 go_enter Try.func77, Try.ntmps77
 go_wp2_with (first | ((with_reducible refine gate_dst (N := 2) rfl ?_); refine sbox (N := 2) #[.slice A0_0 l0_0.length c0_0, .slice A0_1 l0_1.length c0_1, .int .i64 a0_2] 25 ?_; intro gb144 hg w3 hbox hb; have BK144 := Aside0.mk (hbox); have GW144 := Aside0.mk (sge hg HB : w.heap.size ≤ gb144); have GE144 := Aside0.mk (sge hg HB : w.heap.size ≤ gb144); replace HB := Aside0.mk (sbs HB hb); clear hb hbox hg))
 repeat (go_quiet (first | ((with_reducible refine gate_dst (N := 2) rfl ?_); refine sbox (N := 2) #[.slice A0_0 l0_0.length c0_0, .slice A0_1 l0_1.length c0_1, .int .i64 a0_2] 25 ?_; intro gb144 hg w3 hbox hb; have BK144 := Aside0.mk (hbox); have GW144 := Aside0.mk (sge hg HB : w.heap.size ≤ gb144); have GE144 := Aside0.mk (sge hg HB : w.heap.size ≤ gb144); replace HB := Aside0.mk (sbs HB hb); clear hb hbox hg)); try go_wp2_with (first | ((with_reducible refine gate_dst (N := 2) rfl ?_); refine sbox (N := 2) #[.slice A0_0 l0_0.length c0_0, .slice A0_1 l0_1.length c0_1, .int .i64 a0_2] 25 ?_; intro gb144 hg w3 hbox hb; have BK144 := Aside0.mk (hbox); have GW144 := Aside0.mk (sge hg HB : w.heap.size ≤ gb144); have GE144 := Aside0.mk (sge hg HB : w.heap.size ≤ gb144); replace HB := Aside0.mk (sbs HB hb); clear hb hbox hg)))
 go_loopg [5, 6] k (fun kq v5 v6 w' => ∃ (x5_1 : Int) (x6_1 : Int), v5 = .int .i64 x5_1 ∧ v6 = .int .i64 x6_1 ∧ Aside0 (posserref03_Right.l0 kq l1 x5_1 x6_1 l0_0 l0_1 a0_2 = some r) ∧ Aside0 (kq ≤ k) ∧ Aside0 (w'.heap[gb144]? = some (.cells #[(.slice A0_0 l0_0.length c0_0), (.slice A0_1 l0_1.length c0_1), .int .i64 a0_2] 25 (0, 0))) ∧ Aside0 (Below w.heap.size w w'))
 case atStart => exact ⟨(0), (0), (by first | rfl | (simp; done) | (simp [*]; done)), (by first | rfl | (simp; done) | (simp [*]; done)), H', ⟨Nat.le_refl _⟩, ⟨by (with_reducible repeat (first | refine blk_drewN ?_ _ | refine blk_drew ?_ | refine blk_alloc ?_ _)); exact BK144.out⟩, ⟨(sbe1 HB GE144)⟩⟩
 case round =>
  clear H'
  try clear c1
  try clear p2
  obtain ⟨x5_1, x6_1, rfl, rfl, HA, HK1, BK144, HB⟩ := hrel
  cases gk with
  | zero => exact absurd HA.out (by simp [posserref03_Right.l0])
  | succ k1 =>
   have H := HA.out
   clear HA
   simp only [posserref03_Right.l0] at H
   by_cases c4 : x6_1 < (l0_0.length : Int)
   ·rw [if_pos c4] at H
    have c4b0 : decide (x6_1 < (l0_0.length : Int)) = true := decide_eq_true c4
    clear c4
    replace H := Option.bind_eq_some_iff.mp H
    obtain ⟨t145, A50, H⟩ := H
    replace H : (if 0 ≤ x6_1 then ((posserref03_In.f t145 ((rd_T85 l0_0 x6_1).f1.f0) ((rd_T85 l0_0 x6_1).f1.f1)).bind fun t148 => (if t148 = true then (if 0 ≤ (IntKind.u64.wrap (x6_1)) then (posserref03_Right.l0 k1 l1 (Go.bits .or .i64 x5_1 (shl .i64 1 (IntKind.u64.wrap (x6_1)))) (wrap64 (x6_1 + 1)) l0_0 l0_1 a0_2) else (none)) else (posserref03_Right.l0 k1 l1 x5_1 (wrap64 (x6_1 + 1)) l0_0 l0_1 a0_2))) else (none)) = some r := H
    have A5 := Aside0.mk A50
    clear A50
    by_cases c6 : 0 ≤ x6_1
    ·rw [if_pos c6] at H
     have c6b0 : decide (0 ≤ x6_1) = true := decide_eq_true c6
     clear c6
     replace H := Option.bind_eq_some_iff.mp H
     obtain ⟨t148, A70, H⟩ := H
     replace H : (if t148 = true then (if 0 ≤ (IntKind.u64.wrap (x6_1)) then (posserref03_Right.l0 k1 l1 (Go.bits .or .i64 x5_1 (shl .i64 1 (IntKind.u64.wrap (x6_1)))) (wrap64 (x6_1 + 1)) l0_0 l0_1 a0_2) else (none)) else (posserref03_Right.l0 k1 l1 x5_1 (wrap64 (x6_1 + 1)) l0_0 l0_1 a0_2)) = some r := H
     have A7 := Aside0.mk A70
     clear A70
     by_cases c8 : t148 = true
     ·subst c8
      have H1 : (if 0 ≤ (IntKind.u64.wrap (x6_1)) then (posserref03_Right.l0 k1 l1 (Go.bits .or .i64 x5_1 (shl .i64 1 (IntKind.u64.wrap (x6_1)))) (wrap64 (x6_1 + 1)) l0_0 l0_1 a0_2) else (none)) = some r := by rw [if_pos rfl] at H; exact H
      clear H
      have H := H1
      clear H1
      obtain ⟨ji9, hji9⟩ : ∃ j_ : Int, (IntKind.u64.wrap (x6_1)) = j_ := ⟨_, rfl⟩
      replace H : (if 0 ≤ (ji9) then (posserref03_Right.l0 k1 l1 (Go.bits .or .i64 x5_1 (shl .i64 1 (ji9))) (wrap64 (x6_1 + 1)) l0_0 l0_1 a0_2) else (none)) = some r := by first | (rw [hji9] at H; exact H) | (simp only [hji9] at H ⊢; exact H)
      (try rw [hji9] at A5)
      (try rw [hji9] at A7)
      by_cases c10 : 0 ≤ (ji9)
      ·rw [if_pos c10] at H
       have c10b0 := eq_true c10
       have c10b1 : decide (0 ≤ (ji9)) = true := decide_eq_true c10
       clear c10
       obtain ⟨ji11, hji11⟩ : ∃ j_ : Int, (shl .i64 1 (ji9)) = j_ := ⟨_, rfl⟩
       replace H : (posserref03_Right.l0 k1 l1 (Go.bits .or .i64 x5_1 (ji11)) (wrap64 (x6_1 + 1)) l0_0 l0_1 a0_2) = some r := by first | (rw [hji11] at H; exact H) | (simp only [hji11] at H ⊢; exact H)
       (try rw [hji11] at A5)
       (try rw [hji11] at A7)
       have hji11_ : (IntKind.i64.wrap (1 * 2 ^ min (ji9).toNat 64)) = ji11 := hji11
       have hji11z : (ji9) ≤ 64 → (IntKind.i64.wrap (1 * 2 ^ (ji9).toNat)) = ji11 := shl_small hji11
       have hji11u : (IntKind.i64.wrap (2 ^ min (ji9).toNat 64)) = ji11 := by have h_ := hji11_; rw [Int.one_mul] at h_; exact h_
       have hji11v : (ji9) ≤ 64 → (IntKind.i64.wrap (2 ^ (ji9).toNat)) = ji11 := fun hle_ => by have h_ := hji11z hle_; rw [Int.one_mul] at h_; exact h_
       have hji11y : (wrap64 (1 * 2 ^ min (ji9).toNat 64)) = ji11 := (i64_w _).symm.trans hji11_
       have hji11x : (ji9) ≤ 64 → (wrap64 (1 * 2 ^ (ji9).toNat)) = ji11 := fun h_ => (i64_w _).symm.trans (hji11z h_)
       have H' := Aside0.mk H
       clear H
       have hcz12_0 := sc 0 BK144
       have hcz12_1 := sc 1 BK144
       have hcz12_2 := sc 2 BK144
       have hfz12_0 := blk_frozen BK144.out 0
       have hfz12_1 := blk_frozen BK144.out 1
       have hfz12_2 := blk_frozen BK144.out 2
       go_wp2_with (first | (go_at_call 63; (with_reducible refine (posserref03_Own.calls k1 _ _ l1 x6_1 t145 _ ?side1 ?side2 A5.out).mono ?_); (case side1 => exact sCb HR1 HB); (case side2 => exact HC1.out); rintro e w' ⟨rfl, ⟨nd, rfl⟩⟩; (try first | exact ⟨rfl, _, World.drewN_drewN _ _ _⟩ | exact ⟨rfl, _, Eq.trans (World.drewN_drewN _ _ _) (congrArg (World.drewN _) (Nat.add_assoc _ _ _))⟩); have p146 : 0 ≤ (x6_1 : Int) := of_decide_eq_true (by first | (with_reducible assumption) | assumption); have q146 : x6_1 < (l0_0.length : Int) := of_decide_eq_true (by first | (with_reducible assumption) | assumption); obtain ⟨ad146, e146, hx146_0, hx146_1, hx146_2⟩ := at_T85 HR0_0.out x6_1 p146 q146; cases e146; replace hx146_0 := (HB.out.cell (World.block_lt_of_cell? w _ hx146_0)).trans hx146_0; replace hx146_1 := (HB.out.cell (World.block_lt_of_cell? w _ hx146_1)).trans hx146_1; replace hx146_2 := (HB.out.cell (World.block_lt_of_cell? w _ hx146_2)).trans hx146_2; replace p146 := eq_true p146; replace q146 := eq_true q146; have p147 : 0 ≤ (x6_1 : Int) := of_decide_eq_true (by first | (with_reducible assumption) | assumption); have q147 : x6_1 < (l0_0.length : Int) := of_decide_eq_true (by first | (with_reducible assumption) | assumption); obtain ⟨ad147, e147, hx147_0, hx147_1, hx147_2⟩ := at_T85 HR0_0.out x6_1 p147 q147; obtain rfl : ad146 = ad147 := (by injection e147); replace hx147_0 := (HB.out.cell (World.block_lt_of_cell? w _ hx147_0)).trans hx147_0; replace hx147_1 := (HB.out.cell (World.block_lt_of_cell? w _ hx147_1)).trans hx147_1; replace hx147_2 := (HB.out.cell (World.block_lt_of_cell? w _ hx147_2)).trans hx147_2; replace p147 := eq_true p147; replace q147 := eq_true q147) | (go_at_call 49; (with_reducible refine (posserref03_In.calls t145 ((rd_T85 l0_0 x6_1).f1.f0) ((rd_T85 l0_0 x6_1).f1.f1) true _ A7.out).mono ?_); rintro e w' ⟨rfl, ⟨nd, rfl⟩⟩; (try first | exact ⟨rfl, _, World.drewN_drewN _ _ _⟩ | exact ⟨rfl, _, Eq.trans (World.drewN_drewN _ _ _) (congrArg (World.drewN _) (Nat.add_assoc _ _ _))⟩)))
       repeat (go_quiet (first | (go_at_call 63; (with_reducible refine (posserref03_Own.calls k1 _ _ l1 x6_1 t145 _ ?side1 ?side2 A5.out).mono ?_); (case side1 => exact sCb HR1 HB); (case side2 => exact HC1.out); rintro e w' ⟨rfl, ⟨nd, rfl⟩⟩; (try first | exact ⟨rfl, _, World.drewN_drewN _ _ _⟩ | exact ⟨rfl, _, Eq.trans (World.drewN_drewN _ _ _) (congrArg (World.drewN _) (Nat.add_assoc _ _ _))⟩); have p146 : 0 ≤ (x6_1 : Int) := of_decide_eq_true (by first | (with_reducible assumption) | assumption); have q146 : x6_1 < (l0_0.length : Int) := of_decide_eq_true (by first | (with_reducible assumption) | assumption); obtain ⟨ad146, e146, hx146_0, hx146_1, hx146_2⟩ := at_T85 HR0_0.out x6_1 p146 q146; cases e146; replace hx146_0 := (HB.out.cell (World.block_lt_of_cell? w _ hx146_0)).trans hx146_0; replace hx146_1 := (HB.out.cell (World.block_lt_of_cell? w _ hx146_1)).trans hx146_1; replace hx146_2 := (HB.out.cell (World.block_lt_of_cell? w _ hx146_2)).trans hx146_2; replace p146 := eq_true p146; replace q146 := eq_true q146; have p147 : 0 ≤ (x6_1 : Int) := of_decide_eq_true (by first | (with_reducible assumption) | assumption); have q147 : x6_1 < (l0_0.length : Int) := of_decide_eq_true (by first | (with_reducible assumption) | assumption); obtain ⟨ad147, e147, hx147_0, hx147_1, hx147_2⟩ := at_T85 HR0_0.out x6_1 p147 q147; obtain rfl : ad146 = ad147 := (by injection e147); replace hx147_0 := (HB.out.cell (World.block_lt_of_cell? w _ hx147_0)).trans hx147_0; replace hx147_1 := (HB.out.cell (World.block_lt_of_cell? w _ hx147_1)).trans hx147_1; replace hx147_2 := (HB.out.cell (World.block_lt_of_cell? w _ hx147_2)).trans hx147_2; replace p147 := eq_true p147; replace q147 := eq_true q147) | (go_at_call 49; (with_reducible refine (posserref03_In.calls t145 ((rd_T85 l0_0 x6_1).f1.f0) ((rd_T85 l0_0 x6_1).f1.f1) true _ A7.out).mono ?_); rintro e w' ⟨rfl, ⟨nd, rfl⟩⟩; (try first | exact ⟨rfl, _, World.drewN_drewN _ _ _⟩ | exact ⟨rfl, _, Eq.trans (World.drewN_drewN _ _ _) (congrArg (World.drewN _) (Nat.add_assoc _ _ _))⟩))); try go_wp2_with (first | (go_at_call 63; (with_reducible refine (posserref03_Own.calls k1 _ _ l1 x6_1 t145 _ ?side1 ?side2 A5.out).mono ?_); (case side1 => exact sCb HR1 HB); (case side2 => exact HC1.out); rintro e w' ⟨rfl, ⟨nd, rfl⟩⟩; (try first | exact ⟨rfl, _, World.drewN_drewN _ _ _⟩ | exact ⟨rfl, _, Eq.trans (World.drewN_drewN _ _ _) (congrArg (World.drewN _) (Nat.add_assoc _ _ _))⟩); have p146 : 0 ≤ (x6_1 : Int) := of_decide_eq_true (by first | (with_reducible assumption) | assumption); have q146 : x6_1 < (l0_0.length : Int) := of_decide_eq_true (by first | (with_reducible assumption) | assumption); obtain ⟨ad146, e146, hx146_0, hx146_1, hx146_2⟩ := at_T85 HR0_0.out x6_1 p146 q146; cases e146; replace hx146_0 := (HB.out.cell (World.block_lt_of_cell? w _ hx146_0)).trans hx146_0; replace hx146_1 := (HB.out.cell (World.block_lt_of_cell? w _ hx146_1)).trans hx146_1; replace hx146_2 := (HB.out.cell (World.block_lt_of_cell? w _ hx146_2)).trans hx146_2; replace p146 := eq_true p146; replace q146 := eq_true q146; have p147 : 0 ≤ (x6_1 : Int) := of_decide_eq_true (by first | (with_reducible assumption) | assumption); have q147 : x6_1 < (l0_0.length : Int) := of_decide_eq_true (by first | (with_reducible assumption) | assumption); obtain ⟨ad147, e147, hx147_0, hx147_1, hx147_2⟩ := at_T85 HR0_0.out x6_1 p147 q147; obtain rfl : ad146 = ad147 := (by injection e147); replace hx147_0 := (HB.out.cell (World.block_lt_of_cell? w _ hx147_0)).trans hx147_0; replace hx147_1 := (HB.out.cell (World.block_lt_of_cell? w _ hx147_1)).trans hx147_1; replace hx147_2 := (HB.out.cell (World.block_lt_of_cell? w _ hx147_2)).trans hx147_2; replace p147 := eq_true p147; replace q147 := eq_true q147) | (go_at_call 49; (with_reducible refine (posserref03_In.calls t145 ((rd_T85 l0_0 x6_1).f1.f0) ((rd_T85 l0_0 x6_1).f1.f1) true _ A7.out).mono ?_); rintro e w' ⟨rfl, ⟨nd, rfl⟩⟩; (try first | exact ⟨rfl, _, World.drewN_drewN _ _ _⟩ | exact ⟨rfl, _, Eq.trans (World.drewN_drewN _ _ _) (congrArg (World.drewN _) (Nat.add_assoc _ _ _))⟩))))
       go_roundg k1
       case measure => have := HK1.out; omega
       case rel => exact ⟨(Go.bits .or .i64 x5_1 (ji11)), (wrap64 (x6_1 + 1)), (by first | rfl | (simp; done) | (simp only [← hji11] <;> (first | rfl | simp)) | (simp [*]; done)), (by first | rfl | (simp; done) | (simp [*]; done)), H', ⟨by have := HK1.out; omega⟩, ⟨by (with_reducible repeat (first | refine blk_drewN ?_ _ | refine blk_drew ?_ | refine blk_alloc ?_ _)); exact BK144.out⟩, ⟨(sbe1 HB GE144)⟩⟩
      ·rw [if_neg c10] at H
       exact absurd H (by simp)
     ·replace c8 := Bool.eq_false_iff.mpr c8
      subst c8
      have H1 : (posserref03_Right.l0 k1 l1 x5_1 (wrap64 (x6_1 + 1)) l0_0 l0_1 a0_2) = some r := by rw [if_neg (show ¬ (false = true) by decide)] at H; exact H
      clear H
      have H := H1
      clear H1
      have H' := Aside0.mk H
      clear H
      have hcz13_0 := sc 0 BK144
      have hcz13_1 := sc 1 BK144
      have hcz13_2 := sc 2 BK144
      have hfz13_0 := blk_frozen BK144.out 0
      have hfz13_1 := blk_frozen BK144.out 1
      have hfz13_2 := blk_frozen BK144.out 2
      go_wp2_with (first | (go_at_call 63; (with_reducible refine (posserref03_Own.calls k1 _ _ l1 x6_1 t145 _ ?side1 ?side2 A5.out).mono ?_); (case side1 => exact sCb HR1 HB); (case side2 => exact HC1.out); rintro e w' ⟨rfl, ⟨nd, rfl⟩⟩; (try first | exact ⟨rfl, _, World.drewN_drewN _ _ _⟩ | exact ⟨rfl, _, Eq.trans (World.drewN_drewN _ _ _) (congrArg (World.drewN _) (Nat.add_assoc _ _ _))⟩); have p146 : 0 ≤ (x6_1 : Int) := of_decide_eq_true (by first | (with_reducible assumption) | assumption); have q146 : x6_1 < (l0_0.length : Int) := of_decide_eq_true (by first | (with_reducible assumption) | assumption); obtain ⟨ad146, e146, hx146_0, hx146_1, hx146_2⟩ := at_T85 HR0_0.out x6_1 p146 q146; cases e146; replace hx146_0 := (HB.out.cell (World.block_lt_of_cell? w _ hx146_0)).trans hx146_0; replace hx146_1 := (HB.out.cell (World.block_lt_of_cell? w _ hx146_1)).trans hx146_1; replace hx146_2 := (HB.out.cell (World.block_lt_of_cell? w _ hx146_2)).trans hx146_2; replace p146 := eq_true p146; replace q146 := eq_true q146; have p147 : 0 ≤ (x6_1 : Int) := of_decide_eq_true (by first | (with_reducible assumption) | assumption); have q147 : x6_1 < (l0_0.length : Int) := of_decide_eq_true (by first | (with_reducible assumption) | assumption); obtain ⟨ad147, e147, hx147_0, hx147_1, hx147_2⟩ := at_T85 HR0_0.out x6_1 p147 q147; obtain rfl : ad146 = ad147 := (by injection e147); replace hx147_0 := (HB.out.cell (World.block_lt_of_cell? w _ hx147_0)).trans hx147_0; replace hx147_1 := (HB.out.cell (World.block_lt_of_cell? w _ hx147_1)).trans hx147_1; replace hx147_2 := (HB.out.cell (World.block_lt_of_cell? w _ hx147_2)).trans hx147_2; replace p147 := eq_true p147; replace q147 := eq_true q147) | (go_at_call 49; (with_reducible refine (posserref03_In.calls t145 ((rd_T85 l0_0 x6_1).f1.f0) ((rd_T85 l0_0 x6_1).f1.f1) false _ A7.out).mono ?_); rintro e w' ⟨rfl, ⟨nd, rfl⟩⟩; (try first | exact ⟨rfl, _, World.drewN_drewN _ _ _⟩ | exact ⟨rfl, _, Eq.trans (World.drewN_drewN _ _ _) (congrArg (World.drewN _) (Nat.add_assoc _ _ _))⟩)))
      repeat (go_quiet (first | (go_at_call 63; (with_reducible refine (posserref03_Own.calls k1 _ _ l1 x6_1 t145 _ ?side1 ?side2 A5.out).mono ?_); (case side1 => exact sCb HR1 HB); (case side2 => exact HC1.out); rintro e w' ⟨rfl, ⟨nd, rfl⟩⟩; (try first | exact ⟨rfl, _, World.drewN_drewN _ _ _⟩ | exact ⟨rfl, _, Eq.trans (World.drewN_drewN _ _ _) (congrArg (World.drewN _) (Nat.add_assoc _ _ _))⟩); have p146 : 0 ≤ (x6_1 : Int) := of_decide_eq_true (by first | (with_reducible assumption) | assumption); have q146 : x6_1 < (l0_0.length : Int) := of_decide_eq_true (by first | (with_reducible assumption) | assumption); obtain ⟨ad146, e146, hx146_0, hx146_1, hx146_2⟩ := at_T85 HR0_0.out x6_1 p146 q146; cases e146; replace hx146_0 := (HB.out.cell (World.block_lt_of_cell? w _ hx146_0)).trans hx146_0; replace hx146_1 := (HB.out.cell (World.block_lt_of_cell? w _ hx146_1)).trans hx146_1; replace hx146_2 := (HB.out.cell (World.block_lt_of_cell? w _ hx146_2)).trans hx146_2; replace p146 := eq_true p146; replace q146 := eq_true q146; have p147 : 0 ≤ (x6_1 : Int) := of_decide_eq_true (by first | (with_reducible assumption) | assumption); have q147 : x6_1 < (l0_0.length : Int) := of_decide_eq_true (by first | (with_reducible assumption) | assumption); obtain ⟨ad147, e147, hx147_0, hx147_1, hx147_2⟩ := at_T85 HR0_0.out x6_1 p147 q147; obtain rfl : ad146 = ad147 := (by injection e147); replace hx147_0 := (HB.out.cell (World.block_lt_of_cell? w _ hx147_0)).trans hx147_0; replace hx147_1 := (HB.out.cell (World.block_lt_of_cell? w _ hx147_1)).trans hx147_1; replace hx147_2 := (HB.out.cell (World.block_lt_of_cell? w _ hx147_2)).trans hx147_2; replace p147 := eq_true p147; replace q147 := eq_true q147) | (go_at_call 49; (with_reducible refine (posserref03_In.calls t145 ((rd_T85 l0_0 x6_1).f1.f0) ((rd_T85 l0_0 x6_1).f1.f1) false _ A7.out).mono ?_); rintro e w' ⟨rfl, ⟨nd, rfl⟩⟩; (try first | exact ⟨rfl, _, World.drewN_drewN _ _ _⟩ | exact ⟨rfl, _, Eq.trans (World.drewN_drewN _ _ _) (congrArg (World.drewN _) (Nat.add_assoc _ _ _))⟩))); try go_wp2_with (first | (go_at_call 63; (with_reducible refine (posserref03_Own.calls k1 _ _ l1 x6_1 t145 _ ?side1 ?side2 A5.out).mono ?_); (case side1 => exact sCb HR1 HB); (case side2 => exact HC1.out); rintro e w' ⟨rfl, ⟨nd, rfl⟩⟩; (try first | exact ⟨rfl, _, World.drewN_drewN _ _ _⟩ | exact ⟨rfl, _, Eq.trans (World.drewN_drewN _ _ _) (congrArg (World.drewN _) (Nat.add_assoc _ _ _))⟩); have p146 : 0 ≤ (x6_1 : Int) := of_decide_eq_true (by first | (with_reducible assumption) | assumption); have q146 : x6_1 < (l0_0.length : Int) := of_decide_eq_true (by first | (with_reducible assumption) | assumption); obtain ⟨ad146, e146, hx146_0, hx146_1, hx146_2⟩ := at_T85 HR0_0.out x6_1 p146 q146; cases e146; replace hx146_0 := (HB.out.cell (World.block_lt_of_cell? w _ hx146_0)).trans hx146_0; replace hx146_1 := (HB.out.cell (World.block_lt_of_cell? w _ hx146_1)).trans hx146_1; replace hx146_2 := (HB.out.cell (World.block_lt_of_cell? w _ hx146_2)).trans hx146_2; replace p146 := eq_true p146; replace q146 := eq_true q146; have p147 : 0 ≤ (x6_1 : Int) := of_decide_eq_true (by first | (with_reducible assumption) | assumption); have q147 : x6_1 < (l0_0.length : Int) := of_decide_eq_true (by first | (with_reducible assumption) | assumption); obtain ⟨ad147, e147, hx147_0, hx147_1, hx147_2⟩ := at_T85 HR0_0.out x6_1 p147 q147; obtain rfl : ad146 = ad147 := (by injection e147); replace hx147_0 := (HB.out.cell (World.block_lt_of_cell? w _ hx147_0)).trans hx147_0; replace hx147_1 := (HB.out.cell (World.block_lt_of_cell? w _ hx147_1)).trans hx147_1; replace hx147_2 := (HB.out.cell (World.block_lt_of_cell? w _ hx147_2)).trans hx147_2; replace p147 := eq_true p147; replace q147 := eq_true q147) | (go_at_call 49; (with_reducible refine (posserref03_In.calls t145 ((rd_T85 l0_0 x6_1).f1.f0) ((rd_T85 l0_0 x6_1).f1.f1) false _ A7.out).mono ?_); rintro e w' ⟨rfl, ⟨nd, rfl⟩⟩; (try first | exact ⟨rfl, _, World.drewN_drewN _ _ _⟩ | exact ⟨rfl, _, Eq.trans (World.drewN_drewN _ _ _) (congrArg (World.drewN _) (Nat.add_assoc _ _ _))⟩))))
      go_roundg k1
      case measure => have := HK1.out; omega
      case rel => exact ⟨(x5_1), (wrap64 (x6_1 + 1)), (by first | rfl | (simp; done) | (simp [*]; done)), (by first | rfl | (simp; done) | (simp [*]; done)), H', ⟨by have := HK1.out; omega⟩, ⟨by (with_reducible repeat (first | refine blk_drewN ?_ _ | refine blk_drew ?_ | refine blk_alloc ?_ _)); exact BK144.out⟩, ⟨(sbe1 HB GE144)⟩⟩
    ·rw [if_neg c6] at H
     exact absurd H (by simp)
   ·rw [if_neg c4] at H
    have c4b0 : decide (x6_1 < (l0_0.length : Int)) = false := decide_eq_false c4
    clear c4
    obtain rfl := Option.some.inj H
    have hcz14_0 := sc 0 BK144
    have hcz14_1 := sc 1 BK144
    have hcz14_2 := sc 2 BK144
    have hfz14_0 := blk_frozen BK144.out 0
    have hfz14_1 := blk_frozen BK144.out 1
    have hfz14_2 := blk_frozen BK144.out 2
    go_wp2
    repeat (go_quiet (fail); try go_wp2)
    go_ret
    exact ⟨by first | rfl | (simp [errW_none, errW_some] <;> rfl) | (simp [*, errW_none, errW_some] <;> rfl), (sbe1 HB GE144)⟩
end Go.Proofs.Ytnbbbeghgomnoaa.X
namespace Go.Proofs.Ytnbbbeghgomnoaa.X
open Go.RowKit Go.Proofs.YtnbbbeghgomnoaaW.PrintWords Go.Proofs.YtnbbbeghgomnoaaW.PrintLast Go.Proofs.YtnbbbeghgomnoaaW.PrintMore
attribute [local go_sem] max2_int min2_int max_two min_two max_three min_three max_four min_four
set_option linter.unusedVariables false
set_option linter.unusedSimpArgs false
def posserref03_Nth.T6 : Bool × List (List Nat × List Nat) := (true, [([], []), ([], []), ([], []), ([], []), ([], []), ([4], [4]), ([3, 5], [3, 5]), ([2, 6], [2, 6]), ([7], [7]), ([], []), ([], []), ([10], [10]), ([9, 11], [9, 11]), ([0, 1, 0, 1, 2, 3, 4, 5, 6, 7, 8], [0, 1]), ([13, 8, 0, 1, 2, 3, 4, 5, 6, 7, 8], [8, 13]), ([12, 14, 0, 1, 2, 3, 4, 5, 6, 7, 8, 9, 10, 11, 12, 13, 14], [3, 9, 12])])
def posserref03_Nth.B6 : List Nat := [0, 0, 0, 0, 0, 16, 56, 124, 252, 0, 0, 1024, 3584, 511, 8703, 32767]
theorem posserref03_Nth.tab6 : rtab .any (opsOf Try.f78 6) = posserref03_Nth.T6 := by kernel_rfl
theorem posserref03_Nth.bits6 : waitsOk posserref03_Nth.T6.2 posserref03_Nth.B6 = true := by kernel_rfl
set_option maxHeartbeats 8000000 in
set_option maxRecDepth 100000 in
theorem posserref03_Nth.calls (k : Nat) (A0_0 : Option Addr) (c0_0 : Nat) (l0_0 : List (S85)) (A0_1 : Option Addr) (c0_1 : Nat) (l0_1 : List (S71)) (a0_2 : Int) (a1 : Int) (r : List Int) (w : World) (hr0_0 : Kd.C k85 w A0_0 l0_0.length l0_0) (hc0_0 : l0_0.length ≤ c0_0) (hr0_1 : Kd.C k71 w A0_1 l0_1.length l0_1) (hc0_1 : l0_1.length ≤ c0_1) (h : posserref03_Nth.f k l0_0 l0_1 a0_2 a1 = some r) :
  Calls Try.prog 78 #[.agg #[.slice A0_0 l0_0.length c0_0, .slice A0_1 l0_1.length c0_1, .int .i64 a0_2], .int .i64 a1] w fun e w' => ∃ v0_ : Value, e = .returned (v0_) ∧ Kd.R (Kd.int .i64) 3 w' w.heap.size (fun _ => True) v0_ r ∧ Below w.heap.size w w' := by
 have hu25 := Try.underlying25
 have HR0_0 := Aside0.mk hr0_0
 have HC0_0 := Aside0.mk hc0_0
 clear hr0_0 hc0_0
 have HR0_1 := Aside0.mk hr0_1
 have HC0_1 := Aside0.mk hc0_1
 clear hr0_1 hc0_1
 have HB := Aside0.mk (Below.refl w.heap.size w)
 have H : (if 0 ≤ (l0_1.length : Int) then (if ((l0_1.length : Int) : Int).toNat ≤ 35184372088832 then (posserref03_Nth.l0 k a1 (List.replicate ((l0_1.length : Int) : Int).toNat 0) (wrap64 ((l0_1.length : Int) - 1)) l0_0 l0_1 a0_2) else (none)) else (none)) = some r := h
 clear h
 by_cases c3 : 0 ≤ (l0_1.length : Int)
 ·rw [if_pos c3] at H
  have c3b0 := eq_true c3
  have c3b1 : decide (0 ≤ (l0_1.length : Int)) = true := decide_eq_true c3
  clear c3
  by_cases c4 : ((l0_1.length : Int) : Int).toNat ≤ 35184372088832
  ·rw [if_pos c4] at H
   have c4b0 := eq_true c4
   have c4b1 : decide (((l0_1.length : Int) : Int).toNat ≤ 35184372088832) = true := decide_eq_true c4
   clear c4
   obtain ⟨y157, hy157⟩ : ∃ y_ : List Int, y_ = (List.replicate ((l0_1.length : Int) : Int).toNat 0) := ⟨_, rfl⟩
   replace H : (posserref03_Nth.l0 k a1 y157 (wrap64 ((l0_1.length : Int) - 1)) l0_0 l0_1 a0_2) = some r := by first | (rw [hy157]; with_reducible exact H) | (have H2_ := (Option.bind_some _ _).symm.trans H; rw [hy157]; with_reducible exact H2_) | (have H2_ := (Option.bind_some _ _).symm.trans H; with_reducible exact H2_) | with_reducible exact H | (rw [hy157]; exact H) | exact H
   have Ny157 := Aside0.mk hy157
   clear hy157
   have H' := Aside0.mk H
   clear H
   go_enter Try.func78, Try.ntmps78
   go_wp2_with (first | ((with_reducible refine gate_dst (N := 2) rfl ?_); refine sbox (N := 2) #[.slice A0_0 l0_0.length c0_0, .slice A0_1 l0_1.length c0_1, .int .i64 a0_2] 25 ?_; intro gb156 hg w5 hbox hb; have BK156 := Aside0.mk (hbox); have GW156 := Aside0.mk (sge hg HB : w.heap.size ≤ gb156); have GE156 := Aside0.mk (sge hg HB : w.heap.size ≤ gb156); replace HB := Aside0.mk (sbs HB hb); clear hb hbox hg; have hcz6_0 := sc 0 BK156; have hcz6_1 := sc 1 BK156; have hcz6_2 := sc 2 BK156; have hfz6_0 := blk_frozen BK156.out 0; have hfz6_1 := blk_frozen BK156.out 1; have hfz6_2 := blk_frozen BK156.out 2) | ((with_reducible refine gate_dst (N := 11) rfl ?_); refine Kd.R_make (Kd.int .i64) _ 3 rfl (N := 11) rfl 39 _ _ rfl (l0_1.length : Int) rfl rfl Try.underlying39 (.int .i64 0) 8 info3 rfl (by decide) (by omega) 0 (ok := fun _ => True) (okp := fun _ => True) rfl (fun _ hk => hk) trivial (of_decide_eq_true (by first | (with_reducible assumption) | assumption)) (Nat.le_trans (Nat.mul_le_mul_right _ (of_decide_eq_true (by first | (with_reducible assumption) | assumption) : (l0_1.length : Int).toNat ≤ 35184372088832)) (by omega)) (Below.refl _ _) (Nat.le_refl _) ?_; intro v158 w7 ho8 hb hg_ hnew_; clear hg_ hnew_; (first | rw [← Ny157.out] at ho8 | (simp only [Int.reduceToNat] at ho8; rw [← Ny157.out] at ho8)); have HO159 := Aside0.mk (Kd.R_lower ho8 (below_size (sbe1 HB GE156))); replace BK156 := Aside0.mk (sbb BK156 hb); replace HB := Aside0.mk (sbs1 HB GE156 hb); clear hb ho8; have hcz9_0 := sc 0 BK156; have hcz9_1 := sc 1 BK156; have hcz9_2 := sc 2 BK156; have hfz9_0 := blk_frozen BK156.out 0; have hfz9_1 := blk_frozen BK156.out 1; have hfz9_2 := blk_frozen BK156.out 2))
   go_loopg [1, 6] k (fun kq v1 v6 w' => ∃ (x1_1 : Int) (x5_1 : List Int) (x6_1 : Int), v1 = .int .i64 x1_1 ∧ v6 = .int .i64 x6_1 ∧ Aside0 (posserref03_Nth.l0 kq x1_1 x5_1 x6_1 l0_0 l0_1 a0_2 = some r) ∧ Aside0 (kq ≤ k) ∧ Aside0 (Kd.R (Kd.int .i64) 3 w' w.heap.size (fun _ => True) v158 x5_1) ∧ Aside0 (w'.heap[gb156]? = some (.cells #[(.slice A0_0 l0_0.length c0_0), (.slice A0_1 l0_1.length c0_1), .int .i64 a0_2] 25 (0, 0))) ∧ Aside0 (Below w.heap.size w w'))
   case atStart => exact ⟨(a1), (y157), (wrap64 ((l0_1.length : Int) - 1)), (by first | rfl | (simp; done) | (simp [*]; done)), (by first | rfl | (simp; done) | (simp [*]; done)), H', ⟨Nat.le_refl _⟩, ⟨by (with_reducible repeat (first | apply Kd.R_alloc | apply Kd.R_drewN | apply Kd.R_drew)); exact HO159.out⟩, ⟨by (with_reducible repeat (first | refine blk_drewN ?_ _ | refine blk_drew ?_ | refine blk_alloc ?_ _)); exact BK156.out⟩, ⟨(sbe1 HB GE156)⟩⟩
   case round =>
    clear H'
    try clear p2
    try clear c3
    try clear c3b0
    try clear c3b1
    try clear c4
    try clear c4b0
    try clear c4b1
    try clear p6
    try clear c7
    try clear hcz6_0
    try clear hcz6_1
    try clear hcz6_2
    try clear hcz9_0
    try clear hcz9_1
    try clear hcz9_2
    try clear hfz6_0
    try clear hfz6_1
    try clear hfz6_2
    try clear hfz9_0
    try clear hfz9_1
    try clear hfz9_2
    obtain ⟨x1_1, x5_1, x6_1, rfl, rfl, HA, HK1, HO_5, BK156, HB⟩ := hrel
    cases gk with
    | zero => exact absurd HA.out (by simp [posserref03_Nth.l0])
    | succ k1 =>
     have H := HA.out
     clear HA
     simp only [posserref03_Nth.l0] at H
     by_cases c10 : x6_1 ≥ 0
     ·rw [if_pos c10] at H
      have c10b0 : decide (0 ≤ x6_1) = true := decide_eq_true c10
      clear c10
      replace H := Option.bind_eq_some_iff.mp H
      obtain ⟨t160, A110, H⟩ := H
      replace H : (if (t160.length : Int) = 0 then (none) else (if 0 ≤ (Int.tmod x1_1 (t160.length : Int)) then (if (Int.tmod x1_1 (t160.length : Int)) < (t160.length : Int) then (if 0 ≤ x6_1 then (if x6_1 < (x5_1.length : Int) then (posserref03_Nth.l0 k1 (wrap64 (Int.tdiv x1_1 (t160.length : Int))) (x5_1.set (x6_1 : Int).toNat (rd t160 (Int.tmod x1_1 (t160.length : Int)))) (wrap64 (x6_1 - 1)) l0_0 l0_1 a0_2) else (none)) else (none)) else (none)) else (none))) = some r := H
      have A11 := Aside0.mk A110
      clear A110
      by_cases c12 : (t160.length : Int) = 0
      ·rw [if_pos c12] at H
       exact absurd H (by simp)
      ·rw [if_neg c12] at H
       have c12b0 : ((t160.length : Int) == 0) = false := beq_eq_false_iff_ne.mpr c12
       have c12b1 : ((t160.length : Int) != 0) = true := bne_iff_ne.mpr c12
       have c12b2 : ¬ (t160 = []) := fun h_ => c12 (by rw [h_]; rfl)
       obtain ⟨ji13, hji13⟩ : ∃ j_ : Int, (Int.tmod x1_1 (t160.length : Int)) = j_ := ⟨_, rfl⟩
       replace H : (if 0 ≤ (ji13) then (if (ji13) < (t160.length : Int) then (if 0 ≤ x6_1 then (if x6_1 < (x5_1.length : Int) then (posserref03_Nth.l0 k1 (wrap64 (Int.tdiv x1_1 (t160.length : Int))) (x5_1.set (x6_1 : Int).toNat (rd t160 (ji13))) (wrap64 (x6_1 - 1)) l0_0 l0_1 a0_2) else (none)) else (none)) else (none)) else (none)) = some r := by first | (rw [hji13] at H; exact H) | (simp only [hji13] at H ⊢; exact H)
       (try rw [hji13] at A11)
       by_cases c14 : 0 ≤ (ji13)
       ·rw [if_pos c14] at H
        have c14b0 : decide (0 ≤ (ji13)) = true := decide_eq_true c14
        clear c14
        by_cases c15 : (ji13) < (t160.length : Int)
        ·rw [if_pos c15] at H
         have c15b0 : decide ((ji13) < (t160.length : Int)) = true := decide_eq_true c15
         clear c15
         by_cases c16 : 0 ≤ x6_1
         ·rw [if_pos c16] at H
          have c16b0 : decide (0 ≤ x6_1) = true := decide_eq_true c16
          clear c16
          by_cases c17 : x6_1 < (x5_1.length : Int)
          ·rw [if_pos c17] at H
           have c17b0 : decide (x6_1 < (x5_1.length : Int)) = true := decide_eq_true c17
           clear c17
           obtain ⟨y164, hy164⟩ : ∃ y_ : List Int, y_ = (x5_1.set (x6_1 : Int).toNat (rd t160 (ji13))) := ⟨_, rfl⟩
           replace H : (posserref03_Nth.l0 k1 (wrap64 (Int.tdiv x1_1 (t160.length : Int))) y164 (wrap64 (x6_1 - 1)) l0_0 l0_1 a0_2) = some r := by first | (rw [hy164]; with_reducible exact H) | (have H2_ := (Option.bind_some _ _).symm.trans H; rw [hy164]; with_reducible exact H2_) | (have H2_ := (Option.bind_some _ _).symm.trans H; with_reducible exact H2_) | with_reducible exact H | (rw [hy164]; exact H) | exact H
           have Ny164 := Aside0.mk hy164
           clear hy164
           have H' := Aside0.mk H
           clear H
           have hcz19_0 := sc 0 BK156
           have hcz19_1 := sc 1 BK156
           have hcz19_2 := sc 2 BK156
           have hfz19_0 := blk_frozen BK156.out 0
           have hfz19_1 := blk_frozen BK156.out 1
           have hfz19_2 := blk_frozen BK156.out 2
           try go_wp2_with (first | ((with_reducible refine gate_callee (f := 94) rfl ?_); refine goesL_ (some 22) rfl rfl Try.func94 (by kernel_rfl) rfl #[.agg #[.slice A0_0 l0_0.length c0_0, .slice A0_1 l0_1.length c0_1, .int .i64 a0_2], .int .i64 x6_1] rfl (by (try simp only [List.map_toArray, List.map_cons, List.map_nil]); first | done | rfl | (simp only [List.length_drop, List.length_take]; rfl)) ?_; (with_reducible refine (posserref03_WomenOf.calls k1 _ _ l0_0 _ _ l0_1 a0_2 x6_1 t160 _ ?side1 ?side2 ?side3 ?side4 A11.out).mono ?_); (case side1 => exact sCb HR0_0 HB); (case side2 => exact HC0_0.out); (case side3 => exact sCb HR0_1 HB); (case side4 => exact HC0_1.out); rintro e w20 ⟨v161, rfl, ho0, hb⟩; refine ⟨_, rfl, ?_⟩; have HO162 := Aside0.mk (Kd.R_lower (Kd.R_new' ho0 (Kd.R_lt (sR HO_5))) (below_size (sbe1 HB GE156))); replace HO_5 := Aside0.mk (Kd.R_elder' (sR HO_5) (Kd.R_base ho0) hb); replace BK156 := Aside0.mk (sbb BK156 hb); replace HB := Aside0.mk (sbs1 HB GE156 hb); (try clear hb); (try clear hb2); (try clear hk); (try clear hi); (try clear ho0)))
           replace HO_5 := Aside0.mk (Kd.R_drew HO_5.out)
           replace HO162 := Aside0.mk (Kd.R_drew HO162.out)
           replace BK156 := Aside0.mk (blk_drew BK156.out)
           replace HB := Aside0.mk (below_drew1 HB.out)
           obtain ⟨Ao22, co22, eo22⟩ := Kd.R_slice HO162.out
           (first | subst eo22 | (injection eo22 with f1_ f2_ f3_; have f4_ := f1_.symm; have f5_ := f3_.symm; clear f1_ f2_ f3_; subst f4_; subst f5_))
           have p163 : 0 ≤ ((ji13) : Int) := of_decide_eq_true (by first | (with_reducible assumption) | assumption)
           have q163 : (ji13) < (t160.length : Int) := of_decide_eq_true (by first | (with_reducible assumption) | assumption)
           obtain ⟨ad163, e163, hx163_0⟩ := Kd.at_int (Kd.R_reads' HO162.out).2.2 (ji13) p163 q163
           cases e163
           replace p163 := eq_true p163
           replace q163 := eq_true q163
           have p18 : 0 ≤ (x6_1 : Int) := of_decide_eq_true (by first | (with_reducible assumption) | assumption)
           have q18 : (x6_1 : Int) < ((x5_1.length : Int) : Int) := of_decide_eq_true (by first | (with_reducible assumption) | assumption)
           obtain ⟨go18, co18, eo18, gb18, gl18, cl18, HG18⟩ := Kd.R_form HO_5.out (by omega)
           (first | cases eo18 | (injection eo18 with ea_ en_ ec_; (first | subst ea_ | (injection ea_ with ea_; subst ea_)); subst ec_; clear en_))
           have GB18 := Aside0.mk gb18
           have GG18 := Aside0.mk HG18
           clear gb18 gl18 HG18
           obtain ⟨hx18_0, hf18_0⟩ := Kd.R_celln 0 HO_5.out (x6_1 : Int) p18 q18
           replace p18 := eq_true p18
           replace q18 := eq_true q18
           have HP23 := Kd.R_putn HO_5.out (x6_1 : Int) (rd t160 (ji13))
           rw [← Ny164.out] at HP23
           have HQ23 := Aside0.mk HP23
           clear HP23
           refine start_ (n := 16) (S := fun w' => w'.cell? (ad163.add ((ji13)).toNat) = some (.int .i64 (rd t160 (ji13)))) (ds := [14]) (lm 16 0) (by kernel_rfl) rfl (by kernel_rfl) (hx163_0) (fun hHeld => ?_); refine with_tabW posserref03_Nth.tab6 posserref03_Nth.bits6 (fun HT_ HW_ => ?_)
           generalize w20.drew = w21 at HO_5 HO162 BK156 HB GG18 HQ23 hf18_0 hx163_0 hx18_0 hHeld ⊢
           refine sP (i := 0) (N := some 23) (lm 16 1) ?_ (hc := any_of HT_.out (by kernel_rfl))
           refine sP (i := 1) (N := some 24) (lm 16 3) ?_ (hc := any_of HT_.out (by kernel_rfl))
           refine sP (i := 2) (N := some 25) (lm 16 7) ?_ (hc := any_of HT_.out (by kernel_rfl))
           refine sP (i := 3) (N := some 26) (lm 16 15) ?_ (hc := any_of HT_.out (by kernel_rfl))
           refine sP (i := 4) (N := some 27) (lm 16 31) ?_ (hc := any_of HT_.out (by kernel_rfl))
           refine sP (i := 5) (N := some 28) (lm 16 63) ?_ (hc := any_of HT_.out (by kernel_rfl))
           refine sP (i := 6) (N := some 29) (lm 16 127) ?_ (hc := any_of HT_.out (by kernel_rfl))
           refine sP (i := 7) (N := some 30) (lm 16 255) ?_ (hc := any_of HT_.out (by kernel_rfl))
           refine sP (i := 9) (N := some 32) (lm 16 767) ?_ (hc := any_of HT_.out (by kernel_rfl))
           refine sP (i := 10) (N := some 33) (lm 16 1791) ?_ (hc := any_of HT_.out (by kernel_rfl))
           refine sP (i := 11) (N := some 34) (lm 16 3839) ?_ (hc := any_of HT_.out (by kernel_rfl))
           refine sP (i := 12) (N := some 35) (lm 16 7935) ?_ (hc := any_of HT_.out (by kernel_rfl))
           refine take_ (i := 8) (N := some 31) (v := ?_) (a' := ?_) (lm 16 8191) rfl rfl (take_ofW HT_.out HW_.out (by kernel_rfl)) (fun _ _ _ h => h) (Or.inl ⟨by rfl, ?_⟩) hHeld ?_ ?_
           rotate_left
           ·intro w' s0
            go_simp
            with_reducible rfl
           rotate_left
           ·simp only [Act.put, List.setIfInBounds_toArray, List.set_cons_zero, List.set_cons_succ, i64_w, i32_w]
            rfl
           refine sP (i := 13) (N := some 36) (lm 16 16383) ?_ (hc := any_of HT_.out (by kernel_rfl))
           refine last_ (i := 14) (N := none) (lm 16 32767) rfl rfl (one_of HT_.out (by kernel_rfl)) (by decide) (fun K hK => ?_)
           refine skip_ (w1 := ?_) (by rfl) rfl ?_ ?_
           rotate_left
           ·go_simp
            rfl
           refine hK.out _ _ ?_
           clear hK K
           refine sP (i := 15) (N := some 1) (lm 16 65535) ?_ (hc := any_of HT_.out (by kernel_rfl))
           refine done_ (done_of HT_.out (by kernel_rfl)) ?_
           try go_wp2
           go_roundg k1
           case measure => have := HK1.out; omega
           case rel => exact ⟨(wrap64 (Int.tdiv x1_1 (t160.length : Int))), (y164), (wrap64 (x6_1 - 1)), (by first | rfl | (simp; done) | (simp [*]; done)), (by first | rfl | (simp; done) | (simp [*]; done)), H', ⟨by have := HK1.out; omega⟩, ⟨by (with_reducible repeat (first | apply Kd.R_alloc | apply Kd.R_drewN | apply Kd.R_drew)); exact Kd.R_mono HQ23.out (fun _ hk => trivial)⟩, ⟨by (with_reducible repeat (first | refine blk_drewN ?_ _ | refine blk_drew ?_ | refine blk_alloc ?_ _)); refine blk_far ?_ (by have h_ := Kd.R_ne HO_5.out BK156.out (by decide); intro e_; exact h_ (by rw [e_]; rfl)) _; (with_reducible repeat (first | refine blk_drewN ?_ _ | refine blk_drew ?_ | refine blk_alloc ?_ _)); exact BK156.out⟩, ⟨(sbe2 HB GB18 GE156)⟩⟩
          ·rw [if_neg c17] at H
           exact absurd H (by simp)
         ·rw [if_neg c16] at H
          exact absurd H (by simp)
        ·rw [if_neg c15] at H
         exact absurd H (by simp)
       ·rw [if_neg c14] at H
        exact absurd H (by simp)
     ·rw [if_neg c10] at H
      have c10b0 : decide (0 ≤ x6_1) = false := decide_eq_false c10
      clear c10
      obtain rfl := Option.some.inj H
      go_wp2
      go_ret
      exact ⟨_, by first | rfl | (simp [errW_none, errW_some] <;> rfl) | (simp [*, errW_none, errW_some] <;> rfl), by (with_reducible repeat (first | apply Kd.R_alloc | apply Kd.R_drewN | apply Kd.R_drew)); exact HO_5.out, (sbe1 HB GE156)⟩
  ·rw [if_neg c4] at H
   exact absurd H (by simp)
 ·rw [if_neg c3] at H
  exact absurd H (by simp)
end Go.Proofs.Ytnbbbeghgomnoaa.X
namespace Go.Proofs.Ytnbbbeghgomnoaa.X
open Go.RowKit Go.Proofs.YtnbbbeghgomnoaaW.PrintWords Go.Proofs.YtnbbbeghgomnoaaW.PrintLast Go.Proofs.YtnbbbeghgomnoaaW.PrintMore
attribute [local go_sem] max2_int min2_int max_two min_two max_three min_three max_four min_four
set_option linter.unusedVariables false
set_option linter.unusedSimpArgs false
def posserref03_All.l0 : Nat → List Int → Int → List (S85) → List (S71) → Int → Option (List Int)
 | 0, _, _, _, _, _ => none
 | k + 1, x3, x4, x272000, x272001, x272002 => (posserref03_Many.f k x272000 x272001 x272002).bind fun t272 => (if x4 < t272 then ((posserref03_Nth.f k x272000 x272001 x272002 x4).bind fun t273 => ((posserref03_Right.f k x272000 x272001 x272002 t273).bind fun t276 => (if x3.length < 17592186044416 then (posserref03_All.l0 k (x3 ++ [t276]) (wrap64 (x4 + 1)) x272000 x272001 x272002) else (none)))) else (some x3))
def posserref03_All.f (k : Nat) (l0_0 : List (S85)) (l0_1 : List (S71)) (a0_2 : Int) : Option (List Int) := posserref03_All.l0 k ([] : List Int) 0 l0_0 l0_1 a0_2
def posserref03_All.T5 : Bool × List (List Nat × List Nat) := (true, [([], []), ([], []), ([], []), ([], []), ([2, 3], [2, 3]), ([1, 4, 4], [1, 4]), ([5], [5]), ([0, 6, 5], [0, 6]), ([7, 7, 0, 1, 2, 3, 4, 5, 6, 7], [0, 7])])
def posserref03_All.B5 : List Nat := [0, 0, 0, 0, 12, 30, 62, 127, 255]
theorem posserref03_All.tab5 : rtab .any (opsOf Try.f34 5) = posserref03_All.T5 := by kernel_rfl
theorem posserref03_All.bits5 : waitsOk posserref03_All.T5.2 posserref03_All.B5 = true := by kernel_rfl
set_option maxHeartbeats 8000000 in
set_option maxRecDepth 100000 in
theorem posserref03_All.calls (k : Nat) (A0_0 : Option Addr) (c0_0 : Nat) (l0_0 : List (S85)) (A0_1 : Option Addr) (c0_1 : Nat) (l0_1 : List (S71)) (a0_2 : Int) (r : List Int) (w : World) (hr0_0 : Kd.C k85 w A0_0 l0_0.length l0_0) (hc0_0 : l0_0.length ≤ c0_0) (hr0_1 : Kd.C k71 w A0_1 l0_1.length l0_1) (hc0_1 : l0_1.length ≤ c0_1) (h : posserref03_All.f k l0_0 l0_1 a0_2 = some r) :
  Calls Try.prog 34 #[.agg #[.slice A0_0 l0_0.length c0_0, .slice A0_1 l0_1.length c0_1, .int .i64 a0_2]] w fun e w' => ∃ v0_ : Value, e = .returned (v0_) ∧ Kd.R (Kd.int .i64) 3 w' w.heap.size (fun _ => True) v0_ r ∧ Below w.heap.size w w' := by
 have hu25 := Try.underlying25
 have HR0_0 := Aside0.mk hr0_0
 have HC0_0 := Aside0.mk hc0_0
 clear hr0_0 hc0_0
 have HR0_1 := Aside0.mk hr0_1
 have HC0_1 := Aside0.mk hc0_1
 clear hr0_1 hc0_1
 have HB := Aside0.mk (Below.refl w.heap.size w)
 have H : (posserref03_All.l0 k ([] : List Int) 0 l0_0 l0_1 a0_2) = some r := h
 clear h
 have H' := Aside0.mk H
 clear H
 go_enter Try.func34, Try.ntmps34
 go_wp2_with (first | ((with_reducible refine gate_dst (N := 1) rfl ?_); refine sbox (N := 1) #[.slice A0_0 l0_0.length c0_0, .slice A0_1 l0_1.length c0_1, .int .i64 a0_2] 25 ?_; intro gb271 hg w2 hbox hb; have BK271 := Aside0.mk (hbox); have GW271 := Aside0.mk (sge hg HB : w.heap.size ≤ gb271); have GE271 := Aside0.mk (sge hg HB : w.heap.size ≤ gb271); replace HB := Aside0.mk (sbs HB hb); clear hb hbox hg))
 go_loopg [3, 4] k (fun kq v3 v4 w' => ∃ (x3_1 : List Int) (x4_1 : Int), v4 = .int .i64 x4_1 ∧ Aside0 (posserref03_All.l0 kq x3_1 x4_1 l0_0 l0_1 a0_2 = some r) ∧ Aside0 (kq ≤ k) ∧ Aside0 (Kd.R (Kd.int .i64) 3 w' w.heap.size (fun _ => True) v3 x3_1) ∧ Aside0 (w'.heap[gb271]? = some (.cells #[(.slice A0_0 l0_0.length c0_0), (.slice A0_1 l0_1.length c0_1), .int .i64 a0_2] 25 (0, 0))) ∧ Aside0 (Below w.heap.size w w'))
 case atStart => exact ⟨(([] : List Int)), (0), (by first | rfl | (simp; done) | (simp [*]; done)), H', ⟨Nat.le_refl _⟩, ⟨by first | exact Kd.R_nil _ _ _ _ _ | exact Kd.N_nil _ _ _ _ _ | exact Kd.V_nil _ _ _ _ _ | exact Kd.Q_nil _ _ _ _ _ | exact Kd.S_nil _ _ _ _ _⟩, ⟨by (with_reducible repeat (first | refine blk_drewN ?_ _ | refine blk_drew ?_ | refine blk_alloc ?_ _)); exact BK271.out⟩, ⟨(sbe1 HB GE271)⟩⟩
 case round =>
  clear H'
  try clear p2
  obtain ⟨x3_1, x4_1, rfl, HA, HK1, HO_3, BK271, HB⟩ := hrel
  cases gk with
  | zero => exact absurd HA.out (by simp [posserref03_All.l0])
  | succ k1 =>
   have H := HA.out
   clear HA
   simp only [posserref03_All.l0] at H
   replace H := Option.bind_eq_some_iff.mp H
   obtain ⟨t272, A30, H⟩ := H
   replace H : (if x4_1 < t272 then ((posserref03_Nth.f k1 l0_0 l0_1 a0_2 x4_1).bind fun t273 => ((posserref03_Right.f k1 l0_0 l0_1 a0_2 t273).bind fun t276 => (if x3_1.length < 17592186044416 then (posserref03_All.l0 k1 (x3_1 ++ [t276]) (wrap64 (x4_1 + 1)) l0_0 l0_1 a0_2) else (none)))) else (some x3_1)) = some r := H
   have A3 := Aside0.mk A30
   clear A30
   by_cases c4 : x4_1 < t272
   ·rw [if_pos c4] at H
    have c4b0 : decide (x4_1 < t272) = true := decide_eq_true c4
    clear c4
    replace H := Option.bind_eq_some_iff.mp H
    obtain ⟨t273, A50, H⟩ := H
    replace H : ((posserref03_Right.f k1 l0_0 l0_1 a0_2 t273).bind fun t276 => (if x3_1.length < 17592186044416 then (posserref03_All.l0 k1 (x3_1 ++ [t276]) (wrap64 (x4_1 + 1)) l0_0 l0_1 a0_2) else (none))) = some r := H
    have A5 := Aside0.mk A50
    clear A50
    replace H := Option.bind_eq_some_iff.mp H
    obtain ⟨t276, A60, H⟩ := H
    replace H : (if x3_1.length < 17592186044416 then (posserref03_All.l0 k1 (x3_1 ++ [t276]) (wrap64 (x4_1 + 1)) l0_0 l0_1 a0_2) else (none)) = some r := H
    have A6 := Aside0.mk A60
    clear A60
    by_cases c7 : x3_1.length < 17592186044416
    ·rw [if_pos c7] at H
     have LMc7 := Aside0.mk c7
     clear c7
     obtain ⟨y277, hy277⟩ : ∃ y_ : List Int, y_ = (x3_1 ++ [t276]) := ⟨_, rfl⟩
     replace H : (posserref03_All.l0 k1 y277 (wrap64 (x4_1 + 1)) l0_0 l0_1 a0_2) = some r := by first | (rw [hy277]; with_reducible exact H) | (have H2_ := (Option.bind_some _ _).symm.trans H; rw [hy277]; with_reducible exact H2_) | (have H2_ := (Option.bind_some _ _).symm.trans H; with_reducible exact H2_) | with_reducible exact H | (rw [hy277]; exact H) | exact H
     have Ny277 := Aside0.mk hy277
     clear hy277
     have H' := Aside0.mk H
     clear H
     have hcz8_0 := sc 0 BK271
     have hcz8_1 := sc 1 BK271
     have hcz8_2 := sc 2 BK271
     have hfz8_0 := blk_frozen BK271.out 0
     have hfz8_1 := blk_frozen BK271.out 1
     have hfz8_2 := blk_frozen BK271.out 2
     try go_wp2_with (first | ((with_reducible refine gate_callee (f := 76) rfl ?_); refine goesL_ (some 7) rfl rfl Try.func76 (by kernel_rfl) rfl #[.agg #[.slice A0_0 l0_0.length c0_0, .slice A0_1 l0_1.length c0_1, .int .i64 a0_2]] rfl (by (try simp only [List.map_toArray, List.map_cons, List.map_nil]); first | done | rfl | (simp only [List.length_drop, List.length_take]; rfl)) ?_; (with_reducible refine (posserref03_Many.calls k1 _ _ l0_0 _ _ l0_1 a0_2 t272 _ ?side1 ?side2 ?side3 ?side4 A3.out).mono ?_); (case side1 => exact sCb HR0_0 HB); (case side2 => exact HC0_0.out); (case side3 => exact sCb HR0_1 HB); (case side4 => exact HC0_1.out); rintro e w9 ⟨rfl, hb⟩; refine ⟨_, rfl, ?_⟩; replace HO_3 := Aside0.mk (Kd.R_below (sR HO_3) hb); replace BK271 := Aside0.mk (sbb BK271 hb); replace HB := Aside0.mk (sbs1 HB GE271 hb); (try clear hb); (try clear hb2); (try clear hk); (try clear hi)))
     replace HO_3 := Aside0.mk (Kd.R_drew HO_3.out)
     replace BK271 := Aside0.mk (blk_drew BK271.out)
     replace HB := Aside0.mk (below_drew1 HB.out)
     refine start_ (n := 9) (S := fun w' => w'.cell? ⟨gb271, 0, none⟩ = some (.slice A0_0 l0_0.length c0_0) ∧ w'.cell? ⟨gb271, 1, none⟩ = some (.slice A0_1 l0_1.length c0_1) ∧ w'.cell? ⟨gb271, 2, none⟩ = some (.int .i64 a0_2)) (ds := []) (lm 9 0) (by kernel_rfl) rfl (by kernel_rfl) ⟨(blk_cell BK271.out 0).trans rfl, (blk_cell BK271.out 1).trans rfl, (blk_cell BK271.out 2).trans rfl⟩ (fun hHeld => ?_); refine with_tabW posserref03_All.tab5 posserref03_All.bits5 (fun HT_ HW_ => ?_)
     generalize w9.drew = w10 at HO_3 BK271 HB hHeld ⊢
     refine sP (i := 0) (N := some 11) (lm 9 1) ?_ (hc := any_of HT_.out (by kernel_rfl))
     refine sP (i := 3) (N := some 14) (lm 9 9) ?_ (hc := any_of HT_.out (by kernel_rfl))
     refine take_ (i := 1) (N := some 12) (v := ?_) (a' := ?_) (lm 9 11) rfl rfl (take_ofW HT_.out HW_.out (by kernel_rfl)) (fun _ _ _ h => h) (Or.inl ⟨by rfl, ?_⟩) hHeld ?_ ?_
     rotate_left
     ·rintro w' ⟨s0, s1, s2⟩
      go_simp
      with_reducible rfl
     rotate_left
     ·simp only [Act.put, List.setIfInBounds_toArray, List.set_cons_zero, List.set_cons_succ, i64_w, i32_w]
      rfl
     refine take_ (i := 2) (N := some 13) (v := ?_) (a' := ?_) (lm 9 15) rfl rfl (take_ofW HT_.out HW_.out (by kernel_rfl)) (fun _ _ _ h => h) (Or.inl ⟨by rfl, ?_⟩) hHeld ?_ ?_
     rotate_left
     ·rintro w' ⟨s0, s1, s2⟩
      go_simp
      with_reducible rfl
     rotate_left
     ·simp only [Act.put, List.setIfInBounds_toArray, List.set_cons_zero, List.set_cons_succ, i64_w, i32_w]
      rfl
     refine one_ (i := 4) (N := some 15) (lm 9 31) rfl rfl (one_of HT_.out (by kernel_rfl)) (by decide) (fun K hK => ?_)
     refine goes_ Try.func78 (by kernel_rfl) rfl #[.agg #[.slice A0_0 l0_0.length c0_0, .slice A0_1 l0_1.length c0_1, .int .i64 a0_2], .int .i64 x4_1] (by rfl) rfl rfl (by (try simp only [List.map_toArray, List.map_cons, List.map_nil]); first | done | rfl | (simp only [List.length_drop, List.length_take]; rfl)) ?_
     with_reducible refine (posserref03_Nth.calls k1 _ _ l0_0 _ _ l0_1 a0_2 x4_1 t273 _ ?side1 ?side2 ?side3 ?side4 A5.out).mono ?_
     (case side1 => exact sCb HR0_0 HB)
     (case side2 => exact HC0_0.out)
     (case side3 => exact sCb HR0_1 HB)
     (case side4 => exact HC0_1.out)
     rintro e w11 ⟨v274, rfl, ho0, hb⟩
     refine ⟨_, rfl, ?_⟩
     have HO275 := Aside0.mk (Kd.R_lower (Kd.R_new' ho0 (Kd.R_lt (sR HO_3))) (below_size (sbe1 HB GE271)))
     replace HO_3 := Aside0.mk (Kd.R_elder' (sR HO_3) (Kd.R_base ho0) hb)
     replace BK271 := Aside0.mk (sbb BK271 hb)
     replace HB := Aside0.mk (sbs1 HB GE271 hb)
     (try clear hb)
     (try clear hb2)
     (try clear hk)
     (try clear hi)
     (try clear ho0)
     obtain ⟨Ao12, co12, eo12⟩ := Kd.R_slice HO275.out
     (first | subst eo12 | (injection eo12 with f1_ f2_ f3_; have f4_ := f1_.symm; have f5_ := f3_.symm; clear f1_ f2_ f3_; subst f4_; subst f5_))
     refine hK.out _ _ ⟨(blk_cell BK271.out 0).trans rfl, (blk_cell BK271.out 1).trans rfl, (blk_cell BK271.out 2).trans rfl⟩ (fun hHeld => ?_)
     clear hK K
     refine sN ?_
     refine one_ (i := 5) (N := some 16) (lm 9 63) rfl rfl (one_of HT_.out (by kernel_rfl)) (by decide) (fun K hK => ?_)
     refine goes_ Try.func77 (by kernel_rfl) rfl #[.agg #[.slice A0_0 l0_0.length c0_0, .slice A0_1 l0_1.length c0_1, .int .i64 a0_2], .slice Ao12 t273.length co12] (by rfl) rfl rfl (by (try simp only [List.map_toArray, List.map_cons, List.map_nil]); first | done | rfl | (simp only [List.length_drop, List.length_take]; rfl)) ?_
     with_reducible refine (posserref03_Right.calls k1 _ _ l0_0 _ _ l0_1 a0_2 _ _ t273 t276 _ ?side1 ?side2 ?side3 ?side4 ?side5 ?side6 A6.out).mono ?_
     (case side1 => exact sCb HR0_0 HB)
     (case side2 => exact HC0_0.out)
     (case side3 => exact sCb HR0_1 HB)
     (case side4 => exact HC0_1.out)
     (case side5 => repeat (first | exact (Kd.R_reads' HO275.out).2.2 | (with_reducible refine Kd.C_alloc ?_ _) | (with_reducible refine Kd.C_drewN ?_ _) | (with_reducible refine Kd.C_drew ?_)))
     (case side6 => exact (Kd.R_reads' HO275.out).2.1)
     rintro e w13 ⟨rfl, hb⟩
     refine ⟨_, rfl, ?_⟩
     replace HO_3 := Aside0.mk (Kd.R_below (sR HO_3) hb)
     replace HO275 := Aside0.mk (Kd.R_below (sR HO275) hb)
     replace BK271 := Aside0.mk (sbb BK271 hb)
     replace HB := Aside0.mk (sbs1 HB GE271 hb)
     (try clear hb)
     (try clear hb2)
     (try clear hk)
     (try clear hi)
     refine hK.out _ _ ⟨(blk_cell BK271.out 0).trans rfl, (blk_cell BK271.out 1).trans rfl, (blk_cell BK271.out 2).trans rfl⟩ (fun hHeld => ?_)
     clear hK K
     refine sN ?_
     refine one_ (i := 6) (N := some 17) (lm 9 127) rfl rfl (one_of HT_.out (by kernel_rfl)) (by decide) (fun K hK => ?_)
     refine value_ (w1 := ?_) (v := ?_) (by rfl) rfl ?_ ?_
     rotate_left 2
     ·go_simp
      constructor
      ·rfl
      ·rfl
     refine hK.out _ _ ⟨(blk_cell (blk_alloc BK271.out _) 0).trans rfl, (blk_cell (blk_alloc BK271.out _) 1).trans rfl, (blk_cell (blk_alloc BK271.out _) 2).trans rfl⟩ (fun hHeld => ?_)
     clear hK K
     refine sN ?_
     refine one_ (i := 7) (N := some 18) (lm 9 255) rfl rfl (one_of HT_.out (by kernel_rfl)) (by decide) (fun K hK => ?_)
     refine Kd.R_append_step (Kd.int .i64) (w0 := w) w.heap.size (by rfl) (.tmp 11) (.tmp 17) 39 3 (.int .i64 0) 8 rfl Try.underlying39 info3 rfl (by decide) (by omega) u3 x3_1 t276 [.int .i64 t276] (fun k_ => some k_ ≠ (.slice Ao12 t273.length co12 : Value).ownBlock) (fun _ => False) rfl rfl ?aP (fun _ hk => hk.elim) ?aF ?aO ?aB ?aS ?aL ?_
     (case aP => exact rfl)
     (case aB => exact (sbe1 HB GE271))
     (case aF => exact (fun k_ hk => Kd.fresh' (Kd.R_lt (sR HO275)) k_ hk))
     (case aO => exact (by (with_reducible repeat (first | apply Kd.R_alloc | apply Kd.R_drewN | apply Kd.R_drew)); exact Kd.R_mono HO_3.out (fun _ hk => hk.2)))
     (case aS => exact (below_size (sbe1 HB GE271)))
     (case aL => have := LMc7.out; omega)
     intro v278 w14 ho hb hg hat
     rw [← Ny277.out] at ho
     have n0_ := Aside0.mk (blk_grown (g := gb271) (o := .cells #[.slice A0_0 l0_0.length c0_0, .slice A0_1 l0_1.length c0_1, .int .i64 a0_2] 25 (0, 0)) (sbk BK271) hg (Kd.R_ne HO_3.out BK271.out (by decide)))
     have n1_ := Aside0.mk (Kd.R_after (ok := (fun _ => True)) (sR HO275) hg hat)
     have n2_ := Aside0.mk (hb)
     have n3_ := Aside0.mk (ho)
     clear BK271
     clear HO275
     clear HB
     clear HO_3
     have BK271 := n0_
     have HO275 := n1_
     have HB := n2_
     have HO279 := n3_
     clear n0_ n1_ n2_ n3_
     clear ho hb hg hat
     refine hK.out _ _ ⟨(blk_cell BK271.out 0).trans rfl, (blk_cell BK271.out 1).trans rfl, (blk_cell BK271.out 2).trans rfl⟩ (fun hHeld => ?_)
     clear hK K
     refine sN ?_
     refine sP (i := 8) (N := some 3) (lm 9 511) ?_ (hc := any_of HT_.out (by kernel_rfl))
     refine done_ (done_of HT_.out (by kernel_rfl)) ?_
     try go_wp2
     go_roundg k1
     case measure => have := HK1.out; omega
     case rel => exact ⟨(y277), (wrap64 (x4_1 + 1)), (by first | rfl | (simp; done) | (simp [*]; done)), H', ⟨by have := HK1.out; omega⟩, ⟨by (with_reducible repeat (first | apply Kd.R_alloc | apply Kd.R_drewN | apply Kd.R_drew)); exact Kd.R_mono HO279.out (fun _ hk => trivial)⟩, ⟨by (with_reducible repeat (first | refine blk_drewN ?_ _ | refine blk_drew ?_ | refine blk_alloc ?_ _)); exact BK271.out⟩, ⟨(sbe1 HB GE271)⟩⟩
    ·rw [if_neg c7] at H
     exact absurd H (by simp)
   ·rw [if_neg c4] at H
    have c4b0 : decide (x4_1 < t272) = false := decide_eq_false c4
    clear c4
    obtain rfl := Option.some.inj H
    have hcz15_0 := sc 0 BK271
    have hcz15_1 := sc 1 BK271
    have hcz15_2 := sc 2 BK271
    have hfz15_0 := blk_frozen BK271.out 0
    have hfz15_1 := blk_frozen BK271.out 1
    have hfz15_2 := blk_frozen BK271.out 2
    go_wp2_with (first | ((with_reducible refine gate_callee (f := 76) rfl ?_); refine goesL_ (some 7) rfl rfl Try.func76 (by kernel_rfl) rfl #[.agg #[.slice A0_0 l0_0.length c0_0, .slice A0_1 l0_1.length c0_1, .int .i64 a0_2]] rfl (by (try simp only [List.map_toArray, List.map_cons, List.map_nil]); first | done | rfl | (simp only [List.length_drop, List.length_take]; rfl)) ?_; (with_reducible refine (posserref03_Many.calls k1 _ _ l0_0 _ _ l0_1 a0_2 t272 _ ?side1 ?side2 ?side3 ?side4 A3.out).mono ?_); (case side1 => exact sCb HR0_0 HB); (case side2 => exact HC0_0.out); (case side3 => exact sCb HR0_1 HB); (case side4 => exact HC0_1.out); rintro e w16 ⟨rfl, hb⟩; refine ⟨_, rfl, ?_⟩; replace HO_3 := Aside0.mk (Kd.R_below (sR HO_3) hb); replace BK271 := Aside0.mk (sbb BK271 hb); replace HB := Aside0.mk (sbs1 HB GE271 hb); (try clear hb); (try clear hb2); (try clear hk); (try clear hi)))
    go_ret
    exact ⟨_, by first | rfl | (simp [errW_none, errW_some] <;> rfl) | (simp [*, errW_none, errW_some] <;> rfl), by (with_reducible repeat (first | apply Kd.R_alloc | apply Kd.R_drewN | apply Kd.R_drew)); exact HO_3.out, (sbe1 HB GE271)⟩
end Go.Proofs.Ytnbbbeghgomnoaa.X
namespace Go.Proofs.Ytnbbbeghgomnoaa.X
open Go.RowKit Go.Proofs.YtnbbbeghgomnoaaW.PrintWords Go.Proofs.YtnbbbeghgomnoaaW.PrintLast Go.Proofs.YtnbbbeghgomnoaaW.PrintMore
attribute [local go_sem] max2_int min2_int max_two min_two max_three min_three max_four min_four
set_option linter.unusedVariables false
set_option linter.unusedSimpArgs false
mutual
def posserref03_Before.l0 : Nat → List Int → List Int → Int → Option (Bool)
 | 0, _, _, _ => none
 | k + 1, x0, x1, x5 => if x5 < (x0.length : Int) then (posserref03_Before.j1 k x0 x1 x5 (decide (x5 < (x1.length : Int)))) else (posserref03_Before.j1 k x0 x1 x5 false)
def posserref03_Before.j1 : Nat → List Int → List Int → Int → Bool → Option (Bool)
 | 0, _, _, _, _ => none
 | k + 1, x0, x1, x5, x15 => if x15 = true then (if 0 ≤ x5 then (if x5 < (x0.length : Int) then (if x5 < (x1.length : Int) then (if (rd x0 x5) = (rd x1 x5) then (posserref03_Before.l0 k x0 x1 (wrap64 (x5 + 1))) else (some (decide ((rd x0 x5) < (rd x1 x5))))) else (none)) else (none)) else (none)) else (some (decide ((x0.length : Int) < (x1.length : Int))))
end
def posserref03_Before.f (k : Nat) (l0 : List Int) (l1 : List Int) : Option (Bool) := posserref03_Before.l0 k l0 l1 0
set_option maxHeartbeats 8000000 in
set_option maxRecDepth 100000 in
theorem posserref03_Before.calls (k : Nat) (A0 : Option Addr) (c0 : Nat) (l0 : List Int) (A1 : Option Addr) (c1 : Nat) (l1 : List Int) (r : Bool) (w : World) (hr0 : Kd.C (Kd.int .i64) w A0 l0.length l0) (hc0 : l0.length ≤ c0) (hr1 : Kd.C (Kd.int .i64) w A1 l1.length l1) (hc1 : l1.length ≤ c1) (h : posserref03_Before.f k l0 l1 = some r) :
  Calls Try.prog 51 #[.slice A0 l0.length c0, .slice A1 l1.length c1] w fun e w' => e = .returned (.bool r) ∧ Drawn0 w w' := by
 have HR0 := Aside0.mk hr0
 have HC0 := Aside0.mk hc0
 clear hr0 hc0
 have HR1 := Aside0.mk hr1
 have HC1 := Aside0.mk hc1
 clear hr1 hc1
 have H : (posserref03_Before.l0 k l0 l1 0) = some r := h
 clear h
 have H' := Aside0.mk H
 clear H
 go_enter Try.func51, Try.ntmps51
 go_wp2
 repeat (go_quiet (fail); try go_wp2)
 go_loopg [5] k (fun kq v5 w' => ∃ (x5_1 : Int), v5 = .int .i64 x5_1 ∧ Aside0 (posserref03_Before.l0 kq l0 l1 x5_1 = some r) ∧ Aside0 (kq ≤ k) ∧ Drawn0 w w')
 case atStart => exact ⟨(0), (by first | rfl | (simp; done) | (simp [*]; done)), H', ⟨Nat.le_refl _⟩, by repeat (first | exact Drawn0.refl _ | apply Drawn0.step)⟩
 case round =>
  clear H'
  try clear c1
  try clear p2
  obtain ⟨x5_1, rfl, HA, HK1, ⟨m1, rfl⟩⟩ := hrel
  cases gk with
  | zero => exact absurd HA.out (by simp [posserref03_Before.l0])
  | succ k1 =>
   have H := HA.out
   clear HA
   simp only [posserref03_Before.l0] at H
   have HC3 := Aside0.mk H
   clear H
   go_upto_region 2 with (fail)
   repeat (go_quiet (fail); go_upto_region 2 with (fail))
   go_cut [15] (fun v15 wc => ∃ (kq : Nat) (x15_2 : Bool), v15 = .bool x15_2 ∧ Aside0 (posserref03_Before.j1 kq l0 l1 x5_1 x15_2 = some r) ∧ Aside0 (kq ≤ k1) ∧ Drawn0 w wc)
   case first =>
    have H := HC3.out
    clear HC3
    by_cases c4 : x5_1 < (l0.length : Int)
    ·rw [if_pos c4] at H
     have c4b0 : decide (x5_1 < (l0.length : Int)) = true := decide_eq_true c4
     clear c4
     (first | rw [c4b0] | (simp only [i64_w, i32_w]; rw [c4b0]) | skip)
     have H' := Aside0.mk H
     clear H
     go_wp2
     repeat (go_quiet (fail); try go_wp2)
     go_meet
     case rel => exact ⟨_, (decide (x5_1 < (l1.length : Int))), (by first | rfl | (simp; done) | (simp [*]; done)), H', ⟨by have := HK1.out; first | omega | exact Nat.le_refl _⟩, by repeat (first | exact Drawn0.refl _ | apply Drawn0.step)⟩
    ·rw [if_neg c4] at H
     have c4b0 : decide (x5_1 < (l0.length : Int)) = false := decide_eq_false c4
     clear c4
     (first | rw [c4b0] | (simp only [i64_w, i32_w]; rw [c4b0]) | skip)
     have H' := Aside0.mk H
     clear H
     go_wp2
     repeat (go_quiet (fail); try go_wp2)
     go_meet
     case rel => exact ⟨_, (false), (by first | rfl | (simp; done) | (simp [*]; done)), H', ⟨by have := HK1.out; first | omega | exact Nat.le_refl _⟩, by repeat (first | exact Drawn0.refl _ | apply Drawn0.step)⟩
   case rest =>
    clear HC3
    try clear c1
    try clear p2
    try clear c4
    try clear c4b0
    try clear p2
    obtain ⟨kq, x15_2, rfl, HA, HJ2, ⟨mc2, rfl⟩⟩ := hcut
    cases kq with
    | zero => exact absurd HA.out (by simp [posserref03_Before.j1])
    | succ kj2 =>
     have H := HA.out
     clear HA
     simp only [posserref03_Before.j1] at H
     by_cases c5 : x15_2 = true
     ·subst c5
      have H1 : (if 0 ≤ x5_1 then (if x5_1 < (l0.length : Int) then (if x5_1 < (l1.length : Int) then (if (rd l0 x5_1) = (rd l1 x5_1) then (posserref03_Before.l0 kj2 l0 l1 (wrap64 (x5_1 + 1))) else (some (decide ((rd l0 x5_1) < (rd l1 x5_1))))) else (none)) else (none)) else (none)) = some r := by rw [if_pos rfl] at H; exact H
      clear H
      have H := H1
      clear H1
      by_cases c6 : 0 ≤ x5_1
      ·rw [if_pos c6] at H
       have c6b0 : decide (0 ≤ x5_1) = true := decide_eq_true c6
       clear c6
       by_cases c7 : x5_1 < (l0.length : Int)
       ·rw [if_pos c7] at H
        have c7b0 : decide (x5_1 < (l0.length : Int)) = true := decide_eq_true c7
        clear c7
        by_cases c8 : x5_1 < (l1.length : Int)
        ·rw [if_pos c8] at H
         have c8b0 : decide (x5_1 < (l1.length : Int)) = true := decide_eq_true c8
         clear c8
         by_cases c9 : (rd l0 x5_1) = (rd l1 x5_1)
         ·rw [if_pos c9] at H
          have c9b0 : ((rd l0 x5_1) == (rd l1 x5_1)) = true := beq_iff_eq.mpr c9
          have c9b1 : ((rd l0 x5_1) != (rd l1 x5_1)) = false := bne_eq_false_iff_eq.mpr c9
          clear c9
          have H' := Aside0.mk H
          clear H
          have p280 : 0 ≤ (x5_1 : Int) := of_decide_eq_true (by first | (with_reducible assumption) | assumption)
          have q280 : x5_1 < (l0.length : Int) := of_decide_eq_true (by first | (with_reducible assumption) | assumption)
          obtain ⟨ad280, e280, hx280_0⟩ := Kd.at_int HR0.out x5_1 p280 q280
          cases e280
          replace p280 := eq_true p280
          replace q280 := eq_true q280
          have p281 : 0 ≤ (x5_1 : Int) := of_decide_eq_true (by first | (with_reducible assumption) | assumption)
          have q281 : x5_1 < (l1.length : Int) := of_decide_eq_true (by first | (with_reducible assumption) | assumption)
          obtain ⟨ad281, e281, hx281_0⟩ := Kd.at_int HR1.out x5_1 p281 q281
          cases e281
          replace p281 := eq_true p281
          replace q281 := eq_true q281
          go_wp2
          repeat (go_quiet (fail); try go_wp2)
          go_roundg kj2
          case measure => have := HK1.out; have := HJ2.out; omega
          case rel => exact ⟨(wrap64 (x5_1 + 1)), (by first | rfl | (simp; done) | (simp [*]; done)), H', ⟨by have := HK1.out; have := HJ2.out; omega⟩, by repeat (first | exact Drawn0.refl _ | apply Drawn0.step)⟩
         ·rw [if_neg c9] at H
          have c9b0 : ((rd l0 x5_1) == (rd l1 x5_1)) = false := beq_eq_false_iff_ne.mpr c9
          have c9b1 : ((rd l0 x5_1) != (rd l1 x5_1)) = true := bne_iff_ne.mpr c9
          obtain rfl := Option.some.inj H
          have p280 : 0 ≤ (x5_1 : Int) := of_decide_eq_true (by first | (with_reducible assumption) | assumption)
          have q280 : x5_1 < (l0.length : Int) := of_decide_eq_true (by first | (with_reducible assumption) | assumption)
          obtain ⟨ad280, e280, hx280_0⟩ := Kd.at_int HR0.out x5_1 p280 q280
          cases e280
          replace p280 := eq_true p280
          replace q280 := eq_true q280
          have p281 : 0 ≤ (x5_1 : Int) := of_decide_eq_true (by first | (with_reducible assumption) | assumption)
          have q281 : x5_1 < (l1.length : Int) := of_decide_eq_true (by first | (with_reducible assumption) | assumption)
          obtain ⟨ad281, e281, hx281_0⟩ := Kd.at_int HR1.out x5_1 p281 q281
          cases e281
          replace p281 := eq_true p281
          replace q281 := eq_true q281
          have p282 : 0 ≤ (x5_1 : Int) := of_decide_eq_true (by first | (with_reducible assumption) | assumption)
          have q282 : x5_1 < (l0.length : Int) := of_decide_eq_true (by first | (with_reducible assumption) | assumption)
          obtain ⟨ad282, e282, hx282_0⟩ := Kd.at_int HR0.out x5_1 p282 q282
          obtain rfl : ad280 = ad282 := (by injection e282)
          replace p282 := eq_true p282
          replace q282 := eq_true q282
          have p283 : 0 ≤ (x5_1 : Int) := of_decide_eq_true (by first | (with_reducible assumption) | assumption)
          have q283 : x5_1 < (l1.length : Int) := of_decide_eq_true (by first | (with_reducible assumption) | assumption)
          obtain ⟨ad283, e283, hx283_0⟩ := Kd.at_int HR1.out x5_1 p283 q283
          obtain rfl : ad281 = ad283 := (by injection e283)
          replace p283 := eq_true p283
          replace q283 := eq_true q283
          go_wp2
          repeat (go_quiet (fail); try go_wp2)
          go_ret
          exact ⟨by first | rfl | (simp; done) | (simp [*]; done), by repeat (first | exact Drawn0.refl _ | apply Drawn0.step)⟩
        ·rw [if_neg c8] at H
         exact absurd H (by simp)
       ·rw [if_neg c7] at H
        exact absurd H (by simp)
      ·rw [if_neg c6] at H
       exact absurd H (by simp)
     ·replace c5 := Bool.eq_false_iff.mpr c5
      subst c5
      have H1 : (some (decide ((l0.length : Int) < (l1.length : Int)))) = some r := by rw [if_neg (show ¬ (false = true) by decide)] at H; exact H
      clear H
      have H := H1
      clear H1
      obtain rfl := Option.some.inj H
      go_wp2
      repeat (go_quiet (fail); try go_wp2)
      go_ret
      exact ⟨by first | rfl | (simp; done) | (simp [*]; done), by repeat (first | exact Drawn0.refl _ | apply Drawn0.step)⟩
end Go.Proofs.Ytnbbbeghgomnoaa.X
namespace Go.Proofs.Ytnbbbeghgomnoaa.X
open Go.RowKit Go.Proofs.YtnbbbeghgomnoaaW.PrintWords Go.Proofs.YtnbbbeghgomnoaaW.PrintLast Go.Proofs.YtnbbbeghgomnoaaW.PrintMore
attribute [local go_sem] max2_int min2_int max_two min_two max_three min_three max_four min_four
set_option linter.unusedVariables false
set_option linter.unusedSimpArgs false
def posserref03_Shorter.f (k : Nat) (l0 : List Int) (l1 : List Int) : Option (Bool) := if (l0.length : Int) < (l1.length : Int) then (some true) else (if (l0.length : Int) = (l1.length : Int) then ((posserref03_Before.f k l0 l1).bind fun t284 => (some t284)) else (some false))
set_option maxHeartbeats 8000000 in
set_option maxRecDepth 100000 in
theorem posserref03_Shorter.calls (k : Nat) (A0 : Option Addr) (c0 : Nat) (l0 : List Int) (A1 : Option Addr) (c1 : Nat) (l1 : List Int) (r : Bool) (w : World) (hr0 : Kd.C (Kd.int .i64) w A0 l0.length l0) (hc0 : l0.length ≤ c0) (hr1 : Kd.C (Kd.int .i64) w A1 l1.length l1) (hc1 : l1.length ≤ c1) (h : posserref03_Shorter.f k l0 l1 = some r) :
  Calls Try.prog 59 #[.slice A0 l0.length c0, .slice A1 l1.length c1] w fun e w' => e = .returned (.bool r) ∧ Drawn0 w w' := by
 have HR0 := Aside0.mk hr0
 have HC0 := Aside0.mk hc0
 clear hr0 hc0
 have HR1 := Aside0.mk hr1
 have HC1 := Aside0.mk hc1
 clear hr1 hc1
 have H : (if (l0.length : Int) < (l1.length : Int) then (some true) else (if (l0.length : Int) = (l1.length : Int) then ((posserref03_Before.f k l0 l1).bind fun t284 => (some t284)) else (some false))) = some r := h
 clear h
 by_cases c3 : (l0.length : Int) < (l1.length : Int)
 ·rw [if_pos c3] at H
  have c3b0 : decide ((l0.length : Int) < (l1.length : Int)) = true := decide_eq_true c3
  have c3b1 : decide (l0.length < l1.length) = true := decide_eq_true (Int.ofNat_lt.mp c3)
  clear c3
  obtain rfl := Option.some.inj H
  go_enter Try.func59, Try.ntmps59
  go_wp2
  go_ret
  exact ⟨by first | rfl | (simp; done) | (simp [*]; done), by repeat (first | exact Drawn0.refl _ | apply Drawn0.step)⟩
 ·rw [if_neg c3] at H
  have c3b0 : decide ((l0.length : Int) < (l1.length : Int)) = false := decide_eq_false c3
  have c3b1 : decide (l0.length < l1.length) = false := decide_eq_false (fun h => c3 (Int.ofNat_lt.mpr h))
  clear c3
  by_cases c4 : (l0.length : Int) = (l1.length : Int)
  ·rw [if_pos c4] at H
   have c4b0 : ((l0.length : Int) == (l1.length : Int)) = true := beq_iff_eq.mpr c4
   have c4b1 : ((l0.length : Int) != (l1.length : Int)) = false := bne_eq_false_iff_eq.mpr c4
   have c4b2 : (l0.length == l1.length) = true := by first | simpa using c4 | (simp at c4 ⊢; omega)
   clear c4
   replace H := Option.bind_eq_some_iff.mp H
   obtain ⟨t284, A50, H⟩ := H
   replace H : (some t284) = some r := H
   have A5 := Aside0.mk A50
   clear A50
   obtain rfl := Option.some.inj H
   go_enter Try.func59, Try.ntmps59
   go_wp2_with (first | (go_at_call 51; (with_reducible refine (posserref03_Before.calls k _ _ l0 _ _ l1 t284 _ ?side1 ?side2 ?side3 ?side4 A5.out).mono ?_); (case side1 => repeat (first | exact HR0.out | (with_reducible refine Kd.C_alloc ?_ _) | (with_reducible refine Kd.C_drewN ?_ _) | (with_reducible refine Kd.C_drew ?_))); (case side2 => exact HC0.out); (case side3 => repeat (first | exact HR1.out | (with_reducible refine Kd.C_alloc ?_ _) | (with_reducible refine Kd.C_drewN ?_ _) | (with_reducible refine Kd.C_drew ?_))); (case side4 => exact HC1.out); rintro e w' ⟨rfl, ⟨nd, rfl⟩⟩))
   go_ret
   exact ⟨by first | rfl | (simp; done) | (simp [*]; done), by repeat (first | exact Drawn0.refl _ | apply Drawn0.step)⟩
  ·rw [if_neg c4] at H
   have c4b0 : ((l0.length : Int) == (l1.length : Int)) = false := beq_eq_false_iff_ne.mpr c4
   have c4b1 : ((l0.length : Int) != (l1.length : Int)) = true := bne_iff_ne.mpr c4
   have c4b2 : (l0.length == l1.length) = false := by first | simpa using c4 | (simp at c4 ⊢; omega)
   obtain rfl := Option.some.inj H
   go_enter Try.func59, Try.ntmps59
   go_wp2
   go_ret
   exact ⟨by first | rfl | (simp; done) | (simp [*]; done), by repeat (first | exact Drawn0.refl _ | apply Drawn0.step)⟩
end Go.Proofs.Ytnbbbeghgomnoaa.X
namespace Go.Proofs.Ytnbbbeghgomnoaa.X
open Go.RowKit Go.Proofs.YtnbbbeghgomnoaaW.PrintWords Go.Proofs.YtnbbbeghgomnoaaW.PrintLast Go.Proofs.YtnbbbeghgomnoaaW.PrintMore
attribute [local go_sem] max2_int min2_int max_two min_two max_three min_three max_four min_four
set_option linter.unusedVariables false
set_option linter.unusedSimpArgs false
def posserref03_Can.l0 : Nat → List Int → Int → Int → Option (Bool)
 | 0, _, _, _ => none
 | k + 1, x0, x1, x5 => if x5 < (x0.length : Int) then (if 0 ≤ x5 then (if (Go.bits .and .i64 (rd x0 x5) x1) = x1 then (some true) else (posserref03_Can.l0 k x0 x1 (wrap64 (x5 + 1)))) else (none)) else (some false)
def posserref03_Can.f (k : Nat) (l0 : List Int) (a1 : Int) : Option (Bool) := posserref03_Can.l0 k l0 a1 0
set_option maxHeartbeats 8000000 in
set_option maxRecDepth 100000 in
theorem posserref03_Can.calls (k : Nat) (A0 : Option Addr) (c0 : Nat) (l0 : List Int) (a1 : Int) (r : Bool) (w : World) (hr0 : Kd.C (Kd.int .i64) w A0 l0.length l0) (hc0 : l0.length ≤ c0) (h : posserref03_Can.f k l0 a1 = some r) :
  Calls Try.prog 79 #[.slice A0 l0.length c0, .int .i64 a1] w fun e w' => e = .returned (.bool r) ∧ Drawn0 w w' := by
 have HR0 := Aside0.mk hr0
 have HC0 := Aside0.mk hc0
 clear hr0 hc0
 have H : (posserref03_Can.l0 k l0 a1 0) = some r := h
 clear h
 have H' := Aside0.mk H
 clear H
 go_enter Try.func79, Try.ntmps79
 go_wp2
 go_loopg [5] k (fun kq v5 w' => ∃ (x5_1 : Int), v5 = .int .i64 x5_1 ∧ Aside0 (posserref03_Can.l0 kq l0 a1 x5_1 = some r) ∧ Aside0 (kq ≤ k) ∧ Drawn0 w w')
 case atStart => exact ⟨(0), (by first | rfl | (simp; done) | (simp [*]; done)), H', ⟨Nat.le_refl _⟩, by repeat (first | exact Drawn0.refl _ | apply Drawn0.step)⟩
 case round =>
  clear H'
  try clear p2
  obtain ⟨x5_1, rfl, HA, HK1, ⟨m1, rfl⟩⟩ := hrel
  cases gk with
  | zero => exact absurd HA.out (by simp [posserref03_Can.l0])
  | succ k1 =>
   have H := HA.out
   clear HA
   simp only [posserref03_Can.l0] at H
   by_cases c3 : x5_1 < (l0.length : Int)
   ·rw [if_pos c3] at H
    have c3b0 : decide (x5_1 < (l0.length : Int)) = true := decide_eq_true c3
    clear c3
    by_cases c4 : 0 ≤ x5_1
    ·rw [if_pos c4] at H
     have c4b0 : decide (0 ≤ x5_1) = true := decide_eq_true c4
     clear c4
     by_cases c5 : (Go.bits .and .i64 (rd l0 x5_1) a1) = a1
     ·rw [if_pos c5] at H
      have c5b0 : ((Go.bits .and .i64 (rd l0 x5_1) a1) == a1) = true := beq_iff_eq.mpr c5
      have c5b1 : ((Go.bits .and .i64 (rd l0 x5_1) a1) != a1) = false := bne_eq_false_iff_eq.mpr c5
      clear c5
      obtain rfl := Option.some.inj H
      have p285 : 0 ≤ (x5_1 : Int) := of_decide_eq_true (by first | (with_reducible assumption) | assumption)
      have q285 : x5_1 < (l0.length : Int) := of_decide_eq_true (by first | (with_reducible assumption) | assumption)
      obtain ⟨ad285, e285, hx285_0⟩ := Kd.at_int HR0.out x5_1 p285 q285
      cases e285
      replace p285 := eq_true p285
      replace q285 := eq_true q285
      go_wp2
      go_ret
      exact ⟨by first | rfl | (simp; done) | (simp [*]; done), by repeat (first | exact Drawn0.refl _ | apply Drawn0.step)⟩
     ·rw [if_neg c5] at H
      have c5b0 : ((Go.bits .and .i64 (rd l0 x5_1) a1) == a1) = false := beq_eq_false_iff_ne.mpr c5
      have c5b1 : ((Go.bits .and .i64 (rd l0 x5_1) a1) != a1) = true := bne_iff_ne.mpr c5
      have H' := Aside0.mk H
      clear H
      have p285 : 0 ≤ (x5_1 : Int) := of_decide_eq_true (by first | (with_reducible assumption) | assumption)
      have q285 : x5_1 < (l0.length : Int) := of_decide_eq_true (by first | (with_reducible assumption) | assumption)
      obtain ⟨ad285, e285, hx285_0⟩ := Kd.at_int HR0.out x5_1 p285 q285
      cases e285
      replace p285 := eq_true p285
      replace q285 := eq_true q285
      go_wp2
      go_roundg k1
      case measure => have := HK1.out; omega
      case rel => exact ⟨(wrap64 (x5_1 + 1)), (by first | rfl | (simp; done) | (simp [*]; done)), H', ⟨by have := HK1.out; omega⟩, by repeat (first | exact Drawn0.refl _ | apply Drawn0.step)⟩
    ·rw [if_neg c4] at H
     exact absurd H (by simp)
   ·rw [if_neg c3] at H
    have c3b0 : decide (x5_1 < (l0.length : Int)) = false := decide_eq_false c3
    clear c3
    obtain rfl := Option.some.inj H
    go_wp2
    go_ret
    exact ⟨by first | rfl | (simp; done) | (simp [*]; done), by repeat (first | exact Drawn0.refl _ | apply Drawn0.step)⟩
end Go.Proofs.Ytnbbbeghgomnoaa.X
namespace Go.Proofs.Ytnbbbeghgomnoaa.X
open Go.RowKit Go.Proofs.YtnbbbeghgomnoaaW.PrintWords Go.Proofs.YtnbbbeghgomnoaaW.PrintLast Go.Proofs.YtnbbbeghgomnoaaW.PrintMore
attribute [local go_sem] max2_int min2_int max_two min_two max_three min_three max_four min_four
set_option linter.unusedVariables false
set_option linter.unusedSimpArgs false
set_option maxHeartbeats 8000000 in
set_option maxRecDepth 100000 in
theorem posserref03_Bits.calls (k : Nat) (a0 : Int) (r : List Int) (w : World) (h : posserref03_Bits.f k a0 = some r) :
  Calls Try.prog 48 #[.int .i64 a0] w fun e w' => ∃ v0_ : Value, e = .returned (v0_) ∧ Kd.R (Kd.int .i64) 3 w' w.heap.size (fun _ => True) v0_ r ∧ Below w.heap.size w w' := by
 have HB := Aside0.mk (Below.refl w.heap.size w)
 have H : (posserref03_Bits.l0 k a0 ([] : List Int) 0) = some r := h
 clear h
 have H' := Aside0.mk H
 clear H
 go_enter Try.func48, Try.ntmps48
 go_wp2
 go_loopg [3, 4] k (fun kq v3 v4 w' => ∃ (x3_1 : List Int) (x4_1 : Int), v4 = .int .i64 x4_1 ∧ Aside0 (posserref03_Bits.l0 kq a0 x3_1 x4_1 = some r) ∧ Aside0 (kq ≤ k) ∧ Aside0 (Kd.R (Kd.int .i64) 3 w' w.heap.size (fun _ => True) v3 x3_1) ∧ Aside0 (Below w.heap.size w w'))
 case atStart => exact ⟨(([] : List Int)), (0), (by first | rfl | (simp; done) | (simp [*]; done)), H', ⟨Nat.le_refl _⟩, ⟨by first | exact Kd.R_nil _ _ _ _ _ | exact Kd.N_nil _ _ _ _ _ | exact Kd.V_nil _ _ _ _ _ | exact Kd.Q_nil _ _ _ _ _ | exact Kd.S_nil _ _ _ _ _⟩, ⟨(sbe HB)⟩⟩
 case round =>
  clear H'
  obtain ⟨x3_1, x4_1, rfl, HA, HK1, HO_3, HB⟩ := hrel
  cases gk with
  | zero => exact absurd HA.out (by simp [posserref03_Bits.l0])
  | succ k1 =>
   have H := HA.out
   clear HA
   simp only [posserref03_Bits.l0] at H
   obtain ⟨ji2, hji2⟩ : ∃ j_ : Int, (IntKind.u64.wrap (x4_1)) = j_ := ⟨_, rfl⟩
   replace H : (if 0 ≤ (ji2) then (if (shr .i64 a0 (ji2)) > 0 then (if (Int.tmod (shr .i64 a0 (ji2)) 2) = 1 then (if x3_1.length < 17592186044416 then (posserref03_Bits.l0 k1 a0 (x3_1 ++ [x4_1]) (wrap64 (x4_1 + 1))) else (none)) else (posserref03_Bits.l0 k1 a0 x3_1 (wrap64 (x4_1 + 1)))) else (some x3_1)) else (none)) = some r := by first | (rw [hji2] at H; exact H) | (simp only [hji2] at H ⊢; exact H)
   by_cases c3 : 0 ≤ (ji2)
   ·rw [if_pos c3] at H
    have c3b0 := eq_true c3
    have c3b1 : decide (0 ≤ (ji2)) = true := decide_eq_true c3
    clear c3
    obtain ⟨ji4, hji4⟩ : ∃ j_ : Int, (shr .i64 a0 (ji2)) = j_ := ⟨_, rfl⟩
    replace H : (if (ji4) > 0 then (if (Int.tmod (ji4) 2) = 1 then (if x3_1.length < 17592186044416 then (posserref03_Bits.l0 k1 a0 (x3_1 ++ [x4_1]) (wrap64 (x4_1 + 1))) else (none)) else (posserref03_Bits.l0 k1 a0 x3_1 (wrap64 (x4_1 + 1)))) else (some x3_1)) = some r := by first | (rw [hji4] at H; exact H) | (simp only [hji4] at H ⊢; exact H)
    have hji4_ : (a0 / 2 ^ min (ji2).toNat 64) = ji4 := hji4
    have hji4z : (ji2) ≤ 64 → (a0 / 2 ^ (ji2).toNat) = ji4 := shr_small hji4
    by_cases c5 : (ji4) > 0
    ·rw [if_pos c5] at H
     have c5b0 : decide (0 < (ji4)) = true := decide_eq_true c5
     clear c5
     have c6b0 := eq_true (of_decide_eq_true (by first | (with_reducible assumption) | assumption) : 0 ≤ (ji2))
     by_cases c7 : (Int.tmod (ji4) 2) = 1
     ·rw [if_pos c7] at H
      have c7b0 : ((Int.tmod (ji4) 2) == 1) = true := beq_iff_eq.mpr c7
      have c7b1 : ((Int.tmod (ji4) 2) != 1) = false := bne_eq_false_iff_eq.mpr c7
      clear c7
      by_cases c8 : x3_1.length < 17592186044416
      ·rw [if_pos c8] at H
       have LMc8 := Aside0.mk c8
       clear c8
       obtain ⟨y133, hy133⟩ : ∃ y_ : List Int, y_ = (x3_1 ++ [x4_1]) := ⟨_, rfl⟩
       replace H : (posserref03_Bits.l0 k1 a0 y133 (wrap64 (x4_1 + 1))) = some r := by first | (rw [hy133]; with_reducible exact H) | (have H2_ := (Option.bind_some _ _).symm.trans H; rw [hy133]; with_reducible exact H2_) | (have H2_ := (Option.bind_some _ _).symm.trans H; with_reducible exact H2_) | with_reducible exact H | (rw [hy133]; exact H) | exact H
       have Ny133 := Aside0.mk hy133
       clear hy133
       have H' := Aside0.mk H
       clear H
       go_wp2_with (first | ((with_reducible refine gate_builtin (b := .append) (xs := #[.tmp 18, .tmp 20]) rfl ?_); at_builtin; refine Kd.R_append (Kd.int .i64) (w0 := w) w.heap.size rfl (.tmp 18) (.tmp 20) 39 3 (.int .i64 0) 8 rfl Try.underlying39 info3 rfl (by decide) (by omega) u3 x3_1 x4_1 [.int .i64 x4_1] (fun _ => True) (fun _ => False) rfl rfl ?aP (fun _ hk => hk.elim) ?aF ?aO ?aB ?aS ?aL ?_; (case aP => exact rfl); (case aB => exact (sbe HB)); (case aF => exact (fun _ _ => trivial)); (case aO => exact (sR HO_3)); (case aS => exact (below_size (sbe HB))); (case aL => have := LMc8.out; omega); intro v134 w9 ho hb hg hat; rw [← Ny133.out] at ho; have n0_ := Aside0.mk (hb); have n1_ := Aside0.mk (ho); clear HB; clear HO_3; have HB := n0_; have HO135 := n1_; clear n0_ n1_; clear ho hb hg hat))
       go_roundg k1
       case measure => have := HK1.out; omega
       case rel => exact ⟨(y133), (wrap64 (x4_1 + 1)), (by first | rfl | (simp; done) | (simp [*]; done)), H', ⟨by have := HK1.out; omega⟩, ⟨by (with_reducible repeat (first | apply Kd.R_alloc | apply Kd.R_drewN | apply Kd.R_drew)); exact HO135.out⟩, ⟨(sbe HB)⟩⟩
      ·rw [if_neg c8] at H
       exact absurd H (by simp)
     ·rw [if_neg c7] at H
      have c7b0 : ((Int.tmod (ji4) 2) == 1) = false := beq_eq_false_iff_ne.mpr c7
      have c7b1 : ((Int.tmod (ji4) 2) != 1) = true := bne_iff_ne.mpr c7
      have H' := Aside0.mk H
      clear H
      go_wp2
      go_roundg k1
      case measure => have := HK1.out; omega
      case rel => exact ⟨(x3_1), (wrap64 (x4_1 + 1)), (by first | rfl | (simp; done) | (simp [*]; done)), H', ⟨by have := HK1.out; omega⟩, ⟨by (with_reducible repeat (first | apply Kd.R_alloc | apply Kd.R_drewN | apply Kd.R_drew)); exact HO_3.out⟩, ⟨(sbe HB)⟩⟩
    ·rw [if_neg c5] at H
     have c5b0 : decide (0 < (ji4)) = false := decide_eq_false c5
     clear c5
     obtain rfl := Option.some.inj H
     go_wp2
     go_ret
     exact ⟨_, by first | rfl | (simp [errW_none, errW_some] <;> rfl) | (simp only [← hji2, ← hji4]; first | rfl | (simp [errW_none, errW_some] <;> rfl)) | (simp [*, errW_none, errW_some] <;> rfl), by (with_reducible repeat (first | apply Kd.R_alloc | apply Kd.R_drewN | apply Kd.R_drew)); exact HO_3.out, (sbe HB)⟩
   ·rw [if_neg c3] at H
    exact absurd H (by simp)
end Go.Proofs.Ytnbbbeghgomnoaa.X
namespace Go.Proofs.Ytnbbbeghgomnoaa.X
open Go.RowKit Go.Proofs.YtnbbbeghgomnoaaW.PrintWords Go.Proofs.YtnbbbeghgomnoaaW.PrintLast Go.Proofs.YtnbbbeghgomnoaaW.PrintMore
attribute [local go_sem] max2_int min2_int max_two min_two max_three min_three max_four min_four
set_option linter.unusedVariables false
set_option linter.unusedSimpArgs false
set_option maxHeartbeats 8000000 in
set_option maxRecDepth 100000 in
theorem posserref03_Full.calls (A0_0 : Option Addr) (c0_0 : Nat) (l0_0 : List (S85)) (A0_1 : Option Addr) (c0_1 : Nat) (l0_1 : List (S71)) (a0_2 : Int) (r : Int) (w : World) (hr0_0 : Kd.C k85 w A0_0 l0_0.length l0_0) (hc0_0 : l0_0.length ≤ c0_0) (hr0_1 : Kd.C k71 w A0_1 l0_1.length l0_1) (hc0_1 : l0_1.length ≤ c0_1) (h : posserref03_Full.f l0_0 l0_1 a0_2 = some r) :
  Calls Try.prog 58 #[.agg #[.slice A0_0 l0_0.length c0_0, .slice A0_1 l0_1.length c0_1, .int .i64 a0_2]] w fun e w' => e = .returned (.int .i64 r) ∧ Below w.heap.size w w' := by
 have hu25 := Try.underlying25
 have HR0_0 := Aside0.mk hr0_0
 have HC0_0 := Aside0.mk hc0_0
 clear hr0_0 hc0_0
 have HR0_1 := Aside0.mk hr0_1
 have HC0_1 := Aside0.mk hc0_1
 clear hr0_1 hc0_1
 have HB := Aside0.mk (Below.refl w.heap.size w)
 have H : (if 0 ≤ (IntKind.u64.wrap ((l0_0.length : Int))) then (some (wrap64 ((shl .i64 1 (IntKind.u64.wrap ((l0_0.length : Int)))) - 1))) else (none)) = some r := h
 clear h
 obtain ⟨ji2, hji2⟩ : ∃ j_ : Int, (IntKind.u64.wrap ((l0_0.length : Int))) = j_ := ⟨_, rfl⟩
 replace H : (if 0 ≤ (ji2) then (some (wrap64 ((shl .i64 1 (ji2)) - 1))) else (none)) = some r := by first | (rw [hji2] at H; exact H) | (simp only [hji2] at H ⊢; exact H)
 by_cases c3 : 0 ≤ (ji2)
 ·rw [if_pos c3] at H
  have c3b0 := eq_true c3
  have c3b1 : decide (0 ≤ (ji2)) = true := decide_eq_true c3
  clear c3
  obtain ⟨ji4, hji4⟩ : ∃ j_ : Int, (shl .i64 1 (ji2)) = j_ := ⟨_, rfl⟩
  replace H : (some (wrap64 ((ji4) - 1))) = some r := by first | (rw [hji4] at H; exact H) | (simp only [hji4] at H ⊢; exact H)
  have hji4_ : (IntKind.i64.wrap (1 * 2 ^ min (ji2).toNat 64)) = ji4 := hji4
  have hji4z : (ji2) ≤ 64 → (IntKind.i64.wrap (1 * 2 ^ (ji2).toNat)) = ji4 := shl_small hji4
  have hji4u : (IntKind.i64.wrap (2 ^ min (ji2).toNat 64)) = ji4 := by have h_ := hji4_; rw [Int.one_mul] at h_; exact h_
  have hji4v : (ji2) ≤ 64 → (IntKind.i64.wrap (2 ^ (ji2).toNat)) = ji4 := fun hle_ => by have h_ := hji4z hle_; rw [Int.one_mul] at h_; exact h_
  have hji4y : (wrap64 (1 * 2 ^ min (ji2).toNat 64)) = ji4 := (i64_w _).symm.trans hji4_
  have hji4x : (ji2) ≤ 64 → (wrap64 (1 * 2 ^ (ji2).toNat)) = ji4 := fun h_ => (i64_w _).symm.trans (hji4z h_)
  obtain rfl := Option.some.inj H
  go_enter Try.func58, Try.ntmps58
  go_wp2_with (first | ((with_reducible refine gate_dst (N := 1) rfl ?_); refine sbox (N := 1) #[.slice A0_0 l0_0.length c0_0, .slice A0_1 l0_1.length c0_1, .int .i64 a0_2] 25 ?_; intro gb136 hg w5 hbox hb; have BK136 := Aside0.mk (hbox); have GW136 := Aside0.mk (sge hg HB : w.heap.size ≤ gb136); have GE136 := Aside0.mk (sge hg HB : w.heap.size ≤ gb136); replace HB := Aside0.mk (sbs HB hb); clear hb hbox hg; have hcz6_0 := sc 0 BK136; have hcz6_1 := sc 1 BK136; have hcz6_2 := sc 2 BK136; have hfz6_0 := blk_frozen BK136.out 0; have hfz6_1 := blk_frozen BK136.out 1; have hfz6_2 := blk_frozen BK136.out 2))
  go_ret
  exact ⟨by first | rfl | (simp [errW_none, errW_some] <;> rfl) | (simp only [← hji2, ← hji4]; first | rfl | (simp [errW_none, errW_some] <;> rfl)) | (simp [*, errW_none, errW_some] <;> rfl), (sbe1 HB GE136)⟩
 ·rw [if_neg c3] at H
  exact absurd H (by simp)
end Go.Proofs.Ytnbbbeghgomnoaa.X
namespace Go.Proofs.Ytnbbbeghgomnoaa.X
open Go.RowKit Go.Proofs.YtnbbbeghgomnoaaW.PrintWords Go.Proofs.YtnbbbeghgomnoaaW.PrintLast Go.Proofs.YtnbbbeghgomnoaaW.PrintMore
attribute [local go_sem] max2_int min2_int max_two min_two max_three min_three max_four min_four
set_option linter.unusedVariables false
set_option linter.unusedSimpArgs false
def posserref03_Leave.l0 : Nat → List Int → List Int → Int → List (S85) → List (S71) → Int → Option (List Int)
 | 0, _, _, _, _, _, _ => none
 | k + 1, x1, x5, x6, x287000, x287001, x287002 => (posserref03_Full.f x287000 x287001 x287002).bind fun t291 => (if x6 ≤ t291 then ((posserref03_Bits.f k x6).bind fun t292 => ((posserref03_Shorter.f k t292 x5).bind fun t295 => (if t295 = true then ((posserref03_Full.f x287000 x287001 x287002).bind fun t296 => ((posserref03_Can.f k x1 (Go.bits .andNot .i64 t296 x6)).bind fun t297 => (if t297 = true then (posserref03_Leave.l0 k x1 t292 (wrap64 (x6 + 1)) x287000 x287001 x287002) else (posserref03_Leave.l0 k x1 x5 (wrap64 (x6 + 1)) x287000 x287001 x287002)))) else (posserref03_Leave.l0 k x1 x5 (wrap64 (x6 + 1)) x287000 x287001 x287002)))) else (some x5))
def posserref03_Leave.f (k : Nat) (l0_0 : List (S85)) (l0_1 : List (S71)) (a0_2 : Int) (l1 : List Int) : Option (List Int) := (posserref03_Full.f l0_0 l0_1 a0_2).bind fun t287 => ((posserref03_Bits.f k t287).bind fun t288 => (posserref03_Leave.l0 k l1 t288 0 l0_0 l0_1 a0_2))
set_option maxHeartbeats 8000000 in
set_option maxRecDepth 100000 in
theorem posserref03_Leave.calls (k : Nat) (A0_0 : Option Addr) (c0_0 : Nat) (l0_0 : List (S85)) (A0_1 : Option Addr) (c0_1 : Nat) (l0_1 : List (S71)) (a0_2 : Int) (A1 : Option Addr) (c1 : Nat) (l1 : List Int) (r : List Int) (w : World) (hr0_0 : Kd.C k85 w A0_0 l0_0.length l0_0) (hc0_0 : l0_0.length ≤ c0_0) (hr0_1 : Kd.C k71 w A0_1 l0_1.length l0_1) (hc0_1 : l0_1.length ≤ c0_1) (hr1 : Kd.C (Kd.int .i64) w A1 l1.length l1) (hc1 : l1.length ≤ c1) (h : posserref03_Leave.f k l0_0 l0_1 a0_2 l1 = some r) :
  Calls Try.prog 35 #[.agg #[.slice A0_0 l0_0.length c0_0, .slice A0_1 l0_1.length c0_1, .int .i64 a0_2], .slice A1 l1.length c1] w fun e w' => ∃ v0_ : Value, e = .returned (v0_) ∧ Kd.R (Kd.int .i64) 3 w' w.heap.size (fun _ => True) v0_ r ∧ Below w.heap.size w w' := by
 have hu25 := Try.underlying25
 have HR0_0 := Aside0.mk hr0_0
 have HC0_0 := Aside0.mk hc0_0
 clear hr0_0 hc0_0
 have HR0_1 := Aside0.mk hr0_1
 have HC0_1 := Aside0.mk hc0_1
 clear hr0_1 hc0_1
 have HR1 := Aside0.mk hr1
 have HC1 := Aside0.mk hc1
 clear hr1 hc1
 have HB := Aside0.mk (Below.refl w.heap.size w)
 have H : ((posserref03_Full.f l0_0 l0_1 a0_2).bind fun t287 => ((posserref03_Bits.f k t287).bind fun t288 => (posserref03_Leave.l0 k l1 t288 0 l0_0 l0_1 a0_2))) = some r := h
 clear h
 replace H := Option.bind_eq_some_iff.mp H
 obtain ⟨t287, A30, H⟩ := H
 replace H : ((posserref03_Bits.f k t287).bind fun t288 => (posserref03_Leave.l0 k l1 t288 0 l0_0 l0_1 a0_2)) = some r := H
 have A3 := Aside0.mk A30
 clear A30
 replace H := Option.bind_eq_some_iff.mp H
 obtain ⟨t288, A40, H⟩ := H
 replace H : (posserref03_Leave.l0 k l1 t288 0 l0_0 l0_1 a0_2) = some r := H
 have A4 := Aside0.mk A40
 clear A40
 have H' := Aside0.mk H
 clear H
 go_enter Try.func35, Try.ntmps35
 go_wp2_with (first | ((with_reducible refine gate_dst (N := 2) rfl ?_); refine sbox (N := 2) #[.slice A0_0 l0_0.length c0_0, .slice A0_1 l0_1.length c0_1, .int .i64 a0_2] 25 ?_; intro gb286 hg w5 hbox hb; have BK286 := Aside0.mk (hbox); have GW286 := Aside0.mk (sge hg HB : w.heap.size ≤ gb286); have GE286 := Aside0.mk (sge hg HB : w.heap.size ≤ gb286); replace HB := Aside0.mk (sbs HB hb); clear hb hbox hg; have hcz6_0 := sc 0 BK286; have hcz6_1 := sc 1 BK286; have hcz6_2 := sc 2 BK286; have hfz6_0 := blk_frozen BK286.out 0; have hfz6_1 := blk_frozen BK286.out 1; have hfz6_2 := blk_frozen BK286.out 2) | ((with_reducible refine gate_callee (f := 58) rfl ?_); refine goesL_ (some 9) rfl rfl Try.func58 (by kernel_rfl) rfl #[.agg #[.slice A0_0 l0_0.length c0_0, .slice A0_1 l0_1.length c0_1, .int .i64 a0_2]] rfl (by (try simp only [List.map_toArray, List.map_cons, List.map_nil]); first | done | rfl | (simp only [List.length_drop, List.length_take]; rfl)) ?_; (with_reducible refine (posserref03_Full.calls _ _ l0_0 _ _ l0_1 a0_2 t287 _ ?side1 ?side2 ?side3 ?side4 A3.out).mono ?_); (case side1 => exact sCb HR0_0 HB); (case side2 => exact HC0_0.out); (case side3 => exact sCb HR0_1 HB); (case side4 => exact HC0_1.out); rintro e w7 ⟨rfl, hb⟩; refine ⟨_, rfl, ?_⟩; replace BK286 := Aside0.mk (sbb BK286 hb); replace HB := Aside0.mk (sbs1 HB GE286 hb); (try clear hb); (try clear hb2); (try clear hk); (try clear hi)) | ((with_reducible refine gate_callee (f := 48) rfl ?_); refine goesL_ (some 10) rfl rfl Try.func48 (by kernel_rfl) rfl #[.int .i64 t287] rfl (by (try simp only [List.map_toArray, List.map_cons, List.map_nil]); first | done | rfl | (simp only [List.length_drop, List.length_take]; rfl)) ?_; (with_reducible refine (posserref03_Bits.calls k t287 t288 _ A4.out).mono ?_); rintro e w8 ⟨v289, rfl, ho0, hb⟩; refine ⟨_, rfl, ?_⟩; have HO290 := Aside0.mk (Kd.R_lower ho0 (below_size (sbe1 HB GE286))); replace BK286 := Aside0.mk (sbb BK286 hb); replace HB := Aside0.mk (sbs1 HB GE286 hb); (try clear hb); (try clear hb2); (try clear hk); (try clear hi); (try clear ho0)))
 go_loopg [5, 6] k (fun kq v5 v6 w' => ∃ (x5_1 : List Int) (x6_1 : Int), v6 = .int .i64 x6_1 ∧ Aside0 (posserref03_Leave.l0 kq l1 x5_1 x6_1 l0_0 l0_1 a0_2 = some r) ∧ Aside0 (kq ≤ k) ∧ Aside0 (Kd.R (Kd.int .i64) 3 w' w.heap.size (fun _ => True) v5 x5_1) ∧ Aside0 (w'.heap[gb286]? = some (.cells #[(.slice A0_0 l0_0.length c0_0), (.slice A0_1 l0_1.length c0_1), .int .i64 a0_2] 25 (0, 0))) ∧ Aside0 (Below w.heap.size w w'))
 case atStart => exact ⟨(t288), (0), (by first | rfl | (simp; done) | (simp [*]; done)), H', ⟨Nat.le_refl _⟩, ⟨by (with_reducible repeat (first | apply Kd.R_alloc | apply Kd.R_drewN | apply Kd.R_drew)); exact HO290.out⟩, ⟨by (with_reducible repeat (first | refine blk_drewN ?_ _ | refine blk_drew ?_ | refine blk_alloc ?_ _)); exact BK286.out⟩, ⟨(sbe1 HB GE286)⟩⟩
 case round =>
  clear H'
  try clear c1
  try clear p2
  try clear c3
  try clear c4
  try clear c5
  try clear hcz6_0
  try clear hcz6_1
  try clear hcz6_2
  try clear hfz6_0
  try clear hfz6_1
  try clear hfz6_2
  obtain ⟨x5_1, x6_1, rfl, HA, HK1, HO_5, BK286, HB⟩ := hrel
  cases gk with
  | zero => exact absurd HA.out (by simp [posserref03_Leave.l0])
  | succ k1 =>
   have H := HA.out
   clear HA
   simp only [posserref03_Leave.l0] at H
   replace H := Option.bind_eq_some_iff.mp H
   obtain ⟨t291, A90, H⟩ := H
   replace H : (if x6_1 ≤ t291 then ((posserref03_Bits.f k1 x6_1).bind fun t292 => ((posserref03_Shorter.f k1 t292 x5_1).bind fun t295 => (if t295 = true then ((posserref03_Full.f l0_0 l0_1 a0_2).bind fun t296 => ((posserref03_Can.f k1 l1 (Go.bits .andNot .i64 t296 x6_1)).bind fun t297 => (if t297 = true then (posserref03_Leave.l0 k1 l1 t292 (wrap64 (x6_1 + 1)) l0_0 l0_1 a0_2) else (posserref03_Leave.l0 k1 l1 x5_1 (wrap64 (x6_1 + 1)) l0_0 l0_1 a0_2)))) else (posserref03_Leave.l0 k1 l1 x5_1 (wrap64 (x6_1 + 1)) l0_0 l0_1 a0_2)))) else (some x5_1)) = some r := H
   have A9 := Aside0.mk A90
   clear A90
   by_cases c10 : x6_1 ≤ t291
   ·rw [if_pos c10] at H
    have c10b0 : decide (x6_1 ≤ t291) = true := decide_eq_true c10
    clear c10
    replace H := Option.bind_eq_some_iff.mp H
    obtain ⟨t292, A110, H⟩ := H
    replace H : ((posserref03_Shorter.f k1 t292 x5_1).bind fun t295 => (if t295 = true then ((posserref03_Full.f l0_0 l0_1 a0_2).bind fun t296 => ((posserref03_Can.f k1 l1 (Go.bits .andNot .i64 t296 x6_1)).bind fun t297 => (if t297 = true then (posserref03_Leave.l0 k1 l1 t292 (wrap64 (x6_1 + 1)) l0_0 l0_1 a0_2) else (posserref03_Leave.l0 k1 l1 x5_1 (wrap64 (x6_1 + 1)) l0_0 l0_1 a0_2)))) else (posserref03_Leave.l0 k1 l1 x5_1 (wrap64 (x6_1 + 1)) l0_0 l0_1 a0_2))) = some r := H
    have A11 := Aside0.mk A110
    clear A110
    replace H := Option.bind_eq_some_iff.mp H
    obtain ⟨t295, A120, H⟩ := H
    replace H : (if t295 = true then ((posserref03_Full.f l0_0 l0_1 a0_2).bind fun t296 => ((posserref03_Can.f k1 l1 (Go.bits .andNot .i64 t296 x6_1)).bind fun t297 => (if t297 = true then (posserref03_Leave.l0 k1 l1 t292 (wrap64 (x6_1 + 1)) l0_0 l0_1 a0_2) else (posserref03_Leave.l0 k1 l1 x5_1 (wrap64 (x6_1 + 1)) l0_0 l0_1 a0_2)))) else (posserref03_Leave.l0 k1 l1 x5_1 (wrap64 (x6_1 + 1)) l0_0 l0_1 a0_2)) = some r := H
    have A12 := Aside0.mk A120
    clear A120
    by_cases c13 : t295 = true
    ·subst c13
     have H1 : ((posserref03_Full.f l0_0 l0_1 a0_2).bind fun t296 => ((posserref03_Can.f k1 l1 (Go.bits .andNot .i64 t296 x6_1)).bind fun t297 => (if t297 = true then (posserref03_Leave.l0 k1 l1 t292 (wrap64 (x6_1 + 1)) l0_0 l0_1 a0_2) else (posserref03_Leave.l0 k1 l1 x5_1 (wrap64 (x6_1 + 1)) l0_0 l0_1 a0_2)))) = some r := by rw [if_pos rfl] at H; exact H
     clear H
     have H := H1
     clear H1
     replace H := Option.bind_eq_some_iff.mp H
     obtain ⟨t296, A140, H⟩ := H
     replace H : ((posserref03_Can.f k1 l1 (Go.bits .andNot .i64 t296 x6_1)).bind fun t297 => (if t297 = true then (posserref03_Leave.l0 k1 l1 t292 (wrap64 (x6_1 + 1)) l0_0 l0_1 a0_2) else (posserref03_Leave.l0 k1 l1 x5_1 (wrap64 (x6_1 + 1)) l0_0 l0_1 a0_2))) = some r := H
     have A14 := Aside0.mk A140
     clear A140
     replace H := Option.bind_eq_some_iff.mp H
     obtain ⟨t297, A150, H⟩ := H
     replace H : (if t297 = true then (posserref03_Leave.l0 k1 l1 t292 (wrap64 (x6_1 + 1)) l0_0 l0_1 a0_2) else (posserref03_Leave.l0 k1 l1 x5_1 (wrap64 (x6_1 + 1)) l0_0 l0_1 a0_2)) = some r := H
     have A15 := Aside0.mk A150
     clear A150
     by_cases c16 : t297 = true
     ·subst c16
      have H1 : (posserref03_Leave.l0 k1 l1 t292 (wrap64 (x6_1 + 1)) l0_0 l0_1 a0_2) = some r := by rw [if_pos rfl] at H; exact H
      clear H
      have H := H1
      clear H1
      have H' := Aside0.mk H
      clear H
      have hcz17_0 := sc 0 BK286
      have hcz17_1 := sc 1 BK286
      have hcz17_2 := sc 2 BK286
      have hfz17_0 := blk_frozen BK286.out 0
      have hfz17_1 := blk_frozen BK286.out 1
      have hfz17_2 := blk_frozen BK286.out 2
      go_wp2_with (first | ((with_reducible refine gate_callee (f := 58) rfl ?_); refine goesL_ (some 13) rfl rfl Try.func58 (by kernel_rfl) rfl #[.agg #[.slice A0_0 l0_0.length c0_0, .slice A0_1 l0_1.length c0_1, .int .i64 a0_2]] rfl (by (try simp only [List.map_toArray, List.map_cons, List.map_nil]); first | done | rfl | (simp only [List.length_drop, List.length_take]; rfl)) ?_; (with_reducible refine (posserref03_Full.calls _ _ l0_0 _ _ l0_1 a0_2 t291 _ ?side1 ?side2 ?side3 ?side4 A9.out).mono ?_); (case side1 => exact sCb HR0_0 HB); (case side2 => exact HC0_0.out); (case side3 => exact sCb HR0_1 HB); (case side4 => exact HC0_1.out); rintro e w18 ⟨rfl, hb⟩; refine ⟨_, rfl, ?_⟩; replace HO_5 := Aside0.mk (Kd.R_below (sR HO_5) hb); replace BK286 := Aside0.mk (sbb BK286 hb); replace HB := Aside0.mk (sbs1 HB GE286 hb); (try clear hb); (try clear hb2); (try clear hk); (try clear hi)) | ((with_reducible refine gate_callee (f := 48) rfl ?_); refine goesL_ (some 18) rfl rfl Try.func48 (by kernel_rfl) rfl #[.int .i64 x6_1] rfl (by (try simp only [List.map_toArray, List.map_cons, List.map_nil]); first | done | rfl | (simp only [List.length_drop, List.length_take]; rfl)) ?_; (with_reducible refine (posserref03_Bits.calls k1 x6_1 t292 _ A11.out).mono ?_); rintro e w19 ⟨v293, rfl, ho0, hb⟩; refine ⟨_, rfl, ?_⟩; have HO294 := Aside0.mk (Kd.R_lower (Kd.R_new' ho0 (Kd.R_lt (sR HO_5))) (below_size (sbe1 HB GE286))); replace HO_5 := Aside0.mk (Kd.R_elder' (sR HO_5) (Kd.R_base ho0) hb); replace BK286 := Aside0.mk (sbb BK286 hb); replace HB := Aside0.mk (sbs1 HB GE286 hb); (try clear hb); (try clear hb2); (try clear hk); (try clear hi); (try clear ho0); obtain ⟨Ao20, co20, eo20⟩ := Kd.R_slice HO294.out; subst eo20; obtain ⟨Ao21, co21, eo21⟩ := Kd.R_slice HO_5.out; subst eo21) | ((with_reducible refine gate_callee (f := 59) rfl ?_); refine goesL_ (some 21) rfl rfl Try.func59 (by kernel_rfl) rfl #[.slice Ao20 t292.length co20, .slice Ao21 x5_1.length co21] rfl (by (try simp only [List.map_toArray, List.map_cons, List.map_nil]); first | done | rfl | (simp only [List.length_drop, List.length_take]; rfl)) ?_; (with_reducible refine (posserref03_Shorter.calls k1 _ _ t292 _ _ x5_1 true _ ?side1 ?side2 ?side3 ?side4 A12.out).mono ?_); (case side1 => repeat (first | exact (Kd.R_reads' HO294.out).2.2 | (with_reducible refine Kd.C_alloc ?_ _) | (with_reducible refine Kd.C_drewN ?_ _) | (with_reducible refine Kd.C_drew ?_))); (case side2 => exact (Kd.R_reads' HO294.out).2.1); (case side3 => repeat (first | exact (Kd.R_reads' HO_5.out).2.2 | (with_reducible refine Kd.C_alloc ?_ _) | (with_reducible refine Kd.C_drewN ?_ _) | (with_reducible refine Kd.C_drew ?_))); (case side4 => exact (Kd.R_reads' HO_5.out).2.1); rintro e w' ⟨rfl, ⟨nd, rfl⟩⟩; refine ⟨_, rfl, ?_⟩; have hcz22_0 := sc 0 BK286; have hcz22_1 := sc 1 BK286; have hcz22_2 := sc 2 BK286; have hfz22_0 := blk_frozen BK286.out 0; have hfz22_1 := blk_frozen BK286.out 1; have hfz22_2 := blk_frozen BK286.out 2) | (go_at_call 58; (with_reducible refine (posserref03_Full.calls _ _ l0_0 _ _ l0_1 a0_2 t296 _ ?side1 ?side2 ?side3 ?side4 A14.out).mono ?_); (case side1 => exact sCb1 HR0_0 HB GE286); (case side2 => exact HC0_0.out); (case side3 => exact sCb1 HR0_1 HB GE286); (case side4 => exact HC0_1.out); rintro e w23 ⟨rfl, hb⟩; replace HO_5 := Aside0.mk (Kd.R_below (sR HO_5) hb); replace HO294 := Aside0.mk (Kd.R_below (sR HO294) hb); replace BK286 := Aside0.mk (sbb BK286 hb); replace HB := Aside0.mk (sbs1 HB GE286 hb); (try clear hb); (try clear hb2); (try clear hk); (try clear hi)) | (go_at_call 79; (with_reducible refine (posserref03_Can.calls k1 _ _ l1 (Go.bits .andNot .i64 t296 x6_1) true _ ?side1 ?side2 A15.out).mono ?_); (case side1 => exact sCb HR1 HB); (case side2 => exact HC1.out); rintro e w' ⟨rfl, ⟨nd, rfl⟩⟩))
      go_roundg k1
      case measure => have := HK1.out; omega
      case rel => exact ⟨(t292), (wrap64 (x6_1 + 1)), (by first | rfl | (simp; done) | (simp [*]; done)), H', ⟨by have := HK1.out; omega⟩, ⟨by (with_reducible repeat (first | apply Kd.R_alloc | apply Kd.R_drewN | apply Kd.R_drew)); exact Kd.R_mono HO294.out (fun _ hk => trivial)⟩, ⟨by (with_reducible repeat (first | refine blk_drewN ?_ _ | refine blk_drew ?_ | refine blk_alloc ?_ _)); exact BK286.out⟩, ⟨(sbe1 HB GE286)⟩⟩
     ·replace c16 := Bool.eq_false_iff.mpr c16
      subst c16
      have H1 : (posserref03_Leave.l0 k1 l1 x5_1 (wrap64 (x6_1 + 1)) l0_0 l0_1 a0_2) = some r := by rw [if_neg (show ¬ (false = true) by decide)] at H; exact H
      clear H
      have H := H1
      clear H1
      have H' := Aside0.mk H
      clear H
      have hcz24_0 := sc 0 BK286
      have hcz24_1 := sc 1 BK286
      have hcz24_2 := sc 2 BK286
      have hfz24_0 := blk_frozen BK286.out 0
      have hfz24_1 := blk_frozen BK286.out 1
      have hfz24_2 := blk_frozen BK286.out 2
      go_wp2_with (first | ((with_reducible refine gate_callee (f := 58) rfl ?_); refine goesL_ (some 13) rfl rfl Try.func58 (by kernel_rfl) rfl #[.agg #[.slice A0_0 l0_0.length c0_0, .slice A0_1 l0_1.length c0_1, .int .i64 a0_2]] rfl (by (try simp only [List.map_toArray, List.map_cons, List.map_nil]); first | done | rfl | (simp only [List.length_drop, List.length_take]; rfl)) ?_; (with_reducible refine (posserref03_Full.calls _ _ l0_0 _ _ l0_1 a0_2 t291 _ ?side1 ?side2 ?side3 ?side4 A9.out).mono ?_); (case side1 => exact sCb HR0_0 HB); (case side2 => exact HC0_0.out); (case side3 => exact sCb HR0_1 HB); (case side4 => exact HC0_1.out); rintro e w25 ⟨rfl, hb⟩; refine ⟨_, rfl, ?_⟩; replace HO_5 := Aside0.mk (Kd.R_below (sR HO_5) hb); replace BK286 := Aside0.mk (sbb BK286 hb); replace HB := Aside0.mk (sbs1 HB GE286 hb); (try clear hb); (try clear hb2); (try clear hk); (try clear hi)) | ((with_reducible refine gate_callee (f := 48) rfl ?_); refine goesL_ (some 18) rfl rfl Try.func48 (by kernel_rfl) rfl #[.int .i64 x6_1] rfl (by (try simp only [List.map_toArray, List.map_cons, List.map_nil]); first | done | rfl | (simp only [List.length_drop, List.length_take]; rfl)) ?_; (with_reducible refine (posserref03_Bits.calls k1 x6_1 t292 _ A11.out).mono ?_); rintro e w26 ⟨v293, rfl, ho0, hb⟩; refine ⟨_, rfl, ?_⟩; have HO294 := Aside0.mk (Kd.R_lower (Kd.R_new' ho0 (Kd.R_lt (sR HO_5))) (below_size (sbe1 HB GE286))); replace HO_5 := Aside0.mk (Kd.R_elder' (sR HO_5) (Kd.R_base ho0) hb); replace BK286 := Aside0.mk (sbb BK286 hb); replace HB := Aside0.mk (sbs1 HB GE286 hb); (try clear hb); (try clear hb2); (try clear hk); (try clear hi); (try clear ho0); obtain ⟨Ao27, co27, eo27⟩ := Kd.R_slice HO294.out; subst eo27; obtain ⟨Ao28, co28, eo28⟩ := Kd.R_slice HO_5.out; subst eo28) | ((with_reducible refine gate_callee (f := 59) rfl ?_); refine goesL_ (some 21) rfl rfl Try.func59 (by kernel_rfl) rfl #[.slice Ao27 t292.length co27, .slice Ao28 x5_1.length co28] rfl (by (try simp only [List.map_toArray, List.map_cons, List.map_nil]); first | done | rfl | (simp only [List.length_drop, List.length_take]; rfl)) ?_; (with_reducible refine (posserref03_Shorter.calls k1 _ _ t292 _ _ x5_1 true _ ?side1 ?side2 ?side3 ?side4 A12.out).mono ?_); (case side1 => repeat (first | exact (Kd.R_reads' HO294.out).2.2 | (with_reducible refine Kd.C_alloc ?_ _) | (with_reducible refine Kd.C_drewN ?_ _) | (with_reducible refine Kd.C_drew ?_))); (case side2 => exact (Kd.R_reads' HO294.out).2.1); (case side3 => repeat (first | exact (Kd.R_reads' HO_5.out).2.2 | (with_reducible refine Kd.C_alloc ?_ _) | (with_reducible refine Kd.C_drewN ?_ _) | (with_reducible refine Kd.C_drew ?_))); (case side4 => exact (Kd.R_reads' HO_5.out).2.1); rintro e w' ⟨rfl, ⟨nd, rfl⟩⟩; refine ⟨_, rfl, ?_⟩; have hcz29_0 := sc 0 BK286; have hcz29_1 := sc 1 BK286; have hcz29_2 := sc 2 BK286; have hfz29_0 := blk_frozen BK286.out 0; have hfz29_1 := blk_frozen BK286.out 1; have hfz29_2 := blk_frozen BK286.out 2) | (go_at_call 58; (with_reducible refine (posserref03_Full.calls _ _ l0_0 _ _ l0_1 a0_2 t296 _ ?side1 ?side2 ?side3 ?side4 A14.out).mono ?_); (case side1 => exact sCb1 HR0_0 HB GE286); (case side2 => exact HC0_0.out); (case side3 => exact sCb1 HR0_1 HB GE286); (case side4 => exact HC0_1.out); rintro e w30 ⟨rfl, hb⟩; replace HO_5 := Aside0.mk (Kd.R_below (sR HO_5) hb); replace HO294 := Aside0.mk (Kd.R_below (sR HO294) hb); replace BK286 := Aside0.mk (sbb BK286 hb); replace HB := Aside0.mk (sbs1 HB GE286 hb); (try clear hb); (try clear hb2); (try clear hk); (try clear hi)) | (go_at_call 79; (with_reducible refine (posserref03_Can.calls k1 _ _ l1 (Go.bits .andNot .i64 t296 x6_1) false _ ?side1 ?side2 A15.out).mono ?_); (case side1 => exact sCb HR1 HB); (case side2 => exact HC1.out); rintro e w' ⟨rfl, ⟨nd, rfl⟩⟩))
      go_roundg k1
      case measure => have := HK1.out; omega
      case rel => exact ⟨(x5_1), (wrap64 (x6_1 + 1)), (by first | rfl | (simp; done) | (simp [*]; done)), H', ⟨by have := HK1.out; omega⟩, ⟨by (with_reducible repeat (first | apply Kd.R_alloc | apply Kd.R_drewN | apply Kd.R_drew)); exact Kd.R_mono HO_5.out (fun _ hk => trivial)⟩, ⟨by (with_reducible repeat (first | refine blk_drewN ?_ _ | refine blk_drew ?_ | refine blk_alloc ?_ _)); exact BK286.out⟩, ⟨(sbe1 HB GE286)⟩⟩
    ·replace c13 := Bool.eq_false_iff.mpr c13
     subst c13
     have H1 : (posserref03_Leave.l0 k1 l1 x5_1 (wrap64 (x6_1 + 1)) l0_0 l0_1 a0_2) = some r := by rw [if_neg (show ¬ (false = true) by decide)] at H; exact H
     clear H
     have H := H1
     clear H1
     have H' := Aside0.mk H
     clear H
     have hcz31_0 := sc 0 BK286
     have hcz31_1 := sc 1 BK286
     have hcz31_2 := sc 2 BK286
     have hfz31_0 := blk_frozen BK286.out 0
     have hfz31_1 := blk_frozen BK286.out 1
     have hfz31_2 := blk_frozen BK286.out 2
     go_wp2_with (first | ((with_reducible refine gate_callee (f := 58) rfl ?_); refine goesL_ (some 13) rfl rfl Try.func58 (by kernel_rfl) rfl #[.agg #[.slice A0_0 l0_0.length c0_0, .slice A0_1 l0_1.length c0_1, .int .i64 a0_2]] rfl (by (try simp only [List.map_toArray, List.map_cons, List.map_nil]); first | done | rfl | (simp only [List.length_drop, List.length_take]; rfl)) ?_; (with_reducible refine (posserref03_Full.calls _ _ l0_0 _ _ l0_1 a0_2 t291 _ ?side1 ?side2 ?side3 ?side4 A9.out).mono ?_); (case side1 => exact sCb HR0_0 HB); (case side2 => exact HC0_0.out); (case side3 => exact sCb HR0_1 HB); (case side4 => exact HC0_1.out); rintro e w32 ⟨rfl, hb⟩; refine ⟨_, rfl, ?_⟩; replace HO_5 := Aside0.mk (Kd.R_below (sR HO_5) hb); replace BK286 := Aside0.mk (sbb BK286 hb); replace HB := Aside0.mk (sbs1 HB GE286 hb); (try clear hb); (try clear hb2); (try clear hk); (try clear hi)) | ((with_reducible refine gate_callee (f := 48) rfl ?_); refine goesL_ (some 18) rfl rfl Try.func48 (by kernel_rfl) rfl #[.int .i64 x6_1] rfl (by (try simp only [List.map_toArray, List.map_cons, List.map_nil]); first | done | rfl | (simp only [List.length_drop, List.length_take]; rfl)) ?_; (with_reducible refine (posserref03_Bits.calls k1 x6_1 t292 _ A11.out).mono ?_); rintro e w33 ⟨v293, rfl, ho0, hb⟩; refine ⟨_, rfl, ?_⟩; have HO294 := Aside0.mk (Kd.R_lower (Kd.R_new' ho0 (Kd.R_lt (sR HO_5))) (below_size (sbe1 HB GE286))); replace HO_5 := Aside0.mk (Kd.R_elder' (sR HO_5) (Kd.R_base ho0) hb); replace BK286 := Aside0.mk (sbb BK286 hb); replace HB := Aside0.mk (sbs1 HB GE286 hb); (try clear hb); (try clear hb2); (try clear hk); (try clear hi); (try clear ho0); obtain ⟨Ao34, co34, eo34⟩ := Kd.R_slice HO294.out; subst eo34; obtain ⟨Ao35, co35, eo35⟩ := Kd.R_slice HO_5.out; subst eo35) | ((with_reducible refine gate_callee (f := 59) rfl ?_); refine goesL_ (some 21) rfl rfl Try.func59 (by kernel_rfl) rfl #[.slice Ao34 t292.length co34, .slice Ao35 x5_1.length co35] rfl (by (try simp only [List.map_toArray, List.map_cons, List.map_nil]); first | done | rfl | (simp only [List.length_drop, List.length_take]; rfl)) ?_; (with_reducible refine (posserref03_Shorter.calls k1 _ _ t292 _ _ x5_1 false _ ?side1 ?side2 ?side3 ?side4 A12.out).mono ?_); (case side1 => repeat (first | exact (Kd.R_reads' HO294.out).2.2 | (with_reducible refine Kd.C_alloc ?_ _) | (with_reducible refine Kd.C_drewN ?_ _) | (with_reducible refine Kd.C_drew ?_))); (case side2 => exact (Kd.R_reads' HO294.out).2.1); (case side3 => repeat (first | exact (Kd.R_reads' HO_5.out).2.2 | (with_reducible refine Kd.C_alloc ?_ _) | (with_reducible refine Kd.C_drewN ?_ _) | (with_reducible refine Kd.C_drew ?_))); (case side4 => exact (Kd.R_reads' HO_5.out).2.1); rintro e w' ⟨rfl, ⟨nd, rfl⟩⟩; refine ⟨_, rfl, ?_⟩))
     go_roundg k1
     case measure => have := HK1.out; omega
     case rel => exact ⟨(x5_1), (wrap64 (x6_1 + 1)), (by first | rfl | (simp; done) | (simp [*]; done)), H', ⟨by have := HK1.out; omega⟩, ⟨by (with_reducible repeat (first | apply Kd.R_alloc | apply Kd.R_drewN | apply Kd.R_drew)); exact Kd.R_mono HO_5.out (fun _ hk => trivial)⟩, ⟨by (with_reducible repeat (first | refine blk_drewN ?_ _ | refine blk_drew ?_ | refine blk_alloc ?_ _)); exact BK286.out⟩, ⟨(sbe1 HB GE286)⟩⟩
   ·rw [if_neg c10] at H
    have c10b0 : decide (x6_1 ≤ t291) = false := decide_eq_false c10
    clear c10
    obtain rfl := Option.some.inj H
    have hcz36_0 := sc 0 BK286
    have hcz36_1 := sc 1 BK286
    have hcz36_2 := sc 2 BK286
    have hfz36_0 := blk_frozen BK286.out 0
    have hfz36_1 := blk_frozen BK286.out 1
    have hfz36_2 := blk_frozen BK286.out 2
    go_wp2_with (first | ((with_reducible refine gate_callee (f := 58) rfl ?_); refine goesL_ (some 13) rfl rfl Try.func58 (by kernel_rfl) rfl #[.agg #[.slice A0_0 l0_0.length c0_0, .slice A0_1 l0_1.length c0_1, .int .i64 a0_2]] rfl (by (try simp only [List.map_toArray, List.map_cons, List.map_nil]); first | done | rfl | (simp only [List.length_drop, List.length_take]; rfl)) ?_; (with_reducible refine (posserref03_Full.calls _ _ l0_0 _ _ l0_1 a0_2 t291 _ ?side1 ?side2 ?side3 ?side4 A9.out).mono ?_); (case side1 => exact sCb HR0_0 HB); (case side2 => exact HC0_0.out); (case side3 => exact sCb HR0_1 HB); (case side4 => exact HC0_1.out); rintro e w37 ⟨rfl, hb⟩; refine ⟨_, rfl, ?_⟩; replace HO_5 := Aside0.mk (Kd.R_below (sR HO_5) hb); replace BK286 := Aside0.mk (sbb BK286 hb); replace HB := Aside0.mk (sbs1 HB GE286 hb); (try clear hb); (try clear hb2); (try clear hk); (try clear hi)))
    go_ret
    exact ⟨_, by first | rfl | (simp [errW_none, errW_some] <;> rfl) | (simp [*, errW_none, errW_some] <;> rfl), by (with_reducible repeat (first | apply Kd.R_alloc | apply Kd.R_drewN | apply Kd.R_drew)); exact HO_5.out, (sbe1 HB GE286)⟩
end Go.Proofs.Ytnbbbeghgomnoaa.X
namespace Go.Proofs.Ytnbbbeghgomnoaa.X
open Go.RowKit Go.Proofs.YtnbbbeghgomnoaaW.PrintWords Go.Proofs.YtnbbbeghgomnoaaW.PrintLast Go.Proofs.YtnbbbeghgomnoaaW.PrintMore
attribute [local go_sem] max2_int min2_int max_two min_two max_three min_three max_four min_four
set_option linter.unusedVariables false
set_option linter.unusedSimpArgs false
def posserref03_First.l0 : Nat → List Int → Int → List (S85) → List (S71) → Int → Option (Int)
 | 0, _, _, _, _, _ => none
 | k + 1, x1, x5, x299000, x299001, x299002 => if x5 < (x299000.length : Int) then (if 0 ≤ (IntKind.u64.wrap (x5)) then ((posserref03_Can.f k x1 (wrap64 ((shl .i64 2 (IntKind.u64.wrap (x5))) - 1))).bind fun t299 => (if t299 = true then (posserref03_First.l0 k x1 (wrap64 (x5 + 1)) x299000 x299001 x299002) else (some x5))) else (none)) else (some (-1))
def posserref03_First.f (k : Nat) (l0_0 : List (S85)) (l0_1 : List (S71)) (a0_2 : Int) (l1 : List Int) : Option (Int) := posserref03_First.l0 k l1 0 l0_0 l0_1 a0_2
set_option maxHeartbeats 8000000 in
set_option maxRecDepth 100000 in
theorem posserref03_First.calls (k : Nat) (A0_0 : Option Addr) (c0_0 : Nat) (l0_0 : List (S85)) (A0_1 : Option Addr) (c0_1 : Nat) (l0_1 : List (S71)) (a0_2 : Int) (A1 : Option Addr) (c1 : Nat) (l1 : List Int) (r : Int) (w : World) (hr0_0 : Kd.C k85 w A0_0 l0_0.length l0_0) (hc0_0 : l0_0.length ≤ c0_0) (hr0_1 : Kd.C k71 w A0_1 l0_1.length l0_1) (hc0_1 : l0_1.length ≤ c0_1) (hr1 : Kd.C (Kd.int .i64) w A1 l1.length l1) (hc1 : l1.length ≤ c1) (h : posserref03_First.f k l0_0 l0_1 a0_2 l1 = some r) :
  Calls Try.prog 36 #[.agg #[.slice A0_0 l0_0.length c0_0, .slice A0_1 l0_1.length c0_1, .int .i64 a0_2], .slice A1 l1.length c1] w fun e w' => e = .returned (.int .i64 r) ∧ Below w.heap.size w w' := by
 have hu25 := Try.underlying25
 have HR0_0 := Aside0.mk hr0_0
 have HC0_0 := Aside0.mk hc0_0
 clear hr0_0 hc0_0
 have HR0_1 := Aside0.mk hr0_1
 have HC0_1 := Aside0.mk hc0_1
 clear hr0_1 hc0_1
 have HR1 := Aside0.mk hr1
 have HC1 := Aside0.mk hc1
 clear hr1 hc1
 have HB := Aside0.mk (Below.refl w.heap.size w)
 have H : (posserref03_First.l0 k l1 0 l0_0 l0_1 a0_2) = some r := h
 clear h
 have H' := Aside0.mk H
 clear H
 go_enter Try.func36, Try.ntmps36
 go_wp2_with (first | ((with_reducible refine gate_dst (N := 2) rfl ?_); refine sbox (N := 2) #[.slice A0_0 l0_0.length c0_0, .slice A0_1 l0_1.length c0_1, .int .i64 a0_2] 25 ?_; intro gb298 hg w3 hbox hb; have BK298 := Aside0.mk (hbox); have GW298 := Aside0.mk (sge hg HB : w.heap.size ≤ gb298); have GE298 := Aside0.mk (sge hg HB : w.heap.size ≤ gb298); replace HB := Aside0.mk (sbs HB hb); clear hb hbox hg))
 go_loopg [5] k (fun kq v5 w' => ∃ (x5_1 : Int), v5 = .int .i64 x5_1 ∧ Aside0 (posserref03_First.l0 kq l1 x5_1 l0_0 l0_1 a0_2 = some r) ∧ Aside0 (kq ≤ k) ∧ Aside0 (w'.heap[gb298]? = some (.cells #[(.slice A0_0 l0_0.length c0_0), (.slice A0_1 l0_1.length c0_1), .int .i64 a0_2] 25 (0, 0))) ∧ Aside0 (Below w.heap.size w w'))
 case atStart => exact ⟨(0), (by first | rfl | (simp; done) | (simp [*]; done)), H', ⟨Nat.le_refl _⟩, ⟨by (with_reducible repeat (first | refine blk_drewN ?_ _ | refine blk_drew ?_ | refine blk_alloc ?_ _)); exact BK298.out⟩, ⟨(sbe1 HB GE298)⟩⟩
 case round =>
  clear H'
  try clear c1
  try clear p2
  try clear c3
  obtain ⟨x5_1, rfl, HA, HK1, BK298, HB⟩ := hrel
  cases gk with
  | zero => exact absurd HA.out (by simp [posserref03_First.l0])
  | succ k1 =>
   have H := HA.out
   clear HA
   simp only [posserref03_First.l0] at H
   by_cases c4 : x5_1 < (l0_0.length : Int)
   ·rw [if_pos c4] at H
    have c4b0 : decide (x5_1 < (l0_0.length : Int)) = true := decide_eq_true c4
    clear c4
    obtain ⟨ji5, hji5⟩ : ∃ j_ : Int, (IntKind.u64.wrap (x5_1)) = j_ := ⟨_, rfl⟩
    replace H : (if 0 ≤ (ji5) then ((posserref03_Can.f k1 l1 (wrap64 ((shl .i64 2 (ji5)) - 1))).bind fun t299 => (if t299 = true then (posserref03_First.l0 k1 l1 (wrap64 (x5_1 + 1)) l0_0 l0_1 a0_2) else (some x5_1))) else (none)) = some r := by first | (rw [hji5] at H; exact H) | (simp only [hji5] at H ⊢; exact H)
    by_cases c6 : 0 ≤ (ji5)
    ·rw [if_pos c6] at H
     have c6b0 := eq_true c6
     have c6b1 : decide (0 ≤ (ji5)) = true := decide_eq_true c6
     clear c6
     obtain ⟨ji7, hji7⟩ : ∃ j_ : Int, (shl .i64 2 (ji5)) = j_ := ⟨_, rfl⟩
     replace H : ((posserref03_Can.f k1 l1 (wrap64 ((ji7) - 1))).bind fun t299 => (if t299 = true then (posserref03_First.l0 k1 l1 (wrap64 (x5_1 + 1)) l0_0 l0_1 a0_2) else (some x5_1))) = some r := by first | (rw [hji7] at H; exact H) | (simp only [hji7] at H ⊢; exact H)
     have hji7_ : (IntKind.i64.wrap (2 * 2 ^ min (ji5).toNat 64)) = ji7 := hji7
     have hji7z : (ji5) ≤ 64 → (IntKind.i64.wrap (2 * 2 ^ (ji5).toNat)) = ji7 := shl_small hji7
     have hji7y : (wrap64 (2 * 2 ^ min (ji5).toNat 64)) = ji7 := (i64_w _).symm.trans hji7_
     have hji7x : (ji5) ≤ 64 → (wrap64 (2 * 2 ^ (ji5).toNat)) = ji7 := fun h_ => (i64_w _).symm.trans (hji7z h_)
     replace H := Option.bind_eq_some_iff.mp H
     obtain ⟨t299, A80, H⟩ := H
     replace H : (if t299 = true then (posserref03_First.l0 k1 l1 (wrap64 (x5_1 + 1)) l0_0 l0_1 a0_2) else (some x5_1)) = some r := H
     have A8 := Aside0.mk A80
     clear A80
     by_cases c9 : t299 = true
     ·subst c9
      have H1 : (posserref03_First.l0 k1 l1 (wrap64 (x5_1 + 1)) l0_0 l0_1 a0_2) = some r := by rw [if_pos rfl] at H; exact H
      clear H
      have H := H1
      clear H1
      have H' := Aside0.mk H
      clear H
      have hcz10_0 := sc 0 BK298
      have hcz10_1 := sc 1 BK298
      have hcz10_2 := sc 2 BK298
      have hfz10_0 := blk_frozen BK298.out 0
      have hfz10_1 := blk_frozen BK298.out 1
      have hfz10_2 := blk_frozen BK298.out 2
      go_wp2_with (first | ((with_reducible refine gate_callee (f := 79) rfl ?_); refine goesL_ (some 18) rfl rfl Try.func79 (by kernel_rfl) rfl #[.slice A1 l1.length c1, .int .i64 (wrap64 ((ji7) - 1))] rfl (by (try simp only [List.map_toArray, List.map_cons, List.map_nil]); first | done | (simp only [hji7]; rfl) | rfl | (simp only [List.length_drop, List.length_take]; rfl)) ?_; (with_reducible refine (posserref03_Can.calls k1 _ _ l1 (wrap64 ((ji7) - 1)) true _ ?side1 ?side2 A8.out).mono ?_); (case side1 => exact sCb HR1 HB); (case side2 => exact HC1.out); rintro e w' ⟨rfl, ⟨nd, rfl⟩⟩; refine ⟨_, rfl, ?_⟩))
      go_roundg k1
      case measure => have := HK1.out; omega
      case rel => exact ⟨(wrap64 (x5_1 + 1)), (by first | rfl | (simp; done) | (simp [*]; done)), H', ⟨by have := HK1.out; omega⟩, ⟨by (with_reducible repeat (first | refine blk_drewN ?_ _ | refine blk_drew ?_ | refine blk_alloc ?_ _)); exact BK298.out⟩, ⟨(sbe1 HB GE298)⟩⟩
     ·replace c9 := Bool.eq_false_iff.mpr c9
      subst c9
      have H1 : (some x5_1) = some r := by rw [if_neg (show ¬ (false = true) by decide)] at H; exact H
      clear H
      have H := H1
      clear H1
      obtain rfl := Option.some.inj H
      have hcz11_0 := sc 0 BK298
      have hcz11_1 := sc 1 BK298
      have hcz11_2 := sc 2 BK298
      have hfz11_0 := blk_frozen BK298.out 0
      have hfz11_1 := blk_frozen BK298.out 1
      have hfz11_2 := blk_frozen BK298.out 2
      go_wp2_with (first | ((with_reducible refine gate_callee (f := 79) rfl ?_); refine goesL_ (some 18) rfl rfl Try.func79 (by kernel_rfl) rfl #[.slice A1 l1.length c1, .int .i64 (wrap64 ((ji7) - 1))] rfl (by (try simp only [List.map_toArray, List.map_cons, List.map_nil]); first | done | (simp only [hji7]; rfl) | rfl | (simp only [List.length_drop, List.length_take]; rfl)) ?_; (with_reducible refine (posserref03_Can.calls k1 _ _ l1 (wrap64 ((ji7) - 1)) false _ ?side1 ?side2 A8.out).mono ?_); (case side1 => exact sCb HR1 HB); (case side2 => exact HC1.out); rintro e w' ⟨rfl, ⟨nd, rfl⟩⟩; refine ⟨_, rfl, ?_⟩))
      go_ret
      exact ⟨by first | rfl | (simp [errW_none, errW_some] <;> rfl) | (simp only [← hji5, ← hji7]; first | rfl | (simp [errW_none, errW_some] <;> rfl)) | (simp [*, errW_none, errW_some] <;> rfl), (sbe1 HB GE298)⟩
    ·rw [if_neg c6] at H
     exact absurd H (by simp)
   ·rw [if_neg c4] at H
    have c4b0 : decide (x5_1 < (l0_0.length : Int)) = false := decide_eq_false c4
    clear c4
    obtain rfl := Option.some.inj H
    have hcz12_0 := sc 0 BK298
    have hcz12_1 := sc 1 BK298
    have hcz12_2 := sc 2 BK298
    have hfz12_0 := blk_frozen BK298.out 0
    have hfz12_1 := blk_frozen BK298.out 1
    have hfz12_2 := blk_frozen BK298.out 2
    go_wp2
    go_ret
    exact ⟨by first | rfl | (simp [errW_none, errW_some] <;> rfl) | (simp [*, errW_none, errW_some] <;> rfl), (sbe1 HB GE298)⟩
end Go.Proofs.Ytnbbbeghgomnoaa.X
namespace Go.Proofs.Ytnbbbeghgomnoaa.X
open Go.RowKit Go.Proofs.YtnbbbeghgomnoaaW.PrintWords Go.Proofs.YtnbbbeghgomnoaaW.PrintLast Go.Proofs.YtnbbbeghgomnoaaW.PrintMore
attribute [local go_sem] max2_int min2_int max_two min_two max_three min_three max_four min_four
set_option linter.unusedVariables false
set_option linter.unusedSimpArgs false
set_option maxHeartbeats 8000000 in
set_option maxRecDepth 100000 in
theorem posserlaw03_fault.calls (k : Nat) (A0_0 : Option Addr) (c0_0 : Nat) (l0_0 : List (S85)) (A0_1 : Option Addr) (c0_1 : Nat) (l0_1 : List (S71)) (a0_2 : Int) (r : Int) (w : World) (hr0_0 : Kd.C k85 w A0_0 l0_0.length l0_0) (hc0_0 : l0_0.length ≤ c0_0) (hr0_1 : Kd.C k71 w A0_1 l0_1.length l0_1) (hc0_1 : l0_1.length ≤ c0_1) (h : posserlaw03_fault.f k l0_0 l0_1 a0_2 = some r) :
  Calls Try.prog 33 #[.agg #[.slice A0_0 l0_0.length c0_0, .slice A0_1 l0_1.length c0_1, .int .i64 a0_2]] w fun e w' => e = .returned (.int .i64 r) ∧ Below w.heap.size w w' := by
 have hu25 := Try.underlying25
 have HR0_0 := Aside0.mk hr0_0
 have HC0_0 := Aside0.mk hc0_0
 clear hr0_0 hc0_0
 have HR0_1 := Aside0.mk hr0_1
 have HC0_1 := Aside0.mk hc0_1
 clear hr0_1 hc0_1
 have HB := Aside0.mk (Below.refl w.heap.size w)
 have H : ((posserref03_Fault.f k l0_0 l0_1 a0_2).bind fun t132 => (some t132)) = some r := h
 clear h
 replace H := Option.bind_eq_some_iff.mp H
 obtain ⟨t132, A20, H⟩ := H
 replace H : (some t132) = some r := H
 have A2 := Aside0.mk A20
 clear A20
 obtain rfl := Option.some.inj H
 go_enter Try.func33, Try.ntmps33
 go_wp2_with (first | ((with_reducible refine gate_dst (N := 1) rfl ?_); refine sbox (N := 1) #[.slice A0_0 l0_0.length c0_0, .slice A0_1 l0_1.length c0_1, .int .i64 a0_2] 25 ?_; intro gb131 hg w3 hbox hb; have BK131 := Aside0.mk (hbox); have GW131 := Aside0.mk (sge hg HB : w.heap.size ≤ gb131); have GE131 := Aside0.mk (sge hg HB : w.heap.size ≤ gb131); replace HB := Aside0.mk (sbs HB hb); clear hb hbox hg; have hcz4_0 := sc 0 BK131; have hcz4_1 := sc 1 BK131; have hcz4_2 := sc 2 BK131; have hfz4_0 := blk_frozen BK131.out 0; have hfz4_1 := blk_frozen BK131.out 1; have hfz4_2 := blk_frozen BK131.out 2) | ((with_reducible refine gate_callee (f := 75) rfl ?_); refine goesL_ (some 4) rfl rfl Try.func75 (by kernel_rfl) rfl #[.agg #[.slice A0_0 l0_0.length c0_0, .slice A0_1 l0_1.length c0_1, .int .i64 a0_2]] rfl (by (try simp only [List.map_toArray, List.map_cons, List.map_nil]); first | done | rfl | (simp only [List.length_drop, List.length_take]; rfl)) ?_; (with_reducible refine (posserref03_Fault.calls k _ _ l0_0 _ _ l0_1 a0_2 t132 _ ?side1 ?side2 ?side3 ?side4 A2.out).mono ?_); (case side1 => exact sCb HR0_0 HB); (case side2 => exact HC0_0.out); (case side3 => exact sCb HR0_1 HB); (case side4 => exact HC0_1.out); rintro e w5 ⟨rfl, hb⟩; refine ⟨_, rfl, ?_⟩; replace BK131 := Aside0.mk (sbb BK131 hb); replace HB := Aside0.mk (sbs1 HB GE131 hb); (try clear hb); (try clear hb2); (try clear hk); (try clear hi)))
 go_ret
 exact ⟨by first | rfl | (simp [errW_none, errW_some] <;> rfl) | (simp [*, errW_none, errW_some] <;> rfl), (sbe1 HB GE131)⟩
end Go.Proofs.Ytnbbbeghgomnoaa.X
namespace Go.Proofs.Ytnbbbeghgomnoaa.X
open Go.RowKit Go.Proofs.YtnbbbeghgomnoaaW.PrintWords Go.Proofs.YtnbbbeghgomnoaaW.PrintLast Go.Proofs.YtnbbbeghgomnoaaW.PrintMore
attribute [local go_sem] max2_int min2_int max_two min_two max_three min_three max_four min_four
set_option linter.unusedVariables false
set_option linter.unusedSimpArgs false
def posserlaw03_BundleLeaves.f (k : Nat) (l0_0 : List (S85)) (l0_1 : List (S71)) (a0_2 : Int) : Option (Bool) := (posserlaw03_Thin.f k l0_0 l0_1 a0_2).bind fun t301 => (if t301 = true then ((posserlaw03_Table.f l0_0 l0_1 a0_2).bind fun bt302 => ((bundle_First.f bt302.1 bt302.2.1 bt302.2.2).bind fun bt309 => ((posserlaw03_Table.f l0_0 l0_1 a0_2).bind fun bt311 => ((bundle_Leave.f bt311.1 bt311.2.1 bt311.2.2).bind fun bt318 => ((posserlaw03_fault.f k l0_0 l0_1 a0_2).bind fun t322 => (if t322 = 0 then ((posserref03_All.f k l0_0 l0_1 a0_2).bind fun t323 => (if bt318.2 = 0 then ((posserref03_Leave.f k l0_0 l0_1 a0_2 t323).bind fun t326 => ((posserlaw03_ints.f k bt318.1 t326).bind fun t329 => (if t329 = true then ((posserref03_First.f k l0_0 l0_1 a0_2 t323).bind fun t330 => (if t330 ≥ 0 then (if bt309.2 = 0 then (if bt309.1 = t330 then ((posserlaw03_awake.f).bind fun t331 => (some t331)) else (none)) else (none)) else (if bt309.2 = 7 then (if bt309.1 = 0 then ((posserlaw03_awake.f).bind fun t332 => (some t332)) else (none)) else (none)))) else (none)))) else (none))) else (if bt309.2 = t322 then (if bt318.2 = t322 then (if bt309.1 = 0 then (if (bt318.1.length : Int) = 0 then ((posserlaw03_awake.f).bind fun t333 => (some t333)) else (none)) else (none)) else (none)) else (none)))))))) else ((posserlaw03_awake.f).bind fun t334 => (some t334)))
set_option maxHeartbeats 8000000 in
set_option maxRecDepth 100000 in
theorem posserlaw03_BundleLeaves.calls (k : Nat) (A0_0 : Option Addr) (c0_0 : Nat) (l0_0 : List (S85)) (A0_1 : Option Addr) (c0_1 : Nat) (l0_1 : List (S71)) (a0_2 : Int) (r : Bool) (w : World) (hr0_0 : Kd.C k85 w A0_0 l0_0.length l0_0) (hc0_0 : l0_0.length ≤ c0_0) (hr0_1 : Kd.C k71 w A0_1 l0_1.length l0_1) (hc0_1 : l0_1.length ≤ c0_1) (h : posserlaw03_BundleLeaves.f k l0_0 l0_1 a0_2 = some r) :
  Calls Try.prog 6 #[.agg #[.slice A0_0 l0_0.length c0_0, .slice A0_1 l0_1.length c0_1, .int .i64 a0_2]] w fun e w' => e = .returned (.bool r) ∧ Below w.heap.size w w' := by
 have hu25 := Try.underlying25
 have HR0_0 := Aside0.mk hr0_0
 have HC0_0 := Aside0.mk hc0_0
 clear hr0_0 hc0_0
 have HR0_1 := Aside0.mk hr0_1
 have HC0_1 := Aside0.mk hc0_1
 clear hr0_1 hc0_1
 have HB := Aside0.mk (Below.refl w.heap.size w)
 have H : ((posserlaw03_Thin.f k l0_0 l0_1 a0_2).bind fun t301 => (if t301 = true then ((posserlaw03_Table.f l0_0 l0_1 a0_2).bind fun bt302 => ((bundle_First.f bt302.1 bt302.2.1 bt302.2.2).bind fun bt309 => ((posserlaw03_Table.f l0_0 l0_1 a0_2).bind fun bt311 => ((bundle_Leave.f bt311.1 bt311.2.1 bt311.2.2).bind fun bt318 => ((posserlaw03_fault.f k l0_0 l0_1 a0_2).bind fun t322 => (if t322 = 0 then ((posserref03_All.f k l0_0 l0_1 a0_2).bind fun t323 => (if bt318.2 = 0 then ((posserref03_Leave.f k l0_0 l0_1 a0_2 t323).bind fun t326 => ((posserlaw03_ints.f k bt318.1 t326).bind fun t329 => (if t329 = true then ((posserref03_First.f k l0_0 l0_1 a0_2 t323).bind fun t330 => (if t330 ≥ 0 then (if bt309.2 = 0 then (if bt309.1 = t330 then ((posserlaw03_awake.f).bind fun t331 => (some t331)) else (none)) else (none)) else (if bt309.2 = 7 then (if bt309.1 = 0 then ((posserlaw03_awake.f).bind fun t332 => (some t332)) else (none)) else (none)))) else (none)))) else (none))) else (if bt309.2 = t322 then (if bt318.2 = t322 then (if bt309.1 = 0 then (if (bt318.1.length : Int) = 0 then ((posserlaw03_awake.f).bind fun t333 => (some t333)) else (none)) else (none)) else (none)) else (none)))))))) else ((posserlaw03_awake.f).bind fun t334 => (some t334)))) = some r := h
 clear h
 replace H := Option.bind_eq_some_iff.mp H
 obtain ⟨t301, A20, H⟩ := H
 replace H : (if t301 = true then ((posserlaw03_Table.f l0_0 l0_1 a0_2).bind fun bt302 => ((bundle_First.f bt302.1 bt302.2.1 bt302.2.2).bind fun bt309 => ((posserlaw03_Table.f l0_0 l0_1 a0_2).bind fun bt311 => ((bundle_Leave.f bt311.1 bt311.2.1 bt311.2.2).bind fun bt318 => ((posserlaw03_fault.f k l0_0 l0_1 a0_2).bind fun t322 => (if t322 = 0 then ((posserref03_All.f k l0_0 l0_1 a0_2).bind fun t323 => (if bt318.2 = 0 then ((posserref03_Leave.f k l0_0 l0_1 a0_2 t323).bind fun t326 => ((posserlaw03_ints.f k bt318.1 t326).bind fun t329 => (if t329 = true then ((posserref03_First.f k l0_0 l0_1 a0_2 t323).bind fun t330 => (if t330 ≥ 0 then (if bt309.2 = 0 then (if bt309.1 = t330 then ((posserlaw03_awake.f).bind fun t331 => (some t331)) else (none)) else (none)) else (if bt309.2 = 7 then (if bt309.1 = 0 then ((posserlaw03_awake.f).bind fun t332 => (some t332)) else (none)) else (none)))) else (none)))) else (none))) else (if bt309.2 = t322 then (if bt318.2 = t322 then (if bt309.1 = 0 then (if (bt318.1.length : Int) = 0 then ((posserlaw03_awake.f).bind fun t333 => (some t333)) else (none)) else (none)) else (none)) else (none)))))))) else ((posserlaw03_awake.f).bind fun t334 => (some t334))) = some r := H
 have A2 := Aside0.mk A20
 clear A20
 by_cases c3 : t301 = true
 ·subst c3
  have H1 : ((posserlaw03_Table.f l0_0 l0_1 a0_2).bind fun bt302 => ((bundle_First.f bt302.1 bt302.2.1 bt302.2.2).bind fun bt309 => ((posserlaw03_Table.f l0_0 l0_1 a0_2).bind fun bt311 => ((bundle_Leave.f bt311.1 bt311.2.1 bt311.2.2).bind fun bt318 => ((posserlaw03_fault.f k l0_0 l0_1 a0_2).bind fun t322 => (if t322 = 0 then ((posserref03_All.f k l0_0 l0_1 a0_2).bind fun t323 => (if bt318.2 = 0 then ((posserref03_Leave.f k l0_0 l0_1 a0_2 t323).bind fun t326 => ((posserlaw03_ints.f k bt318.1 t326).bind fun t329 => (if t329 = true then ((posserref03_First.f k l0_0 l0_1 a0_2 t323).bind fun t330 => (if t330 ≥ 0 then (if bt309.2 = 0 then (if bt309.1 = t330 then ((posserlaw03_awake.f).bind fun t331 => (some t331)) else (none)) else (none)) else (if bt309.2 = 7 then (if bt309.1 = 0 then ((posserlaw03_awake.f).bind fun t332 => (some t332)) else (none)) else (none)))) else (none)))) else (none))) else (if bt309.2 = t322 then (if bt318.2 = t322 then (if bt309.1 = 0 then (if (bt318.1.length : Int) = 0 then ((posserlaw03_awake.f).bind fun t333 => (some t333)) else (none)) else (none)) else (none)) else (none)))))))) = some r := by rw [if_pos rfl] at H; exact H
  clear H
  have H := H1
  clear H1
  replace H := Option.bind_eq_some_iff.mp H
  obtain ⟨⟨t302, t305, t308⟩, A40, H⟩ := H
  replace H : ((bundle_First.f t302 t305 t308).bind fun bt309 => ((posserlaw03_Table.f l0_0 l0_1 a0_2).bind fun bt311 => ((bundle_Leave.f bt311.1 bt311.2.1 bt311.2.2).bind fun bt318 => ((posserlaw03_fault.f k l0_0 l0_1 a0_2).bind fun t322 => (if t322 = 0 then ((posserref03_All.f k l0_0 l0_1 a0_2).bind fun t323 => (if bt318.2 = 0 then ((posserref03_Leave.f k l0_0 l0_1 a0_2 t323).bind fun t326 => ((posserlaw03_ints.f k bt318.1 t326).bind fun t329 => (if t329 = true then ((posserref03_First.f k l0_0 l0_1 a0_2 t323).bind fun t330 => (if t330 ≥ 0 then (if bt309.2 = 0 then (if bt309.1 = t330 then ((posserlaw03_awake.f).bind fun t331 => (some t331)) else (none)) else (none)) else (if bt309.2 = 7 then (if bt309.1 = 0 then ((posserlaw03_awake.f).bind fun t332 => (some t332)) else (none)) else (none)))) else (none)))) else (none))) else (if bt309.2 = t322 then (if bt318.2 = t322 then (if bt309.1 = 0 then (if (bt318.1.length : Int) = 0 then ((posserlaw03_awake.f).bind fun t333 => (some t333)) else (none)) else (none)) else (none)) else (none))))))) = some r := H
  have A4 := Aside0.mk A40
  clear A40
  replace H := Option.bind_eq_some_iff.mp H
  obtain ⟨⟨t309, t310⟩, A50, H⟩ := H
  replace H : ((posserlaw03_Table.f l0_0 l0_1 a0_2).bind fun bt311 => ((bundle_Leave.f bt311.1 bt311.2.1 bt311.2.2).bind fun bt318 => ((posserlaw03_fault.f k l0_0 l0_1 a0_2).bind fun t322 => (if t322 = 0 then ((posserref03_All.f k l0_0 l0_1 a0_2).bind fun t323 => (if bt318.2 = 0 then ((posserref03_Leave.f k l0_0 l0_1 a0_2 t323).bind fun t326 => ((posserlaw03_ints.f k bt318.1 t326).bind fun t329 => (if t329 = true then ((posserref03_First.f k l0_0 l0_1 a0_2 t323).bind fun t330 => (if t330 ≥ 0 then (if t310 = 0 then (if t309 = t330 then ((posserlaw03_awake.f).bind fun t331 => (some t331)) else (none)) else (none)) else (if t310 = 7 then (if t309 = 0 then ((posserlaw03_awake.f).bind fun t332 => (some t332)) else (none)) else (none)))) else (none)))) else (none))) else (if t310 = t322 then (if bt318.2 = t322 then (if t309 = 0 then (if (bt318.1.length : Int) = 0 then ((posserlaw03_awake.f).bind fun t333 => (some t333)) else (none)) else (none)) else (none)) else (none)))))) = some r := H
  have A5 := Aside0.mk A50
  clear A50
  replace H := Option.bind_eq_some_iff.mp H
  obtain ⟨⟨t311, t314, t317⟩, A60, H⟩ := H
  replace H : ((bundle_Leave.f t311 t314 t317).bind fun bt318 => ((posserlaw03_fault.f k l0_0 l0_1 a0_2).bind fun t322 => (if t322 = 0 then ((posserref03_All.f k l0_0 l0_1 a0_2).bind fun t323 => (if bt318.2 = 0 then ((posserref03_Leave.f k l0_0 l0_1 a0_2 t323).bind fun t326 => ((posserlaw03_ints.f k bt318.1 t326).bind fun t329 => (if t329 = true then ((posserref03_First.f k l0_0 l0_1 a0_2 t323).bind fun t330 => (if t330 ≥ 0 then (if t310 = 0 then (if t309 = t330 then ((posserlaw03_awake.f).bind fun t331 => (some t331)) else (none)) else (none)) else (if t310 = 7 then (if t309 = 0 then ((posserlaw03_awake.f).bind fun t332 => (some t332)) else (none)) else (none)))) else (none)))) else (none))) else (if t310 = t322 then (if bt318.2 = t322 then (if t309 = 0 then (if (bt318.1.length : Int) = 0 then ((posserlaw03_awake.f).bind fun t333 => (some t333)) else (none)) else (none)) else (none)) else (none))))) = some r := H
  have A6 := Aside0.mk A60
  clear A60
  replace H := Option.bind_eq_some_iff.mp H
  obtain ⟨⟨t318, t321⟩, A70, H⟩ := H
  replace H : ((posserlaw03_fault.f k l0_0 l0_1 a0_2).bind fun t322 => (if t322 = 0 then ((posserref03_All.f k l0_0 l0_1 a0_2).bind fun t323 => (if t321 = 0 then ((posserref03_Leave.f k l0_0 l0_1 a0_2 t323).bind fun t326 => ((posserlaw03_ints.f k t318 t326).bind fun t329 => (if t329 = true then ((posserref03_First.f k l0_0 l0_1 a0_2 t323).bind fun t330 => (if t330 ≥ 0 then (if t310 = 0 then (if t309 = t330 then ((posserlaw03_awake.f).bind fun t331 => (some t331)) else (none)) else (none)) else (if t310 = 7 then (if t309 = 0 then ((posserlaw03_awake.f).bind fun t332 => (some t332)) else (none)) else (none)))) else (none)))) else (none))) else (if t310 = t322 then (if t321 = t322 then (if t309 = 0 then (if (t318.length : Int) = 0 then ((posserlaw03_awake.f).bind fun t333 => (some t333)) else (none)) else (none)) else (none)) else (none)))) = some r := H
  have A7 := Aside0.mk A70
  clear A70
  replace H := Option.bind_eq_some_iff.mp H
  obtain ⟨t322, A80, H⟩ := H
  replace H : (if t322 = 0 then ((posserref03_All.f k l0_0 l0_1 a0_2).bind fun t323 => (if t321 = 0 then ((posserref03_Leave.f k l0_0 l0_1 a0_2 t323).bind fun t326 => ((posserlaw03_ints.f k t318 t326).bind fun t329 => (if t329 = true then ((posserref03_First.f k l0_0 l0_1 a0_2 t323).bind fun t330 => (if t330 ≥ 0 then (if t310 = 0 then (if t309 = t330 then ((posserlaw03_awake.f).bind fun t331 => (some t331)) else (none)) else (none)) else (if t310 = 7 then (if t309 = 0 then ((posserlaw03_awake.f).bind fun t332 => (some t332)) else (none)) else (none)))) else (none)))) else (none))) else (if t310 = t322 then (if t321 = t322 then (if t309 = 0 then (if (t318.length : Int) = 0 then ((posserlaw03_awake.f).bind fun t333 => (some t333)) else (none)) else (none)) else (none)) else (none))) = some r := H
  have A8 := Aside0.mk A80
  clear A80
  by_cases c9 : t322 = 0
  ·rw [if_pos c9] at H
   have c9b0 : (t322 == 0) = true := beq_iff_eq.mpr c9
   have c9b1 : (t322 != 0) = false := bne_eq_false_iff_eq.mpr c9
   clear c9
   replace H := Option.bind_eq_some_iff.mp H
   obtain ⟨t323, A100, H⟩ := H
   replace H : (if t321 = 0 then ((posserref03_Leave.f k l0_0 l0_1 a0_2 t323).bind fun t326 => ((posserlaw03_ints.f k t318 t326).bind fun t329 => (if t329 = true then ((posserref03_First.f k l0_0 l0_1 a0_2 t323).bind fun t330 => (if t330 ≥ 0 then (if t310 = 0 then (if t309 = t330 then ((posserlaw03_awake.f).bind fun t331 => (some t331)) else (none)) else (none)) else (if t310 = 7 then (if t309 = 0 then ((posserlaw03_awake.f).bind fun t332 => (some t332)) else (none)) else (none)))) else (none)))) else (none)) = some r := H
   have A10 := Aside0.mk A100
   clear A100
   by_cases c11 : t321 = 0
   ·rw [if_pos c11] at H
    have c11b0 : (t321 == 0) = true := beq_iff_eq.mpr c11
    have c11b1 : (t321 != 0) = false := bne_eq_false_iff_eq.mpr c11
    clear c11
    replace H := Option.bind_eq_some_iff.mp H
    obtain ⟨t326, A120, H⟩ := H
    replace H : ((posserlaw03_ints.f k t318 t326).bind fun t329 => (if t329 = true then ((posserref03_First.f k l0_0 l0_1 a0_2 t323).bind fun t330 => (if t330 ≥ 0 then (if t310 = 0 then (if t309 = t330 then ((posserlaw03_awake.f).bind fun t331 => (some t331)) else (none)) else (none)) else (if t310 = 7 then (if t309 = 0 then ((posserlaw03_awake.f).bind fun t332 => (some t332)) else (none)) else (none)))) else (none))) = some r := H
    have A12 := Aside0.mk A120
    clear A120
    replace H := Option.bind_eq_some_iff.mp H
    obtain ⟨t329, A130, H⟩ := H
    replace H : (if t329 = true then ((posserref03_First.f k l0_0 l0_1 a0_2 t323).bind fun t330 => (if t330 ≥ 0 then (if t310 = 0 then (if t309 = t330 then ((posserlaw03_awake.f).bind fun t331 => (some t331)) else (none)) else (none)) else (if t310 = 7 then (if t309 = 0 then ((posserlaw03_awake.f).bind fun t332 => (some t332)) else (none)) else (none)))) else (none)) = some r := H
    have A13 := Aside0.mk A130
    clear A130
    by_cases c14 : t329 = true
    ·subst c14
     have H1 : ((posserref03_First.f k l0_0 l0_1 a0_2 t323).bind fun t330 => (if t330 ≥ 0 then (if t310 = 0 then (if t309 = t330 then ((posserlaw03_awake.f).bind fun t331 => (some t331)) else (none)) else (none)) else (if t310 = 7 then (if t309 = 0 then ((posserlaw03_awake.f).bind fun t332 => (some t332)) else (none)) else (none)))) = some r := by rw [if_pos rfl] at H; exact H
     clear H
     have H := H1
     clear H1
     replace H := Option.bind_eq_some_iff.mp H
     obtain ⟨t330, A150, H⟩ := H
     replace H : (if t330 ≥ 0 then (if t310 = 0 then (if t309 = t330 then ((posserlaw03_awake.f).bind fun t331 => (some t331)) else (none)) else (none)) else (if t310 = 7 then (if t309 = 0 then ((posserlaw03_awake.f).bind fun t332 => (some t332)) else (none)) else (none))) = some r := H
     have A15 := Aside0.mk A150
     clear A150
     by_cases c16 : t330 ≥ 0
     ·rw [if_pos c16] at H
      have c16b0 : decide (0 ≤ t330) = true := decide_eq_true c16
      clear c16
      by_cases c17 : t310 = 0
      ·rw [if_pos c17] at H
       have c17b0 : (t310 == 0) = true := beq_iff_eq.mpr c17
       have c17b1 : (t310 != 0) = false := bne_eq_false_iff_eq.mpr c17
       clear c17
       by_cases c18 : t309 = t330
       ·rw [if_pos c18] at H
        have c18b0 : (t309 == t330) = true := beq_iff_eq.mpr c18
        have c18b1 : (t309 != t330) = false := bne_eq_false_iff_eq.mpr c18
        clear c18
        replace H := Option.bind_eq_some_iff.mp H
        obtain ⟨t331, A190, H⟩ := H
        replace H : (some t331) = some r := H
        have A19 := Aside0.mk A190
        clear A190
        obtain rfl := Option.some.inj H
        go_enter Try.func6, Try.ntmps6
        go_wp2_with (first | ((with_reducible refine gate_dst (N := 1) rfl ?_); (try (refine gate_guard (by rfl) ?_; dsimp only)); refine sbox (N := 1) #[.slice A0_0 l0_0.length c0_0, .slice A0_1 l0_1.length c0_1, .int .i64 a0_2] 25 ?_; intro gb300 hg w20 hbox hb; have BK300 := Aside0.mk (hbox); have GW300 := Aside0.mk (sge hg HB : w.heap.size ≤ gb300); have GE300 := Aside0.mk (sge hg HB : w.heap.size ≤ gb300); replace HB := Aside0.mk (sbs HB hb); clear hb hbox hg; have hcz21_0 := sc 0 BK300; have hcz21_1 := sc 1 BK300; have hcz21_2 := sc 2 BK300; have hfz21_0 := blk_frozen BK300.out 0; have hfz21_1 := blk_frozen BK300.out 1; have hfz21_2 := blk_frozen BK300.out 2) | ((with_reducible refine gate_callee (f := 20) rfl ?_); refine goesL_ (some 11) rfl rfl Try.func20 (by kernel_rfl) rfl #[.agg #[.slice A0_0 l0_0.length c0_0, .slice A0_1 l0_1.length c0_1, .int .i64 a0_2]] rfl (by (try simp only [List.map_toArray, List.map_cons, List.map_nil]); first | done | rfl | (simp only [List.length_drop, List.length_take]; rfl)) ?_; (with_reducible refine (posserlaw03_Thin.calls k _ _ l0_0 _ _ l0_1 a0_2 true _ ?side1 ?side2 ?side3 ?side4 A2.out).mono ?_); (case side1 => exact sCb HR0_0 HB); (case side2 => exact HC0_0.out); (case side3 => exact sCb HR0_1 HB); (case side4 => exact HC0_1.out); rintro e w22 ⟨rfl, hb⟩; refine ⟨_, rfl, ?_⟩; replace BK300 := Aside0.mk (sbb BK300 hb); replace HB := Aside0.mk (sbs1 HB GE300 hb); (try clear hb); (try clear hb2); (try clear hk); (try clear hi); have hcz23_0 := sc 0 BK300; have hcz23_1 := sc 1 BK300; have hcz23_2 := sc 2 BK300; have hfz23_0 := blk_frozen BK300.out 0; have hfz23_1 := blk_frozen BK300.out 1; have hfz23_2 := blk_frozen BK300.out 2) | ((with_reducible refine gate_callee (f := 23) rfl ?_); refine goesL_ (some 16) rfl rfl Try.func23 (by kernel_rfl) rfl #[.agg #[.slice A0_0 l0_0.length c0_0, .slice A0_1 l0_1.length c0_1, .int .i64 a0_2]] rfl (by (try simp only [List.map_toArray, List.map_cons, List.map_nil]); first | done | rfl | (simp only [List.length_drop, List.length_take]; rfl)) ?_; (with_reducible refine (posserlaw03_Table.calls _ _ l0_0 _ _ l0_1 a0_2 t302 t305 t308 _ ?side1 ?side2 ?side3 ?side4 A4.out).mono ?_); (case side1 => exact sCb HR0_0 HB); (case side2 => exact HC0_0.out); (case side3 => exact sCb HR0_1 HB); (case side4 => exact HC0_1.out); rintro e w24 ⟨v303, v306, rfl, ho0, ho1, hb⟩; refine ⟨_, rfl, ?_⟩; have HO304 := Aside0.mk (Kd.R_lower (Kd.R_mono (ok' := fun k_ => True) ho0 (fun _ hk_ => trivial)) (below_size (sbe1 HB GE300))); have HO307 := Aside0.mk (Kd.N_lower (Kd.N_mono (ok' := fun k_ => some k_ ≠ (v303 : Value).ownBlock ∧ k_ ≠ gb300) ho1 (fun k_ hk_ => ⟨hk_.2, (Kd.freshB (g := gb300) (o := .cells #[.slice A0_0 l0_0.length c0_0, .slice A0_1 l0_1.length c0_1, .int .i64 a0_2] 25 (0, 0)) (sbk BK300) k_ hk_.1)⟩)) (below_size (sbe1 HB GE300))); replace BK300 := Aside0.mk (sbb BK300 hb); replace HB := Aside0.mk (sbs1 HB GE300 hb); (try clear hb); (try clear hb2); (try clear hk); (try clear hi); (try clear ho0); (try clear ho1); obtain ⟨Ao25, co25, eo25⟩ := Kd.R_slice HO304.out; subst eo25; obtain ⟨Ao26, co26, eo26⟩ := Kd.N_slice HO307.out; subst eo26) | ((with_reducible refine gate_callee (f := 31) rfl ?_); refine goesL_ (some 17) rfl rfl Try.func31 (by kernel_rfl) rfl #[.agg #[.slice Ao25 t302.length co25, .slice Ao26 t305.length co26, .int .i64 t308]] rfl (by (try simp only [List.map_toArray, List.map_cons, List.map_nil]); first | done | rfl | (simp only [List.length_drop, List.length_take]; rfl)) ?_; (with_reducible refine (bundle_First.calls _ _ t302 _ _ t305 t308 t309 t310 _ ?side1 ?side2 ?side3 ?side4 A5.out).mono ?_); (case side1 => repeat (first | exact (Kd.R_reads' HO304.out).2.2 | (with_reducible refine Kd.C_alloc ?_ _) | (with_reducible refine Kd.C_drewN ?_ _) | (with_reducible refine Kd.C_drew ?_))); (case side2 => exact (Kd.R_reads' HO304.out).2.1); (case side3 => repeat (first | exact (Kd.N_reads' HO307.out).2.2 | (with_reducible refine Kd.C_alloc ?_ _) | (with_reducible refine Kd.C_drewN ?_ _) | (with_reducible refine Kd.C_drew ?_))); (case side4 => exact (Kd.N_reads' HO307.out).2.1); rintro e w27 ⟨rfl, hb⟩; refine ⟨_, rfl, ?_⟩; replace HO304 := Aside0.mk (Kd.R_below (sR HO304) hb); replace HO307 := Aside0.mk (Kd.N_below (sN_ HO307) hb); replace BK300 := Aside0.mk (sbb BK300 hb); replace HB := Aside0.mk (sbs1 HB GE300 hb); (try clear hb); (try clear hb2); (try clear hk); (try clear hi); have hcz28_0 := sc 0 BK300; have hcz28_1 := sc 1 BK300; have hcz28_2 := sc 2 BK300; have hfz28_0 := blk_frozen BK300.out 0; have hfz28_1 := blk_frozen BK300.out 1; have hfz28_2 := blk_frozen BK300.out 2) | ((with_reducible refine gate_callee (f := 23) rfl ?_); refine goesL_ (some 22) rfl rfl Try.func23 (by kernel_rfl) rfl #[.agg #[.slice A0_0 l0_0.length c0_0, .slice A0_1 l0_1.length c0_1, .int .i64 a0_2]] rfl (by (try simp only [List.map_toArray, List.map_cons, List.map_nil]); first | done | rfl | (simp only [List.length_drop, List.length_take]; rfl)) ?_; (with_reducible refine (posserlaw03_Table.calls _ _ l0_0 _ _ l0_1 a0_2 t311 t314 t317 _ ?side1 ?side2 ?side3 ?side4 A6.out).mono ?_); (case side1 => exact sCb HR0_0 HB); (case side2 => exact HC0_0.out); (case side3 => exact sCb HR0_1 HB); (case side4 => exact HC0_1.out); rintro e w29 ⟨v312, v315, rfl, ho0, ho1, hb⟩; refine ⟨_, rfl, ?_⟩; have HO313 := Aside0.mk (Kd.R_lower (Kd.R_new' (Kd.R_mono (ok' := fun k_ => True) ho0 (fun _ hk_ => trivial)) (Kd.R_lt (sR HO304))) (below_size (sbe1 HB GE300))); have HO316 := Aside0.mk (Kd.N_lower (Kd.N_mono (ok' := fun k_ => some k_ ≠ (v312 : Value).ownBlock ∧ some k_ ≠ (.slice Ao25 t302.length co25 : Value).ownBlock ∧ some k_ ≠ (.slice Ao26 t305.length co26 : Value).ownBlock ∧ k_ ≠ gb300) ho1 (fun k_ hk_ => ⟨hk_.2, (Kd.fresh' (Kd.R_lt (sR HO304)) k_ hk_.1), (Kd.fresh' (Kd.N_lt (sN_ HO307)) k_ hk_.1), (Kd.freshB (g := gb300) (o := .cells #[.slice A0_0 l0_0.length c0_0, .slice A0_1 l0_1.length c0_1, .int .i64 a0_2] 25 (0, 0)) (sbk BK300) k_ hk_.1)⟩)) (below_size (sbe1 HB GE300))); replace HO304 := Aside0.mk (Kd.R_elder' (sR HO304) (Kd.R_base ho0) hb); replace HO307 := Aside0.mk (Kd.N_mono (Kd.N_told (Kd.N_told (Kd.N_old (sN_ HO307) hb) (Kd.R_base ho0)) (Kd.N_base ho1)) (fun _ h_ => h_.1)); replace BK300 := Aside0.mk (sbb BK300 hb); replace HB := Aside0.mk (sbs1 HB GE300 hb); (try clear hb); (try clear hb2); (try clear hk); (try clear hi); (try clear ho0); (try clear ho1); obtain ⟨Ao30, co30, eo30⟩ := Kd.R_slice HO313.out; subst eo30; obtain ⟨Ao31, co31, eo31⟩ := Kd.N_slice HO316.out; subst eo31) | ((with_reducible refine gate_callee (f := 32) rfl ?_); refine goesL_ (some 23) rfl rfl Try.func32 (by kernel_rfl) rfl #[.agg #[.slice Ao30 t311.length co30, .slice Ao31 t314.length co31, .int .i64 t317]] rfl (by (try simp only [List.map_toArray, List.map_cons, List.map_nil]); first | done | rfl | (simp only [List.length_drop, List.length_take]; rfl)) ?_; (with_reducible refine (bundle_Leave.calls _ _ t311 _ _ t314 t317 t318 t321 _ ?side1 ?side2 ?side3 ?side4 A7.out).mono ?_); (case side1 => repeat (first | exact (Kd.R_reads' HO313.out).2.2 | (with_reducible refine Kd.C_alloc ?_ _) | (with_reducible refine Kd.C_drewN ?_ _) | (with_reducible refine Kd.C_drew ?_))); (case side2 => exact (Kd.R_reads' HO313.out).2.1); (case side3 => repeat (first | exact (Kd.N_reads' HO316.out).2.2 | (with_reducible refine Kd.C_alloc ?_ _) | (with_reducible refine Kd.C_drewN ?_ _) | (with_reducible refine Kd.C_drew ?_))); (case side4 => exact (Kd.N_reads' HO316.out).2.1); rintro e w32 ⟨v319, rfl, ho0, hb⟩; refine ⟨_, rfl, ?_⟩; have HO320 := Aside0.mk (Kd.R_lower ho0 (below_size (sbe1 HB GE300))); replace HO304 := Aside0.mk (Kd.R_below (sR HO304) hb); replace HO307 := Aside0.mk (Kd.N_elder' (sN_ HO307) (Kd.R_base ho0) hb); replace HO313 := Aside0.mk (Kd.R_below (sR HO313) hb); replace HO316 := Aside0.mk (Kd.N_elder' (sN_ HO316) (Kd.R_base ho0) hb); replace BK300 := Aside0.mk (sbb BK300 hb); replace HB := Aside0.mk (sbs1 HB GE300 hb); (try clear hb); (try clear hb2); (try clear hk); (try clear hi); (try clear ho0); have hcz33_0 := sc 0 BK300; have hcz33_1 := sc 1 BK300; have hcz33_2 := sc 2 BK300; have hfz33_0 := blk_frozen BK300.out 0; have hfz33_1 := blk_frozen BK300.out 1; have hfz33_2 := blk_frozen BK300.out 2) | ((with_reducible refine gate_callee (f := 33) rfl ?_); refine goesL_ (some 27) rfl rfl Try.func33 (by kernel_rfl) rfl #[.agg #[.slice A0_0 l0_0.length c0_0, .slice A0_1 l0_1.length c0_1, .int .i64 a0_2]] rfl (by (try simp only [List.map_toArray, List.map_cons, List.map_nil]); first | done | rfl | (simp only [List.length_drop, List.length_take]; rfl)) ?_; (with_reducible refine (posserlaw03_fault.calls k _ _ l0_0 _ _ l0_1 a0_2 t322 _ ?side1 ?side2 ?side3 ?side4 A8.out).mono ?_); (case side1 => exact sCb HR0_0 HB); (case side2 => exact HC0_0.out); (case side3 => exact sCb HR0_1 HB); (case side4 => exact HC0_1.out); rintro e w34 ⟨rfl, hb⟩; refine ⟨_, rfl, ?_⟩; replace HO304 := Aside0.mk (Kd.R_below (sR HO304) hb); replace HO307 := Aside0.mk (Kd.N_below (sN_ HO307) hb); replace HO313 := Aside0.mk (Kd.R_below (sR HO313) hb); replace HO316 := Aside0.mk (Kd.N_below (sN_ HO316) hb); replace HO320 := Aside0.mk (Kd.R_below (sR HO320) hb); replace BK300 := Aside0.mk (sbb BK300 hb); replace HB := Aside0.mk (sbs1 HB GE300 hb); (try clear hb); (try clear hb2); (try clear hk); (try clear hi); have hcz35_0 := sc 0 BK300; have hcz35_1 := sc 1 BK300; have hcz35_2 := sc 2 BK300; have hfz35_0 := blk_frozen BK300.out 0; have hfz35_1 := blk_frozen BK300.out 1; have hfz35_2 := blk_frozen BK300.out 2) | ((with_reducible refine gate_callee (f := 34) rfl ?_); refine goesL_ (some 51) rfl rfl Try.func34 (by kernel_rfl) rfl #[.agg #[.slice A0_0 l0_0.length c0_0, .slice A0_1 l0_1.length c0_1, .int .i64 a0_2]] rfl (by (try simp only [List.map_toArray, List.map_cons, List.map_nil]); first | done | rfl | (simp only [List.length_drop, List.length_take]; rfl)) ?_; (with_reducible refine (posserref03_All.calls k _ _ l0_0 _ _ l0_1 a0_2 t323 _ ?side1 ?side2 ?side3 ?side4 A10.out).mono ?_); (case side1 => exact sCb HR0_0 HB); (case side2 => exact HC0_0.out); (case side3 => exact sCb HR0_1 HB); (case side4 => exact HC0_1.out); rintro e w36 ⟨v324, rfl, ho0, hb⟩; refine ⟨_, rfl, ?_⟩; have HO325 := Aside0.mk (Kd.R_lower (Kd.R_new' ho0 (Kd.R_lt (sR HO320))) (below_size (sbe1 HB GE300))); replace HO304 := Aside0.mk (Kd.R_below (sR HO304) hb); replace HO307 := Aside0.mk (Kd.N_elder' (sN_ HO307) (Kd.R_base ho0) hb); replace HO313 := Aside0.mk (Kd.R_below (sR HO313) hb); replace HO316 := Aside0.mk (Kd.N_elder' (sN_ HO316) (Kd.R_base ho0) hb); replace HO320 := Aside0.mk (Kd.R_elder' (sR HO320) (Kd.R_base ho0) hb); replace BK300 := Aside0.mk (sbb BK300 hb); replace HB := Aside0.mk (sbs1 HB GE300 hb); (try clear hb); (try clear hb2); (try clear hk); (try clear hi); (try clear ho0); have hcz37_0 := sc 0 BK300; have hcz37_1 := sc 1 BK300; have hcz37_2 := sc 2 BK300; have hfz37_0 := blk_frozen BK300.out 0; have hfz37_1 := blk_frozen BK300.out 1; have hfz37_2 := blk_frozen BK300.out 2; obtain ⟨Ao38, co38, eo38⟩ := Kd.R_slice HO325.out; subst eo38) | (go_at_call 35; (with_reducible refine (posserref03_Leave.calls k _ _ l0_0 _ _ l0_1 a0_2 _ _ t323 t326 _ ?side1 ?side2 ?side3 ?side4 ?side5 ?side6 A12.out).mono ?_); (case side1 => exact sCb HR0_0 HB); (case side2 => exact HC0_0.out); (case side3 => exact sCb HR0_1 HB); (case side4 => exact HC0_1.out); (case side5 => repeat (first | exact (Kd.R_reads' HO325.out).2.2 | (with_reducible refine Kd.C_alloc ?_ _) | (with_reducible refine Kd.C_drewN ?_ _) | (with_reducible refine Kd.C_drew ?_))); (case side6 => exact (Kd.R_reads' HO325.out).2.1); rintro e w39 ⟨v327, rfl, ho0, hb⟩; have HO328 := Aside0.mk (Kd.R_lower (Kd.R_new' (Kd.R_new' ho0 (Kd.R_lt (sR HO320))) (Kd.R_lt (sR HO325))) (below_size (sbe1 HB GE300))); replace HO304 := Aside0.mk (Kd.R_below (sR HO304) hb); replace HO307 := Aside0.mk (Kd.N_elder' (sN_ HO307) (Kd.R_base ho0) hb); replace HO313 := Aside0.mk (Kd.R_below (sR HO313) hb); replace HO316 := Aside0.mk (Kd.N_elder' (sN_ HO316) (Kd.R_base ho0) hb); replace HO320 := Aside0.mk (Kd.R_elder' (sR HO320) (Kd.R_base ho0) hb); replace HO325 := Aside0.mk (Kd.R_elder' (sR HO325) (Kd.R_base ho0) hb); replace BK300 := Aside0.mk (sbb BK300 hb); replace HB := Aside0.mk (sbs1 HB GE300 hb); (try clear hb); (try clear hb2); (try clear hk); (try clear hi); (try clear ho0); obtain ⟨Ao40, co40, eo40⟩ := Kd.R_slice HO320.out; subst eo40; obtain ⟨Ao41, co41, eo41⟩ := Kd.R_slice HO328.out; subst eo41) | (go_at_call 25; (with_reducible refine (posserlaw03_ints.calls k _ _ t318 _ _ t326 true _ ?side1 ?side2 ?side3 ?side4 A13.out).mono ?_); (case side1 => repeat (first | exact (Kd.R_reads' HO320.out).2.2 | (with_reducible refine Kd.C_alloc ?_ _) | (with_reducible refine Kd.C_drewN ?_ _) | (with_reducible refine Kd.C_drew ?_))); (case side2 => exact (Kd.R_reads' HO320.out).2.1); (case side3 => repeat (first | exact (Kd.R_reads' HO328.out).2.2 | (with_reducible refine Kd.C_alloc ?_ _) | (with_reducible refine Kd.C_drewN ?_ _) | (with_reducible refine Kd.C_drew ?_))); (case side4 => exact (Kd.R_reads' HO328.out).2.1); rintro e w' ⟨rfl, ⟨nd, rfl⟩⟩; have hcz42_0 := sc 0 BK300; have hcz42_1 := sc 1 BK300; have hcz42_2 := sc 2 BK300; have hfz42_0 := blk_frozen BK300.out 0; have hfz42_1 := blk_frozen BK300.out 1; have hfz42_2 := blk_frozen BK300.out 2) | ((with_reducible refine gate_callee (f := 36) rfl ?_); refine goesL_ (some 64) rfl rfl Try.func36 (by kernel_rfl) rfl #[.agg #[.slice A0_0 l0_0.length c0_0, .slice A0_1 l0_1.length c0_1, .int .i64 a0_2], .slice Ao38 t323.length co38] rfl (by (try simp only [List.map_toArray, List.map_cons, List.map_nil]); first | done | rfl | (simp only [List.length_drop, List.length_take]; rfl)) ?_; (with_reducible refine (posserref03_First.calls k _ _ l0_0 _ _ l0_1 a0_2 _ _ t323 t330 _ ?side1 ?side2 ?side3 ?side4 ?side5 ?side6 A15.out).mono ?_); (case side1 => exact sCb1 HR0_0 HB GE300); (case side2 => exact HC0_0.out); (case side3 => exact sCb1 HR0_1 HB GE300); (case side4 => exact HC0_1.out); (case side5 => repeat (first | exact (Kd.R_reads' HO325.out).2.2 | (with_reducible refine Kd.C_alloc ?_ _) | (with_reducible refine Kd.C_drewN ?_ _) | (with_reducible refine Kd.C_drew ?_))); (case side6 => exact (Kd.R_reads' HO325.out).2.1); rintro e w43 ⟨rfl, hb⟩; refine ⟨_, rfl, ?_⟩; replace HO304 := Aside0.mk (Kd.R_below (sR HO304) hb); replace HO307 := Aside0.mk (Kd.N_below (sN_ HO307) hb); replace HO313 := Aside0.mk (Kd.R_below (sR HO313) hb); replace HO316 := Aside0.mk (Kd.N_below (sN_ HO316) hb); replace HO320 := Aside0.mk (Kd.R_below (sR HO320) hb); replace HO325 := Aside0.mk (Kd.R_below (sR HO325) hb); replace HO328 := Aside0.mk (Kd.R_below (sR HO328) hb); replace BK300 := Aside0.mk (sbb BK300 hb); replace HB := Aside0.mk (sbs1 HB GE300 hb); (try clear hb); (try clear hb2); (try clear hk); (try clear hi)) | (go_at_call 21; (with_reducible refine (posserlaw03_awake.calls  t331 _ A19.out).mono ?_); rintro e w44 ⟨rfl, hb⟩; replace HO304 := Aside0.mk (Kd.R_below (sR HO304) hb); replace HO307 := Aside0.mk (Kd.N_below (sN_ HO307) hb); replace HO313 := Aside0.mk (Kd.R_below (sR HO313) hb); replace HO316 := Aside0.mk (Kd.N_below (sN_ HO316) hb); replace HO320 := Aside0.mk (Kd.R_below (sR HO320) hb); replace HO325 := Aside0.mk (Kd.R_below (sR HO325) hb); replace HO328 := Aside0.mk (Kd.R_below (sR HO328) hb); replace BK300 := Aside0.mk (sbb BK300 hb); replace HB := Aside0.mk (sbs1 HB GE300 hb); (try clear hb); (try clear hb2); (try clear hk); (try clear hi)))
        go_ret
        exact ⟨by first | rfl | (simp [errW_none, errW_some] <;> rfl) | (simp [*, errW_none, errW_some] <;> rfl), (sbe1 HB GE300)⟩
       ·rw [if_neg c18] at H
        exact absurd H (by simp)
      ·rw [if_neg c17] at H
       exact absurd H (by simp)
     ·rw [if_neg c16] at H
      have c16b0 : decide (0 ≤ t330) = false := decide_eq_false c16
      clear c16
      by_cases c45 : t310 = 7
      ·rw [if_pos c45] at H
       have c45b0 : (t310 == 7) = true := beq_iff_eq.mpr c45
       have c45b1 : (t310 != 7) = false := bne_eq_false_iff_eq.mpr c45
       clear c45
       by_cases c46 : t309 = 0
       ·rw [if_pos c46] at H
        have c46b0 : (t309 == 0) = true := beq_iff_eq.mpr c46
        have c46b1 : (t309 != 0) = false := bne_eq_false_iff_eq.mpr c46
        clear c46
        replace H := Option.bind_eq_some_iff.mp H
        obtain ⟨t332, A470, H⟩ := H
        replace H : (some t332) = some r := H
        have A47 := Aside0.mk A470
        clear A470
        obtain rfl := Option.some.inj H
        go_enter Try.func6, Try.ntmps6
        go_wp2_with (first | ((with_reducible refine gate_dst (N := 1) rfl ?_); (try (refine gate_guard (by rfl) ?_; dsimp only)); refine sbox (N := 1) #[.slice A0_0 l0_0.length c0_0, .slice A0_1 l0_1.length c0_1, .int .i64 a0_2] 25 ?_; intro gb300 hg w48 hbox hb; have BK300 := Aside0.mk (hbox); have GW300 := Aside0.mk (sge hg HB : w.heap.size ≤ gb300); have GE300 := Aside0.mk (sge hg HB : w.heap.size ≤ gb300); replace HB := Aside0.mk (sbs HB hb); clear hb hbox hg; have hcz49_0 := sc 0 BK300; have hcz49_1 := sc 1 BK300; have hcz49_2 := sc 2 BK300; have hfz49_0 := blk_frozen BK300.out 0; have hfz49_1 := blk_frozen BK300.out 1; have hfz49_2 := blk_frozen BK300.out 2) | ((with_reducible refine gate_callee (f := 20) rfl ?_); refine goesL_ (some 11) rfl rfl Try.func20 (by kernel_rfl) rfl #[.agg #[.slice A0_0 l0_0.length c0_0, .slice A0_1 l0_1.length c0_1, .int .i64 a0_2]] rfl (by (try simp only [List.map_toArray, List.map_cons, List.map_nil]); first | done | rfl | (simp only [List.length_drop, List.length_take]; rfl)) ?_; (with_reducible refine (posserlaw03_Thin.calls k _ _ l0_0 _ _ l0_1 a0_2 true _ ?side1 ?side2 ?side3 ?side4 A2.out).mono ?_); (case side1 => exact sCb HR0_0 HB); (case side2 => exact HC0_0.out); (case side3 => exact sCb HR0_1 HB); (case side4 => exact HC0_1.out); rintro e w50 ⟨rfl, hb⟩; refine ⟨_, rfl, ?_⟩; replace BK300 := Aside0.mk (sbb BK300 hb); replace HB := Aside0.mk (sbs1 HB GE300 hb); (try clear hb); (try clear hb2); (try clear hk); (try clear hi); have hcz51_0 := sc 0 BK300; have hcz51_1 := sc 1 BK300; have hcz51_2 := sc 2 BK300; have hfz51_0 := blk_frozen BK300.out 0; have hfz51_1 := blk_frozen BK300.out 1; have hfz51_2 := blk_frozen BK300.out 2) | ((with_reducible refine gate_callee (f := 23) rfl ?_); refine goesL_ (some 16) rfl rfl Try.func23 (by kernel_rfl) rfl #[.agg #[.slice A0_0 l0_0.length c0_0, .slice A0_1 l0_1.length c0_1, .int .i64 a0_2]] rfl (by (try simp only [List.map_toArray, List.map_cons, List.map_nil]); first | done | rfl | (simp only [List.length_drop, List.length_take]; rfl)) ?_; (with_reducible refine (posserlaw03_Table.calls _ _ l0_0 _ _ l0_1 a0_2 t302 t305 t308 _ ?side1 ?side2 ?side3 ?side4 A4.out).mono ?_); (case side1 => exact sCb HR0_0 HB); (case side2 => exact HC0_0.out); (case side3 => exact sCb HR0_1 HB); (case side4 => exact HC0_1.out); rintro e w52 ⟨v303, v306, rfl, ho0, ho1, hb⟩; refine ⟨_, rfl, ?_⟩; have HO304 := Aside0.mk (Kd.R_lower (Kd.R_mono (ok' := fun k_ => True) ho0 (fun _ hk_ => trivial)) (below_size (sbe1 HB GE300))); have HO307 := Aside0.mk (Kd.N_lower (Kd.N_mono (ok' := fun k_ => some k_ ≠ (v303 : Value).ownBlock ∧ k_ ≠ gb300) ho1 (fun k_ hk_ => ⟨hk_.2, (Kd.freshB (g := gb300) (o := .cells #[.slice A0_0 l0_0.length c0_0, .slice A0_1 l0_1.length c0_1, .int .i64 a0_2] 25 (0, 0)) (sbk BK300) k_ hk_.1)⟩)) (below_size (sbe1 HB GE300))); replace BK300 := Aside0.mk (sbb BK300 hb); replace HB := Aside0.mk (sbs1 HB GE300 hb); (try clear hb); (try clear hb2); (try clear hk); (try clear hi); (try clear ho0); (try clear ho1); obtain ⟨Ao53, co53, eo53⟩ := Kd.R_slice HO304.out; subst eo53; obtain ⟨Ao54, co54, eo54⟩ := Kd.N_slice HO307.out; subst eo54) | ((with_reducible refine gate_callee (f := 31) rfl ?_); refine goesL_ (some 17) rfl rfl Try.func31 (by kernel_rfl) rfl #[.agg #[.slice Ao53 t302.length co53, .slice Ao54 t305.length co54, .int .i64 t308]] rfl (by (try simp only [List.map_toArray, List.map_cons, List.map_nil]); first | done | rfl | (simp only [List.length_drop, List.length_take]; rfl)) ?_; (with_reducible refine (bundle_First.calls _ _ t302 _ _ t305 t308 t309 t310 _ ?side1 ?side2 ?side3 ?side4 A5.out).mono ?_); (case side1 => repeat (first | exact (Kd.R_reads' HO304.out).2.2 | (with_reducible refine Kd.C_alloc ?_ _) | (with_reducible refine Kd.C_drewN ?_ _) | (with_reducible refine Kd.C_drew ?_))); (case side2 => exact (Kd.R_reads' HO304.out).2.1); (case side3 => repeat (first | exact (Kd.N_reads' HO307.out).2.2 | (with_reducible refine Kd.C_alloc ?_ _) | (with_reducible refine Kd.C_drewN ?_ _) | (with_reducible refine Kd.C_drew ?_))); (case side4 => exact (Kd.N_reads' HO307.out).2.1); rintro e w55 ⟨rfl, hb⟩; refine ⟨_, rfl, ?_⟩; replace HO304 := Aside0.mk (Kd.R_below (sR HO304) hb); replace HO307 := Aside0.mk (Kd.N_below (sN_ HO307) hb); replace BK300 := Aside0.mk (sbb BK300 hb); replace HB := Aside0.mk (sbs1 HB GE300 hb); (try clear hb); (try clear hb2); (try clear hk); (try clear hi); have hcz56_0 := sc 0 BK300; have hcz56_1 := sc 1 BK300; have hcz56_2 := sc 2 BK300; have hfz56_0 := blk_frozen BK300.out 0; have hfz56_1 := blk_frozen BK300.out 1; have hfz56_2 := blk_frozen BK300.out 2) | ((with_reducible refine gate_callee (f := 23) rfl ?_); refine goesL_ (some 22) rfl rfl Try.func23 (by kernel_rfl) rfl #[.agg #[.slice A0_0 l0_0.length c0_0, .slice A0_1 l0_1.length c0_1, .int .i64 a0_2]] rfl (by (try simp only [List.map_toArray, List.map_cons, List.map_nil]); first | done | rfl | (simp only [List.length_drop, List.length_take]; rfl)) ?_; (with_reducible refine (posserlaw03_Table.calls _ _ l0_0 _ _ l0_1 a0_2 t311 t314 t317 _ ?side1 ?side2 ?side3 ?side4 A6.out).mono ?_); (case side1 => exact sCb HR0_0 HB); (case side2 => exact HC0_0.out); (case side3 => exact sCb HR0_1 HB); (case side4 => exact HC0_1.out); rintro e w57 ⟨v312, v315, rfl, ho0, ho1, hb⟩; refine ⟨_, rfl, ?_⟩; have HO313 := Aside0.mk (Kd.R_lower (Kd.R_new' (Kd.R_mono (ok' := fun k_ => True) ho0 (fun _ hk_ => trivial)) (Kd.R_lt (sR HO304))) (below_size (sbe1 HB GE300))); have HO316 := Aside0.mk (Kd.N_lower (Kd.N_mono (ok' := fun k_ => some k_ ≠ (v312 : Value).ownBlock ∧ some k_ ≠ (.slice Ao53 t302.length co53 : Value).ownBlock ∧ some k_ ≠ (.slice Ao54 t305.length co54 : Value).ownBlock ∧ k_ ≠ gb300) ho1 (fun k_ hk_ => ⟨hk_.2, (Kd.fresh' (Kd.R_lt (sR HO304)) k_ hk_.1), (Kd.fresh' (Kd.N_lt (sN_ HO307)) k_ hk_.1), (Kd.freshB (g := gb300) (o := .cells #[.slice A0_0 l0_0.length c0_0, .slice A0_1 l0_1.length c0_1, .int .i64 a0_2] 25 (0, 0)) (sbk BK300) k_ hk_.1)⟩)) (below_size (sbe1 HB GE300))); replace HO304 := Aside0.mk (Kd.R_elder' (sR HO304) (Kd.R_base ho0) hb); replace HO307 := Aside0.mk (Kd.N_mono (Kd.N_told (Kd.N_told (Kd.N_old (sN_ HO307) hb) (Kd.R_base ho0)) (Kd.N_base ho1)) (fun _ h_ => h_.1)); replace BK300 := Aside0.mk (sbb BK300 hb); replace HB := Aside0.mk (sbs1 HB GE300 hb); (try clear hb); (try clear hb2); (try clear hk); (try clear hi); (try clear ho0); (try clear ho1); obtain ⟨Ao58, co58, eo58⟩ := Kd.R_slice HO313.out; subst eo58; obtain ⟨Ao59, co59, eo59⟩ := Kd.N_slice HO316.out; subst eo59) | ((with_reducible refine gate_callee (f := 32) rfl ?_); refine goesL_ (some 23) rfl rfl Try.func32 (by kernel_rfl) rfl #[.agg #[.slice Ao58 t311.length co58, .slice Ao59 t314.length co59, .int .i64 t317]] rfl (by (try simp only [List.map_toArray, List.map_cons, List.map_nil]); first | done | rfl | (simp only [List.length_drop, List.length_take]; rfl)) ?_; (with_reducible refine (bundle_Leave.calls _ _ t311 _ _ t314 t317 t318 t321 _ ?side1 ?side2 ?side3 ?side4 A7.out).mono ?_); (case side1 => repeat (first | exact (Kd.R_reads' HO313.out).2.2 | (with_reducible refine Kd.C_alloc ?_ _) | (with_reducible refine Kd.C_drewN ?_ _) | (with_reducible refine Kd.C_drew ?_))); (case side2 => exact (Kd.R_reads' HO313.out).2.1); (case side3 => repeat (first | exact (Kd.N_reads' HO316.out).2.2 | (with_reducible refine Kd.C_alloc ?_ _) | (with_reducible refine Kd.C_drewN ?_ _) | (with_reducible refine Kd.C_drew ?_))); (case side4 => exact (Kd.N_reads' HO316.out).2.1); rintro e w60 ⟨v319, rfl, ho0, hb⟩; refine ⟨_, rfl, ?_⟩; have HO320 := Aside0.mk (Kd.R_lower ho0 (below_size (sbe1 HB GE300))); replace HO304 := Aside0.mk (Kd.R_below (sR HO304) hb); replace HO307 := Aside0.mk (Kd.N_elder' (sN_ HO307) (Kd.R_base ho0) hb); replace HO313 := Aside0.mk (Kd.R_below (sR HO313) hb); replace HO316 := Aside0.mk (Kd.N_elder' (sN_ HO316) (Kd.R_base ho0) hb); replace BK300 := Aside0.mk (sbb BK300 hb); replace HB := Aside0.mk (sbs1 HB GE300 hb); (try clear hb); (try clear hb2); (try clear hk); (try clear hi); (try clear ho0); have hcz61_0 := sc 0 BK300; have hcz61_1 := sc 1 BK300; have hcz61_2 := sc 2 BK300; have hfz61_0 := blk_frozen BK300.out 0; have hfz61_1 := blk_frozen BK300.out 1; have hfz61_2 := blk_frozen BK300.out 2) | ((with_reducible refine gate_callee (f := 33) rfl ?_); refine goesL_ (some 27) rfl rfl Try.func33 (by kernel_rfl) rfl #[.agg #[.slice A0_0 l0_0.length c0_0, .slice A0_1 l0_1.length c0_1, .int .i64 a0_2]] rfl (by (try simp only [List.map_toArray, List.map_cons, List.map_nil]); first | done | rfl | (simp only [List.length_drop, List.length_take]; rfl)) ?_; (with_reducible refine (posserlaw03_fault.calls k _ _ l0_0 _ _ l0_1 a0_2 t322 _ ?side1 ?side2 ?side3 ?side4 A8.out).mono ?_); (case side1 => exact sCb HR0_0 HB); (case side2 => exact HC0_0.out); (case side3 => exact sCb HR0_1 HB); (case side4 => exact HC0_1.out); rintro e w62 ⟨rfl, hb⟩; refine ⟨_, rfl, ?_⟩; replace HO304 := Aside0.mk (Kd.R_below (sR HO304) hb); replace HO307 := Aside0.mk (Kd.N_below (sN_ HO307) hb); replace HO313 := Aside0.mk (Kd.R_below (sR HO313) hb); replace HO316 := Aside0.mk (Kd.N_below (sN_ HO316) hb); replace HO320 := Aside0.mk (Kd.R_below (sR HO320) hb); replace BK300 := Aside0.mk (sbb BK300 hb); replace HB := Aside0.mk (sbs1 HB GE300 hb); (try clear hb); (try clear hb2); (try clear hk); (try clear hi); have hcz63_0 := sc 0 BK300; have hcz63_1 := sc 1 BK300; have hcz63_2 := sc 2 BK300; have hfz63_0 := blk_frozen BK300.out 0; have hfz63_1 := blk_frozen BK300.out 1; have hfz63_2 := blk_frozen BK300.out 2) | ((with_reducible refine gate_callee (f := 34) rfl ?_); refine goesL_ (some 51) rfl rfl Try.func34 (by kernel_rfl) rfl #[.agg #[.slice A0_0 l0_0.length c0_0, .slice A0_1 l0_1.length c0_1, .int .i64 a0_2]] rfl (by (try simp only [List.map_toArray, List.map_cons, List.map_nil]); first | done | rfl | (simp only [List.length_drop, List.length_take]; rfl)) ?_; (with_reducible refine (posserref03_All.calls k _ _ l0_0 _ _ l0_1 a0_2 t323 _ ?side1 ?side2 ?side3 ?side4 A10.out).mono ?_); (case side1 => exact sCb HR0_0 HB); (case side2 => exact HC0_0.out); (case side3 => exact sCb HR0_1 HB); (case side4 => exact HC0_1.out); rintro e w64 ⟨v324, rfl, ho0, hb⟩; refine ⟨_, rfl, ?_⟩; have HO325 := Aside0.mk (Kd.R_lower (Kd.R_new' ho0 (Kd.R_lt (sR HO320))) (below_size (sbe1 HB GE300))); replace HO304 := Aside0.mk (Kd.R_below (sR HO304) hb); replace HO307 := Aside0.mk (Kd.N_elder' (sN_ HO307) (Kd.R_base ho0) hb); replace HO313 := Aside0.mk (Kd.R_below (sR HO313) hb); replace HO316 := Aside0.mk (Kd.N_elder' (sN_ HO316) (Kd.R_base ho0) hb); replace HO320 := Aside0.mk (Kd.R_elder' (sR HO320) (Kd.R_base ho0) hb); replace BK300 := Aside0.mk (sbb BK300 hb); replace HB := Aside0.mk (sbs1 HB GE300 hb); (try clear hb); (try clear hb2); (try clear hk); (try clear hi); (try clear ho0); have hcz65_0 := sc 0 BK300; have hcz65_1 := sc 1 BK300; have hcz65_2 := sc 2 BK300; have hfz65_0 := blk_frozen BK300.out 0; have hfz65_1 := blk_frozen BK300.out 1; have hfz65_2 := blk_frozen BK300.out 2; obtain ⟨Ao66, co66, eo66⟩ := Kd.R_slice HO325.out; subst eo66) | (go_at_call 35; (with_reducible refine (posserref03_Leave.calls k _ _ l0_0 _ _ l0_1 a0_2 _ _ t323 t326 _ ?side1 ?side2 ?side3 ?side4 ?side5 ?side6 A12.out).mono ?_); (case side1 => exact sCb HR0_0 HB); (case side2 => exact HC0_0.out); (case side3 => exact sCb HR0_1 HB); (case side4 => exact HC0_1.out); (case side5 => repeat (first | exact (Kd.R_reads' HO325.out).2.2 | (with_reducible refine Kd.C_alloc ?_ _) | (with_reducible refine Kd.C_drewN ?_ _) | (with_reducible refine Kd.C_drew ?_))); (case side6 => exact (Kd.R_reads' HO325.out).2.1); rintro e w67 ⟨v327, rfl, ho0, hb⟩; have HO328 := Aside0.mk (Kd.R_lower (Kd.R_new' (Kd.R_new' ho0 (Kd.R_lt (sR HO320))) (Kd.R_lt (sR HO325))) (below_size (sbe1 HB GE300))); replace HO304 := Aside0.mk (Kd.R_below (sR HO304) hb); replace HO307 := Aside0.mk (Kd.N_elder' (sN_ HO307) (Kd.R_base ho0) hb); replace HO313 := Aside0.mk (Kd.R_below (sR HO313) hb); replace HO316 := Aside0.mk (Kd.N_elder' (sN_ HO316) (Kd.R_base ho0) hb); replace HO320 := Aside0.mk (Kd.R_elder' (sR HO320) (Kd.R_base ho0) hb); replace HO325 := Aside0.mk (Kd.R_elder' (sR HO325) (Kd.R_base ho0) hb); replace BK300 := Aside0.mk (sbb BK300 hb); replace HB := Aside0.mk (sbs1 HB GE300 hb); (try clear hb); (try clear hb2); (try clear hk); (try clear hi); (try clear ho0); obtain ⟨Ao68, co68, eo68⟩ := Kd.R_slice HO320.out; subst eo68; obtain ⟨Ao69, co69, eo69⟩ := Kd.R_slice HO328.out; subst eo69) | (go_at_call 25; (with_reducible refine (posserlaw03_ints.calls k _ _ t318 _ _ t326 true _ ?side1 ?side2 ?side3 ?side4 A13.out).mono ?_); (case side1 => repeat (first | exact (Kd.R_reads' HO320.out).2.2 | (with_reducible refine Kd.C_alloc ?_ _) | (with_reducible refine Kd.C_drewN ?_ _) | (with_reducible refine Kd.C_drew ?_))); (case side2 => exact (Kd.R_reads' HO320.out).2.1); (case side3 => repeat (first | exact (Kd.R_reads' HO328.out).2.2 | (with_reducible refine Kd.C_alloc ?_ _) | (with_reducible refine Kd.C_drewN ?_ _) | (with_reducible refine Kd.C_drew ?_))); (case side4 => exact (Kd.R_reads' HO328.out).2.1); rintro e w' ⟨rfl, ⟨nd, rfl⟩⟩; have hcz70_0 := sc 0 BK300; have hcz70_1 := sc 1 BK300; have hcz70_2 := sc 2 BK300; have hfz70_0 := blk_frozen BK300.out 0; have hfz70_1 := blk_frozen BK300.out 1; have hfz70_2 := blk_frozen BK300.out 2) | ((with_reducible refine gate_callee (f := 36) rfl ?_); refine goesL_ (some 64) rfl rfl Try.func36 (by kernel_rfl) rfl #[.agg #[.slice A0_0 l0_0.length c0_0, .slice A0_1 l0_1.length c0_1, .int .i64 a0_2], .slice Ao66 t323.length co66] rfl (by (try simp only [List.map_toArray, List.map_cons, List.map_nil]); first | done | rfl | (simp only [List.length_drop, List.length_take]; rfl)) ?_; (with_reducible refine (posserref03_First.calls k _ _ l0_0 _ _ l0_1 a0_2 _ _ t323 t330 _ ?side1 ?side2 ?side3 ?side4 ?side5 ?side6 A15.out).mono ?_); (case side1 => exact sCb1 HR0_0 HB GE300); (case side2 => exact HC0_0.out); (case side3 => exact sCb1 HR0_1 HB GE300); (case side4 => exact HC0_1.out); (case side5 => repeat (first | exact (Kd.R_reads' HO325.out).2.2 | (with_reducible refine Kd.C_alloc ?_ _) | (with_reducible refine Kd.C_drewN ?_ _) | (with_reducible refine Kd.C_drew ?_))); (case side6 => exact (Kd.R_reads' HO325.out).2.1); rintro e w71 ⟨rfl, hb⟩; refine ⟨_, rfl, ?_⟩; replace HO304 := Aside0.mk (Kd.R_below (sR HO304) hb); replace HO307 := Aside0.mk (Kd.N_below (sN_ HO307) hb); replace HO313 := Aside0.mk (Kd.R_below (sR HO313) hb); replace HO316 := Aside0.mk (Kd.N_below (sN_ HO316) hb); replace HO320 := Aside0.mk (Kd.R_below (sR HO320) hb); replace HO325 := Aside0.mk (Kd.R_below (sR HO325) hb); replace HO328 := Aside0.mk (Kd.R_below (sR HO328) hb); replace BK300 := Aside0.mk (sbb BK300 hb); replace HB := Aside0.mk (sbs1 HB GE300 hb); (try clear hb); (try clear hb2); (try clear hk); (try clear hi)) | (go_at_call 21; (with_reducible refine (posserlaw03_awake.calls  t332 _ A47.out).mono ?_); rintro e w72 ⟨rfl, hb⟩; replace HO304 := Aside0.mk (Kd.R_below (sR HO304) hb); replace HO307 := Aside0.mk (Kd.N_below (sN_ HO307) hb); replace HO313 := Aside0.mk (Kd.R_below (sR HO313) hb); replace HO316 := Aside0.mk (Kd.N_below (sN_ HO316) hb); replace HO320 := Aside0.mk (Kd.R_below (sR HO320) hb); replace HO325 := Aside0.mk (Kd.R_below (sR HO325) hb); replace HO328 := Aside0.mk (Kd.R_below (sR HO328) hb); replace BK300 := Aside0.mk (sbb BK300 hb); replace HB := Aside0.mk (sbs1 HB GE300 hb); (try clear hb); (try clear hb2); (try clear hk); (try clear hi)))
        go_ret
        exact ⟨by first | rfl | (simp [errW_none, errW_some] <;> rfl) | (simp [*, errW_none, errW_some] <;> rfl), (sbe1 HB GE300)⟩
       ·rw [if_neg c46] at H
        exact absurd H (by simp)
      ·rw [if_neg c45] at H
       exact absurd H (by simp)
    ·replace c14 := Bool.eq_false_iff.mpr c14
     subst c14
     have H1 : (none) = some r := by rw [if_neg (show ¬ (false = true) by decide)] at H; exact H
     clear H
     have H := H1
     clear H1
     exact absurd H (by simp)
   ·rw [if_neg c11] at H
    exact absurd H (by simp)
  ·rw [if_neg c9] at H
   have c9b0 : (t322 == 0) = false := beq_eq_false_iff_ne.mpr c9
   have c9b1 : (t322 != 0) = true := bne_iff_ne.mpr c9
   by_cases c73 : t310 = t322
   ·rw [if_pos c73] at H
    have c73b0 : (t310 == t322) = true := beq_iff_eq.mpr c73
    have c73b1 : (t310 != t322) = false := bne_eq_false_iff_eq.mpr c73
    clear c73
    by_cases c74 : t321 = t322
    ·rw [if_pos c74] at H
     have c74b0 : (t321 == t322) = true := beq_iff_eq.mpr c74
     have c74b1 : (t321 != t322) = false := bne_eq_false_iff_eq.mpr c74
     clear c74
     by_cases c75 : t309 = 0
     ·rw [if_pos c75] at H
      have c75b0 : (t309 == 0) = true := beq_iff_eq.mpr c75
      have c75b1 : (t309 != 0) = false := bne_eq_false_iff_eq.mpr c75
      clear c75
      by_cases c76 : (t318.length : Int) = 0
      ·rw [if_pos c76] at H
       have c76b0 : ((t318.length : Int) == 0) = true := beq_iff_eq.mpr c76
       have c76b1 : ((t318.length : Int) != 0) = false := bne_eq_false_iff_eq.mpr c76
       clear c76
       replace H := Option.bind_eq_some_iff.mp H
       obtain ⟨t333, A770, H⟩ := H
       replace H : (some t333) = some r := H
       have A77 := Aside0.mk A770
       clear A770
       obtain rfl := Option.some.inj H
       go_enter Try.func6, Try.ntmps6
       go_wp2_with (first | ((with_reducible refine gate_dst (N := 1) rfl ?_); (try (refine gate_guard (by rfl) ?_; dsimp only)); refine sbox (N := 1) #[.slice A0_0 l0_0.length c0_0, .slice A0_1 l0_1.length c0_1, .int .i64 a0_2] 25 ?_; intro gb300 hg w78 hbox hb; have BK300 := Aside0.mk (hbox); have GW300 := Aside0.mk (sge hg HB : w.heap.size ≤ gb300); have GE300 := Aside0.mk (sge hg HB : w.heap.size ≤ gb300); replace HB := Aside0.mk (sbs HB hb); clear hb hbox hg; have hcz79_0 := sc 0 BK300; have hcz79_1 := sc 1 BK300; have hcz79_2 := sc 2 BK300; have hfz79_0 := blk_frozen BK300.out 0; have hfz79_1 := blk_frozen BK300.out 1; have hfz79_2 := blk_frozen BK300.out 2) | ((with_reducible refine gate_callee (f := 20) rfl ?_); refine goesL_ (some 11) rfl rfl Try.func20 (by kernel_rfl) rfl #[.agg #[.slice A0_0 l0_0.length c0_0, .slice A0_1 l0_1.length c0_1, .int .i64 a0_2]] rfl (by (try simp only [List.map_toArray, List.map_cons, List.map_nil]); first | done | rfl | (simp only [List.length_drop, List.length_take]; rfl)) ?_; (with_reducible refine (posserlaw03_Thin.calls k _ _ l0_0 _ _ l0_1 a0_2 true _ ?side1 ?side2 ?side3 ?side4 A2.out).mono ?_); (case side1 => exact sCb HR0_0 HB); (case side2 => exact HC0_0.out); (case side3 => exact sCb HR0_1 HB); (case side4 => exact HC0_1.out); rintro e w80 ⟨rfl, hb⟩; refine ⟨_, rfl, ?_⟩; replace BK300 := Aside0.mk (sbb BK300 hb); replace HB := Aside0.mk (sbs1 HB GE300 hb); (try clear hb); (try clear hb2); (try clear hk); (try clear hi); have hcz81_0 := sc 0 BK300; have hcz81_1 := sc 1 BK300; have hcz81_2 := sc 2 BK300; have hfz81_0 := blk_frozen BK300.out 0; have hfz81_1 := blk_frozen BK300.out 1; have hfz81_2 := blk_frozen BK300.out 2) | ((with_reducible refine gate_callee (f := 23) rfl ?_); refine goesL_ (some 16) rfl rfl Try.func23 (by kernel_rfl) rfl #[.agg #[.slice A0_0 l0_0.length c0_0, .slice A0_1 l0_1.length c0_1, .int .i64 a0_2]] rfl (by (try simp only [List.map_toArray, List.map_cons, List.map_nil]); first | done | rfl | (simp only [List.length_drop, List.length_take]; rfl)) ?_; (with_reducible refine (posserlaw03_Table.calls _ _ l0_0 _ _ l0_1 a0_2 t302 t305 t308 _ ?side1 ?side2 ?side3 ?side4 A4.out).mono ?_); (case side1 => exact sCb HR0_0 HB); (case side2 => exact HC0_0.out); (case side3 => exact sCb HR0_1 HB); (case side4 => exact HC0_1.out); rintro e w82 ⟨v303, v306, rfl, ho0, ho1, hb⟩; refine ⟨_, rfl, ?_⟩; have HO304 := Aside0.mk (Kd.R_lower (Kd.R_mono (ok' := fun k_ => True) ho0 (fun _ hk_ => trivial)) (below_size (sbe1 HB GE300))); have HO307 := Aside0.mk (Kd.N_lower (Kd.N_mono (ok' := fun k_ => some k_ ≠ (v303 : Value).ownBlock ∧ k_ ≠ gb300) ho1 (fun k_ hk_ => ⟨hk_.2, (Kd.freshB (g := gb300) (o := .cells #[.slice A0_0 l0_0.length c0_0, .slice A0_1 l0_1.length c0_1, .int .i64 a0_2] 25 (0, 0)) (sbk BK300) k_ hk_.1)⟩)) (below_size (sbe1 HB GE300))); replace BK300 := Aside0.mk (sbb BK300 hb); replace HB := Aside0.mk (sbs1 HB GE300 hb); (try clear hb); (try clear hb2); (try clear hk); (try clear hi); (try clear ho0); (try clear ho1); obtain ⟨Ao83, co83, eo83⟩ := Kd.R_slice HO304.out; subst eo83; obtain ⟨Ao84, co84, eo84⟩ := Kd.N_slice HO307.out; subst eo84) | ((with_reducible refine gate_callee (f := 31) rfl ?_); refine goesL_ (some 17) rfl rfl Try.func31 (by kernel_rfl) rfl #[.agg #[.slice Ao83 t302.length co83, .slice Ao84 t305.length co84, .int .i64 t308]] rfl (by (try simp only [List.map_toArray, List.map_cons, List.map_nil]); first | done | rfl | (simp only [List.length_drop, List.length_take]; rfl)) ?_; (with_reducible refine (bundle_First.calls _ _ t302 _ _ t305 t308 t309 t310 _ ?side1 ?side2 ?side3 ?side4 A5.out).mono ?_); (case side1 => repeat (first | exact (Kd.R_reads' HO304.out).2.2 | (with_reducible refine Kd.C_alloc ?_ _) | (with_reducible refine Kd.C_drewN ?_ _) | (with_reducible refine Kd.C_drew ?_))); (case side2 => exact (Kd.R_reads' HO304.out).2.1); (case side3 => repeat (first | exact (Kd.N_reads' HO307.out).2.2 | (with_reducible refine Kd.C_alloc ?_ _) | (with_reducible refine Kd.C_drewN ?_ _) | (with_reducible refine Kd.C_drew ?_))); (case side4 => exact (Kd.N_reads' HO307.out).2.1); rintro e w85 ⟨rfl, hb⟩; refine ⟨_, rfl, ?_⟩; replace HO304 := Aside0.mk (Kd.R_below (sR HO304) hb); replace HO307 := Aside0.mk (Kd.N_below (sN_ HO307) hb); replace BK300 := Aside0.mk (sbb BK300 hb); replace HB := Aside0.mk (sbs1 HB GE300 hb); (try clear hb); (try clear hb2); (try clear hk); (try clear hi); have hcz86_0 := sc 0 BK300; have hcz86_1 := sc 1 BK300; have hcz86_2 := sc 2 BK300; have hfz86_0 := blk_frozen BK300.out 0; have hfz86_1 := blk_frozen BK300.out 1; have hfz86_2 := blk_frozen BK300.out 2) | ((with_reducible refine gate_callee (f := 23) rfl ?_); refine goesL_ (some 22) rfl rfl Try.func23 (by kernel_rfl) rfl #[.agg #[.slice A0_0 l0_0.length c0_0, .slice A0_1 l0_1.length c0_1, .int .i64 a0_2]] rfl (by (try simp only [List.map_toArray, List.map_cons, List.map_nil]); first | done | rfl | (simp only [List.length_drop, List.length_take]; rfl)) ?_; (with_reducible refine (posserlaw03_Table.calls _ _ l0_0 _ _ l0_1 a0_2 t311 t314 t317 _ ?side1 ?side2 ?side3 ?side4 A6.out).mono ?_); (case side1 => exact sCb HR0_0 HB); (case side2 => exact HC0_0.out); (case side3 => exact sCb HR0_1 HB); (case side4 => exact HC0_1.out); rintro e w87 ⟨v312, v315, rfl, ho0, ho1, hb⟩; refine ⟨_, rfl, ?_⟩; have HO313 := Aside0.mk (Kd.R_lower (Kd.R_new' (Kd.R_mono (ok' := fun k_ => True) ho0 (fun _ hk_ => trivial)) (Kd.R_lt (sR HO304))) (below_size (sbe1 HB GE300))); have HO316 := Aside0.mk (Kd.N_lower (Kd.N_mono (ok' := fun k_ => some k_ ≠ (v312 : Value).ownBlock ∧ some k_ ≠ (.slice Ao83 t302.length co83 : Value).ownBlock ∧ some k_ ≠ (.slice Ao84 t305.length co84 : Value).ownBlock ∧ k_ ≠ gb300) ho1 (fun k_ hk_ => ⟨hk_.2, (Kd.fresh' (Kd.R_lt (sR HO304)) k_ hk_.1), (Kd.fresh' (Kd.N_lt (sN_ HO307)) k_ hk_.1), (Kd.freshB (g := gb300) (o := .cells #[.slice A0_0 l0_0.length c0_0, .slice A0_1 l0_1.length c0_1, .int .i64 a0_2] 25 (0, 0)) (sbk BK300) k_ hk_.1)⟩)) (below_size (sbe1 HB GE300))); replace HO304 := Aside0.mk (Kd.R_elder' (sR HO304) (Kd.R_base ho0) hb); replace HO307 := Aside0.mk (Kd.N_mono (Kd.N_told (Kd.N_told (Kd.N_old (sN_ HO307) hb) (Kd.R_base ho0)) (Kd.N_base ho1)) (fun _ h_ => h_.1)); replace BK300 := Aside0.mk (sbb BK300 hb); replace HB := Aside0.mk (sbs1 HB GE300 hb); (try clear hb); (try clear hb2); (try clear hk); (try clear hi); (try clear ho0); (try clear ho1); obtain ⟨Ao88, co88, eo88⟩ := Kd.R_slice HO313.out; subst eo88; obtain ⟨Ao89, co89, eo89⟩ := Kd.N_slice HO316.out; subst eo89) | ((with_reducible refine gate_callee (f := 32) rfl ?_); refine goesL_ (some 23) rfl rfl Try.func32 (by kernel_rfl) rfl #[.agg #[.slice Ao88 t311.length co88, .slice Ao89 t314.length co89, .int .i64 t317]] rfl (by (try simp only [List.map_toArray, List.map_cons, List.map_nil]); first | done | rfl | (simp only [List.length_drop, List.length_take]; rfl)) ?_; (with_reducible refine (bundle_Leave.calls _ _ t311 _ _ t314 t317 t318 t321 _ ?side1 ?side2 ?side3 ?side4 A7.out).mono ?_); (case side1 => repeat (first | exact (Kd.R_reads' HO313.out).2.2 | (with_reducible refine Kd.C_alloc ?_ _) | (with_reducible refine Kd.C_drewN ?_ _) | (with_reducible refine Kd.C_drew ?_))); (case side2 => exact (Kd.R_reads' HO313.out).2.1); (case side3 => repeat (first | exact (Kd.N_reads' HO316.out).2.2 | (with_reducible refine Kd.C_alloc ?_ _) | (with_reducible refine Kd.C_drewN ?_ _) | (with_reducible refine Kd.C_drew ?_))); (case side4 => exact (Kd.N_reads' HO316.out).2.1); rintro e w90 ⟨v319, rfl, ho0, hb⟩; refine ⟨_, rfl, ?_⟩; have HO320 := Aside0.mk (Kd.R_lower ho0 (below_size (sbe1 HB GE300))); replace HO304 := Aside0.mk (Kd.R_below (sR HO304) hb); replace HO307 := Aside0.mk (Kd.N_elder' (sN_ HO307) (Kd.R_base ho0) hb); replace HO313 := Aside0.mk (Kd.R_below (sR HO313) hb); replace HO316 := Aside0.mk (Kd.N_elder' (sN_ HO316) (Kd.R_base ho0) hb); replace BK300 := Aside0.mk (sbb BK300 hb); replace HB := Aside0.mk (sbs1 HB GE300 hb); (try clear hb); (try clear hb2); (try clear hk); (try clear hi); (try clear ho0); have hcz91_0 := sc 0 BK300; have hcz91_1 := sc 1 BK300; have hcz91_2 := sc 2 BK300; have hfz91_0 := blk_frozen BK300.out 0; have hfz91_1 := blk_frozen BK300.out 1; have hfz91_2 := blk_frozen BK300.out 2) | ((with_reducible refine gate_callee (f := 33) rfl ?_); refine goesL_ (some 27) rfl rfl Try.func33 (by kernel_rfl) rfl #[.agg #[.slice A0_0 l0_0.length c0_0, .slice A0_1 l0_1.length c0_1, .int .i64 a0_2]] rfl (by (try simp only [List.map_toArray, List.map_cons, List.map_nil]); first | done | rfl | (simp only [List.length_drop, List.length_take]; rfl)) ?_; (with_reducible refine (posserlaw03_fault.calls k _ _ l0_0 _ _ l0_1 a0_2 t322 _ ?side1 ?side2 ?side3 ?side4 A8.out).mono ?_); (case side1 => exact sCb HR0_0 HB); (case side2 => exact HC0_0.out); (case side3 => exact sCb HR0_1 HB); (case side4 => exact HC0_1.out); rintro e w92 ⟨rfl, hb⟩; refine ⟨_, rfl, ?_⟩; replace HO304 := Aside0.mk (Kd.R_below (sR HO304) hb); replace HO307 := Aside0.mk (Kd.N_below (sN_ HO307) hb); replace HO313 := Aside0.mk (Kd.R_below (sR HO313) hb); replace HO316 := Aside0.mk (Kd.N_below (sN_ HO316) hb); replace HO320 := Aside0.mk (Kd.R_below (sR HO320) hb); replace BK300 := Aside0.mk (sbb BK300 hb); replace HB := Aside0.mk (sbs1 HB GE300 hb); (try clear hb); (try clear hb2); (try clear hk); (try clear hi); obtain ⟨Ao93, co93, eo93⟩ := Kd.R_slice HO320.out; subst eo93) | (go_at_call 21; (with_reducible refine (posserlaw03_awake.calls  t333 _ A77.out).mono ?_); rintro e w94 ⟨rfl, hb⟩; replace HO304 := Aside0.mk (Kd.R_below (sR HO304) hb); replace HO307 := Aside0.mk (Kd.N_below (sN_ HO307) hb); replace HO313 := Aside0.mk (Kd.R_below (sR HO313) hb); replace HO316 := Aside0.mk (Kd.N_below (sN_ HO316) hb); replace HO320 := Aside0.mk (Kd.R_below (sR HO320) hb); replace BK300 := Aside0.mk (sbb BK300 hb); replace HB := Aside0.mk (sbs1 HB GE300 hb); (try clear hb); (try clear hb2); (try clear hk); (try clear hi)))
       go_ret
       exact ⟨by first | rfl | (simp [errW_none, errW_some] <;> rfl) | (simp [*, errW_none, errW_some] <;> rfl), (sbe1 HB GE300)⟩
      ·rw [if_neg c76] at H
       exact absurd H (by simp)
     ·rw [if_neg c75] at H
      exact absurd H (by simp)
    ·rw [if_neg c74] at H
     exact absurd H (by simp)
   ·rw [if_neg c73] at H
    exact absurd H (by simp)
 ·replace c3 := Bool.eq_false_iff.mpr c3
  subst c3
  have H1 : ((posserlaw03_awake.f).bind fun t334 => (some t334)) = some r := by rw [if_neg (show ¬ (false = true) by decide)] at H; exact H
  clear H
  have H := H1
  clear H1
  replace H := Option.bind_eq_some_iff.mp H
  obtain ⟨t334, A950, H⟩ := H
  replace H : (some t334) = some r := H
  have A95 := Aside0.mk A950
  clear A950
  obtain rfl := Option.some.inj H
  go_enter Try.func6, Try.ntmps6
  go_wp2_with (first | ((with_reducible refine gate_dst (N := 1) rfl ?_); (try (refine gate_guard (by rfl) ?_; dsimp only)); refine sbox (N := 1) #[.slice A0_0 l0_0.length c0_0, .slice A0_1 l0_1.length c0_1, .int .i64 a0_2] 25 ?_; intro gb300 hg w96 hbox hb; have BK300 := Aside0.mk (hbox); have GW300 := Aside0.mk (sge hg HB : w.heap.size ≤ gb300); have GE300 := Aside0.mk (sge hg HB : w.heap.size ≤ gb300); replace HB := Aside0.mk (sbs HB hb); clear hb hbox hg; have hcz97_0 := sc 0 BK300; have hcz97_1 := sc 1 BK300; have hcz97_2 := sc 2 BK300; have hfz97_0 := blk_frozen BK300.out 0; have hfz97_1 := blk_frozen BK300.out 1; have hfz97_2 := blk_frozen BK300.out 2) | ((with_reducible refine gate_callee (f := 20) rfl ?_); refine goesL_ (some 11) rfl rfl Try.func20 (by kernel_rfl) rfl #[.agg #[.slice A0_0 l0_0.length c0_0, .slice A0_1 l0_1.length c0_1, .int .i64 a0_2]] rfl (by (try simp only [List.map_toArray, List.map_cons, List.map_nil]); first | done | rfl | (simp only [List.length_drop, List.length_take]; rfl)) ?_; (with_reducible refine (posserlaw03_Thin.calls k _ _ l0_0 _ _ l0_1 a0_2 false _ ?side1 ?side2 ?side3 ?side4 A2.out).mono ?_); (case side1 => exact sCb HR0_0 HB); (case side2 => exact HC0_0.out); (case side3 => exact sCb HR0_1 HB); (case side4 => exact HC0_1.out); rintro e w98 ⟨rfl, hb⟩; refine ⟨_, rfl, ?_⟩; replace BK300 := Aside0.mk (sbb BK300 hb); replace HB := Aside0.mk (sbs1 HB GE300 hb); (try clear hb); (try clear hb2); (try clear hk); (try clear hi)) | ((with_reducible refine gate_callee (f := 21) rfl ?_); refine goesL_ (some 13) rfl rfl Try.func21 (by kernel_rfl) rfl #[] rfl (by (try simp only [List.map_toArray, List.map_cons, List.map_nil]); first | done | rfl | (simp only [List.length_drop, List.length_take]; rfl)) ?_; (with_reducible refine (posserlaw03_awake.calls  t334 _ A95.out).mono ?_); rintro e w99 ⟨rfl, hb⟩; refine ⟨_, rfl, ?_⟩; replace BK300 := Aside0.mk (sbb BK300 hb); replace HB := Aside0.mk (sbs1 HB GE300 hb); (try clear hb); (try clear hb2); (try clear hk); (try clear hi)))
  go_ret
  exact ⟨by first | rfl | (simp [errW_none, errW_some] <;> rfl) | (simp [*, errW_none, errW_some] <;> rfl), (sbe1 HB GE300)⟩
end Go.Proofs.Ytnbbbeghgomnoaa.X
namespace Go.Proofs.Ytnbbbeghgomnoaa.X
open Go.RowKit Go.Proofs.YtnbbbeghgomnoaaW.PrintWords Go.Proofs.YtnbbbeghgomnoaaW.PrintLast Go.Proofs.YtnbbbeghgomnoaaW.PrintMore
def beforeB : List Int → List Int → Bool
 | [], b => decide (0 < b.length)
 | _ :: _, [] => false
 | x :: a, y :: b => if x = y then beforeB a b else decide (x < y)
def shorterB (a b : List Int) : Bool := decide (a.length < b.length) || (decide (a.length = b.length) && beforeB a b)
theorem beforeB_trans : ∀ (a b c : List Int), beforeB a b = true → beforeB b c = true → beforeB a c = true := by
 intro a
 induction a with
 | nil =>
  intro b c h1 h2
  cases c with
  | cons z c => rfl
  | nil =>
   cases b with
   | nil => exact h1
   | cons y b => cases h2
 | cons x a ih =>
  intro b c h1 h2
  cases b with
  | nil => cases h1
  | cons y b =>
   cases c with
   | nil => cases h2
   | cons z c =>
    unfold beforeB at h1 h2 ⊢
    by_cases e1 : x = y
    ·rw [if_pos e1] at h1
     by_cases e2 : y = z
     ·rw [if_pos e2] at h2
      rw [if_pos (e1.trans e2)]; exact ih b c h1 h2
     ·rw [if_neg e2] at h2
      have := of_decide_eq_true h2
      rw [if_neg (by omega)]; exact decide_eq_true (by omega)
    ·rw [if_neg e1] at h1
     have h3 := of_decide_eq_true h1
     by_cases e2 : y = z
     ·rw [if_neg (by omega)]; exact decide_eq_true (by omega)
     ·rw [if_neg e2] at h2
      have h4 := of_decide_eq_true h2
      rw [if_neg (by omega)]; exact decide_eq_true (by omega)
theorem shorterB_trans {a b c : List Int} (h1 : shorterB a b = true) (h2 : shorterB b c = true) : shorterB a c = true := by
 unfold shorterB at h1 h2 ⊢
 simp only [Bool.or_eq_true, Bool.and_eq_true, decide_eq_true_eq] at h1 h2 ⊢
 rcases h1 with h1 | ⟨h1, k1⟩ <;> rcases h2 with h2 | ⟨h2, k2⟩
 ·left; omega
 ·left; omega
 ·left; omega
 ·right; exact ⟨by omega, beforeB_trans _ _ _ k1 k2⟩
theorem Before_ev (a b : List Int) (ha : a.length ≤ 1000000) (hb : b.length ≤ 1000000) : Evt (fun k => posserref03_Before.f k a b) (beforeB a b) := by
 have main : ∀ (d i : Nat), i + d = a.length → i ≤ b.length → Evt (fun k => posserref03_Before.l0 k a b (i : Int)) (beforeB (a.drop i) (b.drop i)) := by
  intro d
  induction d with
  | zero =>
   intro i hi hib
   have he : beforeB (a.drop i) (b.drop i) = decide ((a.length : Int) < (b.length : Int)) := by
    rw [List.drop_eq_nil_of_le (by omega)]
    show decide (0 < (b.drop i).length) = _
    rw [List.length_drop]
    by_cases h : i < b.length
    ·rw [decide_eq_true (by omega), decide_eq_true (by omega)]
    ·rw [decide_eq_false (by omega), decide_eq_false (by omega)]
   rw [he]
   refine Evt.succ (Evt.succ (Evt.const _) (g := fun k => posserref03_Before.j1 k a b (i : Int) false) (fun k => ?_)) (fun k => ?_)
   ·simp only [posserref03_Before.j1]
    rw [if_neg (by decide)]
   ·simp only [posserref03_Before.l0]
    rw [if_neg (by omega)]
  | succ d ih =>
   intro i hi hib
   have hlt : i < a.length := by omega
   have hda : a.drop i = a[i] :: a.drop (i + 1) := List.drop_eq_getElem_cons hlt
   by_cases hlb : i < b.length
   ·have hdb : b.drop i = b[i] :: b.drop (i + 1) := List.drop_eq_getElem_cons hlb
    have hbe : beforeB (a.drop i) (b.drop i) = if a[i] = b[i] then beforeB (a.drop (i + 1)) (b.drop (i + 1)) else decide (a[i] < b[i]) := by rw [hda, hdb]; rfl
    rw [hbe]
    by_cases he : a[i] = b[i]
    ·rw [if_pos he]
     refine Evt.succ (Evt.succ (ih (i + 1) (by omega) (by omega)) (g := fun k => posserref03_Before.j1 k a b (i : Int) true) (fun k => ?_)) (fun k => ?_)
     ·simp only [posserref03_Before.j1]
      rw [if_pos trivial, if_pos (by omega), if_pos (by omega), if_pos (by omega), rd_get a i hlt, rd_get b i hlb, if_pos he, wrap_succ i _ hlt (by omega)]
     ·simp only [posserref03_Before.l0]
      rw [if_pos (by omega), decide_eq_true (by omega)]
    ·rw [if_neg he]
     refine Evt.succ (Evt.succ (Evt.const _) (g := fun k => posserref03_Before.j1 k a b (i : Int) true) (fun k => ?_)) (fun k => ?_)
     ·simp only [posserref03_Before.j1]
      rw [if_pos trivial, if_pos (by omega), if_pos (by omega), if_pos (by omega), rd_get a i hlt, rd_get b i hlb, if_neg he]
     ·simp only [posserref03_Before.l0]
      rw [if_pos (by omega), decide_eq_true (by omega)]
   ·have hbe : beforeB (a.drop i) (b.drop i) = decide ((a.length : Int) < (b.length : Int)) := by
     rw [hda, show b.drop i = [] from List.drop_eq_nil_of_le (by omega), decide_eq_false (by omega)]; rfl
    rw [hbe]
    refine Evt.succ (Evt.succ (Evt.const _) (g := fun k => posserref03_Before.j1 k a b (i : Int) false) (fun k => ?_)) (fun k => ?_)
    ·simp only [posserref03_Before.j1]
     rw [if_neg (by decide)]
    ·simp only [posserref03_Before.l0]
     rw [if_pos (by omega), decide_eq_false (by omega)]
 exact main a.length 0 (by omega) (by omega)
theorem Shorter_ev (a b : List Int) (ha : a.length ≤ 1000000) (hb : b.length ≤ 1000000) : Evt (fun k => posserref03_Shorter.f k a b) (shorterB a b) := by
 unfold shorterB
 by_cases h1 : a.length < b.length
 ·rw [decide_eq_true h1, Bool.true_or]
  refine (Evt.const true).congr (fun k => ?_)
  show posserref03_Shorter.f k a b = _
  unfold posserref03_Shorter.f
  rw [if_pos (by omega)]
 ·rw [decide_eq_false h1, Bool.false_or]
  by_cases h2 : a.length = b.length
  ·rw [decide_eq_true h2, Bool.true_and]
   refine ((Before_ev a b ha hb).bind (g := fun t _ => some t) (Evt.const _)).congr (fun k => ?_)
   show posserref03_Shorter.f k a b = _
   unfold posserref03_Shorter.f
   rw [if_neg (by omega), if_pos (by omega)]
  ·rw [decide_eq_false h2, Bool.false_and]
   refine (Evt.const false).congr (fun k => ?_)
   show posserref03_Shorter.f k a b = _
   unfold posserref03_Shorter.f
   rw [if_neg (by omega), if_neg (by omega)]
def rightsL (l0 : List S109) (l1 : List S110) : List Nat := (allL l0 l1).map fun x => bitsN (rightP l0 l1.length x) l0.length
theorem All_ev {l0 : List S85} {l1 : List S71} {wg : Int} (h : VR l0 l1 wg) : Evt (fun k => posserref03_All.f k l0 l1 wg) ((rightsL (l0.map cvW) (l1.map cvP)).map fun (n : Nat) => (n : Int)) := by
 have hmny := h.mny
 unfold rightsL
 rw [List.length_map, List.length_map, List.map_map]
 obtain ⟨AL, hAL⟩ : ∃ AL, allL (l0.map cvW) (l1.map cvP) = AL := ⟨_, rfl⟩
 have hN : ∀ n, (hn : n < AL.length) → Evt (fun k => posserref03_Nth.f k l0 l1 wg (n : Int)) AL[n] := by subst hAL; exact fun n hn => Nth_val h n hn
 have hM := Many_val h
 have hel : ∀ x ∈ AL, x.length = l1.length := fun x hx => by
  rw [← hAL] at hx
  rw [((allL_mem _ _ x).1 hx).1, List.length_map]
 have h1 := h.n1
 have hT : ∀ n, (hn : n < AL.length) → Evt (fun k => posserref03_Right.f k l0 l1 wg AL[n]) ((bitsN (rightP (l0.map cvW) l1.length AL[n]) l0.length : Nat) : Int) := fun n hn => by
  have hx := hel _ (List.getElem_mem hn)
  exact Right_ev wg h.n0 AL[n] hx (by omega)
 rw [hAL] at hmny hM
 rw [hAL]
 obtain ⟨F, hF⟩ : ∃ F : List Int → Int, F = (fun x => ((bitsN (rightP (l0.map cvW) l1.length x) l0.length : Nat) : Int)) := ⟨_, rfl⟩
 have hc : ((fun (n : Nat) => (n : Int)) ∘ fun x => bitsN (rightP (l0.map cvW) l1.length x) l0.length) = F := by rw [hF]; rfl
 have hT' : ∀ n, (hn : n < AL.length) → Evt (fun k => posserref03_Right.f k l0 l1 wg AL[n]) (F AL[n]) := fun n hn => by rw [hF]; exact hT n hn
 rw [hc]
 have main : ∀ (d n : Nat), n + d = AL.length → Evt (fun k => posserref03_All.l0 k ((AL.take n).map F) (n : Int) l0 l1 wg) (AL.map F) := by
  intro d
  induction d with
  | zero =>
   intro n hn
   obtain rfl : n = AL.length := by omega
   rw [List.take_length]
   obtain ⟨K, hK⟩ := hM
   refine ⟨K + 1, fun k hk => ?_⟩
   obtain ⟨k, rfl⟩ : ∃ m, k = m + 1 := ⟨k - 1, by omega⟩
   have g1 := hK k (by omega)
   dsimp only at g1 ⊢
   simp only [posserref03_All.l0]
   rw [g1]
   simp only [Option.bind_some]
   rw [if_neg (by omega)]
  | succ d ih =>
   intro n hn
   have hlt : n < AL.length := by omega
   obtain ⟨K, hK⟩ := hM
   obtain ⟨L, hL⟩ := hN n hlt
   obtain ⟨M, hM2⟩ := hT' n hlt
   obtain ⟨J, hJ⟩ := ih (n + 1) (by omega)
   refine ⟨K + L + M + J + 1, fun k hk => ?_⟩
   obtain ⟨k, rfl⟩ : ∃ m, k = m + 1 := ⟨k - 1, by omega⟩
   have g1 := hK k (by omega)
   have g2 := hL k (by omega)
   have g3 := hM2 k (by omega)
   have g4 := hJ k (by omega)
   dsimp only at g1 g2 g3 g4 ⊢
   have hfl : ((AL.take n).map F).length ≤ n := by rw [List.length_map]; exact List.length_take_le _ _
   simp only [posserref03_All.l0]
   rw [g1]
   simp only [Option.bind_some]
   rw [if_pos (by omega), g2]
   simp only [Option.bind_some]
   rw [g3]
   simp only [Option.bind_some]
   rw [List.take_succ_eq_append_getElem hlt, List.map_append] at g4
   rw [wrap_succ n _ hlt (by omega), if_pos (by omega)]
   exact g4
 exact main AL.length 0 (by omega)
theorem and_small : ∀ a, a < 32 → ∀ b, b < 64 → Go.bits .and .i64 ((a : Nat) : Int) ((b : Nat) : Int) = ((a &&& b : Nat) : Int) := by decide +kernel
def canB (rs : List Nat) (W : Nat) : Bool := rs.any fun r => decide (r &&& W = W)
theorem Can_ev (rs : List Nat) (W : Nat) (hr : ∀ r ∈ rs, r < 32) (hW : W < 64) (hl : rs.length ≤ 1000000) : Evt (fun k => posserref03_Can.f k (rs.map fun (n : Nat) => (n : Int)) (W : Int)) (canB rs W) := by
 have main : ∀ (d i : Nat), i + d = rs.length → Evt (fun k => posserref03_Can.l0 k (rs.map fun (n : Nat) => (n : Int)) (W : Int) (i : Int)) ((rs.drop i).any fun r => decide (r &&& W = W)) := by
  intro d
  induction d with
  | zero =>
   intro i hi
   rw [List.drop_eq_nil_of_le (by omega)]
   refine Evt.succ (Evt.const _) (fun k => ?_)
   simp only [posserref03_Can.l0]
   rw [if_neg (by rw [List.length_map]; omega)]; rfl
  | succ d ih =>
   intro i hi
   have hlt : i < rs.length := by omega
   have hd : rs.drop i = rs[i] :: rs.drop (i + 1) := List.drop_eq_getElem_cons hlt
   have hg : rd (rs.map fun (n : Nat) => (n : Int)) (i : Int) = ((rs[i] : Nat) : Int) := by
    rw [rd_get _ i (by rw [List.length_map]; exact hlt), List.getElem_map]
   have hs := and_small rs[i] (hr _ (List.getElem_mem hlt)) W hW
   rw [hd, List.any_cons]
   by_cases he : rs[i] &&& W = W
   ·rw [decide_eq_true he, Bool.true_or]
    refine Evt.succ (Evt.const true) (fun k => ?_)
    simp only [posserref03_Can.l0]
    rw [if_pos (by rw [List.length_map]; omega), if_pos (by omega), hg, hs, he, if_pos rfl]
   ·rw [decide_eq_false he, Bool.false_or]
    refine Evt.succ (ih (i + 1) (by omega)) (fun k => ?_)
    simp only [posserref03_Can.l0]
    rw [if_pos (by rw [List.length_map]; omega), if_pos (by omega), hg, hs, if_neg (by omega), wrap_succ i _ hlt (by omega)]
 exact main rs.length 0 (by omega)
def setsN (n : Nat) : List (List Int) := (List.range (n + 1)).flatMap fun k => combs n k 0
def setOf (m : Nat) : List Int := sel (fun j => m.testBit j) 6
theorem sets_sorted : ∀ n, n < 6 → (setsN n).Pairwise (fun a b => shorterB a b = true) := by decide +kernel
theorem sets_bits : ∀ n, n < 6 → ∀ m, m < 2 ^ n → setOf m ∈ setsN n := by decide +kernel
theorem sets_of : ∀ n, n < 6 → ∀ s ∈ setsN n, ∃ m, m < 2 ^ n ∧ s = setOf m := by decide +kernel
theorem setOf_len (m : Nat) : (setOf m).length ≤ 6 := sel_le _ _
theorem setOf_mem (m j : Nat) : (setOf m).contains (j : Int) = (decide (j < 6) && m.testBit j) := by
 rw [Bool.eq_iff_iff, List.contains_iff_mem]
 unfold setOf
 rw [sel_mem, Bool.and_eq_true, decide_eq_true_eq]
 constructor
 ·rintro ⟨k, h1, h2, h3⟩
  obtain rfl : j = k := by omega
  exact ⟨h1, h2⟩
 ·rintro ⟨h1, h2⟩; exact ⟨j, h1, h2, rfl⟩
theorem shorterB_irrefl : ∀ a : List Int, shorterB a a = false := by
 intro a
 have hb : ∀ a : List Int, beforeB a a = false := by
  intro a
  induction a with
  | nil => rfl
  | cons x a ih => unfold beforeB; rw [if_pos rfl]; exact ih
 unfold shorterB
 rw [hb, decide_eq_false (by omega), Bool.and_false]; rfl
theorem leaveL_find (l0 : List S109) (l1 : List S110) : leaveL l0 l1 = ((setsN l0.length).find? (possL l0 l1)).getD [] := by
 unfold leaveL setsN
 rw [List.find?_flatMap]
 refine congrArg (fun o => Option.getD o []) (congrArg (fun f => List.findSome? f _) (funext fun k => ?_))
 unfold leaveS
 simp
theorem find_least {C : List (List Int)} {P : List Int → Bool} (hC : C.Pairwise (fun a b => shorterB a b = true)) {r : List Int} (hr : r ∈ C) (hP : P r = true) (hl : ∀ t ∈ C, P t = true → shorterB t r = false) : (C.find? P).getD [] = r := by
 cases hf : C.find? P with
 | none =>
  have := List.find?_eq_none.1 hf r hr
  exact absurd hP this
 | some s =>
  show s = r
  obtain ⟨hPs, x, y, hxy, hx⟩ := List.find?_eq_some_iff_append.1 hf
  have hs := hl s (by rw [hxy]; simp) hPs
  rw [hxy] at hr hC
  rcases List.mem_append.1 hr with h | h
  ·have := hx r h
   rw [hP] at this; cases this
  ·rcases List.mem_cons.1 h with h | h
   ·exact h.symm
   ·have h2 := (List.pairwise_append.1 hC).2.1
    have h3 := (List.pairwise_cons.1 h2).1 r h
    rw [hs] at h3; cases h3
def restW (n m : Nat) : Nat := (2 ^ n - 1) ^^^ ((2 ^ n - 1) &&& m)
theorem restW_bit (n m j : Nat) : (restW n m).testBit j = (decide (j < n) && !m.testBit j) := by
 unfold restW
 rw [Nat.testBit_xor, Nat.testBit_and, Nat.testBit_two_pow_sub_one]
 cases decide (j < n) <;> cases m.testBit j <;> rfl
theorem restW_lt (n m : Nat) (h : n ≤ 5) : restW n m < 32 := by
 have hp := pow_small n h
 unfold restW
 have h2 : 2 ^ n - 1 < 2 ^ 5 := by omega
 exact Nat.xor_lt_two_pow h2 (Nat.lt_of_le_of_lt Nat.and_le_left h2)
theorem cond_right (l0 : List S109) (n1 : Nat) (x : List Int) (m : Nat) (h : l0.length ≤ 5) : decide (bitsN (rightP l0 n1 x) l0.length &&& restW l0.length m = restW l0.length m) = condL l0 n1 (setOf m) x := by
 rw [Bool.eq_iff_iff, decide_eq_true_eq]
 unfold condL
 rw [List.all_eq_true]
 constructor
 ·intro he v hv
  obtain ⟨j, hj, hb, rfl⟩ := (sel_mem _ _ _).1 hv
  rw [setOf_mem, decide_eq_true (by omega), Bool.true_and]
  have h2 := congrArg (fun z => z.testBit j) he
  rw [Nat.testBit_and, bitsN_bit, restW_bit, decide_eq_true hj] at h2
  unfold rightP at h2
  rw [hb] at h2
  cases hm : m.testBit j
  ·rw [hm] at h2; cases h2
  ·rfl
 ·intro ha
  refine Nat.eq_of_testBit_eq fun j => ?_
  rw [Nat.testBit_and, bitsN_bit, restW_bit]
  by_cases hj : j < l0.length
  ·rw [decide_eq_true hj]
   unfold rightP
   cases hb : bad l0 n1 (pad x) j
   ·simp
   ·have := ha (j : Int) ((sel_mem _ _ _).2 ⟨j, hj, hb, rfl⟩)
    rw [setOf_mem, decide_eq_true (by omega), Bool.true_and] at this
    rw [this]; rfl
  ·rw [decide_eq_false hj]; rfl
theorem can_poss (l0 : List S109) (l1 : List S110) (m : Nat) (h : l0.length ≤ 5) : canB (rightsL l0 l1) (restW l0.length m) = possL l0 l1 (setOf m) := by
 unfold canB rightsL possL
 rw [List.any_map]
 refine congrArg (fun p => List.any (allL l0 l1) p) (funext fun x => ?_)
 exact cond_right l0 l1.length x m h
theorem rights_lt {l0 : List S109} (l1 : List S110) (h : l0.length ≤ 5) : ∀ r ∈ rightsL l0 l1, r < 32 := by
 intro r hr
 obtain ⟨x, _, rfl⟩ := List.mem_map.1 hr
 have := bitsN_lt (rightP l0 l1.length x) l0.length
 have := pow_small l0.length h
 omega
theorem rights_len {l0 : List S109} {l1 : List S110} : (rightsL l0 l1).length = (allL l0 l1).length := by simp [rightsL]
def leaveF (l0 : List S109) (l1 : List S110) (m : Nat) : List Int := (List.range m).foldl (fun b i => if shorterB (setOf i) b && canB (rightsL l0 l1) (restW l0.length i) then setOf i else b) (setOf (2 ^ l0.length - 1))
theorem leaveF_succ (l0 : List S109) (l1 : List S110) (m : Nat) : leaveF l0 l1 (m + 1) = if shorterB (setOf m) (leaveF l0 l1 m) && canB (rightsL l0 l1) (restW l0.length m) then setOf m else leaveF l0 l1 m := by
 unfold leaveF
 rw [List.range_succ, List.foldl_append]; rfl
theorem leaveF_inv (l0 : List S109) (l1 : List S110) (h : l0.length ≤ 5) (hok : l1.all (okP l0) = true) : ∀ m, m ≤ 2 ^ l0.length → leaveF l0 l1 m ∈ setsN l0.length ∧ possL l0 l1 (leaveF l0 l1 m) = true ∧ ∀ i, i < m → possL l0 l1 (setOf i) = true → shorterB (setOf i) (leaveF l0 l1 m) = false := by
 have hp := pow_small l0.length h
 have hpos : 0 < 2 ^ l0.length := Nat.two_pow_pos _
 intro m
 induction m with
 | zero =>
  intro _
  refine ⟨sets_bits _ (by omega) _ (by omega), poss_all hok (fun k hk => ?_), fun i hi => absurd hi (by omega)⟩
  have := setOf_mem (2 ^ l0.length - 1) k
  rw [Nat.testBit_two_pow_sub_one, decide_eq_true hk, decide_eq_true (by omega)] at this
  exact List.contains_iff_mem.1 this
 | succ m ih =>
  intro hm
  obtain ⟨h1, h2, h3⟩ := ih (by omega)
  rw [leaveF_succ]
  by_cases hc : (shorterB (setOf m) (leaveF l0 l1 m) && canB (rightsL l0 l1) (restW l0.length m)) = true
  ·rw [if_pos hc]
   rw [Bool.and_eq_true, can_poss _ _ _ h] at hc
   refine ⟨sets_bits _ (by omega) _ (by omega), hc.2, fun i hi hP => ?_⟩
   by_cases e : i = m
   ·subst e; exact shorterB_irrefl _
   ·have h4 := h3 i (by omega) hP
    cases h5 : shorterB (setOf i) (setOf m)
    ·rfl
    ·rw [shorterB_trans h5 hc.1] at h4; cases h4
  ·rw [if_neg hc]
   refine ⟨h1, h2, fun i hi hP => ?_⟩
   by_cases e : i = m
   ·subst e
    cases h5 : shorterB (setOf i) (leaveF l0 l1 i)
    ·rfl
    ·rw [h5, can_poss _ _ _ h, hP] at hc; exact absurd rfl hc
   ·exact h3 i (by omega) hP
theorem leaveF_eq (l0 : List S109) (l1 : List S110) (h : l0.length ≤ 5) (hok : l1.all (okP l0) = true) : leaveF l0 l1 (2 ^ l0.length) = leaveL l0 l1 := by
 obtain ⟨h1, h2, h3⟩ := leaveF_inv l0 l1 h hok _ (Nat.le_refl _)
 rw [leaveL_find]
 refine (find_least (sets_sorted _ (by omega)) h1 h2 (fun t ht hP => ?_)).symm
 obtain ⟨m, hm, rfl⟩ := sets_of _ (by omega) t ht
 exact h3 m hm hP
theorem leaveF_len (l0 : List S109) (l1 : List S110) (m : Nat) : (leaveF l0 l1 m).length ≤ 6 := by
 induction m with
 | zero => exact setOf_len _
 | succ m ih =>
  rw [leaveF_succ]
  split
  ·exact setOf_len _
  ·exact ih
theorem RLeave_ev {l0 : List S85} {l1 : List S71} {wg : Int} (h : VR l0 l1 wg) : Evt (fun k => posserref03_Leave.f k l0 l1 wg ((rightsL (l0.map cvW) (l1.map cvP)).map fun (n : Nat) => (n : Int))) (leaveL (l0.map cvW) (l1.map cvP)) := by
 have h0 := h.n0
 have hlen : (l0.map cvW).length = l0.length := List.length_map _
 have hfu := Full_f l0 l1 wg h0
 have hrl : (rightsL (l0.map cvW) (l1.map cvP)).length ≤ 1000000 := by rw [rights_len]; have := h.mny; omega
 have hcan : ∀ m : Nat, m < 64 → Evt (fun k => posserref03_Can.f k ((rightsL (l0.map cvW) (l1.map cvP)).map fun (n : Nat) => (n : Int)) ((restW l0.length m : Nat) : Int)) (canB (rightsL (l0.map cvW) (l1.map cvP)) (restW l0.length m)) := fun m _ =>
  Can_ev (rightsL (l0.map cvW) (l1.map cvP)) (restW l0.length m) (rights_lt _ (by rw [hlen]; exact h0)) (by have := restW_lt l0.length m h0; omega) hrl
 have hand : ∀ m : Nat, m < 32 → Go.bits .andNot .i64 ((2 ^ l0.length - 1 : Nat) : Int) (m : Int) = ((restW l0.length m : Nat) : Int) := fun m hm => by
  have hp := pow_small l0.length h0
  unfold restW
  exact andNot_small (2 ^ l0.length - 1) (by omega) m hm
 have hsucc : ∀ m : Nat, leaveF (l0.map cvW) (l1.map cvP) (m + 1) = if shorterB (setOf m) (leaveF (l0.map cvW) (l1.map cvP) m) && canB (rightsL (l0.map cvW) (l1.map cvP)) (restW l0.length m) then setOf m else leaveF (l0.map cvW) (l1.map cvP) m := fun m => by
  have := leaveF_succ (l0.map cvW) (l1.map cvP) m
  rw [hlen] at this; exact this
 have hz : leaveF (l0.map cvW) (l1.map cvP) 0 = setOf (2 ^ l0.length - 1) := by
  unfold leaveF
  rw [hlen]; rfl
 have hend : leaveF (l0.map cvW) (l1.map cvP) (2 ^ l0.length) = leaveL (l0.map cvW) (l1.map cvP) := by
  have := leaveF_eq (l0.map cvW) (l1.map cvP) (by rw [hlen]; exact h0) h.val.ps
  rw [hlen] at this; exact this
 have hll := leaveF_len (l0.map cvW) (l1.map cvP)
 have hp := pow_small l0.length h0
 have hpos : 0 < 2 ^ l0.length := Nat.two_pow_pos _
 rw [← hend]
 clear hend hrl
 generalize leaveF (l0.map cvW) (l1.map cvP) = F at hsucc hz hll ⊢
 generalize (rightsL (l0.map cvW) (l1.map cvP)) = RS at hcan hsucc ⊢
 generalize RS.map (fun (n : Nat) => (n : Int)) = RI at hcan ⊢
 generalize restW l0.length = rW at hcan hand hsucc
 generalize 2 ^ l0.length = N at hfu hand hz hp hpos ⊢
 have main : ∀ (d m : Nat), m + d = N → Evt (fun k => posserref03_Leave.l0 k RI (F m) (m : Int) l0 l1 wg) (F N) := by
  intro d
  induction d with
  | zero =>
   intro m hm
   obtain rfl : m = N := by omega
   refine Evt.succ (Evt.const _) (fun k => ?_)
   simp only [posserref03_Leave.l0]
   rw [hfu]
   simp only [Option.bind_some]
   rw [if_neg (by omega)]
  | succ d ih =>
   intro m hm
   obtain ⟨K, hK⟩ := Bits_ev m (by omega)
   obtain ⟨L, hL⟩ := Shorter_ev (setOf m) (F m) (by have := setOf_len m; omega) (by have := hll m; omega)
   obtain ⟨M, hM⟩ := hcan m (by omega)
   obtain ⟨J, hJ⟩ := ih (m + 1) (by omega)
   have han := hand m (by omega)
   have hw : wrap64 ((m : Int) + 1) = ((m + 1 : Nat) : Int) := wrap_succ m 32 (by omega) (by omega)
   refine ⟨K + L + M + J + 1, fun k hk => ?_⟩
   obtain ⟨k, rfl⟩ : ∃ m, k = m + 1 := ⟨k - 1, by omega⟩
   have g1 := hK k (by omega)
   have g2 := hL k (by omega)
   have g3 := hM k (by omega)
   have g4 := hJ k (by omega)
   dsimp only at g1 g2 g3 g4 ⊢
   rw [show sel (fun j => m.testBit j) 6 = setOf m from rfl] at g1
   simp only [posserref03_Leave.l0]
   rw [hfu]
   simp only [Option.bind_some]
   rw [if_pos (by omega), g1]
   simp only [Option.bind_some]
   rw [g2]
   simp only [Option.bind_some]
   rw [hw, han, g3]
   simp only [Option.bind_some]
   rw [hsucc] at g4
   cases hs : shorterB (setOf m) (F m) with
   | false =>
    rw [hs, Bool.false_and, if_neg (by decide)] at g4
    rw [if_neg (by decide)]; exact g4
   | true =>
    rw [hs, Bool.true_and] at g4
    rw [if_pos rfl]
    cases hc : canB RS (rW m) with
    | false =>
     rw [hc, if_neg (by decide)] at g4
     rw [if_neg (by decide)]; exact g4
    | true =>
     rw [hc, if_pos rfl] at g4
     rw [if_pos rfl]; exact g4
 obtain ⟨K, hK⟩ := Bits_ev (N - 1) (by omega)
 obtain ⟨L, hL⟩ := main N 0 (by omega)
 refine ⟨K + L, fun k hk => ?_⟩
 have g1 := hK k (by omega)
 have g2 := hL k (by omega)
 dsimp only at g1 g2 ⊢
 rw [show sel (fun j => (N - 1).testBit j) 6 = setOf (N - 1) from rfl] at g1
 unfold posserref03_Leave.f
 rw [hfu]
 simp only [Option.bind_some]
 rw [g1]
 simp only [Option.bind_some]
 rw [hz] at g2
 exact g2
theorem aft_small : ∀ n, n < 6 → ∀ w, w < n → (aft n).drop (w + 1) = setOf ((2 ^ n - 1) ^^^ (2 ^ (w + 1) - 1)) ∧ restW n ((2 ^ n - 1) ^^^ (2 ^ (w + 1) - 1)) = 2 ^ (w + 1) - 1 ∧ wrap64 ((shl .i64 2 (IntKind.u64.wrap ((w : Nat) : Int))) - 1) = ((2 ^ (w + 1) - 1 : Nat) : Int) := by decide +kernel
def firstR (l0 : List S109) (l1 : List S110) : Int := match (List.range l0.length).find? (firstP l0 l1) with | some w => (w : Int) | none => -1
theorem RFirst_ev {l0 : List S85} {l1 : List S71} {wg : Int} (h : VR l0 l1 wg) : Evt (fun k => posserref03_First.f k l0 l1 wg ((rightsL (l0.map cvW) (l1.map cvP)).map fun (n : Nat) => (n : Int))) (firstR (l0.map cvW) (l1.map cvP)) := by
 have h0 := h.n0
 have hlen : (l0.map cvW).length = l0.length := List.length_map _
 have hrl : (rightsL (l0.map cvW) (l1.map cvP)).length ≤ 1000000 := by rw [rights_len]; have := h.mny; omega
 have main : ∀ (d w : Nat), w + d = l0.length → (∀ j, j < w → firstP (l0.map cvW) (l1.map cvP) j = false) → Evt (fun k => posserref03_First.l0 k ((rightsL (l0.map cvW) (l1.map cvP)).map fun (n : Nat) => (n : Int)) (w : Int) l0 l1 wg) (firstR (l0.map cvW) (l1.map cvP)) := by
  intro d
  induction d with
  | zero =>
   intro w hw hf
   obtain rfl : w = l0.length := by omega
   have hn : firstR (l0.map cvW) (l1.map cvP) = -1 := by
    unfold firstR
    rw [hlen, List.find?_eq_none.2 (fun j hj => by rw [hf j (List.mem_range.1 hj)]; decide)]
   rw [hn]
   refine Evt.succ (Evt.const _) (fun k => ?_)
   simp only [posserref03_First.l0]
   rw [if_neg (by omega)]
  | succ d ih =>
   intro w hw hf
   have hlt : w < l0.length := by omega
   obtain ⟨e1, e2, e3⟩ := aft_small l0.length (by omega) w hlt
   have hW : (2 ^ (w + 1) - 1) < 64 := by
    have := pow_small (w + 1) (by omega)
    omega
   obtain ⟨K, hK⟩ := Can_ev (rightsL (l0.map cvW) (l1.map cvP)) (2 ^ (w + 1) - 1) (rights_lt _ (by rw [hlen]; exact h0)) hW hrl
   have hcp : canB (rightsL (l0.map cvW) (l1.map cvP)) (2 ^ (w + 1) - 1) = !firstP (l0.map cvW) (l1.map cvP) w := by
    unfold firstP
    rw [Bool.not_not, hlen, e1, ← can_poss _ _ _ (by rw [hlen]; exact h0), hlen, e2]
   rw [hcp] at hK
   cases hp : firstP (l0.map cvW) (l1.map cvP) w with
   | false =>
    obtain ⟨L, hL⟩ := ih (w + 1) (by omega) (fun j hj => by
     by_cases e : j = w
     ·rw [e]; exact hp
     ·exact hf j (by omega))
    refine ⟨K + L + 1, fun k hk => ?_⟩
    obtain ⟨k, rfl⟩ : ∃ m, k = m + 1 := ⟨k - 1, by omega⟩
    have g1 := hK k (by omega)
    have g2 := hL k (by omega)
    dsimp only at g1 g2 ⊢
    simp only [posserref03_First.l0]
    rw [if_pos (by omega), if_pos (by rw [u64_small w (by omega)]; omega), e3, g1, hp]
    simp only [Option.bind_some, Bool.not_false, if_true]
    rw [wrap_succ w _ hlt (by omega)]
    exact g2
   | true =>
    have hn : firstR (l0.map cvW) (l1.map cvP) = (w : Int) := by
     unfold firstR
     rw [hlen, find_range _ _ w hlt hf hp]
    rw [hn]
    refine ⟨K + 1, fun k hk => ?_⟩
    obtain ⟨k, rfl⟩ : ∃ m, k = m + 1 := ⟨k - 1, by omega⟩
    have g1 := hK k (by omega)
    dsimp only at g1 ⊢
    simp only [posserref03_First.l0]
    rw [if_pos (by omega), if_pos (by rw [u64_small w (by omega)]; omega), e3, g1, hp]
    rfl
 exact main l0.length 0 (by omega) (fun j hj => absurd hj (by omega))
end Go.Proofs.Ytnbbbeghgomnoaa.X
namespace Go.Proofs.Ytnbbbeghgomnoaa.X
open Go.RowKit Go.Proofs.YtnbbbeghgomnoaaW.PrintWords Go.Proofs.YtnbbbeghgomnoaaW.PrintLast Go.Proofs.YtnbbbeghgomnoaaW.PrintMore
theorem leaveL_len (l0 : List S109) (l1 : List S110) (h : l0.length ≤ 5) (hok : l1.all (okP l0) = true) : (leaveL l0 l1).length ≤ 6 := by
 rw [← leaveF_eq l0 l1 h hok]; exact leaveF_len _ _ _
theorem BundleLeaves_pure (l0 : List S85) (l1 : List S71) (wg : Int) : ∃ k, posserlaw03_BundleLeaves.f k l0 l1 wg = some true := by
 obtain ⟨K, hK⟩ := Thin_ev l0 l1 wg
 cases hth : thinR l0 l1 with
 | false =>
  refine ⟨K, ?_⟩
  have g1 := hK K (Nat.le_refl _)
  dsimp only at g1
  unfold posserlaw03_BundleLeaves.f
  rw [g1, hth]; rfl
 | true =>
  have ht := thinR_iff.1 hth
  obtain ⟨L, hL⟩ := fault_ev wg ht
  have hT : posserlaw03_Table.f l0 l1 wg = some (l0.map cvW, l1.map cvP, wg) := by
   unfold posserlaw03_Table.f
   rw [hth]; rfl
  have hF : bundle_First.f (l0.map cvW) (l1.map cvP) wg = some (if checkT (l0.map cvW) (l1.map cvP) wg = 0 then ((firstL (l0.map cvW) (l1.map cvP)).1, (firstL (l0.map cvW) (l1.map cvP)).2) else (0, checkT (l0.map cvW) (l1.map cvP) wg)) := by
   unfold bundle_First.f
   rw [if_pos (thinP_of ht)]
  have hW : bundle_Leave.f (l0.map cvW) (l1.map cvP) wg = some (if checkT (l0.map cvW) (l1.map cvP) wg = 0 then (leaveL (l0.map cvW) (l1.map cvP), 0) else ([], checkT (l0.map cvW) (l1.map cvP) wg)) := by
   unfold bundle_Leave.f
   rw [if_pos (thinP_of ht)]
  by_cases hc : checkT (l0.map cvW) (l1.map cvP) wg = 0
  ·have hv := VR.of ht hc
   obtain ⟨A, hA⟩ := All_ev hv
   obtain ⟨B, hB⟩ := RLeave_ev hv
   obtain ⟨C, hC⟩ := ints_ev (leaveL (l0.map cvW) (l1.map cvP)) (leaveL (l0.map cvW) (l1.map cvP)) (by have := leaveL_len (l0.map cvW) (l1.map cvP) (by rw [List.length_map]; exact hv.n0) hv.val.ps; omega)
   obtain ⟨D, hD⟩ := RFirst_ev hv
   refine ⟨K + L + A + B + C + D, ?_⟩
   have g1 := hK (K + L + A + B + C + D) (by omega)
   have g2 := hL (K + L + A + B + C + D) (by omega)
   have g3 := hA (K + L + A + B + C + D) (by omega)
   have g4 := hB (K + L + A + B + C + D) (by omega)
   have g5 := hC (K + L + A + B + C + D) (by omega)
   have g6 := hD (K + L + A + B + C + D) (by omega)
   dsimp only at g1 g2 g3 g4 g5 g6
   generalize K + L + A + B + C + D = k at g1 g2 g3 g4 g5 g6 ⊢
   unfold posserlaw03_BundleLeaves.f
   rw [g1, hth]
   simp only [Option.bind_some, if_true]
   rw [hT]
   simp only [Option.bind_some]
   rw [hF]
   simp only [Option.bind_some]
   rw [hW]
   simp only [Option.bind_some]
   rw [g2]
   simp only [Option.bind_some]
   rw [if_pos hc, if_pos hc, if_pos hc, g3]
   simp only [Option.bind_some]
   rw [if_pos trivial, g4]
   simp only [Option.bind_some]
   rw [g5]
   simp only [Option.bind_some]
   rw [if_pos (by simp), g6]
   simp only [Option.bind_some]
   unfold firstR firstL
   cases (List.range (l0.map cvW).length).find? (firstP (l0.map cvW) (l1.map cvP)) with
   | some w =>
    dsimp only
    rw [if_pos (by omega), if_pos rfl, if_pos rfl]; rfl
   | none =>
    dsimp only
    rw [if_neg (by decide), if_pos rfl, if_pos rfl]; rfl
  ·refine ⟨K + L, ?_⟩
   have g1 := hK (K + L) (by omega)
   have g2 := hL (K + L) (by omega)
   dsimp only at g1 g2
   unfold posserlaw03_BundleLeaves.f
   rw [g1, hth]
   simp only [Option.bind_some, if_true]
   rw [hT]
   simp only [Option.bind_some]
   rw [hF]
   simp only [Option.bind_some]
   rw [hW]
   simp only [Option.bind_some]
   rw [g2]
   simp only [Option.bind_some]
   rw [if_neg hc, if_neg hc, if_neg hc]
   dsimp only
   rw [if_pos rfl, if_pos rfl, if_pos rfl]; rfl
theorem BundleLeaves_walk (A0 : Option Addr) (c0 : Nat) (l0 : List S85) (A1 : Option Addr) (c1 : Nat) (l1 : List S71) (wg : Int) (W : World) (C0 : Kd.C k85 W A0 l0.length l0) (g0 : l0.length ≤ c0) (C1 : Kd.C k71 W A1 l1.length l1) (g1 : l1.length ≤ c1) :
  Calls Try.prog 6 #[.agg #[.slice A0 l0.length c0, .slice A1 l1.length c1, .int .i64 wg]] W fun e w' => e = .returned (.bool true) ∧ Below W.heap.size W w' := by
 obtain ⟨k, hk⟩ := BundleLeaves_pure l0 l1 wg
 exact posserlaw03_BundleLeaves.calls k A0 c0 l0 A1 c1 l1 wg true W C0 g0 C1 g1 hk
end Go.Proofs.Ytnbbbeghgomnoaa.X
namespace Go.Proofs.Ytnbbbeghgomnoaa.bundleLeaves
open Go.ChangeShapes Go.WideShapes Go.ChangeAt Go.RowKit
open Go.ChangeMaps (open_string shut_string)
open Go.Proofs.Ytnbbbeghgomnoaa.X
theorem own : ownKnob Try.prog.godebug = none := by kernel_rfl
theorem laidOut : laidOutB Try.prog = true := by kernel_rfl
set_option maxRecDepth 100000 in
theorem lifted (os : Os) (started : os.Started) (H : Type) (enc : TypeId × Value → H) :
  ReturnsInHanded {} Try.checked os 6 .any (Rows.bundleLeavesSpec.pre6 enc Try.prog Try.f6 Rows.bundleLeavesRow.domain false) (Rows.bundleLeavesSpec.post enc Try.prog Try.f6 false true false false) := by
 refine returnsInHanded_of_change_sized (C := Try.checked) own started (by kernel_rfl) Try.func6
  (ChangeSpec.witness6 (enc := enc) (C := Try.checked) false ⟨#[], #[.agg #[.slice none 0 0, .slice none 0 0, .int .i64 0]], []⟩ 8 (by kernel_rfl) (by kernel_rfl) (by kernel_rfl) (by kernel_rfl)) ?_
 intro W base args ds gs before hval0 hW hcnd hsz0 _
 have hsz : (DataW.weightsEach Try.prog (Try.f6.params.toList ++ Rows.bundleLeavesSpec.plain.varTypes Try.prog) (ds ++ gs)).all (· ≤ reachBytes) = true := hsz0
 have hval : ∀ (j : Nat) t v, Try.f6.params[j]? = some t → args[j]? = some v → Value.okWide Try.prog W .any base t v := hval0
 have hW' := hW
 obtain ⟨p, q, hA0, hV, rfl, hfz, hnd⟩ := hW
 have hA : DataW.TrodAll enc Try.prog W 0 (fun _ => true) true Try.f6.params.toList args.toList ds p := hA0
 rw [Try.params6] at hA hval hsz
 obtain ⟨v0, vs0, d0, ds0, p0, q0, hargs, rfl, rfl, h0, r0⟩ := trodAll_cons hA
 obtain ⟨rfl, rfl, rfl⟩ := trodAll_nil r0
 obtain rfl : args = #[v0] := by cases args; simp_all
 obtain ⟨rfl, rfl⟩ := trodVars_none hV
 have k0 := h0
 have lt0 : ∀ x ∈ p0, x.block < W.heap.size := by obtain ⟨m, hm⟩ := k0; exact DataW.trod_lt m _ _ _ hm
 obtain ⟨A0, c0, l0, A1, c1, l1, wg, rfl, C0, g0, C1, g1⟩ := open_table (hval 0 25 v0 rfl rfl) h0
 clear hA0 hval0 hsz0 hsz
 refine (BundleLeaves_walk A0 c0 l0 A1 c1 l1 wg W C0 g0 C1 g1).mono fun e W' ⟨he, bel⟩ => ?_
 subst he
 exact ⟨_, rfl, _, _, _, [], _, [], hW', trodAll_mk1 (shut_bool Try.underlying4 _), (trodAll_cons_mk (Below.trod laidOut (by kernel_rfl) (of_decide_eq_true (by kernel_rfl)) k0 bel lt0) trodAll_mk0), rfl, bel.frame _, fun h => by cases h⟩
theorem over : Rows.bundleLeavesRow.holds Try.pinned (OpenSpec.ofChange Rows.bundleLeavesSpec) :=
 OpenClaim.holds_of_wide 6 Try.f6 rfl rfl rfl rfl rfl rfl rfl ⟨rfl, rfl, rfl, rfl, rfl⟩ rfl rfl rfl rfl rfl (by kernel_rfl) Try.func6 (by kernel_rfl)
  (of_decide_eq_true (by kernel_rfl)) (by unfold Func.isWrapper; first | (rw [if_pos (by decide +kernel)]; kernel_rfl) | (rw [if_neg (by decide +kernel)]; exact ⟨rfl, rfl⟩))
  (fun os started H enc _ => lifted os started H enc)
theorem proved : Rows.BundleLeavesSaid := over
end Go.Proofs.Ytnbbbeghgomnoaa.bundleLeaves
namespace Go.Proofs.Ytnbbbeghgomnoaa
theorem bundleLeaves_holds : Rows.BundleLeavesSaid := bundleLeaves.proved
#print axioms bundleLeaves_holds
end Go.Proofs.Ytnbbbeghgomnoaa
