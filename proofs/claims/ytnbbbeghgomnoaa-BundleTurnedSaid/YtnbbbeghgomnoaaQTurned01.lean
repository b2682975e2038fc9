/-
  Words and walks that the proof of BundleTurned leans on, part 1 of 2.
-/
import Derived.Test.YtnbbbeghgomnoaaQBase05
import Derived.Below
import Derived.Deep.Draws
import Derived.Deep.AppendLies
import Derived.Maps.AppendAt
import Derived.OwnWalk
import Derived.Laws.BytesArg
import Derived.Laws.MakeOwn
import Derived.Laws.OwnMore
import Derived.Deep.OwnRows
import Derived.Tactics
import Derived.Lib.ConvBytes
import Derived.Laws.Slices
import Derived.WalkKit
import Derived.KernelRfl
import Derived.RowKit3
import Derived.Deep.LoopGhost
import Derived.Deep.QuietTactic
import Derived.BigQuiet
import Derived.WideLaws
import Derived.Deep.DeepCutAuto
import Derived.Deep.CutBlock
import Derived.Deep.RegionHeld3
import Derived.Laws.Rows
import Derived.Lib.AppendStr
import Derived.ArgAppend
import Derived.Laws.IdiomCopy
import Derived.RowKit
import Derived.Test.YtnbbbeghgomnoaaProg
import Derived.OrdersHeld
import Derived.Laws.BitsLemmas
import Derived.Deep.MidRow
import Derived.Deep.DeepMust
import Derived.Test.YtnbbbeghgomnoaaRows
import Derived.ProofKit
import Derived.OpenShut
import Derived.ShutString
import Derived.ChangeOld
import Derived.SizedLaws
set_option linter.unusedVariables false
set_option linter.unusedSimpArgs false
set_option linter.unusedVariables false
set_option linter.unusedSimpArgs false
namespace Go.Proofs.YtnbbbeghgomnoaaW.PrintWords
open Go.RowKit
section
variable {P : Program} {ops : Array Oper} {rest : List Oper} {o : Oper} {a : Act} {Q : Exit → Act → World → Prop}
end
section
variable {P : Program}
end
section
variable {P : Program} {ops : Array Oper} {rest : List Oper} {o : Oper} {a : Act} {Q : Exit → Act → World → Prop}
end
section
variable {P : Program} {ops : Array Oper} {rest : List Oper} {o : Oper} {a : Act} {Q : Exit → Act → World → Prop}
end
theorem blk_ne {w : World} {g g' : Nat} {t t' : TypeId} {cs cs' : Array Value} (h : w.heap[g]? = some (.cells cs t (0, 0))) (h' : w.heap[g']? = some (.cells cs' t' (0, 0))) (hne : t ≠ t') : g ≠ g' := by
 rintro rfl
 rw [h] at h'
 injection h' with h'
 injection h' with _ ht
 exact hne ht
section
variable {P : Program} {ops : Array Oper} {o : Oper} {a : Act} {Q : Exit → Act → World → Prop} {K : Act → World → Prop}
end
section
variable {α : Type} {enc : α → Value} {d : α}
end
section
variable {α : Type} {P : Program} {ops : Array Oper} {rest : List Oper} {o : Oper} {a : Act} {Q : Exit → Act → World → Prop}
end
section
variable {P : Program}
end
section
variable {α : Type} {R R' : α → List Value → Prop} {e : TypeId} {size : Nat} {w w1 : World} {base : Nat} {v : Value} {ps : List α}
theorem OwnRow.lower (h : OwnRow R e size w base v ps) {base' : Nat} (hb : base' ≤ base) : OwnRow R e size w base' v ps := by
 obtain ⟨inner, ho, hr⟩ := h
 exact ⟨inner, own_weaken ho hb, hr⟩
end
section
variable {P : Program} {ops : Array Oper} {rest : List Oper} {o : Oper} {a : Act} {Q : Exit → Act → World → Prop} {α : Type} {R : α → List Value → Prop}
end
section
variable {P : Program} {ops : Array Oper} {o : Oper} {a : Act} {Q : Exit → Act → World → Prop} {K : Act → World → Prop} {α : Type} {R : α → List Value → Prop}
end
section
variable {α : Type} {P : Program}
end
section
variable {P : Program} {ops : Array Oper} {rest : List Oper} {o : Oper} {a : Act} {Q : Exit → Act → World → Prop}
end
namespace Kd
section
variable {α : Type} {d : Kd α} {e : Nat} {w w1 : World} {base : Nat} {ok ok' : Nat → Prop} {v : Value} {xs : List α}
end
section
variable {P : Program} {ops : Array Oper} {rest : List Oper} {o : Oper} {a : Act} {Q : Exit → Act → World → Prop} {α : Type}
end
section
variable {P : Program} {ops : Array Oper} {o : Oper} {a : Act} {Q : Exit → Act → World → Prop} {Kc : Act → World → Prop} {α : Type}
end
end Kd
namespace Kd
section
variable {α : Type} {F : Kd α → Kd α} {sz : Nat} {E : List Nat} {hs : ∀ n, (upto F sz E n).sz = sz} {hE : ∀ n q, q ∈ (upto F sz E n).E → q ∈ E}
end
end Kd
namespace Kd
end Kd
namespace Kd
section
variable {α β : Type} {d : Kd α} {d' : Kd β} {e e' : Nat} {w w1 W : World} {base b b' : Nat} {ok ok' okv oku : Nat → Prop} {v u : Value} {xs : List α} {ys : List β}
theorem R_over (h : d.R e W b ok u xs) (hv : d'.R e' W b' ok' v ys) (ht : ∀ q, q ∈ e :: d.E → q ≠ e') (hg : W.grownBy w1 v.ownBlock) : d.R e w1 b ok u xs := by
 obtain ⟨inner, ho⟩ := R_own hv
 refine R_mono (R_move (R_bound h) (fun k hk => hg.block k hk.2.2.1 (fun he => ?_))) (fun _ hk => hk.1)
 obtain ⟨_, _, _, q, hq, cells, hc⟩ := hk
 obtain ⟨cells', hc'⟩ := own_typed ho k he.symm
 rw [hc] at hc'
 injection hc' with hc'
 injection hc' with _ hc'
 exact ht q hq hc'
end
section
variable {w W : World} {A : Option Addr} {n : Nat}
variable {α : Type} {enc : α → Value} {h1 : ∀ x, (enc x).oneCell' = true} {e base g cap : Nat} {ok : Nat → Prop} {xs : List α}
end
section
variable {P : Program} {ops : Array Oper} {rest : List Oper} {o : Oper} {a : Act} {Q : Exit → Act → World → Prop}
variable {α : Type}
end
end Kd
section
variable {P : Program}
end
section
variable {w w1 : World} {base n size : Nat} {e : TypeId} {v : Value} {xs : List Value}
end
section
variable {P : Program}
end
namespace Kd
section
variable {α : Type} {d : Kd α} {e : Nat} {w w1 W : World} {base : Nat} {ok ok' : Nat → Prop} {v : Value} {xs : List α}
end
section
variable {P : Program} {ops : Array Oper} {rest : List Oper} {o : Oper} {a : Act} {Q' : Exit → Act → World → Prop} {Kc : Act → World → Prop} {α : Type}
end
end Kd
namespace Kd
section
variable {α : Type} {d : Kd α} {e e' : Nat} {w w1 W : World} {base : Nat} {ok : Nat → Prop} {u v : Value} {xs : List α}
end
end Kd
namespace Kd
section
variable {α : Type} {d : Kd α} {e base g n cap : Nat} {ok okp : Nat → Prop} {W : World} {xs : List α}
end
end Kd
namespace Kd
section
variable {α : Type} {F : Kd α → Kd α} {sz : Nat} {E : List Nat} {hs : ∀ n, (upto F sz E n).sz = sz} {hE : ∀ n q, q ∈ (upto F sz E n).E → q ∈ E}
end
end Kd
namespace Kd
section
variable {P : Program} {ops : Array Oper} {rest : List Oper} {o : Oper} {a : Act} {Q : Exit → Act → World → Prop} {α : Type}
end
end Kd
namespace Kd
section
variable {P : Program} {ops : Array Oper} {rest : List Oper} {o : Oper} {a : Act} {Q : Exit → Act → World → Prop} {α : Type}
end
end Kd
namespace Kd
section
variable {α : Type} {k : Kd α} {w : World} {A : Option Addr} {xs : List α} {m c : Nat}
end
end Kd
section
variable {P : Program}
end
namespace Kd
section
variable {α β : Type} {d : Kd α} {d' : Kd β} {e e' base base' n : Nat} {ok ok' : Nat → Prop} {w W w1 W1 : World} {v u : Value} {xs : List α} {ys : List β} {A : Option Addr} {c : Nat}
end
section
variable {α : Type} {enc : α → Value} {h1 : ∀ x, (enc x).oneCell' = true} {w W : World} {A : Option Addr} {n g : Nat} {xs : List α}
end
end Kd
namespace Kd
section
variable {α : Type} {d : Kd α} {e base g : Nat} {ok : Nat → Prop} {w w1 : World} {v : Value} {xs : List α} {o : Obj}
end
end Kd
section
variable {P : Program} {ops : Array Oper} {rest : List Oper} {o : Oper} {a : Act} {Q : Exit → Act → World → Prop}
end
namespace Kd
section
variable {α : Type} {enc : α → Value} {h1 : ∀ x, (enc x).oneCell' = true} {e base g n cap : Nat} {ok : Nat → Prop} {W : World} {xs : List α}
end
end Kd
section
variable {P : Program} {ops : Array Oper} {rest : List Oper} {o : Oper} {a : Act} {Q : Exit → Act → World → Prop}
end
namespace Kd
section
variable {α : Type} {enc : α → Value} {h1 : ∀ x, (enc x).oneCell' = true} {e base g n cap : Nat} {ok : Nat → Prop} {W : World} {xs : List α}
end
end Kd
section
variable {P : Program} {ops : Array Oper} {rest : List Oper} {o : Oper} {a : Act} {Q : Exit → Act → World → Prop} {W : World}
end
section
variable {P : Program} {ops : Array Oper} {o : Oper} {a : Act} {Q : Exit → Act → World → Prop} {Kc : Act → World → Prop}
theorem event_step {W w1 : World} {v : Value} (hw : Region.wanted o (yielded ops a.tmps) = true) (hrun : (execOp a.eval o).run P W = .ok (.value v) w1) (h : Kc (a.put o.dst v) w1) : if Region.wanted o (yielded ops a.tmps) = true then Oper.wp P o a W Kc Q else Kc (a.put o.dst undef) W := by
 rw [if_pos hw]
 unfold Oper.wp
 rw [hrun]
 exact h
namespace Kd
variable {α : Type}
theorem R_lit_step (d : Kd α) {w0 W : World} (base e : Nat) (hw : Region.wanted o (yielded ops a.tmps) = true) {N : Tmp} (_hd : o.dst = some N) {xs : List α} {inner : List Value} {ok okp : Nat → Prop}
  (hrun : (execOp a.eval o).run P W = .ok (.value (.slice (some ⟨W.heap.size, 0, none⟩) xs.length xs.length)) (W.alloc (.cells inner.toArray e)))
  (hrep : Reps (d.M W base okp) d.sz xs inner) (hok : ∀ k, okp k → ok k) (hfresh : ok W.heap.size) (HB : Below base w0 W) (hbase : base ≤ W.heap.size) (hm : xs.length ≤ 9223372036854775807)
  (h : ∀ v1 w1, d.R e w1 base ok v1 xs → Below base w0 w1 → W.grownBy w1 none → (∃ b, v1.ownBlock = some b ∧ W.heap.size ≤ b) → Kc (a.put o.dst v1) w1) : if Region.wanted o (yielded ops a.tmps) = true then Oper.wp P o a W Kc Q else Kc (a.put o.dst undef) W := by
 refine event_step hw hrun (h _ _ ⟨fun k hk => ?_, inner, ?_, ?_⟩ (HB.alloc hbase _) (World.grownBy_alloc W _ none) ⟨W.heap.size, by simp [Value.ownBlock], Nat.le_refl _⟩)
 ·have : W.heap.size = k := by simpa [Value.ownBlock] using hk
  subst this
  exact hfresh
 ·have h2 := World.ownsRow_lit (base := base) (e := e) (size := d.sz) W inner.toArray xs.length hbase (by simpa [maxLen] using hm) (by simpa using hrep.1)
  simpa using h2
 ·refine hrep.imp_ (fun p c hp => d.M_mono (fun k hk => ⟨hok k hk.1, fun he => ?_⟩) (M_below (d.M_bound hp) (below_alloc (Below.refl _ _) _)))
  have h3 : k = W.heap.size := by simpa [Value.ownBlock] using he
  have := hk.2.2.1
  omega
end Kd
end
section
variable {P : Program} {tmps : Array Value} {w : World}
end
namespace Kd
section
variable {P : Program} {α : Type}
end
section
variable {P : Program} {ops : Array Oper} {rest : List Oper} {o : Oper} {a : Act} {Q : Exit → Act → World → Prop} {Kc : Act → World → Prop} {α : Type}
end
end Kd
end Go.Proofs.YtnbbbeghgomnoaaW.PrintWords
namespace Go.Proofs.YtnbbbeghgomnoaaW.PrintWords
open Go.RowKit
namespace Kd
section
variable {α : Type} {d : Kd α} {e base n cap g : Nat} {ok ok' okp : Nat → Prop} {w w1 W : World} {v v1 : Value} {xs ys : List α}
theorem reads_raw {Rr : α → List Value → Prop} {sz m : Nat} {A : Option Addr} (h : ReadsRow Rr sz W A m ys) (hR : ∀ x c, Rr x c → c.length = sz ∧ ∀ u ∈ c, u.oneCell' = true) :
  ∃ news : List (List Value), news.length = ys.length ∧ ReadsRow (fun x cs => cs = x ∧ cs.length = sz ∧ ∀ u ∈ cs, u.oneCell' = true) sz W A m news ∧ ∀ (j : Nat) (x : α) (c : List Value), ys[j]? = some x → news[j]? = some c → Rr x c := by
 rcases Nat.eq_zero_or_pos m with h0 | hp
 ·have hy : ys = [] := List.eq_nil_of_length_eq_zero (h.1.trans h0)
  subst hy
  exact ⟨[], rfl, ⟨h0 ▸ rfl, h.2.1, fun hp => by omega⟩, fun j x c hx => by simp at hx⟩
 ·obtain ⟨ad, rfl, _⟩ := h.2.2 hp
  obtain ⟨inner, hr, hc⟩ := ReadsRow.inner_ h
  refine ⟨chunks sz ys.length inner, chunks_length _ _ _, ⟨by rw [chunks_length]; exact h.1, h.2.1, fun _ => ⟨ad, rfl, fun j p hj => ?_⟩⟩, fun j x c hx hcc => ?_⟩
  ·have hjl : j < ys.length := by have := (List.getElem?_eq_some_iff.1 hj).1; rwa [chunks_length] at this
   have hpe := chunks_get hj
   have hq := hR _ _ (hr.2 j _ (List.getElem?_eq_getElem hjl))
   rw [← hpe] at hq
   refine ⟨p, hq.1, ⟨rfl, hq⟩, fun i u hu => ?_⟩
   have hu2 : inner[j * sz + i]? = some u := by
    rw [hpe, List.getElem?_take] at hu
    split at hu
    ·rw [List.getElem?_drop] at hu
     exact hu
    ·cases hu
   exact hc _ u hu2
  ·rw [chunks_get hcc]
   exact hr.2 j x hx
end
section
variable {P : Program} {ops : Array Oper} {rest : List Oper} {o : Oper} {a : Act} {Q : Exit → Act → World → Prop} {Kc : Act → World → Prop} {α : Type}
end
end Kd
end Go.Proofs.YtnbbbeghgomnoaaW.PrintWords
namespace Go.Proofs.Ytnbbbeghgomnoaa.X
open Go.RowKit Go.Proofs.YtnbbbeghgomnoaaW.PrintWords Go.Proofs.YtnbbbeghgomnoaaW.PrintLast Go.Proofs.YtnbbbeghgomnoaaW.PrintMore
attribute [local go_sem] max2_int min2_int max_two min_two max_three min_three max_four min_four
set_option linter.unusedVariables false
set_option linter.unusedSimpArgs false
theorem info71 : (Try.prog.info? 71).map (fun i => (i.zero, i.size, i.bytes)) = some (some (.agg #[(.slice none 0 0), (.int .i64 0)]), 2, 32) := by kernel_rfl
theorem info85 : (Try.prog.info? 85).map (fun i => (i.zero, i.size, i.bytes)) = some (some (.agg #[(.int .i64 0), (.int .i64 0), (.int .i64 0)]), 3, 24) := by kernel_rfl
end Go.Proofs.Ytnbbbeghgomnoaa.X
namespace Go.Proofs.Ytnbbbeghgomnoaa.X
open Go.RowKit Go.Proofs.YtnbbbeghgomnoaaW.PrintWords Go.Proofs.YtnbbbeghgomnoaaW.PrintLast Go.Proofs.YtnbbbeghgomnoaaW.PrintMore
theorem mn_le (a b : Int) : mn a b ≤ a ∧ mn a b ≤ b ∧ (mn a b = a ∨ mn a b = b) := by
 unfold mn
 split
 ·exact ⟨by omega, by omega, .inr rfl⟩
 ·exact ⟨by omega, by omega, .inl rfl⟩
theorem mx_ge (a b : Int) : a ≤ mx a b ∧ b ≤ mx a b ∧ (mx a b = a ∨ mx a b = b) := by
 unfold mx
 split
 ·exact ⟨by omega, by omega, .inr rfl⟩
 ·exact ⟨by omega, by omega, .inl rfl⟩
theorem bounds_fold {α : Type} (g : α → Int) : ∀ (ts : List α) (a b : Int), (ts.foldl (fun r x => (mn r.1 (g x), mx r.2 (g x))) (a, b)).1 ≤ a ∧ (∀ x ∈ ts, (ts.foldl (fun r x => (mn r.1 (g x), mx r.2 (g x))) (a, b)).1 ≤ g x) ∧
  ((ts.foldl (fun r x => (mn r.1 (g x), mx r.2 (g x))) (a, b)).1 = a ∨ ∃ x ∈ ts, g x = (ts.foldl (fun r x => (mn r.1 (g x), mx r.2 (g x))) (a, b)).1) ∧
  b ≤ (ts.foldl (fun r x => (mn r.1 (g x), mx r.2 (g x))) (a, b)).2 ∧ (∀ x ∈ ts, g x ≤ (ts.foldl (fun r x => (mn r.1 (g x), mx r.2 (g x))) (a, b)).2) ∧
  ((ts.foldl (fun r x => (mn r.1 (g x), mx r.2 (g x))) (a, b)).2 = b ∨ ∃ x ∈ ts, g x = (ts.foldl (fun r x => (mn r.1 (g x), mx r.2 (g x))) (a, b)).2) := by
 intro ts
 induction ts with
 | nil => intro a b; exact ⟨Int.le_refl _, fun _ h => by simp at h, .inl rfl, Int.le_refl _, fun _ h => by simp at h, .inl rfl⟩
 | cons y r ih =>
  intro a b
  rw [List.foldl_cons]
  obtain ⟨h1, h2, h3, h4, h5, h6⟩ := ih (mn a (g y)) (mx b (g y))
  obtain ⟨m1, m2, m3⟩ := mn_le a (g y)
  obtain ⟨n1, n2, n3⟩ := mx_ge b (g y)
  refine ⟨Int.le_trans h1 m1, fun x hx => ?_, ?_, Int.le_trans n1 h4, fun x hx => ?_, ?_⟩
  ·rcases List.mem_cons.1 hx with rfl | hx
   ·exact Int.le_trans h1 m2
   ·exact h2 x hx
  ·rcases h3 with h3 | ⟨x, hx, h3⟩
   ·rcases m3 with m3 | m3
    ·exact .inl (h3.trans m3)
    ·exact .inr ⟨y, List.mem_cons_self, (h3.trans m3).symm⟩
   ·exact .inr ⟨x, List.mem_cons_of_mem _ hx, h3⟩
  ·rcases List.mem_cons.1 hx with rfl | hx
   ·exact Int.le_trans n2 h4
   ·exact h5 x hx
  ·rcases h6 with h6 | ⟨x, hx, h6⟩
   ·rcases n3 with n3 | n3
    ·exact .inl (h6.trans n3)
    ·exact .inr ⟨y, List.mem_cons_self, (h6.trans n3).symm⟩
   ·exact .inr ⟨x, List.mem_cons_of_mem _ hx, h6⟩
theorem boundsL_spec (g : List Int → Int) {ts : List (List Int)} (h : ts ≠ []) : (∀ x ∈ ts, (boundsL g ts).1 ≤ g x ∧ g x ≤ (boundsL g ts).2) ∧ (∃ x ∈ ts, g x = (boundsL g ts).1) ∧ (∃ x ∈ ts, g x = (boundsL g ts).2) := by
 obtain ⟨y, r, rfl⟩ : ∃ y r, ts = y :: r := List.exists_cons_of_ne_nil h
 obtain ⟨h1, h2, h3, h4, h5, h6⟩ := bounds_fold g (y :: r) (g y) (g y)
 refine ⟨fun x hx => ⟨h2 x hx, h5 x hx⟩, ?_, ?_⟩
 ·rcases h3 with h3 | h3
  ·exact ⟨y, List.mem_cons_self, h3.symm⟩
  ·exact h3
 ·rcases h6 with h6 | h6
  ·exact ⟨y, List.mem_cons_self, h6.symm⟩
  ·exact h6
theorem boundsL_eq (g : List Int → Int) {ts : List (List Int)} (h : ts ≠ []) {a b : Int} (h1 : ∀ x ∈ ts, a ≤ g x ∧ g x ≤ b) (h2 : ∃ x ∈ ts, g x = a) (h3 : ∃ x ∈ ts, g x = b) : boundsL g ts = (a, b) := by
 obtain ⟨k1, ⟨x, hx, k2⟩, ⟨y, hy, k3⟩⟩ := boundsL_spec g h
 obtain ⟨u, hu, e2⟩ := h2
 obtain ⟨v, hv, e3⟩ := h3
 refine Prod.ext ?_ ?_
 ·have := (k1 u hu).1; have := (h1 x hx).1; show (boundsL g ts).1 = a; omega
 ·have := (k1 v hv).2; have := (h1 y hy).2; show (boundsL g ts).2 = b; omega
end Go.Proofs.Ytnbbbeghgomnoaa.X
namespace Go.Proofs.Ytnbbbeghgomnoaa.X
open Go.RowKit Go.Proofs.YtnbbbeghgomnoaaW.PrintWords Go.Proofs.YtnbbbeghgomnoaaW.PrintLast Go.Proofs.YtnbbbeghgomnoaaW.PrintMore
theorem whoP_any (n1 : Nat) (ts : List (List Int)) (i w : Nat) (hi : i < n1) : whoP n1 ts i w = ts.any (fun x => pad x i == (w : Int)) := by
  unfold whoP manyS
  rw [if_pos ⟨by omega, by omega⟩, Int.toNat_natCast, Bool.eq_iff_iff, decide_eq_true_eq, List.any_eq_true]
  constructor
  · intro h
    obtain ⟨x, hx⟩ := List.exists_mem_of_length_pos (by omega : 0 < (ts.filter fun xs => pad xs i == (w : Int)).length)
    rw [List.mem_filter] at hx
    exact ⟨x, hx.1, hx.2⟩
  · rintro ⟨x, h1, h2⟩
    have := List.length_pos_of_mem (List.mem_filter.2 ⟨h1, h2⟩ : x ∈ ts.filter fun xs => pad xs i == (w : Int))
    omega
theorem whoseL_len (n0 n1 : Nat) (ts : List (List Int)) : (whoseL n0 n1 ts).length = n1 := by simp [whoseL]
theorem whoseL_get (n0 n1 : Nat) (ts : List (List Int)) (i : Nat) (hi : i < n1) : (whoseL n0 n1 ts).getD i [] = sel (whoP n1 ts i) n0 := by
  unfold whoseL
  rw [List.getD_eq_getElem?_getD, List.getElem?_map, List.getElem?_range hi]; rfl
theorem whose_mem {n0 n1 : Nat} {ts : List (List Int)} {i : Nat} (hi : i < n1) (hts : ∀ x ∈ ts, 0 ≤ pad x i ∧ pad x i < n0) (v : Int) : v ∈ (whoseL n0 n1 ts).getD i [] ↔ ∃ x ∈ ts, pad x i = v := by
  rw [whoseL_get _ _ _ _ hi, sel_mem]
  constructor
  · rintro ⟨k, hk, hp, rfl⟩
    rw [whoP_any _ _ _ _ hi, List.any_eq_true] at hp
    obtain ⟨x, hx, he⟩ := hp
    exact ⟨x, hx, eq_of_beq he⟩
  · rintro ⟨x, hx, rfl⟩
    obtain ⟨h0, h1⟩ := hts x hx
    refine ⟨(pad x i).toNat, by omega, ?_, by omega⟩
    rw [whoP_any _ _ _ _ hi, List.any_eq_true]
    exact ⟨x, hx, beq_iff_eq.2 (by omega)⟩
theorem truths_own {l0 : List S109} {l1 : List S110} {wg : Int} {x : List Int} (h : x ∈ truthsL l0 l1 wg) (i : Nat) (hi : i < l1.length) : 0 ≤ pad x i ∧ pad x i < l0.length := allL_owners l0 l1 x (truths_mem h) i hi
end Go.Proofs.Ytnbbbeghgomnoaa.X
namespace Go.Proofs.Ytnbbbeghgomnoaa.X
open Go.RowKit Go.Proofs.YtnbbbeghgomnoaaW.PrintWords Go.Proofs.YtnbbbeghgomnoaaW.PrintLast Go.Proofs.YtnbbbeghgomnoaaW.PrintMore
theorem checkT_of {l0 : List S109} {l1 : List S110} {wg : Int} (h : Val l0 l1 wg) : checkT l0 l1 wg = 0 := by
  unfold checkT
  have h0 := h.n0
  have h1 := h.n1
  have hm := h.mn
  have hw : okIn wg 0 5 = true := by
    unfold okIn
    rw [decide_eq_true h.wg0, decide_eq_true h.wg1]; rfl
  rw [if_neg (by omega), hw, h.ws, h.ps, if_neg (by decide), if_neg (by omega)]
structure Same (L1 L1' : List S110) : Prop where
  len : L1'.length = L1.length
  mks : ∀ i, (L1'.getD i z110).f0 = (L1.getD i z110).f0
theorem Same.opts {L1 L1' : List S110} (h : Same L1 L1') (L0 : List S109) : optsL L0 L1' = optsL L0 L1 := by
  funext i
  unfold optsL
  rw [h.mks i]
theorem Same.all {L1 L1' : List S110} (h : Same L1 L1') (L0 : List S109) : allL L0 L1' = allL L0 L1 := by
  unfold allL
  rw [h.opts L0, h.len]
theorem Same.truths {L1 L1' : List S110} (h : Same L1 L1') (L0 : List S109) (wg : Int) : truthsL L0 L1' wg = truthsL L0 L1 wg := by
  unfold truthsL
  rw [h.all L0, h.len]
theorem Same.val {L1 L1' : List S110} (h : Same L1 L1') {L0 : List S109} {wg : Int} (hv : Val L0 L1 wg) (hb : ∀ i, i < L1'.length → okIn (L1'.getD i z110).f1 0 ((L0.length : Int) - 1) = true) : Val L0 L1' wg := by
  refine ⟨hv.n0, by rw [h.len]; exact hv.n1, hv.wg0, hv.wg1, hv.ws, ?_, ?_⟩
  · rw [List.all_eq_true]
    intro z hz
    obtain ⟨i, hi, rfl⟩ := List.mem_iff_getElem.1 hz
    have e' : L1'[i] = L1'.getD i z110 := by rw [List.getD_eq_getElem?_getD, List.getElem?_eq_getElem hi]; rfl
    have hi2 : i < L1.length := by rw [← h.len]; exact hi
    have hp := List.all_eq_true.1 hv.ps (L1.getD i z110) (getD_mem L1 i z110 hi2)
    unfold okP at hp ⊢
    rw [Bool.and_eq_true, Bool.and_eq_true] at hp ⊢
    rw [e', h.mks i]
    exact ⟨⟨hp.1.1, hb i hi⟩, hp.2⟩
  · have hm := hv.mn
    rw [manyT_eq] at hm ⊢
    rw [h.all L0]; exact hm
theorem sel_len_succ (P : Nat → Bool) (n : Nat) : (sel P (n + 1)).length = (sel P n).length + (P n).toNat := by
  cases hq : P n
  · rw [sel_no _ _ hq]; rfl
  · rw [sel_yes _ _ hq, List.length_append]; rfl
end Go.Proofs.Ytnbbbeghgomnoaa.X
namespace Go.Proofs.Ytnbbbeghgomnoaa.X
open Go.RowKit Go.Proofs.YtnbbbeghgomnoaaW.PrintWords Go.Proofs.YtnbbbeghgomnoaaW.PrintLast Go.Proofs.YtnbbbeghgomnoaaW.PrintMore
def beforeB : List Int → List Int → Bool
 | [], b => decide (0 < b.length)
 | _ :: _, [] => false
 | x :: a, y :: b => if x = y then beforeB a b else decide (x < y)
def shorterB (a b : List Int) : Bool := decide (a.length < b.length) || (decide (a.length = b.length) && beforeB a b)
theorem beforeB_trans : ∀ (a b c : List Int), beforeB a b = true → beforeB b c = true → beforeB a c = true := by
 intro a
 induction a with
 | nil =>
  intro b c h1 h2
  cases c with
  | cons z c => rfl
  | nil =>
   cases b with
   | nil => exact h1
   | cons y b => cases h2
 | cons x a ih =>
  intro b c h1 h2
  cases b with
  | nil => cases h1
  | cons y b =>
   cases c with
   | nil => cases h2
   | cons z c =>
    unfold beforeB at h1 h2 ⊢
    by_cases e1 : x = y
    ·rw [if_pos e1] at h1
     by_cases e2 : y = z
     ·rw [if_pos e2] at h2
      rw [if_pos (e1.trans e2)]; exact ih b c h1 h2
     ·rw [if_neg e2] at h2
      have := of_decide_eq_true h2
      rw [if_neg (by omega)]; exact decide_eq_true (by omega)
    ·rw [if_neg e1] at h1
     have h3 := of_decide_eq_true h1
     by_cases e2 : y = z
     ·rw [if_neg (by omega)]; exact decide_eq_true (by omega)
     ·rw [if_neg e2] at h2
      have h4 := of_decide_eq_true h2
      rw [if_neg (by omega)]; exact decide_eq_true (by omega)
theorem shorterB_trans {a b c : List Int} (h1 : shorterB a b = true) (h2 : shorterB b c = true) : shorterB a c = true := by
 unfold shorterB at h1 h2 ⊢
 simp only [Bool.or_eq_true, Bool.and_eq_true, decide_eq_true_eq] at h1 h2 ⊢
 rcases h1 with h1 | ⟨h1, k1⟩ <;> rcases h2 with h2 | ⟨h2, k2⟩
 ·left; omega
 ·left; omega
 ·left; omega
 ·right; exact ⟨by omega, beforeB_trans _ _ _ k1 k2⟩
def rightsL (l0 : List S109) (l1 : List S110) : List Nat := (allL l0 l1).map fun x => bitsN (rightP l0 l1.length x) l0.length
def canB (rs : List Nat) (W : Nat) : Bool := rs.any fun r => decide (r &&& W = W)
def setsN (n : Nat) : List (List Int) := (List.range (n + 1)).flatMap fun k => combs n k 0
def setOf (m : Nat) : List Int := sel (fun j => m.testBit j) 6
theorem sets_sorted : ∀ n, n < 6 → (setsN n).Pairwise (fun a b => shorterB a b = true) := by decide +kernel
theorem sets_bits : ∀ n, n < 6 → ∀ m, m < 2 ^ n → setOf m ∈ setsN n := by decide +kernel
theorem sets_of : ∀ n, n < 6 → ∀ s ∈ setsN n, ∃ m, m < 2 ^ n ∧ s = setOf m := by decide +kernel
theorem setOf_mem (m j : Nat) : (setOf m).contains (j : Int) = (decide (j < 6) && m.testBit j) := by
 rw [Bool.eq_iff_iff, List.contains_iff_mem]
 unfold setOf
 rw [sel_mem, Bool.and_eq_true, decide_eq_true_eq]
 constructor
 ·rintro ⟨k, h1, h2, h3⟩
  obtain rfl : j = k := by omega
  exact ⟨h1, h2⟩
 ·rintro ⟨h1, h2⟩; exact ⟨j, h1, h2, rfl⟩
theorem shorterB_irrefl : ∀ a : List Int, shorterB a a = false := by
 intro a
 have hb : ∀ a : List Int, beforeB a a = false := by
  intro a
  induction a with
  | nil => rfl
  | cons x a ih => unfold beforeB; rw [if_pos rfl]; exact ih
 unfold shorterB
 rw [hb, decide_eq_false (by omega), Bool.and_false]; rfl
theorem leaveL_find (l0 : List S109) (l1 : List S110) : leaveL l0 l1 = ((setsN l0.length).find? (possL l0 l1)).getD [] := by
 unfold leaveL setsN
 rw [List.find?_flatMap]
 refine congrArg (fun o => Option.getD o []) (congrArg (fun f => List.findSome? f _) (funext fun k => ?_))
 unfold leaveS
 simp
theorem find_least {C : List (List Int)} {P : List Int → Bool} (hC : C.Pairwise (fun a b => shorterB a b = true)) {r : List Int} (hr : r ∈ C) (hP : P r = true) (hl : ∀ t ∈ C, P t = true → shorterB t r = false) : (C.find? P).getD [] = r := by
 cases hf : C.find? P with
 | none =>
  have := List.find?_eq_none.1 hf r hr
  exact absurd hP this
 | some s =>
  show s = r
  obtain ⟨hPs, x, y, hxy, hx⟩ := List.find?_eq_some_iff_append.1 hf
  have hs := hl s (by rw [hxy]; simp) hPs
  rw [hxy] at hr hC
  rcases List.mem_append.1 hr with h | h
  ·have := hx r h
   rw [hP] at this; cases this
  ·rcases List.mem_cons.1 h with h | h
   ·exact h.symm
   ·have h2 := (List.pairwise_append.1 hC).2.1
    have h3 := (List.pairwise_cons.1 h2).1 r h
    rw [hs] at h3; cases h3
def restW (n m : Nat) : Nat := (2 ^ n - 1) ^^^ ((2 ^ n - 1) &&& m)
theorem restW_bit (n m j : Nat) : (restW n m).testBit j = (decide (j < n) && !m.testBit j) := by
 unfold restW
 rw [Nat.testBit_xor, Nat.testBit_and, Nat.testBit_two_pow_sub_one]
 cases decide (j < n) <;> cases m.testBit j <;> rfl
theorem cond_right (l0 : List S109) (n1 : Nat) (x : List Int) (m : Nat) (h : l0.length ≤ 5) : decide (bitsN (rightP l0 n1 x) l0.length &&& restW l0.length m = restW l0.length m) = condL l0 n1 (setOf m) x := by
 rw [Bool.eq_iff_iff, decide_eq_true_eq]
 unfold condL
 rw [List.all_eq_true]
 constructor
 ·intro he v hv
  obtain ⟨j, hj, hb, rfl⟩ := (sel_mem _ _ _).1 hv
  rw [setOf_mem, decide_eq_true (by omega), Bool.true_and]
  have h2 := congrArg (fun z => z.testBit j) he
  rw [Nat.testBit_and, bitsN_bit, restW_bit, decide_eq_true hj] at h2
  unfold rightP at h2
  rw [hb] at h2
  cases hm : m.testBit j
  ·rw [hm] at h2; cases h2
  ·rfl
 ·intro ha
  refine Nat.eq_of_testBit_eq fun j => ?_
  rw [Nat.testBit_and, bitsN_bit, restW_bit]
  by_cases hj : j < l0.length
  ·rw [decide_eq_true hj]
   unfold rightP
   cases hb : bad l0 n1 (pad x) j
   ·simp
   ·have := ha (j : Int) ((sel_mem _ _ _).2 ⟨j, hj, hb, rfl⟩)
    rw [setOf_mem, decide_eq_true (by omega), Bool.true_and] at this
    rw [this]; rfl
  ·rw [decide_eq_false hj]; rfl
theorem can_poss (l0 : List S109) (l1 : List S110) (m : Nat) (h : l0.length ≤ 5) : canB (rightsL l0 l1) (restW l0.length m) = possL l0 l1 (setOf m) := by
 unfold canB rightsL possL
 rw [List.any_map]
 refine congrArg (fun p => List.any (allL l0 l1) p) (funext fun x => ?_)
 exact cond_right l0 l1.length x m h
def leaveF (l0 : List S109) (l1 : List S110) (m : Nat) : List Int := (List.range m).foldl (fun b i => if shorterB (setOf i) b && canB (rightsL l0 l1) (restW l0.length i) then setOf i else b) (setOf (2 ^ l0.length - 1))
theorem leaveF_succ (l0 : List S109) (l1 : List S110) (m : Nat) : leaveF l0 l1 (m + 1) = if shorterB (setOf m) (leaveF l0 l1 m) && canB (rightsL l0 l1) (restW l0.length m) then setOf m else leaveF l0 l1 m := by
 unfold leaveF
 rw [List.range_succ, List.foldl_append]; rfl
theorem leaveF_inv (l0 : List S109) (l1 : List S110) (h : l0.length ≤ 5) (hok : l1.all (okP l0) = true) : ∀ m, m ≤ 2 ^ l0.length → leaveF l0 l1 m ∈ setsN l0.length ∧ possL l0 l1 (leaveF l0 l1 m) = true ∧ ∀ i, i < m → possL l0 l1 (setOf i) = true → shorterB (setOf i) (leaveF l0 l1 m) = false := by
 have hp := pow_small l0.length h
 have hpos : 0 < 2 ^ l0.length := Nat.two_pow_pos _
 intro m
 induction m with
 | zero =>
  intro _
  refine ⟨sets_bits _ (by omega) _ (by omega), poss_all hok (fun k hk => ?_), fun i hi => absurd hi (by omega)⟩
  have := setOf_mem (2 ^ l0.length - 1) k
  rw [Nat.testBit_two_pow_sub_one, decide_eq_true hk, decide_eq_true (by omega)] at this
  exact List.contains_iff_mem.1 this
 | succ m ih =>
  intro hm
  obtain ⟨h1, h2, h3⟩ := ih (by omega)
  rw [leaveF_succ]
  by_cases hc : (shorterB (setOf m) (leaveF l0 l1 m) && canB (rightsL l0 l1) (restW l0.length m)) = true
  ·rw [if_pos hc]
   rw [Bool.and_eq_true, can_poss _ _ _ h] at hc
   refine ⟨sets_bits _ (by omega) _ (by omega), hc.2, fun i hi hP => ?_⟩
   by_cases e : i = m
   ·subst e; exact shorterB_irrefl _
   ·have h4 := h3 i (by omega) hP
    cases h5 : shorterB (setOf i) (setOf m)
    ·rfl
    ·rw [shorterB_trans h5 hc.1] at h4; cases h4
  ·rw [if_neg hc]
   refine ⟨h1, h2, fun i hi hP => ?_⟩
   by_cases e : i = m
   ·subst e
    cases h5 : shorterB (setOf i) (leaveF l0 l1 i)
    ·rfl
    ·rw [h5, can_poss _ _ _ h, hP] at hc; exact absurd rfl hc
   ·exact h3 i (by omega) hP
theorem leaveF_eq (l0 : List S109) (l1 : List S110) (h : l0.length ≤ 5) (hok : l1.all (okP l0) = true) : leaveF l0 l1 (2 ^ l0.length) = leaveL l0 l1 := by
 obtain ⟨h1, h2, h3⟩ := leaveF_inv l0 l1 h hok _ (Nat.le_refl _)
 rw [leaveL_find]
 refine (find_least (sets_sorted _ (by omega)) h1 h2 (fun t ht hP => ?_)).symm
 obtain ⟨m, hm, rfl⟩ := sets_of _ (by omega) t ht
 exact h3 m hm hP
end Go.Proofs.Ytnbbbeghgomnoaa.X
namespace Go.Proofs.Ytnbbbeghgomnoaa.X
open Go.RowKit Go.Proofs.YtnbbbeghgomnoaaW.PrintWords Go.Proofs.YtnbbbeghgomnoaaW.PrintLast Go.Proofs.YtnbbbeghgomnoaaW.PrintMore
theorem sel_le_of {P Q : Nat → Bool} : ∀ n, (∀ i, i < n → P i = true → Q i = true) → (sel P n).length ≤ (sel Q n).length := by
  intro n
  induction n with
  | zero => intro _; simp [sel]
  | succ n ih =>
    intro h
    have h1 := ih fun i hi => h i (by omega)
    rw [sel_len_succ, sel_len_succ]
    cases hP : P n
    · have : 0 ≤ (Q n).toNat := Nat.zero_le _
      simp only [Bool.toNat_false]; omega
    · rw [h n (by omega) hP]; omega
theorem leave_least {L0 : List S109} {L1 : List S110} (h : L0.length ≤ 5) (hok : L1.all (okP L0) = true) : leaveL L0 L1 ∈ setsN L0.length ∧ possL L0 L1 (leaveL L0 L1) = true ∧ ∀ s ∈ setsN L0.length, possL L0 L1 s = true → shorterB s (leaveL L0 L1) = false := by
  obtain ⟨h1, h2, h3⟩ := leaveF_inv L0 L1 h hok _ (Nat.le_refl _)
  rw [leaveF_eq L0 L1 h hok] at h1 h2 h3
  refine ⟨h1, h2, fun s hs hP => ?_⟩
  obtain ⟨m, hm, rfl⟩ := sets_of _ (by omega) s hs
  exact h3 m hm hP
theorem leave_short {L0 : List S109} {L1 : List S110} (h : L0.length ≤ 5) (hok : L1.all (okP L0) = true) {s : List Int} (hs : s ∈ setsN L0.length) (hP : possL L0 L1 s = true) : (leaveL L0 L1).length ≤ s.length := by
  have h3 := (leave_least h hok).2.2 s hs hP
  unfold shorterB at h3
  rw [Bool.or_eq_false_iff, decide_eq_false_iff_not] at h3
  omega
structure Wdr (L0 L0' : List S109) : Prop where
  len : L0'.length = L0.length
  mks : ∀ i, (L0'.getD i z109).f0 = (L0.getD i z109).f0
  lo : ∀ i, i < L0.length → (L0'.getD i z109).f1.f0 ≤ (L0.getD i z109).f1.f0
  hi : ∀ i, i < L0.length → (L0.getD i z109).f1.f1 ≤ (L0'.getD i z109).f1.f1
theorem Wdr.of {L0 L0' : List S109} (h : Wdr L0 L0') (ms : List Int) : ofL L0' ms = ofL L0 ms := by
  unfold ofL
  rw [h.len]
  congr 1
  funext j
  rw [h.mks j]
theorem Wdr.opts {L0 L0' : List S109} (h : Wdr L0 L0') (L1 : List S110) : optsL L0' L1 = optsL L0 L1 := by
  funext i
  exact h.of _
theorem Wdr.all {L0 L0' : List S109} (h : Wdr L0 L0') (L1 : List S110) : allL L0' L1 = allL L0 L1 := by
  unfold allL
  rw [h.opts L1]
theorem Wdr.okp {L0 L0' : List S109} (h : Wdr L0 L0') : okP L0' = okP L0 := by
  funext z
  unfold okP
  rw [h.of, h.len]
theorem Wdr.bad {L0 L0' : List S109} (h : Wdr L0 L0') (n : Nat) (o : Nat → Int) (i : Nat) (hi : i < L0.length) (hb : bad L0' n o i = true) : X.bad L0 n o i = true := by
  unfold X.bad came at hb ⊢
  have h1 := h.lo i hi
  have h2 := h.hi i hi
  rw [Bool.not_eq_true', Bool.and_eq_false_iff, decide_eq_false_iff_not, decide_eq_false_iff_not] at hb ⊢
  omega
theorem Wdr.isT {L0 L0' : List S109} (h : Wdr L0 L0') {wg wx : Int} (hw : wg ≤ wx) (n : Nat) (x : List Int) (ht : isT L0 n wg x = true) : X.isT L0' n wx x = true := by
  unfold X.isT at ht ⊢
  rw [decide_eq_true_eq] at ht ⊢
  have := sel_le_of (P := X.bad L0' n (pad x)) (Q := X.bad L0 n (pad x)) L0.length (fun i hi hb => h.bad n _ i hi hb)
  rw [h.len]
  omega
theorem Wdr.truths {L0 L0' : List S109} (h : Wdr L0 L0') {wg wx : Int} (hw : wg ≤ wx) (L1 : List S110) {x : List Int} (hx : x ∈ truthsL L0 L1 wg) : x ∈ truthsL L0' L1 wx := by
  unfold truthsL at hx ⊢
  rw [List.mem_filter] at hx ⊢
  rw [h.all L1]
  exact ⟨hx.1, h.isT hw _ _ hx.2⟩
theorem Wdr.poss {L0 L0' : List S109} (h : Wdr L0 L0') (L1 : List S110) (s : List Int) (hp : possL L0 L1 s = true) : possL L0' L1 s = true := by
  unfold possL at hp ⊢
  rw [List.any_eq_true] at hp ⊢
  obtain ⟨x, hx, hc⟩ := hp
  refine ⟨x, by rw [h.all L1]; exact hx, ?_⟩
  unfold condL at hc ⊢
  rw [List.all_eq_true] at hc ⊢
  intro v hv
  obtain ⟨k, hk, hb, rfl⟩ := (sel_mem _ _ _).1 hv
  rw [h.len] at hk
  exact hc _ ((sel_mem _ _ _).2 ⟨k, hk, h.bad _ _ k hk hb, rfl⟩)
theorem Wdr.leave {L0 L0' : List S109} (h : Wdr L0 L0') {L1 : List S110} (h5 : L0.length ≤ 5) (hok : L1.all (okP L0) = true) : (leaveL L0' L1).length ≤ (leaveL L0 L1).length := by
  obtain ⟨h1, h2, _⟩ := leave_least h5 hok
  exact leave_short (by rw [h.len]; exact h5) (by rw [h.okp]; exact hok) (by rw [h.len]; exact h1) (h.poss L1 _ h2)
theorem Wdr.val {L0 L0' : List S109} (h : Wdr L0 L0') {L1 : List S110} {wg wx : Int} (hv : Val L0 L1 wg) (hw : L0'.all okW = true) (h0 : 0 ≤ wx) (h1 : wx ≤ 5) : Val L0' L1 wx := by
  refine ⟨by rw [h.len]; exact hv.n0, hv.n1, h0, h1, hw, by rw [h.okp]; exact hv.ps, ?_⟩
  have hm := hv.mn
  rw [manyT_eq] at hm ⊢
  rw [h.all L1]; exact hm
end Go.Proofs.Ytnbbbeghgomnoaa.X
namespace Go.Proofs.Ytnbbbeghgomnoaa.X
open Go.RowKit Go.Proofs.YtnbbbeghgomnoaaW.PrintWords Go.Proofs.YtnbbbeghgomnoaaW.PrintLast Go.Proofs.YtnbbbeghgomnoaaW.PrintMore
def sw (p q j : Nat) : Nat := if j = p then q else if j = q then p else j
def swI (p q v : Int) : Int := if v = p then q else if v = q then p else v
theorem sw_sw (p q j : Nat) : sw p q (sw p q j) = j := by
  unfold sw
  by_cases h1 : j = p
  · rw [if_pos h1]
    by_cases h2 : q = p
    · rw [if_pos h2]; omega
    · rw [if_neg h2, if_pos rfl]; exact h1.symm
  · rw [if_neg h1]
    by_cases h2 : j = q
    · rw [if_pos h2, if_pos rfl]; exact h2.symm
    · rw [if_neg h2, if_neg h1, if_neg h2]
theorem swI_swI (p q v : Int) : swI p q (swI p q v) = v := by
  unfold swI
  by_cases h1 : v = p
  · rw [if_pos h1]
    by_cases h2 : q = p
    · rw [if_pos h2]; omega
    · rw [if_neg h2, if_pos rfl]; exact h1.symm
  · rw [if_neg h1]
    by_cases h2 : v = q
    · rw [if_pos h2, if_pos rfl]; exact h2.symm
    · rw [if_neg h2, if_neg h1, if_neg h2]
theorem swI_nat (p q j : Nat) : swI (p : Int) (q : Int) (j : Int) = (sw p q j : Int) := by
  unfold swI sw
  by_cases h1 : j = p
  · rw [if_pos (by omega), if_pos h1]
  · rw [if_neg (by omega), if_neg h1]
    by_cases h2 : j = q
    · rw [if_pos (by omega), if_pos h2]
    · rw [if_neg (by omega), if_neg h2]
theorem swI_eq (p q u v : Int) : swI p q u = v ↔ u = swI p q v :=
  ⟨fun h => by rw [← h, swI_swI], fun h => by rw [h, swI_swI]⟩
theorem sw_lt {p q n j : Nat} (hp : p < n) (hq : q < n) (hj : j < n) : sw p q j < n := by
  unfold sw
  split
  · exact hq
  · split
    · exact hp
    · exact hj
theorem sw_out {p q n j : Nat} (hp : p < n) (hq : q < n) (hj : ¬ j < n) : sw p q j = j := by
  unfold sw
  rw [if_neg (by omega), if_neg (by omega)]
theorem sel_congr {P Q : Nat → Bool} (n : Nat) (h : ∀ i, i < n → P i = Q i) : (sel P n).length = (sel Q n).length :=
  Nat.le_antisymm (sel_le_of n fun i hi hP => by rw [← h i hi]; exact hP) (sel_le_of n fun i hi hQ => by rw [h i hi]; exact hQ)
theorem sel_at {P Q : Nat → Bool} (p : Nat) (h : ∀ i, i ≠ p → P i = Q i) (n : Nat) (hn : p < n) : (sel P n).length + (Q p).toNat = (sel Q n).length + (P p).toNat := by
  induction n with
  | zero => omega
  | succ n ih =>
    rw [sel_len_succ, sel_len_succ]
    by_cases hp : p = n
    · subst hp
      have := sel_congr (P := P) (Q := Q) p (fun i hi => h i (by omega))
      omega
    · have := ih (by omega)
      rw [h n (fun e => hp e.symm)]
      omega
theorem sel_sw (P : Nat → Bool) {p q n : Nat} (hp : p < n) (hq : q < n) : (sel (fun j => P (sw p q j)) n).length = (sel P n).length := by
  by_cases hpq : p = q
  · refine sel_congr n fun i _ => ?_
    unfold sw
    by_cases h : i = p
    · rw [if_pos h, ← hpq, h]
    · rw [if_neg h, if_neg (by omega)]
  · have h1 := sel_at (P := P) (Q := fun j => if j = p then P q else P j) p (fun i hi => by show P i = if i = p then P q else P i; rw [if_neg hi]) n hp
    have h2 := sel_at (P := fun j => if j = p then P q else P j) (Q := fun j => P (sw p q j)) q (fun i hi => by
      show (if i = p then P q else P i) = P (sw p q i)
      unfold sw
      by_cases h : i = p
      · rw [if_pos h, if_pos h]
      · rw [if_neg h, if_neg h, if_neg hi]) n hq
    skip
    have e2 : (if q = p then P q else P q) = P q := by split <;> rfl
    have e3 : sw p q q = p := by
      unfold sw
      rw [if_neg (fun h => hpq h.symm), if_pos rfl]
    rw [if_pos rfl] at h1
    rw [e2, e3] at h2
    omega
theorem pad_map (f : Int → Int) (x : List Int) (i : Nat) (hi : i < x.length) : pad (x.map f) i = f (pad x i) := by
  unfold pad
  rw [List.getD_eq_getElem?_getD, List.getD_eq_getElem?_getD, List.getElem?_map, List.getElem?_eq_getElem hi]; rfl
structure Turn (p q : Nat) (L0 : List S109) (L1 : List S110) (L0' : List S109) (L1' : List S110) : Prop where
  hp : p < L0.length
  hq : q < L0.length
  len0 : L0'.length = L0.length
  len1 : L1'.length = L1.length
  wom : ∀ j, j < L0.length → L0'.getD j z109 = L0.getD (sw p q j) z109
  mks : ∀ i, i < L1.length → (L1'.getD i z110).f0 = (L1.getD i z110).f0
  own : ∀ i, i < L1.length → (L1'.getD i z110).f1 = swI p q (L1.getD i z110).f1
section
variable {p q : Nat} {L0 L0' : List S109} {L1 L1' : List S110} {wg : Int}
theorem Turn.symm (h : Turn p q L0 L1 L0' L1') : Turn p q L0' L1' L0 L1 := by
  refine ⟨by rw [h.len0]; exact h.hp, by rw [h.len0]; exact h.hq, h.len0.symm, h.len1.symm, fun j hj => ?_, fun i hi => ?_, fun i hi => ?_⟩
  · rw [h.len0] at hj
    rw [h.wom _ (sw_lt h.hp h.hq hj), sw_sw]
  · exact (h.mks i (by rw [← h.len1]; exact hi)).symm
  · rw [h.own i (by rw [← h.len1]; exact hi), swI_swI]
theorem Turn.opts (h : Turn p q L0 L1 L0' L1') (i : Nat) (hi : i < L1.length) {v : Int} (hv : v ∈ optsL L0' L1' i) : swI p q v ∈ optsL L0 L1 i := by
  unfold optsL ofL at hv ⊢
  rw [sel_mem] at hv ⊢
  obtain ⟨k, hk, hc, rfl⟩ := hv
  rw [h.len0] at hk
  refine ⟨sw p q k, sw_lt h.hp h.hq hk, ?_, swI_nat p q k⟩
  rw [h.wom k hk, h.mks i hi] at hc
  exact hc
theorem Turn.optn (h : Turn p q L0 L1 L0' L1') (i : Nat) (hi : i < L1.length) : (optsL L0' L1' i).length = (optsL L0 L1 i).length := by
  unfold optsL ofL
  rw [h.len0, h.mks i hi, ← sel_sw (fun j => (L1.getD i z110).f0.contains (L0.getD j z109).f0) h.hp h.hq]
  exact sel_congr _ fun j hj => by rw [h.wom j hj]
theorem Turn.all (h : Turn p q L0 L1 L0' L1') {x : List Int} (hx : x ∈ allL L0' L1') : x.map (swI p q) ∈ allL L0 L1 := by
  rw [allL_mem] at hx ⊢
  refine ⟨by rw [List.length_map, hx.1, h.len1], fun j hj => ?_⟩
  have hj2 : j < L1'.length := by rw [h.len1]; exact hj
  have := h.opts j hj (hx.2 j hj2)
  have e := pad_map (swI p q) x j (by rw [hx.1]; exact hj2)
  unfold pad at e
  rw [e]
  exact this
theorem Turn.allN (h : Turn p q L0 L1 L0' L1') : (allL L0' L1').length = (allL L0 L1).length := by
  rw [allL_prodN, allL_prodN]
  congr 1
  unfold lensL
  rw [h.len1]
  exact List.map_congr_left fun j hj => h.optn j (List.mem_range.1 hj)
theorem cnt_congr {o o' : Nat → Int} {u v : Int} (m : Nat) (h : ∀ i, i < m → (o i = u ↔ o' i = v)) : cnt o m u = cnt o' m v := by
  induction m with
  | zero => rfl
  | succ m ih =>
    rw [cnt_succ, cnt_succ, ih fun i hi => h i (by omega)]
    by_cases hm : o m = u
    · rw [if_pos hm, if_pos ((h m (by omega)).1 hm)]
    · rw [if_neg hm, if_neg (fun e => hm ((h m (by omega)).2 e))]
theorem Turn.bad (h : Turn p q L0 L1 L0' L1') {x : List Int} (hx : x.length = L1.length) (k : Nat) (hk : k < L0.length) : bad L0' L1.length (pad x) k = X.bad L0 L1.length (pad (x.map (swI p q))) (sw p q k) := by
  unfold X.bad
  rw [h.wom k hk]
  have e : cnt (pad x) L1.length (k : Int) = cnt (pad (x.map (swI p q))) L1.length ((sw p q k : Nat) : Int) := cnt_congr _ fun i hi => by
    rw [pad_map _ _ _ (by omega), ← swI_nat]
    exact ⟨fun e => by rw [e], fun e => by have := congrArg (swI p q) e; rwa [swI_swI, swI_swI] at this⟩
  rw [e]
theorem Turn.badN (h : Turn p q L0 L1 L0' L1') {x : List Int} (hx : x.length = L1.length) : (sel (X.bad L0' L1.length (pad x)) L0.length).length = (sel (X.bad L0 L1.length (pad (x.map (swI p q)))) L0.length).length := by
  rw [← sel_sw (X.bad L0 L1.length (pad (x.map (swI p q)))) h.hp h.hq]
  exact sel_congr _ fun k hk => h.bad hx k hk
theorem Turn.truths (h : Turn p q L0 L1 L0' L1') {x : List Int} (hx : x ∈ truthsL L0' L1' wg) : x.map (swI p q) ∈ truthsL L0 L1 wg := by
  unfold truthsL at hx ⊢
  rw [List.mem_filter] at hx ⊢
  refine ⟨h.all hx.1, ?_⟩
  have hl : x.length = L1.length := ((allL_mem _ _ _).1 hx.1).1.trans h.len1
  have h2 := hx.2
  unfold isT at h2 ⊢
  rw [h.len0, h.len1, h.badN hl] at h2
  exact h2
theorem Turn.lost (h : Turn p q L0 L1 L0' L1') {x : List Int} (hx : x.length = L1.length) : lostN L1' (pad x) = lostN L1 (pad (x.map (swI p q))) := by
  unfold lostN
  rw [h.len1, sel_congr L1.length fun i hi => ?_]
  unfold off
  rw [h.own i hi, pad_map _ _ _ (by omega), Bool.eq_iff_iff, Bool.not_eq_true', Bool.not_eq_true', decide_eq_false_iff_not, decide_eq_false_iff_not, swI_eq]
theorem truth_len {x : List Int} (hx : x ∈ truthsL L0 L1 wg) : x.length = L1.length := ((allL_mem _ _ _).1 (truths_mem hx)).1
theorem Turn.whoP (h : Turn p q L0 L1 L0' L1') (i : Nat) (hi : i < L1.length) (k : Nat) : whoP L1'.length (truthsL L0' L1' wg) i k = X.whoP L1.length (truthsL L0 L1 wg) i (sw p q k) := by
  rw [whoP_any _ _ _ _ (by rw [h.len1]; exact hi), whoP_any _ _ _ _ hi, Bool.eq_iff_iff, List.any_eq_true, List.any_eq_true]
  constructor
  · rintro ⟨x, hx, he⟩
    refine ⟨_, h.truths hx, ?_⟩
    have := truth_len hx
    rw [h.len1] at this
    rw [pad_map _ _ _ (by omega), eq_of_beq he, swI_nat]
    exact beq_self_eq_true _
  · rintro ⟨x, hx, he⟩
    refine ⟨_, h.symm.truths hx, ?_⟩
    have := truth_len hx
    rw [pad_map _ _ _ (by omega), eq_of_beq he, swI_nat, sw_sw]
    exact beq_self_eq_true _
theorem Turn.rowN (h : Turn p q L0 L1 L0' L1') (i : Nat) (hi : i < L1.length) : ((whoseL L0'.length L1'.length (truthsL L0' L1' wg)).getD i []).length = ((whoseL L0.length L1.length (truthsL L0 L1 wg)).getD i []).length := by
  rw [whoseL_get _ _ _ _ (by rw [h.len1]; exact hi), whoseL_get _ _ _ _ hi, h.len0, ← sel_sw (X.whoP L1.length (truthsL L0 L1 wg) i) h.hp h.hq]
  exact sel_congr _ fun k _ => h.whoP i hi k
theorem Turn.rowM (h : Turn p q L0 L1 L0' L1') (i : Nat) (hi : i < L1.length) {v : Int} (hv : v ∈ (whoseL L0.length L1.length (truthsL L0 L1 wg)).getD i []) : swI p q v ∈ (whoseL L0'.length L1'.length (truthsL L0' L1' wg)).getD i [] := by
  have hi' : i < L1'.length := by rw [h.len1]; exact hi
  rw [whose_mem hi (fun x hx => truths_own hx i hi)] at hv
  rw [whose_mem hi' (fun x hx => truths_own hx i hi')]
  obtain ⟨x, hx, rfl⟩ := hv
  have := truth_len hx
  exact ⟨_, h.symm.truths hx, pad_map _ _ _ (by omega)⟩
theorem map_swI (x : List Int) : (x.map (swI p q)).map (swI p q) = x := by
  rw [List.map_map]
  have : (swI p q) ∘ (swI p q) = id := funext fun v => swI_swI _ _ v
  rw [this, List.map_id]
theorem Turn.leave (h : Turn p q L0 L1 L0' L1') (h5 : L0.length ≤ 5) (hok : L1.all (okP L0) = true) (hok' : L1'.all (okP L0') = true) : (leaveL L0' L1').length ≤ (leaveL L0 L1).length := by
  have hp := h.hp
  have hq := h.hq
  obtain ⟨h1, h2, _⟩ := leave_least h5 hok
  obtain ⟨m, hm, hs⟩ := sets_of _ (by omega) _ h1
  rw [hs] at h2
  have hbit : ∀ j, (bitsN (fun j => m.testBit (sw p q j)) L0.length).testBit j = m.testBit (sw p q j) := fun j => by
    rw [bitsN_bit]
    by_cases hj : j < L0.length
    · rw [decide_eq_true hj, Bool.true_and]
    · rw [decide_eq_false hj, Bool.false_and, sw_out hp hq hj]
      exact (Nat.testBit_lt_two_pow (Nat.lt_of_lt_of_le hm (Nat.pow_le_pow_right (by omega) (by omega)))).symm
  have hlen : (setOf (bitsN (fun j => m.testBit (sw p q j)) L0.length)).length = (leaveL L0 L1).length := by
    rw [hs]
    unfold setOf
    rw [← sel_sw (fun j => m.testBit j) (n := 6) (p := p) (q := q) (by omega) (by omega)]
    exact sel_congr 6 fun j _ => hbit j
  rw [← hlen]
  refine leave_short (by rw [h.len0]; exact h5) hok' (by rw [h.len0]; exact sets_bits _ (by omega) _ (bitsN_lt _ _)) ?_
  unfold possL at h2 ⊢
  rw [List.any_eq_true] at h2 ⊢
  obtain ⟨x, hx, hc⟩ := h2
  have hxl : x.length = L1.length := ((allL_mem _ _ _).1 hx).1
  refine ⟨_, h.symm.all hx, ?_⟩
  unfold condL at hc ⊢
  rw [List.all_eq_true] at hc ⊢
  intro v hv
  obtain ⟨k, hk, hb, rfl⟩ := (sel_mem _ _ _).1 hv
  rw [h.len0] at hk
  rw [h.len1, h.bad (by rw [List.length_map]; exact hxl) k hk, map_swI] at hb
  have h3 := hc _ ((sel_mem _ _ _).2 ⟨sw p q k, sw_lt hp hq hk, hb, rfl⟩)
  rw [setOf_mem, Bool.and_eq_true] at h3 ⊢
  exact ⟨decide_eq_true (by omega), by rw [hbit]; exact h3.2⟩
theorem Turn.val (h : Turn p q L0 L1 L0' L1') (hv : Val L0 L1 wg) : Val L0' L1' wg := by
  have hp := h.hp
  have hq := h.hq
  refine ⟨by rw [h.len0]; exact hv.n0, by rw [h.len1]; exact hv.n1, hv.wg0, hv.wg1, ?_, ?_, ?_⟩
  · rw [List.all_eq_true]
    intro z hz
    obtain ⟨i, hi, rfl⟩ := List.mem_iff_getElem.1 hz
    have e : L0'[i] = L0'.getD i z109 := by rw [List.getD_eq_getElem?_getD, List.getElem?_eq_getElem hi]; rfl
    rw [h.len0] at hi
    rw [e, h.wom i hi]
    exact List.all_eq_true.1 hv.ws _ (getD_mem _ _ _ (sw_lt hp hq hi))
  · rw [List.all_eq_true]
    intro z hz
    obtain ⟨i, hi, rfl⟩ := List.mem_iff_getElem.1 hz
    have e : L1'[i] = L1'.getD i z110 := by rw [List.getD_eq_getElem?_getD, List.getElem?_eq_getElem hi]; rfl
    rw [h.len1] at hi
    have hp1 := List.all_eq_true.1 hv.ps (L1.getD i z110) (getD_mem L1 i z110 hi)
    have hn := h.optn i hi
    unfold optsL at hn
    rw [e]
    unfold okP at hp1 ⊢
    rw [Bool.and_eq_true, Bool.and_eq_true] at hp1 ⊢
    rw [hn, h.mks i hi, h.own i hi, h.len0]
    refine ⟨⟨hp1.1.1, ?_⟩, hp1.2⟩
    have h2 := hp1.1.2
    unfold okIn at h2 ⊢
    rw [Bool.and_eq_true, decide_eq_true_eq, decide_eq_true_eq] at h2 ⊢
    unfold swI
    split
    · omega
    · split
      · omega
      · exact h2
  · have hm := hv.mn
    rw [manyT_eq] at hm ⊢
    rw [h.allN]; exact hm
theorem Turn.bounds (h : Turn p q L0 L1 L0' L1') (hts : truthsL L0 L1 wg ≠ []) (hts' : truthsL L0' L1' wg ≠ []) : boundsL (fun x => lostN L1' (pad x)) (truthsL L0' L1' wg) = boundsL (fun x => lostN L1 (pad x)) (truthsL L0 L1 wg) := by
  obtain ⟨a, ⟨xa, ma, ea⟩, ⟨xb, mb, eb⟩⟩ := boundsL_spec (fun x => lostN L1 (pad x)) hts
  have tr : ∀ x ∈ truthsL L0 L1 wg, lostN L1' (pad (x.map (swI p q))) = lostN L1 (pad x) := fun x hx => by
    rw [h.lost (by rw [List.length_map]; exact truth_len hx), map_swI]
  refine boundsL_eq _ hts' (fun x hx => ?_) ⟨_, h.symm.truths ma, (tr xa ma).trans ea⟩ ⟨_, h.symm.truths mb, (tr xb mb).trans eb⟩
  have := a _ (h.truths hx)
  dsimp only at this ⊢
  rw [h.lost (by rw [truth_len hx, h.len1])]
  exact this
theorem Turn.ask (h : Turn p q L0 L1 L0' L1') (he : truthsL L0 L1 wg = []) : truthsL L0' L1' wg = [] := by
  by_cases h2 : truthsL L0' L1' wg = []
  · exact h2
  · obtain ⟨x, hx⟩ := List.exists_mem_of_ne_nil _ h2
    have := h.truths hx
    rw [he] at this
    cases this
end
end Go.Proofs.Ytnbbbeghgomnoaa.X
namespace Go.Proofs.Ytnbbbeghgomnoaa.X
open Go.RowKit Go.Proofs.YtnbbbeghgomnoaaW.PrintWords Go.Proofs.YtnbbbeghgomnoaaW.PrintLast Go.Proofs.YtnbbbeghgomnoaaW.PrintMore
attribute [local go_sem] max2_int min2_int max_two min_two max_three min_three max_four min_four
set_option linter.unusedVariables false
set_option linter.unusedSimpArgs false
def posserlaw03_ready.f (k : Nat) (l0_0 : List (S85)) (l0_1 : List (S71)) (a0_2 : Int) : Option (Bool) := (posserlaw03_Thin.f k l0_0 l0_1 a0_2).bind fun t444 => (if t444 = true then ((posserref03_Fault.f k l0_0 l0_1 a0_2).bind fun t445 => (some (t445 == 0))) else (some false))
set_option maxHeartbeats 8000000 in
set_option maxRecDepth 100000 in
theorem posserlaw03_ready.calls (k : Nat) (A0_0 : Option Addr) (c0_0 : Nat) (l0_0 : List (S85)) (A0_1 : Option Addr) (c0_1 : Nat) (l0_1 : List (S71)) (a0_2 : Int) (r : Bool) (w : World) (hr0_0 : Kd.C k85 w A0_0 l0_0.length l0_0) (hc0_0 : l0_0.length ≤ c0_0) (hr0_1 : Kd.C k71 w A0_1 l0_1.length l0_1) (hc0_1 : l0_1.length ≤ c0_1) (h : posserlaw03_ready.f k l0_0 l0_1 a0_2 = some r) :
  Calls Try.prog 47 #[.agg #[.slice A0_0 l0_0.length c0_0, .slice A0_1 l0_1.length c0_1, .int .i64 a0_2]] w fun e w' => e = .returned (.bool r) ∧ Below w.heap.size w w' := by
 have hu25 := Try.underlying25
 have HR0_0 := Aside0.mk hr0_0
 have HC0_0 := Aside0.mk hc0_0
 clear hr0_0 hc0_0
 have HR0_1 := Aside0.mk hr0_1
 have HC0_1 := Aside0.mk hc0_1
 clear hr0_1 hc0_1
 have HB := Aside0.mk (Below.refl w.heap.size w)
 have H : ((posserlaw03_Thin.f k l0_0 l0_1 a0_2).bind fun t444 => (if t444 = true then ((posserref03_Fault.f k l0_0 l0_1 a0_2).bind fun t445 => (some (t445 == 0))) else (some false))) = some r := h
 clear h
 replace H := Option.bind_eq_some_iff.mp H
 obtain ⟨t444, A20, H⟩ := H
 replace H : (if t444 = true then ((posserref03_Fault.f k l0_0 l0_1 a0_2).bind fun t445 => (some (t445 == 0))) else (some false)) = some r := H
 have A2 := Aside0.mk A20
 clear A20
 by_cases c3 : t444 = true
 ·subst c3
  have H1 : ((posserref03_Fault.f k l0_0 l0_1 a0_2).bind fun t445 => (some (t445 == 0))) = some r := by rw [if_pos rfl] at H; exact H
  clear H
  have H := H1
  clear H1
  replace H := Option.bind_eq_some_iff.mp H
  obtain ⟨t445, A40, H⟩ := H
  replace H : (some (t445 == 0)) = some r := H
  have A4 := Aside0.mk A40
  clear A40
  obtain rfl := Option.some.inj H
  go_enter Try.func47, Try.ntmps47
  go_wp2_with (first | ((with_reducible refine gate_dst (N := 1) rfl ?_); refine sbox (N := 1) #[.slice A0_0 l0_0.length c0_0, .slice A0_1 l0_1.length c0_1, .int .i64 a0_2] 25 ?_; intro gb443 hg w5 hbox hb; have BK443 := Aside0.mk (hbox); have GW443 := Aside0.mk (sge hg HB : w.heap.size ≤ gb443); have GE443 := Aside0.mk (sge hg HB : w.heap.size ≤ gb443); replace HB := Aside0.mk (sbs HB hb); clear hb hbox hg; have hcz6_0 := sc 0 BK443; have hcz6_1 := sc 1 BK443; have hcz6_2 := sc 2 BK443; have hfz6_0 := blk_frozen BK443.out 0; have hfz6_1 := blk_frozen BK443.out 1; have hfz6_2 := blk_frozen BK443.out 2) | ((with_reducible refine gate_callee (f := 20) rfl ?_); refine goesL_ (some 4) rfl rfl Try.func20 (by kernel_rfl) rfl #[.agg #[.slice A0_0 l0_0.length c0_0, .slice A0_1 l0_1.length c0_1, .int .i64 a0_2]] rfl (by (try simp only [List.map_toArray, List.map_cons, List.map_nil]); first | done | rfl | (simp only [List.length_drop, List.length_take]; rfl)) ?_; (with_reducible refine (posserlaw03_Thin.calls k _ _ l0_0 _ _ l0_1 a0_2 true _ ?side1 ?side2 ?side3 ?side4 A2.out).mono ?_); (case side1 => exact sCb HR0_0 HB); (case side2 => exact HC0_0.out); (case side3 => exact sCb HR0_1 HB); (case side4 => exact HC0_1.out); rintro e w7 ⟨rfl, hb⟩; refine ⟨_, rfl, ?_⟩; replace BK443 := Aside0.mk (sbb BK443 hb); replace HB := Aside0.mk (sbs1 HB GE443 hb); (try clear hb); (try clear hb2); (try clear hk); (try clear hi); have hcz8_0 := sc 0 BK443; have hcz8_1 := sc 1 BK443; have hcz8_2 := sc 2 BK443; have hfz8_0 := blk_frozen BK443.out 0; have hfz8_1 := blk_frozen BK443.out 1; have hfz8_2 := blk_frozen BK443.out 2) | (go_at_call 75; (with_reducible refine (posserref03_Fault.calls k _ _ l0_0 _ _ l0_1 a0_2 t445 _ ?side1 ?side2 ?side3 ?side4 A4.out).mono ?_); (case side1 => exact sCb HR0_0 HB); (case side2 => exact HC0_0.out); (case side3 => exact sCb HR0_1 HB); (case side4 => exact HC0_1.out); rintro e w9 ⟨rfl, hb⟩; replace BK443 := Aside0.mk (sbb BK443 hb); replace HB := Aside0.mk (sbs1 HB GE443 hb); (try clear hb); (try clear hb2); (try clear hk); (try clear hi)))
  go_ret
  exact ⟨by first | rfl | (simp [errW_none, errW_some] <;> rfl) | (simp [*, errW_none, errW_some] <;> rfl), (sbe1 HB GE443)⟩
 ·replace c3 := Bool.eq_false_iff.mpr c3
  subst c3
  have H1 : (some false) = some r := by rw [if_neg (show ¬ (false = true) by decide)] at H; exact H
  clear H
  have H := H1
  clear H1
  obtain rfl := Option.some.inj H
  go_enter Try.func47, Try.ntmps47
  go_wp2_with (first | ((with_reducible refine gate_dst (N := 1) rfl ?_); refine sbox (N := 1) #[.slice A0_0 l0_0.length c0_0, .slice A0_1 l0_1.length c0_1, .int .i64 a0_2] 25 ?_; intro gb443 hg w10 hbox hb; have BK443 := Aside0.mk (hbox); have GW443 := Aside0.mk (sge hg HB : w.heap.size ≤ gb443); have GE443 := Aside0.mk (sge hg HB : w.heap.size ≤ gb443); replace HB := Aside0.mk (sbs HB hb); clear hb hbox hg; have hcz11_0 := sc 0 BK443; have hcz11_1 := sc 1 BK443; have hcz11_2 := sc 2 BK443; have hfz11_0 := blk_frozen BK443.out 0; have hfz11_1 := blk_frozen BK443.out 1; have hfz11_2 := blk_frozen BK443.out 2) | ((with_reducible refine gate_callee (f := 20) rfl ?_); refine goesL_ (some 4) rfl rfl Try.func20 (by kernel_rfl) rfl #[.agg #[.slice A0_0 l0_0.length c0_0, .slice A0_1 l0_1.length c0_1, .int .i64 a0_2]] rfl (by (try simp only [List.map_toArray, List.map_cons, List.map_nil]); first | done | rfl | (simp only [List.length_drop, List.length_take]; rfl)) ?_; (with_reducible refine (posserlaw03_Thin.calls k _ _ l0_0 _ _ l0_1 a0_2 false _ ?side1 ?side2 ?side3 ?side4 A2.out).mono ?_); (case side1 => exact sCb HR0_0 HB); (case side2 => exact HC0_0.out); (case side3 => exact sCb HR0_1 HB); (case side4 => exact HC0_1.out); rintro e w12 ⟨rfl, hb⟩; refine ⟨_, rfl, ?_⟩; replace BK443 := Aside0.mk (sbb BK443 hb); replace HB := Aside0.mk (sbs1 HB GE443 hb); (try clear hb); (try clear hb2); (try clear hk); (try clear hi)))
  go_ret
  exact ⟨by first | rfl | (simp [errW_none, errW_some] <;> rfl) | (simp [*, errW_none, errW_some] <;> rfl), (sbe1 HB GE443)⟩
end Go.Proofs.Ytnbbbeghgomnoaa.X
namespace Go.Proofs.Ytnbbbeghgomnoaa.X
open Go.RowKit Go.Proofs.YtnbbbeghgomnoaaW.PrintWords Go.Proofs.YtnbbbeghgomnoaaW.PrintLast Go.Proofs.YtnbbbeghgomnoaaW.PrintMore
theorem rdy_ev (l0 : List S85) (l1 : List S71) (wg : Int) : Evt (fun k => posserlaw03_ready.f k l0 l1 wg) (thinR l0 l1 && decide (checkT (l0.map cvW) (l1.map cvP) wg = 0)) := by
  obtain ⟨K, hK⟩ := Thin_ev l0 l1 wg
  cases hth : thinR l0 l1 with
  | false =>
    refine ⟨K, fun k hk => ?_⟩
    have g1 := hK k hk
    dsimp only at g1 ⊢
    unfold posserlaw03_ready.f
    rw [g1, hth]; rfl
  | true =>
    obtain ⟨L, hL⟩ := Fault_ev wg (thinR_iff.1 hth)
    refine ⟨K + L, fun k hk => ?_⟩
    have g1 := hK k (by omega)
    have g2 := hL k (by omega)
    dsimp only at g1 g2 ⊢
    unfold posserlaw03_ready.f
    rw [g1, hth]
    simp only [Option.bind_some, if_true]
    rw [g2]
    simp only [Option.bind_some]
    exact congrArg some (by rw [Bool.true_and, Bool.eq_iff_iff, beq_iff_eq, decide_eq_true_eq])
theorem rdy_cases (l0 : List S85) (l1 : List S71) (wg : Int) : (∃ K, ∀ k, K ≤ k → posserlaw03_ready.f k l0 l1 wg = some false) ∨ (VR l0 l1 wg ∧ checkT (l0.map cvW) (l1.map cvP) wg = 0 ∧ ∃ K, ∀ k, K ≤ k → posserlaw03_ready.f k l0 l1 wg = some true) := by
  have h := rdy_ev l0 l1 wg
  by_cases h1 : thinR l0 l1 = true
  · by_cases h2 : checkT (l0.map cvW) (l1.map cvP) wg = 0
    · rw [h1, decide_eq_true h2] at h
      exact .inr ⟨VR.of (thinR_iff.1 h1) h2, h2, h⟩
    · rw [h1, decide_eq_false h2] at h
      exact .inl h
  · rw [Bool.eq_false_iff.2 h1] at h
    exact .inl h
theorem ask_cases {l0 : List S109} {l1 : List S110} {wg : Int} (hc : checkT l0 l1 wg = 0) : (askE l0 l1 wg = 11 ∧ truthsL l0 l1 wg = []) ∨ (askE l0 l1 wg = 0 ∧ truthsL l0 l1 wg ≠ []) := by
  unfold askE
  rw [if_neg (fun h => h hc)]
  by_cases h : truthsL l0 l1 wg = []
  · rw [if_pos h]; exact .inl ⟨rfl, h⟩
  · rw [if_neg h]; exact .inr ⟨rfl, h⟩
theorem u8_rng {a : Int} (h : (Lit.int .u8 a).wf = true) : 0 ≤ a ∧ a ≤ 255 := by
  unfold Lit.wf at h
  rw [Bool.and_eq_true, decide_eq_true_eq, decide_eq_true_eq] at h
  exact ⟨h.1, h.2⟩
theorem tmod_nat (a n : Int) (h0 : 0 ≤ a) (h1 : a ≤ 65535) (hn : 0 < n) : Int.tmod (wrap64 a) n = ((a.toNat % n.toNat : Nat) : Int) := by
  rw [wrap64_id _ (by omega) (by omega), Int.tmod_eq_emod_of_nonneg h0]
  obtain ⟨x, rfl⟩ : ∃ x : Nat, a = (x : Int) := ⟨a.toNat, by omega⟩
  obtain ⟨y, rfl⟩ : ∃ y : Nat, n = (y : Int) := ⟨n.toNat, by omega⟩
  rw [Int.toNat_natCast, Int.toNat_natCast]; rfl
end Go.Proofs.Ytnbbbeghgomnoaa.X
namespace Go.Proofs.Ytnbbbeghgomnoaa.X
open Go.RowKit Go.Proofs.YtnbbbeghgomnoaaW.PrintWords Go.Proofs.YtnbbbeghgomnoaaW.PrintLast Go.Proofs.YtnbbbeghgomnoaaW.PrintMore
abbrev RI (w : World) (b : Nat) (v : Value) (xs : List Int) : Prop := Kd.R (Kd.int .i64) 3 w b (fun _ => True) v xs
abbrev RL (w : World) (b : Nat) (v : Value) (xs : List (List Int)) : Prop := Kd.R (Kd.slice 3 (Kd.int .i64)) 39 w b (fun _ => True) v xs
section
variable {A0 : Option Addr} {c0 : Nat} {l0 : List S109} {A1 : Option Addr} {c1 : Nat} {l1 : List S110} {w : World}
theorem tab_c {A0 : Option Addr} {c0 : Nat} {l0 : List S85} {A1 : Option Addr} {c1 : Nat} {l1 : List S71} (wg : Int) {w : World} (ht : RTab A0 c0 l0 A1 c1 l1 w) {L0 : List S109} {L1 : List S110} (h0 : l0.map cvW = L0) (h1 : l1.map cvP = L1) :
    Calls Try.prog 23 #[.agg #[.slice A0 l0.length c0, .slice A1 l1.length c1, .int .i64 wg]] w fun e w' => ∃ B0 d0 B1 d1, e = .returned (.agg #[.slice B0 L0.length d0, .slice B1 L1.length d1, .int .i64 wg]) ∧ Tab B0 d0 L0 B1 d1 L1 w' ∧ Below w.heap.size w w' := by
  subst h0 h1
  refine (Table_calls wg ht).mono ?_
  rintro e w' ⟨B0, d0, B1, d1, rfl, h, _, _, hb⟩
  exact ⟨B0, d0, B1, d1, by simp only [List.length_map], h, hb⟩
theorem whose_c (wg : Int) (ht : Tab A0 c0 l0 A1 c1 l1 w) (he : askE l0 l1 wg = 0) {ws : List (List Int)} (hs : whoseL l0.length l1.length (truthsL l0 l1 wg) = ws) :
    Calls Try.prog 22 #[.agg #[.slice A0 l0.length c0, .slice A1 l1.length c1, .int .i64 wg]] w fun e w' => ∃ v, e = .returned (.tuple #[v, .int .i64 0]) ∧ RL w' w.heap.size v ws ∧ Below w.heap.size w w' := by
  subst hs
  exact Whose_ok wg ht he
theorem whose_n (wg : Int) (ht : Tab A0 c0 l0 A1 c1 l1 w) (he : askE l0 l1 wg = 11) :
    Calls Try.prog 22 #[.agg #[.slice A0 l0.length c0, .slice A1 l1.length c1, .int .i64 wg]] w fun e w' => e = .returned (.tuple #[.slice none 0 0, .int .i64 11]) ∧ Below w.heap.size w w' := by
  have h := Whose_e wg ht (by omega)
  rwa [he] at h
theorem ast_c (wg : Int) (ht : Tab A0 c0 l0 A1 c1 l1 w) (he : askE l0 l1 wg = 0) {lo hi : Int} (hs : boundsL (fun x => lostN l1 (pad x)) (truthsL l0 l1 wg) = (lo, hi)) :
    Calls Try.prog 37 #[.agg #[.slice A0 l0.length c0, .slice A1 l1.length c1, .int .i64 wg]] w fun e w' => e = .returned (.tuple #[.agg #[.int .i64 lo, .int .i64 hi], .int .i64 0]) ∧ Below w.heap.size w w' := by
  have h := Astray_ok wg ht he
  rwa [hs] at h
theorem ast_n (wg : Int) (ht : Tab A0 c0 l0 A1 c1 l1 w) (he : askE l0 l1 wg = 11) :
    Calls Try.prog 37 #[.agg #[.slice A0 l0.length c0, .slice A1 l1.length c1, .int .i64 wg]] w fun e w' => e = .returned (.tuple #[.agg #[.int .i64 0, .int .i64 0], .int .i64 11]) ∧ Below w.heap.size w w' := by
  have h := Astray_e wg ht (by omega)
  rwa [he] at h
theorem leave_c (wg : Int) (ht : Tab A0 c0 l0 A1 c1 l1 w) (he : checkT l0 l1 wg = 0) {vs : List Int} (hs : leaveL l0 l1 = vs) :
    Calls Try.prog 32 #[.agg #[.slice A0 l0.length c0, .slice A1 l1.length c1, .int .i64 wg]] w fun e w' => ∃ v, e = .returned (.tuple #[v, .int .i64 0]) ∧ RI w' w.heap.size v vs ∧ Below w.heap.size w w' := by
  subst hs
  exact Leave_ok wg ht he
end
end Go.Proofs.Ytnbbbeghgomnoaa.X
namespace Go.Proofs.Ytnbbbeghgomnoaa.X
open Go.RowKit Go.Proofs.YtnbbbeghgomnoaaW.PrintWords Go.Proofs.YtnbbbeghgomnoaaW.PrintLast Go.Proofs.YtnbbbeghgomnoaaW.PrintMore
def PB {α : Type} (d : Kd α) (w : World) (cs : Array Value) (xs : List α) : Prop := ∀ j x, xs[j]? = some x → ∃ c : List Value, d.K w x c ∧ ∀ i u, c[i]? = some u → cs[j * d.sz + i]? = some u
structure RX {α : Type} (d : Kd α) (e : Nat) (w W : World) (b : Nat) (A : Option Addr) (c : Nat) (xs : List α) : Prop where
  le : xs.length ≤ c
  sm : xs.length ≤ 1000
  blk : xs.length = 0 ∨ ∃ g cs, A = some ⟨g, 0, none⟩ ∧ b ≤ g ∧ W.heap[g]? = some (.cells cs e (0, 0)) ∧ PB d w cs xs
section
variable {α : Type} {d : Kd α} {e : Nat} {w W W' : World} {b : Nat} {A : Option Addr} {c : Nat} {xs : List α}
theorem RX.below (h : RX d e w W b A c xs) (hb : Below W.heap.size W W') : RX d e w W' b A c xs := by
  refine ⟨h.le, h.sm, ?_⟩
  rcases h.blk with h0 | ⟨g, cs, h1, h2, h3, h4⟩
  · exact .inl h0
  · exact .inr ⟨g, cs, h1, h2, blk_below h3 hb, h4⟩
theorem RX.setRow {g' t : Nat} {cs' us : Array Value} (h : RX d e w W b A c xs) (hk : W.heap[g']? = some (.cells cs' t (0, 0))) (ht : e ≠ t) : RX d e w (W.setRow g' us) b A c xs := by
  refine ⟨h.le, h.sm, ?_⟩
  rcases h.blk with h0 | ⟨g, cs, h1, h2, h3, h4⟩
  · exact .inl h0
  · refine .inr ⟨g, cs, h1, h2, (setRow_other W g' g us (fun he => ?_)).trans h3, h4⟩
    subst he
    rw [h3] at hk
    injection hk with hk
    injection hk with _ hk
    exact ht hk
theorem RX.setCell {g' j t : Nat} {cs' : Array Value} {u : Value} (h : RX d e w W b A c xs) (hk : W.heap[g']? = some (.cells cs' t (0, 0))) (ht : e ≠ t) : RX d e w (W.setCell ⟨g', j, none⟩ u) b A c xs := by
  refine ⟨h.le, h.sm, ?_⟩
  rcases h.blk with h0 | ⟨g, cs, h1, h2, h3, h4⟩
  · exact .inl h0
  · refine .inr ⟨g, cs, h1, h2, blk_far h3 (fun he => ?_) u, h4⟩
    have he' : g = g' := he
    subst he'
    rw [h3] at hk
    injection hk with hk
    injection hk with _ hk
    exact ht hk
theorem RX.lower {b' : Nat} (h : RX d e w W b A c xs) (hb : b' ≤ b) : RX d e w W b' A c xs := by
  refine ⟨h.le, h.sm, ?_⟩
  rcases h.blk with h0 | ⟨g, cs, h1, h2, h3, h4⟩
  · exact .inl h0
  · exact .inr ⟨g, cs, h1, Nat.le_trans hb h2, h3, h4⟩
theorem addr0 (g k : Nat) : Addr.add ⟨g, 0, none⟩ k = ⟨g, k, none⟩ := by
  cases k with
  | zero => rfl
  | succ k => simp [Addr.add]
theorem RX.C (h : RX d e w W b A c xs) (hb : Below w.heap.size w W) : d.C W A xs.length xs := by
  refine ⟨rfl, by have := h.sm; omega, fun hp => ?_⟩
  rcases h.blk with h0 | ⟨g, cs, h1, h2, h3, h4⟩
  · omega
  · refine ⟨_, h1, fun j p hj => ?_⟩
    obtain ⟨q, hq, hc⟩ := h4 j p hj
    exact ⟨q, d.K_len hq, d.K_below hb hq, fun i u hu => by rw [addr0]; exact (blk_cell h3 _).trans (hc i u hu)⟩
theorem RX.of {v : Value} {rows : List (List Value)} (hR : (Kd.raw d.sz).R e W b (fun _ => True) v rows) (hl : rows.length = xs.length) (hK : ∀ (j : Nat) (x : α) (r : List Value), xs[j]? = some x → rows[j]? = some r → d.K w x r) (hs : xs.length ≤ 1000) : ∃ A c, v = .slice A xs.length c ∧ RX d e w W b A c xs := by
  obtain ⟨_, inner, ho, hr⟩ := hR
  rcases ho.2 with ⟨rfl, h0⟩ | ⟨g, cap, cur, rfl, hg, hh, hn, _, hz, ht⟩
  · have hx : xs.length = 0 := by rw [← hl]; exact h0
    exact ⟨none, 0, by rw [hx], by rw [hx]; exact Nat.le_refl _, hs, .inl hx⟩
  · refine ⟨some ⟨g, 0, none⟩, cap, by rw [hl], by rw [← hl]; exact hn, hs, .inr ⟨g, cur, rfl, hg, hh, fun j x hx => ?_⟩⟩
    have hj : j < rows.length := by rw [hl]; exact (List.getElem?_eq_some_iff.1 hx).1
    have hrj := List.getElem?_eq_getElem hj
    refine ⟨rows[j], hK j x _ hx hrj, fun i u hu => ?_⟩
    have h1 := hr.2 j _ hrj
    have h2 : (inner.drop (j * d.sz)).take d.sz = rows[j] := h1.1
    rw [← h2, List.getElem?_take] at hu
    split at hu
    · rw [List.getElem?_drop] at hu
      rw [← ht, List.getElem?_take] at hu
      split at hu
      · rw [Array.getElem?_toList] at hu; exact hu
      · cases hu
    · cases hu
end
theorem PB.bundle {w : World} {cs : Array Value} {xs : List S71} (h : PB k71 w cs xs) (p : Nat) (hp : p < xs.length) (v : Int) : PB k71 w (cs.setIfInBounds (p * 2 + 1) (.int .i64 v)) (xs.set p ⟨(xs.getD p z71).f0, v⟩) := by
  intro j x hx
  rw [List.getElem?_set] at hx
  by_cases hj : p = j
  · subst hj
    rw [if_pos rfl, if_pos hp] at hx
    injection hx with hx
    subst hx
    have hg : xs[p]? = some (xs.getD p z71) := by rw [List.getD_eq_getElem?_getD, List.getElem?_eq_getElem hp]; rfl
    obtain ⟨c, hc, hcs⟩ := h p _ hg
    obtain ⟨A, n, rfl, hl, hC⟩ := k71_open hc
    refine ⟨[.slice A (xs.getD p z71).f0.length n, .int .i64 v], k71_mk w ⟨(xs.getD p z71).f0, v⟩ hl hC, fun i u hu => ?_⟩
    have h0 := hcs 0 _ rfl
    have h1 := hcs 1 _ rfl
    have hz : k71.sz = 2 := rfl
    rw [hz] at h0 h1 ⊢
    match i, hu with
    | 0, hu =>
      rw [Array.getElem?_setIfInBounds, if_neg (by omega)]
      injection hu with hu
      rw [← hu]; exact h0
    | 1, hu =>
      have hlt : p * 2 + 1 < cs.size := (Array.getElem?_eq_some_iff.1 h1).1
      rw [Array.getElem?_setIfInBounds, if_pos rfl, if_pos hlt]
      exact hu
    | i + 2, hu => simp at hu
  · rw [if_neg hj] at hx
    obtain ⟨c, hc, hcs⟩ := h j x hx
    refine ⟨c, hc, fun i u hu => ?_⟩
    have hi : i < 2 := by
      have h1 := (List.getElem?_eq_some_iff.1 hu).1
      have h2 := k71.K_len hc
      have hz : k71.sz = 2 := rfl
      omega
    have hz : k71.sz = 2 := rfl
    have := hcs i u hu
    rw [hz] at this ⊢
    rw [Array.getElem?_setIfInBounds, if_neg (by omega)]
    exact this
theorem PB.came {w : World} {cs : Array Value} {xs : List S85} (h : PB k85 w cs xs) (p : Nat) (hp : p < xs.length) (u v : Int) : PB k85 w ((cs.setIfInBounds (p * 3 + 1) (.int .i64 u)).setIfInBounds (p * 3 + 2) (.int .i64 v)) (xs.set p ⟨(xs.getD p z85).f0, ⟨u, v⟩⟩) := by
  have hz : k85.sz = 3 := rfl
  intro j x hx
  rw [List.getElem?_set] at hx
  by_cases hj : p = j
  · subst hj
    rw [if_pos rfl, if_pos hp] at hx
    injection hx with hx
    subst hx
    have hg : xs[p]? = some (xs.getD p z85) := by rw [List.getD_eq_getElem?_getD, List.getElem?_eq_getElem hp]; rfl
    obtain ⟨c, hc, hcs⟩ := h p _ hg
    obtain rfl := k85_open hc
    refine ⟨[.int .i64 (xs.getD p z85).f0, .int .i64 u, .int .i64 v], k85_mk w ⟨(xs.getD p z85).f0, ⟨u, v⟩⟩, fun i y hy => ?_⟩
    have h0 := hcs 0 _ rfl
    have h1 := hcs 1 _ rfl
    have h2 := hcs 2 _ rfl
    rw [hz] at h0 h1 h2 ⊢
    have l1 : p * 3 + 1 < cs.size := (Array.getElem?_eq_some_iff.1 h1).1
    have l2 : p * 3 + 2 < cs.size := (Array.getElem?_eq_some_iff.1 h2).1
    match i, hy with
    | 0, hy =>
      rw [Array.getElem?_setIfInBounds, if_neg (by omega), Array.getElem?_setIfInBounds, if_neg (by omega)]
      injection hy with hy
      rw [← hy]; exact h0
    | 1, hy =>
      rw [Array.getElem?_setIfInBounds, if_neg (by omega), Array.getElem?_setIfInBounds, if_pos rfl, if_pos l1]
      exact hy
    | 2, hy =>
      rw [Array.getElem?_setIfInBounds, if_pos rfl, if_pos (by rw [Array.size_setIfInBounds]; exact l2)]
      exact hy
    | i + 3, hy => simp at hy
  · rw [if_neg hj] at hx
    obtain ⟨c, hc, hcs⟩ := h j x hx
    refine ⟨c, hc, fun i y hy => ?_⟩
    have hi : i < 3 := by
      have h1 := (List.getElem?_eq_some_iff.1 hy).1
      have h2 := k85.K_len hc
      omega
    have := hcs i y hy
    rw [hz] at this ⊢
    rw [Array.getElem?_setIfInBounds, if_neg (by omega), Array.getElem?_setIfInBounds, if_neg (by omega)]
    exact this
theorem RX.open_ {α : Type} {d : Kd α} {e : Nat} {w W : World} {b : Nat} {A : Option Addr} {c : Nat} {xs : List α} (h : RX d e w W b A c xs) (hn : xs.length ≠ 0) : ∃ g cs, A = some ⟨g, 0, none⟩ ∧ b ≤ g ∧ W.heap[g]? = some (.cells cs e (0, 0)) ∧ PB d w cs xs := by
  rcases h.blk with h0 | h1
  · exact absurd h0 hn
  · exact h1
theorem blk_ne {W : World} {g g' t t' : Nat} {cs cs' : Array Value} (h : W.heap[g]? = some (.cells cs t (0, 0))) (hk : W.heap[g']? = some (.cells cs' t' (0, 0))) (ht : t ≠ t') : g ≠ g' := fun he => by
  subst he
  rw [h] at hk
  injection hk with hk
  injection hk with _ hk
  exact ht hk
theorem blk_setRow {W : World} {g g' t t' : Nat} {cs cs' : Array Value} (h : W.heap[g]? = some (.cells cs t (0, 0))) (hk : W.heap[g']? = some (.cells cs' t' (0, 0))) (ht : t ≠ t') (us : Array Value) : (W.setRow g' us).heap[g]? = some (.cells cs t (0, 0)) :=
  (setRow_other W g' g us (blk_ne h hk ht)).trans h
theorem blk_setCell {W : World} {g g' t t' j : Nat} {cs cs' : Array Value} (h : W.heap[g]? = some (.cells cs t (0, 0))) (hk : W.heap[g']? = some (.cells cs' t' (0, 0))) (ht : t ≠ t') (u : Value) : (W.setCell ⟨g', j, none⟩ u).heap[g]? = some (.cells cs t (0, 0)) :=
  blk_far h (p := ⟨g', j, none⟩) (blk_ne h hk ht) u
theorem rows_of {α : Type} {d : Kd α} {w : World} {A : Option Addr} {xs : List α} (h : d.C w A xs.length xs) : ∃ rows : List (List Value), rows.length = xs.length ∧ (Kd.raw d.sz).C w A xs.length rows ∧ ∀ (j : Nat) (x : α) (r : List Value), xs[j]? = some x → rows[j]? = some r → d.K w x r := by
  obtain ⟨rows, h1, h2, h3⟩ := Kd.reads_raw h (fun x c hc => ⟨d.K_len hc, d.K_one hc⟩)
  exact ⟨rows, h1, h2, h3⟩
end Go.Proofs.Ytnbbbeghgomnoaa.X
namespace Go.Proofs.Ytnbbbeghgomnoaa.X
open Go.RowKit Go.Proofs.YtnbbbeghgomnoaaW.PrintWords Go.Proofs.YtnbbbeghgomnoaaW.PrintLast Go.Proofs.YtnbbbeghgomnoaaW.PrintMore
theorem far_cells {g : Nat} : ∀ (vs : List Value) (o : Nat) (w : World) (k : Nat), k ≠ g → (w.setCells g o vs).heap[k]? = w.heap[k]?
  | [], _, _, _, _ => rfl
  | v :: r, o, w, k, hk => by
    rw [World.setCells, far_cells r (o + 1) _ k hk]
    exact Below.heap_setCell w ⟨g, o, none⟩ v k hk
theorem below_cells {B g : Nat} {a : World} (hg : B ≤ g) : ∀ (vs : List Value) (o : Nat) {w : World}, Below B a w → Below B a (w.setCells g o vs)
  | [], _, _, h => h
  | v :: r, o, _, h => below_cells hg r (o + 1) (h.setCell (p := ⟨g, o, none⟩) hg v)
theorem blk_cells {W : World} {g g' t t' o : Nat} {cs cs' : Array Value} {vs : List Value} (h : W.heap[g]? = some (.cells cs t (0, 0))) (hk : W.heap[g']? = some (.cells cs' t' (0, 0))) (ht : t ≠ t') : (W.setCells g' o vs).heap[g]? = some (.cells cs t (0, 0)) :=
  (far_cells vs o W g (blk_ne h hk ht)).trans h
theorem RX.cells {α : Type} {d : Kd α} {e : Nat} {w W : World} {b : Nat} {A : Option Addr} {c : Nat} {xs : List α} {g' o t : Nat} {cs' : Array Value} {vs : List Value} (h : RX d e w W b A c xs) (hk : W.heap[g']? = some (.cells cs' t (0, 0))) (ht : e ≠ t) : RX d e w (W.setCells g' o vs) b A c xs := by
  refine ⟨h.le, h.sm, ?_⟩
  rcases h.blk with h0 | ⟨g, cs, h1, h2, h3, h4⟩
  · exact .inl h0
  · exact .inr ⟨g, cs, h1, h2, blk_cells h3 hk ht, h4⟩
theorem PB.whole {w W : World} {go : Nat} {cs : Array Value} {xs : List S85} (h : PB k85 w cs xs) (hk : W.heap[go]? = some (.cells cs 85 (0, 0))) (p : Nat) (hp : p < xs.length) (x : S85) : W.there go (p * 3) 3 ∧ ∃ cs', (W.setCells go (p * 3) [.int .i64 x.f0, .int .i64 x.f1.f0, .int .i64 x.f1.f1]).heap[go]? = some (.cells cs' 85 (0, 0)) ∧ PB k85 w cs' (xs.set p x) := by
  have hz : k85.sz = 3 := rfl
  have hg : xs[p]? = some (xs.getD p z85) := by rw [List.getD_eq_getElem?_getD, List.getElem?_eq_getElem hp]; rfl
  obtain ⟨c, hc, hcs⟩ := h p _ hg
  obtain rfl := k85_open hc
  have h0 := hcs 0 _ rfl
  have h1 := hcs 1 _ rfl
  have h2 := hcs 2 _ rfl
  rw [hz] at h0 h1 h2
  have l0 : p * 3 + 0 < cs.size := (Array.getElem?_eq_some_iff.1 h0).1
  have l1 : p * 3 + 1 < cs.size := (Array.getElem?_eq_some_iff.1 h1).1
  have l2 : p * 3 + 2 < cs.size := (Array.getElem?_eq_some_iff.1 h2).1
  refine ⟨fun j hj => ⟨?_, ?_⟩, ((cs.setIfInBounds (p * 3) (.int .i64 x.f0)).setIfInBounds (p * 3 + 1) (.int .i64 x.f1.f0)).setIfInBounds (p * 3 + 2) (.int .i64 x.f1.f1), ?_, ?_⟩
  · rw [blk_cell hk (p * 3 + j), Array.getElem?_eq_getElem (by omega)]; rfl
  · exact blk_frozen hk (p * 3 + j)
  · exact blk_set (blk_set (blk_set hk (p * 3) _) (p * 3 + 1) _) (p * 3 + 1 + 1) _
  · intro j y hy
    rw [List.getElem?_set] at hy
    by_cases hj : p = j
    · subst hj
      rw [if_pos rfl, if_pos hp] at hy
      injection hy with hy
      subst hy
      refine ⟨[.int .i64 x.f0, .int .i64 x.f1.f0, .int .i64 x.f1.f1], k85_mk w x, fun i y hy => ?_⟩
      rw [hz]
      match i, hy with
      | 0, hy =>
        rw [Array.getElem?_setIfInBounds, if_neg (by omega), Array.getElem?_setIfInBounds, if_neg (by omega), Array.getElem?_setIfInBounds, if_pos (by omega), if_pos (by omega)]
        exact hy
      | 1, hy =>
        rw [Array.getElem?_setIfInBounds, if_neg (by omega), Array.getElem?_setIfInBounds, if_pos rfl, if_pos (by rw [Array.size_setIfInBounds]; omega)]
        exact hy
      | 2, hy =>
        rw [Array.getElem?_setIfInBounds, if_pos rfl, if_pos (by rw [Array.size_setIfInBounds, Array.size_setIfInBounds]; omega)]
        exact hy
      | i + 3, hy => simp at hy
    · rw [if_neg hj] at hy
      obtain ⟨c, hc, hcs⟩ := h j y hy
      refine ⟨c, hc, fun i u hu => ?_⟩
      have hi : i < 3 := by
        have h1 := (List.getElem?_eq_some_iff.1 hu).1
        have h2 := k85.K_len hc
        omega
      have := hcs i u hu
      rw [hz] at this ⊢
      rw [Array.getElem?_setIfInBounds, if_neg (by omega), Array.getElem?_setIfInBounds, if_neg (by omega), Array.getElem?_setIfInBounds, if_neg (by omega)]
      exact this
theorem rtabWP {w W : World} {b b' : Nat} {AX AP : Option Addr} {cX cP : Nat} {xs : List S85} {ys : List S71} (hb : Below w.heap.size w W) (hx : RX k85 85 w W b AX cX xs) (hy : RX k71 71 w W b' AP cP ys) (h0 : xs.length ≤ 30) (h1 : ys.length ≤ 30) (hm : ∀ p ∈ ys, p.f0.length ≤ 30) : RTab AX cX xs AP cP ys W :=
  ⟨hx.C hb, hx.le, hy.C hb, hy.le, h0, h1, hm⟩
theorem store_mid_ {P : Program} {ops : Array Oper} {Q : Exit → Act → World → Prop} {oi : Oper} {a : Act} {w : World} {K : Act → World → Prop} (hw : Region.wanted oi (yielded ops a.tmps) = true) (hN : oi.dst = none) (ty : TypeId) (x y : Operand) (ho : oi.op = .store ty x y) (b o : Nat) (cells : Array Value) (hx : a.eval x = .pointer (some ⟨b, o, none⟩)) (hy : a.eval y = .agg cells) (ht : w.there b o cells.size) (hi : (P.info? ty).map (·.size) = some cells.size) (h1 : cells.all (·.oneCell') = true) (h : K a (w.setCells b o cells.toList)) :
    if Region.wanted oi (yielded ops a.tmps) = true then Oper.wp P oi a w K Q else K (a.put none undef) w := by
  refine skip_ hw hN ?_ h
  unfold execOp
  simp only [ho, hx, hy, Instr.storeAt, Instr.sureAddr, Sem.run_bind, Sem.run_pure, Result.andThen_ok, run_storeVar_mid w b o ty cells ht hi h1]
end Go.Proofs.Ytnbbbeghgomnoaa.X
namespace Go.Proofs.Ytnbbbeghgomnoaa.X
open Go.RowKit Go.Proofs.YtnbbbeghgomnoaaW.PrintWords Go.Proofs.YtnbbbeghgomnoaaW.PrintLast Go.Proofs.YtnbbbeghgomnoaaW.PrintMore
theorem PB.below {α : Type} {d : Kd α} {w W : World} {cs : Array Value} {xs : List α} (h : PB d w cs xs) (hb : Below w.heap.size w W) : PB d W cs xs := fun j x hx => by
  obtain ⟨c, hc, hcs⟩ := h j x hx
  exact ⟨c, d.K_below hb hc, hcs⟩
end Go.Proofs.Ytnbbbeghgomnoaa.X
namespace Go.Proofs.Ytnbbbeghgomnoaa.X
open Go.RowKit Go.Proofs.YtnbbbeghgomnoaaW.PrintWords Go.Proofs.YtnbbbeghgomnoaaW.PrintLast Go.Proofs.YtnbbbeghgomnoaaW.PrintMore
attribute [local go_sem] max2_int min2_int max_two min_two max_three min_three max_four min_four
set_option linter.unusedVariables false
set_option linter.unusedSimpArgs false
def posserlaw03_swap.f (a0 : Int) (a1 : Int) (a2 : Int) : Option (Int) := if a0 = a1 then (some a2) else (if a0 = a2 then (some a1) else (some a0))
set_option maxHeartbeats 8000000 in
set_option maxRecDepth 100000 in
theorem posserlaw03_swap.calls (a0 : Int) (a1 : Int) (a2 : Int) (r : Int) (w : World) (h : posserlaw03_swap.f a0 a1 a2 = some r) :
    Calls Try.prog 55 #[.int .i64 a0, .int .i64 a1, .int .i64 a2] w fun e w' => e = .returned (.int .i64 r) ∧ Drawn0 w w' := by
  have H : (if a0 = a1 then (some a2) else (if a0 = a2 then (some a1) else (some a0))) = some r := h
  clear h
  by_cases c4 : a0 = a1
  · rw [if_pos c4] at H
    have c4b0 : (a0 == a1) = true := beq_iff_eq.mpr c4
    have c4b1 : (a0 != a1) = false := bne_eq_false_iff_eq.mpr c4
    clear c4
    obtain rfl := Option.some.inj H
    go_enter Try.func55, Try.ntmps55
    go_wp2
    go_ret
    exact ⟨by first | rfl | (simp; done) | (simp [*]; done), by repeat (first | exact Drawn0.refl _ | apply Drawn0.step)⟩
  · rw [if_neg c4] at H
    have c4b0 : (a0 == a1) = false := beq_eq_false_iff_ne.mpr c4
    have c4b1 : (a0 != a1) = true := bne_iff_ne.mpr c4
    by_cases c5 : a0 = a2
    · rw [if_pos c5] at H
      have c5b0 : (a0 == a2) = true := beq_iff_eq.mpr c5
      have c5b1 : (a0 != a2) = false := bne_eq_false_iff_eq.mpr c5
      clear c5
      obtain rfl := Option.some.inj H
      go_enter Try.func55, Try.ntmps55
      go_wp2
      go_ret
      exact ⟨by first | rfl | (simp; done) | (simp [*]; done), by repeat (first | exact Drawn0.refl _ | apply Drawn0.step)⟩
    · rw [if_neg c5] at H
      have c5b0 : (a0 == a2) = false := beq_eq_false_iff_ne.mpr c5
      have c5b1 : (a0 != a2) = true := bne_iff_ne.mpr c5
      obtain rfl := Option.some.inj H
      go_enter Try.func55, Try.ntmps55
      go_wp2
      go_ret
      exact ⟨by first | rfl | (simp; done) | (simp [*]; done), by repeat (first | exact Drawn0.refl _ | apply Drawn0.step)⟩
end Go.Proofs.Ytnbbbeghgomnoaa.X
namespace Go.Proofs.Ytnbbbeghgomnoaa.X
open Go.RowKit Go.Proofs.YtnbbbeghgomnoaaW.PrintWords Go.Proofs.YtnbbbeghgomnoaaW.PrintLast Go.Proofs.YtnbbbeghgomnoaaW.PrintMore
attribute [local go_sem high] eqA55
set_option maxHeartbeats 4000000 in
set_option maxRecDepth 100000 in
theorem Turned_no (k : Nat) {A0 : Option Addr} {c0 : Nat} {l0 : List S85} {A1 : Option Addr} {c1 : Nat} {l1 : List S71} (wg : Int) (a1 a2 : Int) {w : World} (r0 : Kd.C k85 w A0 l0.length l0) (g0 : l0.length ≤ c0) (r1 : Kd.C k71 w A1 l1.length l1) (g1 : l1.length ≤ c1) (hrd : posserlaw03_ready.f k l0 l1 wg = some false) :
    Calls Try.prog 15 #[.agg #[.slice A0 l0.length c0, .slice A1 l1.length c1, .int .i64 wg], .int .u8 a1, .int .u8 a2] w fun e w' => e = .returned (.bool true) ∧ Below w.heap.size w w' := by
  have hu25 := Try.underlying25
  have hu35 := Try.underlying35
  have hu55 := Try.underlying55
  have HR0 := Aside0.mk r0
  have HC0 := Aside0.mk g0
  have HR1 := Aside0.mk r1
  have HC1 := Aside0.mk g1
  clear r0 g0 r1 g1
  have HRD := Aside0.mk hrd
  clear hrd
  have HB := Aside0.mk (Below.refl w.heap.size w)
  go_enter Try.func15, Try.ntmps15
  go_wp2_with (first | ((with_reducible refine gate_dst (N := 3) rfl ?_); refine box_event ?hg (N := 3) ?hd (cs := #[.slice A0 l0.length c0, .slice A1 l1.length c1, .int .i64 wg]) (t := 25) ?hr ?_; (case hd => rfl); (case hg => rfl); (case hr => first | (go_simp; done) | (go_simp; rfl)); intro g3 hg W_ hbox hb; (try have NEg9_g3 := Aside0.mk (show g9 < g3 from by rw [hg]; exact blk_lt BKg9.out)); have GEg3 := Aside0.mk (by rw [hg]; exact HB.out.size : w.heap.size ≤ g3); (try clear hcg3_0 hcg3_1 hcg3_2); (try replace HB := Aside0.mk (below_step HB.out hb)); (try replace HT := Aside0.mk (HT.out.below hb)); (try replace BKg3 := Aside0.mk (blk_below BKg3.out hb)); (try replace BKg9 := Aside0.mk (blk_below BKg9.out hb)); (try replace HX := Aside0.mk (HX.out.below hb)); (try replace HP := Aside0.mk (HP.out.below hb)); (try replace HW := Aside0.mk (Kd.R_below HW.out hb)); (try replace HU := Aside0.mk (Kd.R_below HU.out hb)); (try replace BKg15 := Aside0.mk (blk_below BKg15.out hb)); (try replace BKg17 := Aside0.mk (blk_below BKg17.out hb)); (try replace HL := Aside0.mk (Kd.R_below HL.out hb)); (try replace HM := Aside0.mk (Kd.R_below HM.out hb)); have BKg3 := Aside0.mk hbox; clear hb hbox hg; (try have hcg3_0 : W_.cell? ⟨g3, 0, none⟩ = some (.slice A0 l0.length c0) := (blk_cell BKg3.out 0).trans rfl); (try have hcg3_1 : W_.cell? ⟨g3, 1, none⟩ = some (.slice A1 l1.length c1) := (blk_cell BKg3.out 1).trans rfl); (try have hcg3_2 : W_.cell? ⟨g3, 2, none⟩ = some (.int .i64 wg) := (blk_cell BKg3.out 2).trans rfl)) | (go_at_call 47; go_must (refine (posserlaw03_ready.calls k A0 c0 l0 A1 c1 l1 wg false _ (Kd.C_below HR0.out HB.out) HC0.out (Kd.C_below HR1.out HB.out) HC1.out HRD.out).mono ?_; rintro e W_ ⟨rfl, hb⟩; (try clear hcg3_0 hcg3_1 hcg3_2); (try replace HB := Aside0.mk (below_step HB.out hb)); (try replace HT := Aside0.mk (HT.out.below hb)); (try replace BKg3 := Aside0.mk (blk_below BKg3.out hb)); (try replace BKg9 := Aside0.mk (blk_below BKg9.out hb)); (try replace HX := Aside0.mk (HX.out.below hb)); (try replace HP := Aside0.mk (HP.out.below hb)); (try replace HW := Aside0.mk (Kd.R_below HW.out hb)); (try replace HU := Aside0.mk (Kd.R_below HU.out hb)); (try replace BKg15 := Aside0.mk (blk_below BKg15.out hb)); (try replace BKg17 := Aside0.mk (blk_below BKg17.out hb)); (try replace HL := Aside0.mk (Kd.R_below HL.out hb)); (try replace HM := Aside0.mk (Kd.R_below HM.out hb)); skip; clear hb; (try have hcg3_0 : W_.cell? ⟨g3, 0, none⟩ = some (.slice A0 l0.length c0) := (blk_cell BKg3.out 0).trans rfl); (try have hcg3_1 : W_.cell? ⟨g3, 1, none⟩ = some (.slice A1 l1.length c1) := (blk_cell BKg3.out 1).trans rfl); (try have hcg3_2 : W_.cell? ⟨g3, 2, none⟩ = some (.int .i64 wg) := (blk_cell BKg3.out 2).trans rfl))) | (go_at_call 21; go_must (refine (awake_calls _).mono ?_; rintro e W_ ⟨rfl, hb⟩; (try clear hcg3_0 hcg3_1 hcg3_2); (try replace HB := Aside0.mk (below_step HB.out hb)); (try replace HT := Aside0.mk (HT.out.below hb)); (try replace BKg3 := Aside0.mk (blk_below BKg3.out hb)); (try replace BKg9 := Aside0.mk (blk_below BKg9.out hb)); (try replace HX := Aside0.mk (HX.out.below hb)); (try replace HP := Aside0.mk (HP.out.below hb)); (try replace HW := Aside0.mk (Kd.R_below HW.out hb)); (try replace HU := Aside0.mk (Kd.R_below HU.out hb)); (try replace BKg15 := Aside0.mk (blk_below BKg15.out hb)); (try replace BKg17 := Aside0.mk (blk_below BKg17.out hb)); (try replace HL := Aside0.mk (Kd.R_below HL.out hb)); (try replace HM := Aside0.mk (Kd.R_below HM.out hb)); skip; clear hb; (try have hcg3_0 : W_.cell? ⟨g3, 0, none⟩ = some (.slice A0 l0.length c0) := (blk_cell BKg3.out 0).trans rfl); (try have hcg3_1 : W_.cell? ⟨g3, 1, none⟩ = some (.slice A1 l1.length c1) := (blk_cell BKg3.out 1).trans rfl); (try have hcg3_2 : W_.cell? ⟨g3, 2, none⟩ = some (.int .i64 wg) := (blk_cell BKg3.out 2).trans rfl))))
  go_ret
  exact ⟨rfl, HB.out⟩
set_option maxHeartbeats 4000000 in
set_option maxRecDepth 100000 in
theorem Turned_nil (k : Nat) {A0 : Option Addr} {c0 : Nat} {l0 : List S85} {A1 : Option Addr} {c1 : Nat} {l1 : List S71} (wg : Int) (a1 a2 : Int) {w : World} (r0 : Kd.C k85 w A0 l0.length l0) (g0 : l0.length ≤ c0) (r1 : Kd.C k71 w A1 l1.length l1) (g1 : l1.length ≤ c1) (hrd : posserlaw03_ready.f k l0 l1 wg = some true) (hn : l0.length = 0) :
    Calls Try.prog 15 #[.agg #[.slice A0 l0.length c0, .slice A1 l1.length c1, .int .i64 wg], .int .u8 a1, .int .u8 a2] w fun e w' => e = .returned (.bool true) ∧ Below w.heap.size w w' := by
  have hu25 := Try.underlying25
  have hu35 := Try.underlying35
  have hu55 := Try.underlying55
  have HR0 := Aside0.mk r0
  have HC0 := Aside0.mk g0
  have HR1 := Aside0.mk r1
  have HC1 := Aside0.mk g1
  clear r0 g0 r1 g1
  have HRD := Aside0.mk hrd
  clear hrd
  have hn0 : ((l0.length : Int) == 0) = true := by rw [hn]; rfl
  clear hn
  have HB := Aside0.mk (Below.refl w.heap.size w)
  go_enter Try.func15, Try.ntmps15
  go_wp2_with (first | ((with_reducible refine gate_dst (N := 3) rfl ?_); refine box_event ?hg (N := 3) ?hd (cs := #[.slice A0 l0.length c0, .slice A1 l1.length c1, .int .i64 wg]) (t := 25) ?hr ?_; (case hd => rfl); (case hg => rfl); (case hr => first | (go_simp; done) | (go_simp; rfl)); intro g3 hg W_ hbox hb; (try have NEg9_g3 := Aside0.mk (show g9 < g3 from by rw [hg]; exact blk_lt BKg9.out)); have GEg3 := Aside0.mk (by rw [hg]; exact HB.out.size : w.heap.size ≤ g3); (try clear hcg3_0 hcg3_1 hcg3_2); (try replace HB := Aside0.mk (below_step HB.out hb)); (try replace HT := Aside0.mk (HT.out.below hb)); (try replace BKg3 := Aside0.mk (blk_below BKg3.out hb)); (try replace BKg9 := Aside0.mk (blk_below BKg9.out hb)); (try replace HX := Aside0.mk (HX.out.below hb)); (try replace HP := Aside0.mk (HP.out.below hb)); (try replace HW := Aside0.mk (Kd.R_below HW.out hb)); (try replace HU := Aside0.mk (Kd.R_below HU.out hb)); (try replace BKg15 := Aside0.mk (blk_below BKg15.out hb)); (try replace BKg17 := Aside0.mk (blk_below BKg17.out hb)); (try replace HL := Aside0.mk (Kd.R_below HL.out hb)); (try replace HM := Aside0.mk (Kd.R_below HM.out hb)); have BKg3 := Aside0.mk hbox; clear hb hbox hg; (try have hcg3_0 : W_.cell? ⟨g3, 0, none⟩ = some (.slice A0 l0.length c0) := (blk_cell BKg3.out 0).trans rfl); (try have hcg3_1 : W_.cell? ⟨g3, 1, none⟩ = some (.slice A1 l1.length c1) := (blk_cell BKg3.out 1).trans rfl); (try have hcg3_2 : W_.cell? ⟨g3, 2, none⟩ = some (.int .i64 wg) := (blk_cell BKg3.out 2).trans rfl)) | (go_at_call 47; go_must (refine (posserlaw03_ready.calls k A0 c0 l0 A1 c1 l1 wg true _ (Kd.C_below HR0.out HB.out) HC0.out (Kd.C_below HR1.out HB.out) HC1.out HRD.out).mono ?_; rintro e W_ ⟨rfl, hb⟩; (try clear hcg3_0 hcg3_1 hcg3_2); (try replace HB := Aside0.mk (below_step HB.out hb)); (try replace HT := Aside0.mk (HT.out.below hb)); (try replace BKg3 := Aside0.mk (blk_below BKg3.out hb)); (try replace BKg9 := Aside0.mk (blk_below BKg9.out hb)); (try replace HX := Aside0.mk (HX.out.below hb)); (try replace HP := Aside0.mk (HP.out.below hb)); (try replace HW := Aside0.mk (Kd.R_below HW.out hb)); (try replace HU := Aside0.mk (Kd.R_below HU.out hb)); (try replace BKg15 := Aside0.mk (blk_below BKg15.out hb)); (try replace BKg17 := Aside0.mk (blk_below BKg17.out hb)); (try replace HL := Aside0.mk (Kd.R_below HL.out hb)); (try replace HM := Aside0.mk (Kd.R_below HM.out hb)); skip; clear hb; (try have hcg3_0 : W_.cell? ⟨g3, 0, none⟩ = some (.slice A0 l0.length c0) := (blk_cell BKg3.out 0).trans rfl); (try have hcg3_1 : W_.cell? ⟨g3, 1, none⟩ = some (.slice A1 l1.length c1) := (blk_cell BKg3.out 1).trans rfl); (try have hcg3_2 : W_.cell? ⟨g3, 2, none⟩ = some (.int .i64 wg) := (blk_cell BKg3.out 2).trans rfl))) | (go_at_call 21; go_must (refine (awake_calls _).mono ?_; rintro e W_ ⟨rfl, hb⟩; (try clear hcg3_0 hcg3_1 hcg3_2); (try replace HB := Aside0.mk (below_step HB.out hb)); (try replace HT := Aside0.mk (HT.out.below hb)); (try replace BKg3 := Aside0.mk (blk_below BKg3.out hb)); (try replace BKg9 := Aside0.mk (blk_below BKg9.out hb)); (try replace HX := Aside0.mk (HX.out.below hb)); (try replace HP := Aside0.mk (HP.out.below hb)); (try replace HW := Aside0.mk (Kd.R_below HW.out hb)); (try replace HU := Aside0.mk (Kd.R_below HU.out hb)); (try replace BKg15 := Aside0.mk (blk_below BKg15.out hb)); (try replace BKg17 := Aside0.mk (blk_below BKg17.out hb)); (try replace HL := Aside0.mk (Kd.R_below HL.out hb)); (try replace HM := Aside0.mk (Kd.R_below HM.out hb)); skip; clear hb; (try have hcg3_0 : W_.cell? ⟨g3, 0, none⟩ = some (.slice A0 l0.length c0) := (blk_cell BKg3.out 0).trans rfl); (try have hcg3_1 : W_.cell? ⟨g3, 1, none⟩ = some (.slice A1 l1.length c1) := (blk_cell BKg3.out 1).trans rfl); (try have hcg3_2 : W_.cell? ⟨g3, 2, none⟩ = some (.int .i64 wg) := (blk_cell BKg3.out 2).trans rfl))))
  go_ret
  exact ⟨rfl, HB.out⟩
set_option maxHeartbeats 4000000 in
set_option maxRecDepth 100000 in
theorem Turned_ok (k : Nat) {A0 : Option Addr} {c0 : Nat} {l0 : List S85} {A1 : Option Addr} {c1 : Nat} {l1 : List S71} (wg : Int) (a1 a2 : Int) {w : World} (r0 : Kd.C k85 w A0 l0.length l0) (g0 : l0.length ≤ c0) (r1 : Kd.C k71 w A1 l1.length l1) (g1 : l1.length ≤ c1) (ht : Thn l0 l1) {L0 : List S109} {L1 : List S110} (h0 : l0.map cvW = L0) (h1 : l1.map cvP = L1) (hrd : posserlaw03_ready.f k l0 l1 wg = some true) (hn : l0.length ≠ 0) {p q : Nat} (hp : Int.tmod (wrap64 a1) (l0.length : Int) = (p : Int)) (hpl : p < l0.length) (hq : Int.tmod (wrap64 a2) (l0.length : Int) = (q : Int)) (hql : q < l0.length) {xa xb : S85} (hxa : rd_T85 l0 (p : Int) = xa) (hxb : rd_T85 l0 (q : Int) = xb) {xs : List S85} (hxs : (l0.set p xb).set q xa = xs) (hxn : xs.length = l0.length) {ys : Nat → List S71} {yl : List S71} {sv : Int → Int} (hsv : ∀ v, posserlaw03_swap.f v (p : Int) (q : Int) = some (sv v)) (hy0 : ys 0 = l1) (hye : ys l1.length = yl) (hyll : yl.length = l1.length) (hym : ∀ z ∈ yl, z.f0.length ≤ 30) (hys : ∀ m : Nat, m < l1.length → (ys m).length = l1.length ∧ ys (m + 1) = (ys m).set m ⟨((ys m).getD m z71).f0, sv (rd_T71 l1 (m : Int)).f1⟩) {L0' : List S109} {L1' : List S110} (hlx : xs.map cvW = L0') (hly : yl.map cvP = L1') (hck : checkT L0 L1 wg = 0) (hcx : checkT L0' L1' wg = 0) {ls ms : List Int} (hsl : leaveL L0 L1 = ls) (hsm : leaveL L0' L1' = ms) (hlm : ls.length = ms.length) {ws us : List (List Int)} {lo hi : Int} (lwl : ws.length = l1.length) (lul : us.length = ws.length) (hcs : (askE L0 L1 wg = 11 ∧ askE L0' L1' wg = 11) ∨ (askE L0 L1 wg = 0 ∧ askE L0' L1' wg = 0 ∧ whoseL L0.length L1.length (truthsL L0 L1 wg) = ws ∧ whoseL L0'.length L1'.length (truthsL L0' L1' wg) = us ∧ boundsL (fun x => lostN L1 (pad x)) (truthsL L0 L1 wg) = (lo, hi) ∧ boundsL (fun x => lostN L1' (pad x)) (truthsL L0' L1' wg) = (lo, hi))) (hrow : ∀ m : Nat, m < ws.length → (ws.getD m []).length ≤ 1000000 ∧ (us.getD m []).length = (ws.getD m []).length ∧ ∀ j : Nat, j < (ws.getD m []).length → posserref03_Has.f k (us.getD m []) (sv (rd (ws.getD m []) (j : Int))) = some true) :
    Calls Try.prog 15 #[.agg #[.slice A0 l0.length c0, .slice A1 l1.length c1, .int .i64 wg], .int .u8 a1, .int .u8 a2] w fun e w' => e = .returned (.bool true) ∧ Below w.heap.size w w' := by
  have hu25 := Try.underlying25
  have hu35 := Try.underlying35
  have hu55 := Try.underlying55
  have HR0 := Aside0.mk r0
  have HC0 := Aside0.mk g0
  have HR1 := Aside0.mk r1
  have HC1 := Aside0.mk g1
  clear r0 g0 r1 g1
  have HRT := Aside0.mk (show RTab A0 c0 l0 A1 c1 l1 w from ⟨HR0.out, HC0.out, HR1.out, HC1.out, ht.n0, ht.n1, ht.ms⟩)
  clear ht
  obtain ⟨rowsP, hLP, hRP, hKP⟩ := rows_of HR1.out
  have HRrowsP := Aside0.mk hRP
  have HLrowsP := Aside0.mk hLP
  have HKrowsP := Aside0.mk hKP
  have HNrowsP := Aside0.mk (show l1.length ≤ 30 from HRT.out.n1)
  clear hLP hRP hKP
  obtain ⟨rowsW, hLW, hRW, hKW⟩ := rows_of HR0.out
  have HRrowsW := Aside0.mk hRW
  have HLrowsW := Aside0.mk hLW
  have HKrowsW := Aside0.mk hKW
  have HNrowsW := Aside0.mk (show l0.length ≤ 30 from HRT.out.n0)
  clear hLW hRW hKW
  have HL0 := Aside0.mk h0
  have HL1 := Aside0.mk h1
  have HRD := Aside0.mk hrd
  have HPN := Aside0.mk hp
  have HPL := Aside0.mk hpl
  have HQN := Aside0.mk hq
  have HQL := Aside0.mk hql
  have HXA := Aside0.mk hxa
  have HXB := Aside0.mk hxb
  have HXS := Aside0.mk hxs
  have HXN := Aside0.mk hxn
  have HSV := Aside0.mk hsv
  have HY0 := Aside0.mk hy0
  have HYE := Aside0.mk hye
  have HYLL := Aside0.mk hyll
  have HYM := Aside0.mk hym
  have HYS := Aside0.mk hys
  have HLX := Aside0.mk hlx
  have HLY := Aside0.mk hly
  have HCK := Aside0.mk hck
  have HCX := Aside0.mk hcx
  have HSL := Aside0.mk hsl
  have HSM := Aside0.mk hsm
  have HCS := Aside0.mk hcs
  have HROW := Aside0.mk hrow
  clear h0 h1 hrd hp hpl hq hql hxa hxb hxs hxn hsv hy0 hye hyll hym hys hlx hly hck hcx hsl hsm hcs hrow
  have HX30 := Aside0.mk (show xs.length ≤ 30 by have := HXN.out; have := HRT.out.n0; omega)
  have HY30 := Aside0.mk (show yl.length ≤ 30 by have := HYLL.out; have := HRT.out.n1; omega)
  have hlmd : ((ls.length : Int) != (ms.length : Int)) = false := by rw [hlm]; simp
  have hwld : ((ws.length : Int) != (l1.length : Int)) = false := by rw [lwl]; simp
  have huld : ((us.length : Int) != (ws.length : Int)) = false := by rw [lul]; simp
  have HLM := Aside0.mk hlm
  have HLW := Aside0.mk lwl
  have HLU := Aside0.mk lul
  clear hlm lwl lul
  have hn0 : ((l0.length : Int) == 0) = false := by simpa using hn
  have hn1 : ¬ ((l0.length : Int) = 0) := by omega
  have hne0 : ¬ l0 = [] := fun h => hn (by rw [h]; rfl)
  have HN0 := Aside0.mk hn
  clear hn
  have HB := Aside0.mk (Below.refl w.heap.size w)
  go_enter Try.func15, Try.ntmps15
  go_wp2_with (first | ((with_reducible refine gate_dst (N := 3) rfl ?_); refine box_event ?hg (N := 3) ?hd (cs := #[.slice A0 l0.length c0, .slice A1 l1.length c1, .int .i64 wg]) (t := 25) ?hr ?_; (case hd => rfl); (case hg => rfl); (case hr => first | (go_simp; done) | (go_simp; rfl)); intro g3 hg W_ hbox hb; (try have NEg9_g3 := Aside0.mk (show g9 < g3 from by rw [hg]; exact blk_lt BKg9.out)); have GEg3 := Aside0.mk (by rw [hg]; exact HB.out.size : w.heap.size ≤ g3); (try clear hcg3_0 hcg3_1 hcg3_2); (try replace HB := Aside0.mk (below_step HB.out hb)); (try replace HT := Aside0.mk (HT.out.below hb)); (try replace BKg3 := Aside0.mk (blk_below BKg3.out hb)); (try replace BKg9 := Aside0.mk (blk_below BKg9.out hb)); (try replace HX := Aside0.mk (HX.out.below hb)); (try replace HP := Aside0.mk (HP.out.below hb)); (try replace HW := Aside0.mk (Kd.R_below HW.out hb)); (try replace HU := Aside0.mk (Kd.R_below HU.out hb)); (try replace BKg15 := Aside0.mk (blk_below BKg15.out hb)); (try replace BKg17 := Aside0.mk (blk_below BKg17.out hb)); (try replace HL := Aside0.mk (Kd.R_below HL.out hb)); (try replace HM := Aside0.mk (Kd.R_below HM.out hb)); have BKg3 := Aside0.mk hbox; clear hb hbox hg; (try have hcg3_0 : W_.cell? ⟨g3, 0, none⟩ = some (.slice A0 l0.length c0) := (blk_cell BKg3.out 0).trans rfl); (try have hcg3_1 : W_.cell? ⟨g3, 1, none⟩ = some (.slice A1 l1.length c1) := (blk_cell BKg3.out 1).trans rfl); (try have hcg3_2 : W_.cell? ⟨g3, 2, none⟩ = some (.int .i64 wg) := (blk_cell BKg3.out 2).trans rfl)) | (go_at_call 47; go_must (refine (posserlaw03_ready.calls k A0 c0 l0 A1 c1 l1 wg true _ (Kd.C_below HR0.out HB.out) HC0.out (Kd.C_below HR1.out HB.out) HC1.out HRD.out).mono ?_; rintro e W_ ⟨rfl, hb⟩; (try clear hcg3_0 hcg3_1 hcg3_2); (try replace HB := Aside0.mk (below_step HB.out hb)); (try replace HT := Aside0.mk (HT.out.below hb)); (try replace BKg3 := Aside0.mk (blk_below BKg3.out hb)); (try replace BKg9 := Aside0.mk (blk_below BKg9.out hb)); (try replace HX := Aside0.mk (HX.out.below hb)); (try replace HP := Aside0.mk (HP.out.below hb)); (try replace HW := Aside0.mk (Kd.R_below HW.out hb)); (try replace HU := Aside0.mk (Kd.R_below HU.out hb)); (try replace BKg15 := Aside0.mk (blk_below BKg15.out hb)); (try replace BKg17 := Aside0.mk (blk_below BKg17.out hb)); (try replace HL := Aside0.mk (Kd.R_below HL.out hb)); (try replace HM := Aside0.mk (Kd.R_below HM.out hb)); skip; clear hb; (try have hcg3_0 : W_.cell? ⟨g3, 0, none⟩ = some (.slice A0 l0.length c0) := (blk_cell BKg3.out 0).trans rfl); (try have hcg3_1 : W_.cell? ⟨g3, 1, none⟩ = some (.slice A1 l1.length c1) := (blk_cell BKg3.out 1).trans rfl); (try have hcg3_2 : W_.cell? ⟨g3, 2, none⟩ = some (.int .i64 wg) := (blk_cell BKg3.out 2).trans rfl))))
  (try clear hcg3_1 hcg3_2)
  have hp := HPN.out
  have hq := HQN.out
  refine start_ (n := 14) (S := fun w' => w'.cell? ⟨g3, 0, none⟩ = some (.slice A0 l0.length c0)) (ds := []) #[false, false, false, false, false, false, false, false, false, false, false, false, false, false] (by kernel_rfl) rfl rfl (hcg3_0) (fun hHeld => ?_)
  have hb := below_drew1 (Below.refl W_.heap.size W_)
  have n0_ := Aside0.mk (below_step HB.out hb)
  have n1_ := Aside0.mk (blk_below BKg3.out hb)
  clear HB
  clear BKg3
  have HB := n0_
  have BKg3 := n1_
  clear n0_ n1_
  replace hcg3_0 := (hb.cell (World.block_lt_of_cell? _ _ hcg3_0)).trans hcg3_0
  generalize W_.drew = W4 at *
  clear hb
  refine pure_ (i := 0) (N := some 35) (v := ?_) (a' := ?_) #[true, false, false, false, false, false, false, false, false, false, false, false, false, false] rfl rfl (by kernel_rfl) (fun _ _ _ h => h) (Or.inl ⟨by rfl, ?_⟩) ?_ ?_
  rotate_left
  · intro w'
    go_simp
    with_reducible rfl
  rotate_left
  · simp only [Act.put, List.setIfInBounds_toArray, List.set_cons_zero, List.set_cons_succ, i64_w, i32_w]
    rfl
  refine pure_ (i := 1) (N := some 36) (v := ?_) (a' := ?_) #[true, true, false, false, false, false, false, false, false, false, false, false, false, false] rfl rfl (by kernel_rfl) (fun _ _ _ h => h) (Or.inl ⟨by rfl, ?_⟩) ?_ ?_
  rotate_left
  · intro w'
    go_simp
    with_reducible rfl
  rotate_left
  · simp only [Act.put, List.setIfInBounds_toArray, List.set_cons_zero, List.set_cons_succ, i64_w, i32_w]
    rfl
  refine pure_ (i := 2) (N := some 37) (v := ?_) (a' := ?_) #[true, true, true, false, false, false, false, false, false, false, false, false, false, false] rfl rfl (by kernel_rfl) (fun _ _ _ h => h) (Or.inl ⟨by rfl, ?_⟩) ?_ ?_
  rotate_left
  · intro w'
    go_simp
    with_reducible rfl
  rotate_left
  · simp only [Act.put, List.setIfInBounds_toArray, List.set_cons_zero, List.set_cons_succ, i64_w, i32_w]
    rfl
  refine pure_ (i := 6) (N := some 41) (v := ?_) (a' := ?_) #[true, true, true, false, false, false, true, false, false, false, false, false, false, false] rfl rfl (by kernel_rfl) (fun _ _ _ h => h) (Or.inl ⟨by rfl, ?_⟩) ?_ ?_
  rotate_left
  · intro w'
    go_simp
    with_reducible rfl
  rotate_left
  · simp only [Act.put, List.setIfInBounds_toArray, List.set_cons_zero, List.set_cons_succ, i64_w, i32_w]
    rfl
  refine pure_ (i := 7) (N := some 42) (v := ?_) (a' := ?_) #[true, true, true, false, false, false, true, true, false, false, false, false, false, false] rfl rfl (by kernel_rfl) (fun _ _ _ h => h) (Or.inl ⟨by rfl, ?_⟩) ?_ ?_
  rotate_left
  · intro w'
    go_simp
    with_reducible rfl
  rotate_left
  · simp only [Act.put, List.setIfInBounds_toArray, List.set_cons_zero, List.set_cons_succ, i64_w, i32_w]
    rfl
  refine pure_ (i := 8) (N := some 43) (v := ?_) (a' := ?_) #[true, true, true, false, false, false, true, true, true, false, false, false, false, false] rfl rfl (by kernel_rfl) (fun _ _ _ h => h) (Or.inl ⟨by rfl, ?_⟩) ?_ ?_
  rotate_left
  · intro w'
    go_simp
    with_reducible rfl
  rotate_left
  · simp only [Act.put, List.setIfInBounds_toArray, List.set_cons_zero, List.set_cons_succ, i64_w, i32_w]
    rfl
  refine take_ (i := 3) (N := some 38) (v := ?_) (a' := ?_) #[true, true, true, true, false, false, true, true, true, false, false, false, false, false] rfl rfl (by kernel_rfl) (fun _ _ _ h => h) (Or.inl ⟨by rfl, ?_⟩) hHeld ?_ ?_
  rotate_left
  · intro w' s0
    go_simp
    with_reducible rfl
  rotate_left
  · simp only [Act.put, List.setIfInBounds_toArray, List.set_cons_zero, List.set_cons_succ, i64_w, i32_w]
    rfl
  refine pure_ (i := 4) (N := some 39) (v := ?_) (a' := ?_) #[true, true, true, true, true, false, true, true, true, false, false, false, false, false] rfl rfl (by kernel_rfl) (fun _ _ _ h => h) (Or.inl ⟨by rfl, ?_⟩) ?_ ?_
  rotate_left
  · intro w'
    go_simp
    with_reducible rfl
  rotate_left
  · simp only [Act.put, List.setIfInBounds_toArray, List.set_cons_zero, List.set_cons_succ, i64_w, i32_w]
    rfl
  refine pure_ (i := 5) (N := some 40) (v := ?_) (a' := ?_) #[true, true, true, true, true, true, true, true, true, false, false, false, false, false] rfl rfl (by kernel_rfl) (fun _ _ _ h => h) (Or.inl ⟨by rfl, ?_⟩) ?_ ?_
  rotate_left
  · intro w'
    go_simp
    with_reducible rfl
  rotate_left
  · simp only [Act.put, List.setIfInBounds_toArray, List.set_cons_zero, List.set_cons_succ, i64_w, i32_w]
    rfl
  refine pure_ (i := 12) (N := some 7) (v := ?_) (a' := ?_) #[true, true, true, true, true, true, true, true, true, false, false, false, true, false] rfl rfl (by kernel_rfl) (fun _ _ _ h => h) (Or.inl ⟨by rfl, ?_⟩) ?_ ?_
  rotate_left
  · intro w'
    go_simp
    with_reducible rfl
  rotate_left
  · simp only [Act.put, List.setIfInBounds_toArray, List.set_cons_zero, List.set_cons_succ, i64_w, i32_w]
    rfl
  refine take_ (i := 9) (N := some 44) (v := ?_) (a' := ?_) #[true, true, true, true, true, true, true, true, true, true, false, false, true, false] rfl rfl (by kernel_rfl) (fun _ _ _ h => h) (Or.inl ⟨by rfl, ?_⟩) hHeld ?_ ?_
  rotate_left
  · intro w' s0
    go_simp
    with_reducible rfl
  rotate_left
  · simp only [Act.put, List.setIfInBounds_toArray, List.set_cons_zero, List.set_cons_succ, i64_w, i32_w]
    rfl
  refine pure_ (i := 10) (N := some 45) (v := ?_) (a' := ?_) #[true, true, true, true, true, true, true, true, true, true, true, false, true, false] rfl rfl (by kernel_rfl) (fun _ _ _ h => h) (Or.inl ⟨by rfl, ?_⟩) ?_ ?_
  rotate_left
  · intro w'
    go_simp
    with_reducible rfl
  rotate_left
  · simp only [Act.put, List.setIfInBounds_toArray, List.set_cons_zero, List.set_cons_succ, i64_w, i32_w]
    rfl
  refine pure_ (i := 11) (N := some 46) (v := ?_) (a' := ?_) #[true, true, true, true, true, true, true, true, true, true, true, true, true, false] rfl rfl (by kernel_rfl) (fun _ _ _ h => h) (Or.inl ⟨by rfl, ?_⟩) ?_ ?_
  rotate_left
  · intro w'
    go_simp
    with_reducible rfl
  rotate_left
  · simp only [Act.put, List.setIfInBounds_toArray, List.set_cons_zero, List.set_cons_succ, i64_w, i32_w]
    rfl
  refine pure_ (i := 13) (N := some 8) (v := ?_) (a' := ?_) #[true, true, true, true, true, true, true, true, true, true, true, true, true, true] rfl rfl (by kernel_rfl) (fun _ _ _ h => h) (Or.inl ⟨by rfl, ?_⟩) ?_ ?_
  rotate_left
  · intro w'
    go_simp
    with_reducible rfl
  rotate_left
  · simp only [Act.put, List.setIfInBounds_toArray, List.set_cons_zero, List.set_cons_succ, i64_w, i32_w]
    rfl
  refine done_ (by kernel_rfl) ?_
  clear hp hq
  (try clear hcg3_0)
  generalize W4 = W_ at *
  (try have hcg3_0 : W_.cell? ⟨g3, 0, none⟩ = some (.slice A0 l0.length c0) := (blk_cell BKg3.out 0).trans rfl)
  (try have hcg3_1 : W_.cell? ⟨g3, 1, none⟩ = some (.slice A1 l1.length c1) := (blk_cell BKg3.out 1).trans rfl)
  (try have hcg3_2 : W_.cell? ⟨g3, 2, none⟩ = some (.int .i64 wg) := (blk_cell BKg3.out 2).trans rfl)
  go_wp2_with (first | ((with_reducible refine gate_dst (N := 9) rfl ?_); refine box_event ?hg (N := 9) ?hd (cs := #[.slice none 0 0, .slice none 0 0, .int .i64 0]) (t := 25) ?hr ?_; (case hd => rfl); (case hg => rfl); (case hr => first | (go_simp; done) | (go_simp; rfl)); intro g9 hg W_ hbox hb; (try have NEg3_g9 := Aside0.mk (show g3 < g9 from by rw [hg]; exact blk_lt BKg3.out)); have GEg9 := Aside0.mk (by rw [hg]; exact HB.out.size : w.heap.size ≤ g9); (try clear hcg3_0 hcg3_1 hcg3_2); (try clear hcg9_0 hcg9_1 hcg9_2); (try replace HB := Aside0.mk (below_step HB.out hb)); (try replace HT := Aside0.mk (HT.out.below hb)); (try replace BKg3 := Aside0.mk (blk_below BKg3.out hb)); (try replace BKg9 := Aside0.mk (blk_below BKg9.out hb)); (try replace HX := Aside0.mk (HX.out.below hb)); (try replace HP := Aside0.mk (HP.out.below hb)); (try replace HW := Aside0.mk (Kd.R_below HW.out hb)); (try replace HU := Aside0.mk (Kd.R_below HU.out hb)); (try replace BKg15 := Aside0.mk (blk_below BKg15.out hb)); (try replace BKg17 := Aside0.mk (blk_below BKg17.out hb)); (try replace HL := Aside0.mk (Kd.R_below HL.out hb)); (try replace HM := Aside0.mk (Kd.R_below HM.out hb)); have BKg9 := Aside0.mk hbox; clear hb hbox hg; (try have hcg3_0 : W_.cell? ⟨g3, 0, none⟩ = some (.slice A0 l0.length c0) := (blk_cell BKg3.out 0).trans rfl); (try have hcg3_1 : W_.cell? ⟨g3, 1, none⟩ = some (.slice A1 l1.length c1) := (blk_cell BKg3.out 1).trans rfl); (try have hcg3_2 : W_.cell? ⟨g3, 2, none⟩ = some (.int .i64 wg) := (blk_cell BKg3.out 2).trans rfl); (try have hcg9_0 : W_.cell? ⟨g9, 0, none⟩ = some (.slice none 0 0) := (blk_cell BKg9.out 0).trans rfl); (try have hcg9_1 : W_.cell? ⟨g9, 1, none⟩ = some (.slice none 0 0) := (blk_cell BKg9.out 1).trans rfl); (try have hcg9_2 : W_.cell? ⟨g9, 2, none⟩ = some (.int .i64 0) := (blk_cell BKg9.out 2).trans rfl)) | ((with_reducible refine gate_store (t := 25) (p := 9) rfl ?_); go_must (refine wpList_store_row rfl 25 _ _ rfl g9 #[.slice A0 l0.length c0, .slice A1 l1.length c1, .int .i64 wg] rfl rfl 25 (#[.slice none 0 0, .slice none 0 0, .int .i64 0]) BKg9.out rfl rfl (by simp [Value.oneCell']) ?_; (try clear hcg3_0 hcg3_1 hcg3_2); (try clear hcg9_0 hcg9_1 hcg9_2); (try clear HT); (try replace BKg3 := Aside0.mk ((setRow_other W_ g9 g3 (#[.slice A0 l0.length c0, .slice A1 l1.length c1, .int .i64 wg]) (by first | exact Nat.ne_of_lt NEg3_g9.out | exact Nat.ne_of_gt NEg9_g3.out)).trans BKg3.out)); (try replace HX := Aside0.mk (RX.setRow (us := #[.slice A0 l0.length c0, .slice A1 l1.length c1, .int .i64 wg]) HX.out BKg9.out (by decide))); (try replace HP := Aside0.mk (RX.setRow (us := #[.slice A0 l0.length c0, .slice A1 l1.length c1, .int .i64 wg]) HP.out BKg9.out (by decide))); (try replace HW := Aside0.mk (row_setRow HW.out BKg9.out (by decide) (#[.slice A0 l0.length c0, .slice A1 l1.length c1, .int .i64 wg]))); (try replace HU := Aside0.mk (row_setRow HU.out BKg9.out (by decide) (#[.slice A0 l0.length c0, .slice A1 l1.length c1, .int .i64 wg]))); (try replace BKg15 := Aside0.mk (blk_setRow BKg15.out BKg9.out (by decide) (#[.slice A0 l0.length c0, .slice A1 l1.length c1, .int .i64 wg]))); (try replace BKg17 := Aside0.mk (blk_setRow BKg17.out BKg9.out (by decide) (#[.slice A0 l0.length c0, .slice A1 l1.length c1, .int .i64 wg]))); (try replace HL := Aside0.mk (row_setRow HL.out BKg9.out (by decide) (#[.slice A0 l0.length c0, .slice A1 l1.length c1, .int .i64 wg]))); (try replace HM := Aside0.mk (row_setRow HM.out BKg9.out (by decide) (#[.slice A0 l0.length c0, .slice A1 l1.length c1, .int .i64 wg]))); replace HB := Aside0.mk (below_setRow HB.out GEg9.out (#[.slice A0 l0.length c0, .slice A1 l1.length c1, .int .i64 wg])); replace BKg9 := Aside0.mk (setRow_heap W_ g9 _ (#[.slice A0 l0.length c0, .slice A1 l1.length c1, .int .i64 wg]) _ _ BKg9.out); generalize W_.setRow g9 (#[.slice A0 l0.length c0, .slice A1 l1.length c1, .int .i64 wg]) = W_ at *; (try have hcg3_0 : W_.cell? ⟨g3, 0, none⟩ = some (.slice A0 l0.length c0) := (blk_cell BKg3.out 0).trans rfl); (try have hcg3_1 : W_.cell? ⟨g3, 1, none⟩ = some (.slice A1 l1.length c1) := (blk_cell BKg3.out 1).trans rfl); (try have hcg3_2 : W_.cell? ⟨g3, 2, none⟩ = some (.int .i64 wg) := (blk_cell BKg3.out 2).trans rfl); (try have hcg9_0 : W_.cell? ⟨g9, 0, none⟩ = some (.slice A0 l0.length c0) := (blk_cell BKg9.out 0).trans rfl); (try have hcg9_1 : W_.cell? ⟨g9, 1, none⟩ = some (.slice A1 l1.length c1) := (blk_cell BKg9.out 1).trans rfl); (try have hcg9_2 : W_.cell? ⟨g9, 2, none⟩ = some (.int .i64 wg) := (blk_cell BKg9.out 2).trans rfl))))
  (try clear hcg9_0 hcg9_1 hcg9_2)
  (try clear hcg3_2)
  refine start_ (n := 12) (S := fun w' => w'.cell? ⟨g3, 0, none⟩ = some (.slice A0 l0.length c0) ∧ w'.cell? ⟨g3, 1, none⟩ = some (.slice A1 l1.length c1)) (ds := [9, 11]) #[false, false, false, false, false, false, false, false, false, false, false, false] (by kernel_rfl) rfl rfl ⟨hcg3_0, hcg3_1⟩ (fun hHeld => ?_)
  have hb := below_drew1 (Below.refl W_.heap.size W_)
  have n0_ := Aside0.mk (below_step HB.out hb)
  have n1_ := Aside0.mk (blk_below BKg3.out hb)
  have n2_ := Aside0.mk (blk_below BKg9.out hb)
  clear HB
  clear BKg3
  clear BKg9
  have HB := n0_
  have BKg3 := n1_
  have BKg9 := n2_
  clear n0_ n1_ n2_
  replace hcg3_0 := (hb.cell (World.block_lt_of_cell? _ _ hcg3_0)).trans hcg3_0
  replace hcg3_1 := (hb.cell (World.block_lt_of_cell? _ _ hcg3_1)).trans hcg3_1
  generalize W_.drew = W5 at *
  clear hb
  refine pure_ (i := 1) (N := some 49) (v := ?_) (a' := ?_) #[false, true, false, false, false, false, false, false, false, false, false, false] rfl rfl (by kernel_rfl) (fun _ _ _ h => h) (Or.inl ⟨by rfl, ?_⟩) ?_ ?_
  rotate_left
  · intro w'
    go_simp
    with_reducible rfl
  rotate_left
  · simp only [Act.put, List.setIfInBounds_toArray, List.set_cons_zero, List.set_cons_succ, i64_w, i32_w]
    rfl
  refine pure_ (i := 5) (N := some 53) (v := ?_) (a' := ?_) #[false, true, false, false, false, true, false, false, false, false, false, false] rfl rfl (by kernel_rfl) (fun _ _ _ h => h) (Or.inl ⟨by rfl, ?_⟩) ?_ ?_
  rotate_left
  · intro w'
    go_simp
    with_reducible rfl
  rotate_left
  · simp only [Act.put, List.setIfInBounds_toArray, List.set_cons_zero, List.set_cons_succ, i64_w, i32_w]
    rfl
  refine take_ (i := 2) (N := some 50) (v := ?_) (a' := ?_) #[false, true, true, false, false, true, false, false, false, false, false, false] rfl rfl (by kernel_rfl) (fun _ _ _ h => h) (Or.inl ⟨by rfl, ?_⟩) hHeld ?_ ?_
  rotate_left
  · rintro w' ⟨s0, s1⟩
    go_simp
    with_reducible rfl
  rotate_left
  · simp only [Act.put, List.setIfInBounds_toArray, List.set_cons_zero, List.set_cons_succ, i64_w, i32_w]
    rfl
  refine take_ (i := 6) (N := some 54) (v := ?_) (a' := ?_) #[false, true, true, false, false, true, true, false, false, false, false, false] rfl rfl (by kernel_rfl) (fun _ _ _ h => h) (Or.inl ⟨by rfl, ?_⟩) hHeld ?_ ?_
  rotate_left
  · rintro w' ⟨s0, s1⟩
    go_simp
    with_reducible rfl
  rotate_left
  · simp only [Act.put, List.setIfInBounds_toArray, List.set_cons_zero, List.set_cons_succ, i64_w, i32_w]
    rfl
  refine join_ (σ := Value × Value × Value) 4 #[true, true, true, true, true, true, true, false, true, false, false, false] (fun s => [(48, s.1), (51, s.2.1), (52, s.2.2), (56, .pointer (some ⟨g9, 0, none⟩))]) (fun s w' => Below W5.heap.size W5 w' ∧ (Kd.raw 3).R 85 w' W5.heap.size (fun _ => True) s.2.1 rowsW ∧ (Kd.raw 2).R 71 w' W5.heap.size (fun _ => True) s.2.2 ([] : List (List Value))) ?_ ?_
  rotate_left
  · intro hCont
    refine two_ (i := 0) (j := 4) (Ni := some 48) (Nj := some 52) #[true, true, true, false, false, true, true, false, false, false, false, false] #[false, true, true, false, true, true, true, false, false, false, false, false] rfl rfl rfl rfl (by kernel_rfl) (by decide) (by decide) (fun K hK => ?_) (fun K hK => ?_)
    · skip
      refine Kd.R_lit_step (Kd.raw 3) (w0 := W5) W5.heap.size 85 ?hg (N := 48) ?hd (xs := ([] : List (List Value))) (inner := []) (ok := fun _ => True) (okp := fun _ => True) ?hr ?hp (fun _ hk => hk) trivial (Below.refl _ _) (Nat.le_refl _) (by simp) ?_; (case hd => rfl); (case hg => rfl); (case hr => first | (go_simp; done) | (go_simp; rfl)); (case hp => exact (Reps.none _ _))
      intro v48 W6 ho hb hg hat
      clear hat hg
      have HO48 := Aside0.mk ho
      have HF1 := Aside0.mk hb
      clear ho hb
      have hcg3_0 : W6.cell? ⟨g3, 0, none⟩ = some (.slice A0 l0.length c0) := (blk_cell (blk_below BKg3.out HF1.out) 0).trans rfl
      have hcg3_1 : W6.cell? ⟨g3, 1, none⟩ = some (.slice A1 l1.length c1) := (blk_cell (blk_below BKg3.out HF1.out) 1).trans rfl
      refine hK.out _ _ ⟨hcg3_0, hcg3_1⟩ (fun hHeld => ?_)
      clear hK K
      refine norm_ (a' := ?_) ?_ ?_
      rotate_left
      · show Act.put _ (some 48) _ = _
        simp only [Act.put, List.setIfInBounds_toArray, List.set_cons_zero, List.set_cons_succ, i64_w, i32_w]
        rfl
      refine two_ (i := 3) (j := 4) (Ni := some 51) (Nj := some 52) #[true, true, true, true, false, true, true, false, false, false, false, false] #[true, true, true, false, true, true, true, false, false, false, false, false] rfl rfl rfl rfl (by kernel_rfl) (by decide) (by decide) (fun K hK => ?_) (fun K hK => ?_)
      · skip
        refine Kd.R_append_rows_step (Kd.raw 3) (w0 := W5) W5.heap.size (by rfl) (.tmp 48) (.tmp 50) 22 85 (.agg #[.int .i64 0, .int .i64 0, .int .i64 0]) 24 rfl Try.underlying22 info85 rfl (by decide) (by omega) _ [] rowsW _ _ _ (fun _ => True) (fun _ => False) rfl rfl HO48.out (Kd.C_below HRrowsW.out (below_step HB.out HF1.out)) (fun _ _ h => h) (fun _ h => h.elim) (fun _ _ => trivial) HF1.out HF1.out.size (by have := HNrowsW.out; simp; omega) ?_
        intro v51 W7 ho hb hg hat
        rw [List.nil_append] at ho
        clear HO48
        clear hat hg
        have HO51 := Aside0.mk ho
        have HF2 := Aside0.mk hb
        clear ho hb
        clear HF1
        have hcg3_0 : W7.cell? ⟨g3, 0, none⟩ = some (.slice A0 l0.length c0) := (blk_cell (blk_below BKg3.out HF2.out) 0).trans rfl
        have hcg3_1 : W7.cell? ⟨g3, 1, none⟩ = some (.slice A1 l1.length c1) := (blk_cell (blk_below BKg3.out HF2.out) 1).trans rfl
        refine hK.out _ _ ⟨hcg3_0, hcg3_1⟩ (fun hHeld => ?_)
        clear hK K
        refine norm_ (a' := ?_) ?_ ?_
        rotate_left
        · show Act.put _ (some 51) _ = _
          simp only [Act.put, List.setIfInBounds_toArray, List.set_cons_zero, List.set_cons_succ, i64_w, i32_w]
          rfl
        refine pure_ (i := 8) (N := some 56) (v := ?_) (a' := ?_) #[true, true, true, true, false, true, true, false, true, false, false, false] rfl rfl (by kernel_rfl) (fun _ _ _ h => h) (Or.inl ⟨by rfl, ?_⟩) ?_ ?_
        rotate_left
        · intro w'
          go_simp
          with_reducible rfl
        rotate_left
        · simp only [Act.put, List.setIfInBounds_toArray, List.set_cons_zero, List.set_cons_succ, i64_w, i32_w]
          rfl
        refine one_ (i := 4) (N := some 52) #[true, true, true, true, true, true, true, false, true, false, false, false] rfl rfl (by kernel_rfl) (by decide) (fun K hK => ?_)
        refine Kd.R_lit_step (Kd.raw 2) (w0 := W5) W5.heap.size 71 ?hg (N := 52) ?hd (xs := ([] : List (List Value))) (inner := []) (ok := fun _ => True) (okp := fun _ => True) ?hr ?hp (fun _ hk => hk) trivial HF2.out HF2.out.size (by simp) ?_; (case hd => rfl); (case hg => rfl); (case hr => first | (go_simp; done) | (go_simp; rfl)); (case hp => exact (Reps.none _ _))
        intro v52 W8 ho hb hg hat
        have n51_ := Aside0.mk (Kd.R_grown HO51.out hg (fun _ _ => Option.some_ne_none _))
        clear hat hg
        clear HO51
        have HO51 := n51_
        clear n51_
        have HO52 := Aside0.mk ho
        have HF3 := Aside0.mk hb
        clear ho hb
        clear HF2
        have hcg3_0 : W8.cell? ⟨g3, 0, none⟩ = some (.slice A0 l0.length c0) := (blk_cell (blk_below BKg3.out HF3.out) 0).trans rfl
        have hcg3_1 : W8.cell? ⟨g3, 1, none⟩ = some (.slice A1 l1.length c1) := (blk_cell (blk_below BKg3.out HF3.out) 1).trans rfl
        refine hK.out _ _ ⟨hcg3_0, hcg3_1⟩ (fun hHeld => ?_)
        clear hK K
        refine norm_ (a' := ?_) ?_ ?_
        rotate_left
        · show Act.put _ (some 52) _ = _
          simp only [Act.put, List.setIfInBounds_toArray, List.set_cons_zero, List.set_cons_succ, i64_w, i32_w]
          rfl
        exact norm_ (by simp only [putAll, Act.put, List.setIfInBounds_toArray, List.set_cons_zero, List.set_cons_succ]) (hCont (v48, v51, v52) _ ⟨HF3.out, HO51.out, HO52.out⟩)
      · skip
        refine Kd.R_lit_step (Kd.raw 2) (w0 := W5) W5.heap.size 71 ?hg (N := 52) ?hd (xs := ([] : List (List Value))) (inner := []) (ok := fun _ => True) (okp := fun _ => True) ?hr ?hp (fun _ hk => hk) trivial HF1.out HF1.out.size (by simp) ?_; (case hd => rfl); (case hg => rfl); (case hr => first | (go_simp; done) | (go_simp; rfl)); (case hp => exact (Reps.none _ _))
        intro v52 W7 ho hb hg hat
        have n48_ := Aside0.mk (Kd.R_grown HO48.out hg (fun _ _ => Option.some_ne_none _))
        clear hat hg
        clear HO48
        have HO48 := n48_
        clear n48_
        have HO52 := Aside0.mk ho
        have HF2 := Aside0.mk hb
        clear ho hb
        clear HF1
        have hcg3_0 : W7.cell? ⟨g3, 0, none⟩ = some (.slice A0 l0.length c0) := (blk_cell (blk_below BKg3.out HF2.out) 0).trans rfl
        have hcg3_1 : W7.cell? ⟨g3, 1, none⟩ = some (.slice A1 l1.length c1) := (blk_cell (blk_below BKg3.out HF2.out) 1).trans rfl
        refine hK.out _ _ ⟨hcg3_0, hcg3_1⟩ (fun hHeld => ?_)
        clear hK K
        refine norm_ (a' := ?_) ?_ ?_
        rotate_left
        · show Act.put _ (some 52) _ = _
          simp only [Act.put, List.setIfInBounds_toArray, List.set_cons_zero, List.set_cons_succ, i64_w, i32_w]
          rfl
        refine one_ (i := 3) (N := some 51) #[true, true, true, true, true, true, true, false, false, false, false, false] rfl rfl (by kernel_rfl) (by decide) (fun K hK => ?_)
        refine Kd.R_append_rows_step (Kd.raw 3) (w0 := W5) W5.heap.size (by rfl) (.tmp 48) (.tmp 50) 22 85 (.agg #[.int .i64 0, .int .i64 0, .int .i64 0]) 24 rfl Try.underlying22 info85 rfl (by decide) (by omega) _ [] rowsW _ _ _ (fun _ => True) (fun _ => False) rfl rfl HO48.out (Kd.C_below HRrowsW.out (below_step HB.out HF2.out)) (fun _ _ h => h) (fun _ h => h.elim) (fun _ _ => trivial) HF2.out HF2.out.size (by have := HNrowsW.out; simp; omega) ?_
        intro v51 W8 ho hb hg hat
        rw [List.nil_append] at ho
        have n52_ := Aside0.mk (Kd.R_over HO52.out HO48.out (by decide) hg)
        clear HO48
        clear hat hg
        clear HO52
        have HO52 := n52_
        clear n52_
        have HO51 := Aside0.mk ho
        have HF3 := Aside0.mk hb
        clear ho hb
        clear HF2
        have hcg3_0 : W8.cell? ⟨g3, 0, none⟩ = some (.slice A0 l0.length c0) := (blk_cell (blk_below BKg3.out HF3.out) 0).trans rfl
        have hcg3_1 : W8.cell? ⟨g3, 1, none⟩ = some (.slice A1 l1.length c1) := (blk_cell (blk_below BKg3.out HF3.out) 1).trans rfl
        refine hK.out _ _ ⟨hcg3_0, hcg3_1⟩ (fun hHeld => ?_)
        clear hK K
        refine norm_ (a' := ?_) ?_ ?_
        rotate_left
        · show Act.put _ (some 51) _ = _
          simp only [Act.put, List.setIfInBounds_toArray, List.set_cons_zero, List.set_cons_succ, i64_w, i32_w]
          rfl
        refine pure_ (i := 8) (N := some 56) (v := ?_) (a' := ?_) #[true, true, true, true, true, true, true, false, true, false, false, false] rfl rfl (by kernel_rfl) (fun _ _ _ h => h) (Or.inl ⟨by rfl, ?_⟩) ?_ ?_
        rotate_left
        · intro w'
          go_simp
          with_reducible rfl
        rotate_left
        · simp only [Act.put, List.setIfInBounds_toArray, List.set_cons_zero, List.set_cons_succ, i64_w, i32_w]
          rfl
        exact norm_ (by simp only [putAll, Act.put, List.setIfInBounds_toArray, List.set_cons_zero, List.set_cons_succ]) (hCont (v48, v51, v52) _ ⟨HF3.out, HO51.out, HO52.out⟩)
    · skip
      refine Kd.R_lit_step (Kd.raw 2) (w0 := W5) W5.heap.size 71 ?hg (N := 52) ?hd (xs := ([] : List (List Value))) (inner := []) (ok := fun _ => True) (okp := fun _ => True) ?hr ?hp (fun _ hk => hk) trivial (Below.refl _ _) (Nat.le_refl _) (by simp) ?_; (case hd => rfl); (case hg => rfl); (case hr => first | (go_simp; done) | (go_simp; rfl)); (case hp => exact (Reps.none _ _))
      intro v52 W6 ho hb hg hat
      clear hat hg
      have HO52 := Aside0.mk ho
      have HF1 := Aside0.mk hb
      clear ho hb
      have hcg3_0 : W6.cell? ⟨g3, 0, none⟩ = some (.slice A0 l0.length c0) := (blk_cell (blk_below BKg3.out HF1.out) 0).trans rfl
      have hcg3_1 : W6.cell? ⟨g3, 1, none⟩ = some (.slice A1 l1.length c1) := (blk_cell (blk_below BKg3.out HF1.out) 1).trans rfl
      refine hK.out _ _ ⟨hcg3_0, hcg3_1⟩ (fun hHeld => ?_)
      clear hK K
      refine norm_ (a' := ?_) ?_ ?_
      rotate_left
      · show Act.put _ (some 52) _ = _
        simp only [Act.put, List.setIfInBounds_toArray, List.set_cons_zero, List.set_cons_succ, i64_w, i32_w]
        rfl
      refine one_ (i := 0) (N := some 48) #[true, true, true, false, true, true, true, false, false, false, false, false] rfl rfl (by kernel_rfl) (by decide) (fun K hK => ?_)
      refine Kd.R_lit_step (Kd.raw 3) (w0 := W5) W5.heap.size 85 ?hg (N := 48) ?hd (xs := ([] : List (List Value))) (inner := []) (ok := fun _ => True) (okp := fun _ => True) ?hr ?hp (fun _ hk => hk) trivial HF1.out HF1.out.size (by simp) ?_; (case hd => rfl); (case hg => rfl); (case hr => first | (go_simp; done) | (go_simp; rfl)); (case hp => exact (Reps.none _ _))
      intro v48 W7 ho hb hg hat
      have n52_ := Aside0.mk (Kd.R_grown HO52.out hg (fun _ _ => Option.some_ne_none _))
      clear hat hg
      clear HO52
      have HO52 := n52_
      clear n52_
      have HO48 := Aside0.mk ho
      have HF2 := Aside0.mk hb
      clear ho hb
      clear HF1
      have hcg3_0 : W7.cell? ⟨g3, 0, none⟩ = some (.slice A0 l0.length c0) := (blk_cell (blk_below BKg3.out HF2.out) 0).trans rfl
      have hcg3_1 : W7.cell? ⟨g3, 1, none⟩ = some (.slice A1 l1.length c1) := (blk_cell (blk_below BKg3.out HF2.out) 1).trans rfl
      refine hK.out _ _ ⟨hcg3_0, hcg3_1⟩ (fun hHeld => ?_)
      clear hK K
      refine norm_ (a' := ?_) ?_ ?_
      rotate_left
      · show Act.put _ (some 48) _ = _
        simp only [Act.put, List.setIfInBounds_toArray, List.set_cons_zero, List.set_cons_succ, i64_w, i32_w]
        rfl
      refine one_ (i := 3) (N := some 51) #[true, true, true, true, true, true, true, false, false, false, false, false] rfl rfl (by kernel_rfl) (by decide) (fun K hK => ?_)
      refine Kd.R_append_rows_step (Kd.raw 3) (w0 := W5) W5.heap.size (by rfl) (.tmp 48) (.tmp 50) 22 85 (.agg #[.int .i64 0, .int .i64 0, .int .i64 0]) 24 rfl Try.underlying22 info85 rfl (by decide) (by omega) _ [] rowsW _ _ _ (fun _ => True) (fun _ => False) rfl rfl HO48.out (Kd.C_below HRrowsW.out (below_step HB.out HF2.out)) (fun _ _ h => h) (fun _ h => h.elim) (fun _ _ => trivial) HF2.out HF2.out.size (by have := HNrowsW.out; simp; omega) ?_
      intro v51 W8 ho hb hg hat
      rw [List.nil_append] at ho
      have n52_ := Aside0.mk (Kd.R_over HO52.out HO48.out (by decide) hg)
      clear HO48
      clear hat hg
      clear HO52
      have HO52 := n52_
      clear n52_
      have HO51 := Aside0.mk ho
      have HF3 := Aside0.mk hb
      clear ho hb
      clear HF2
      have hcg3_0 : W8.cell? ⟨g3, 0, none⟩ = some (.slice A0 l0.length c0) := (blk_cell (blk_below BKg3.out HF3.out) 0).trans rfl
      have hcg3_1 : W8.cell? ⟨g3, 1, none⟩ = some (.slice A1 l1.length c1) := (blk_cell (blk_below BKg3.out HF3.out) 1).trans rfl
      refine hK.out _ _ ⟨hcg3_0, hcg3_1⟩ (fun hHeld => ?_)
      clear hK K
      refine norm_ (a' := ?_) ?_ ?_
      rotate_left
      · show Act.put _ (some 51) _ = _
        simp only [Act.put, List.setIfInBounds_toArray, List.set_cons_zero, List.set_cons_succ, i64_w, i32_w]
        rfl
      refine pure_ (i := 8) (N := some 56) (v := ?_) (a' := ?_) #[true, true, true, true, true, true, true, false, true, false, false, false] rfl rfl (by kernel_rfl) (fun _ _ _ h => h) (Or.inl ⟨by rfl, ?_⟩) ?_ ?_
      rotate_left
      · intro w'
        go_simp
        with_reducible rfl
      rotate_left
      · simp only [Act.put, List.setIfInBounds_toArray, List.set_cons_zero, List.set_cons_succ, i64_w, i32_w]
        rfl
      exact norm_ (by simp only [putAll, Act.put, List.setIfInBounds_toArray, List.set_cons_zero, List.set_cons_succ]) (hCont (v48, v51, v52) _ ⟨HF3.out, HO51.out, HO52.out⟩)
  rintro ⟨v48, v51, v52⟩ W9 ⟨hb9, ho51, ho52⟩
  dsimp only at ho51 ho52
  have HF3 := Aside0.mk hb9
  have HO51 := Aside0.mk ho51
  have HO52 := Aside0.mk ho52
  clear hb9 ho51 ho52
  have hcg3_0 : W9.cell? ⟨g3, 0, none⟩ = some (.slice A0 l0.length c0) := (blk_cell (blk_below BKg3.out HF3.out) 0).trans rfl
  have hcg3_1 : W9.cell? ⟨g3, 1, none⟩ = some (.slice A1 l1.length c1) := (blk_cell (blk_below BKg3.out HF3.out) 1).trans rfl
  have hHeld : W9.cell? ⟨g3, 0, none⟩ = some (.slice A0 l0.length c0) ∧ W9.cell? ⟨g3, 1, none⟩ = some (.slice A1 l1.length c1) := ⟨hcg3_0, hcg3_1⟩
  refine norm_ (a' := ?_) ?_ ?_
  rotate_left
  · simp only [putAll, Act.put, List.setIfInBounds_toArray, List.set_cons_zero, List.set_cons_succ]
    rfl
  refine one_ (i := 7) (N := some 55) #[true, true, true, true, true, true, true, true, true, false, false, false] rfl rfl (by kernel_rfl) (by decide) (fun K hK => ?_)
  refine Kd.R_append_rows_step (Kd.raw 2) (w0 := W5) W5.heap.size (by rfl) (.tmp 52) (.tmp 54) 23 71 (.agg #[.slice none 0 0, .int .i64 0]) 32 rfl Try.underlying23 info71 rfl (by decide) (by omega) _ [] rowsP _ _ _ (fun _ => True) (fun _ => False) rfl rfl HO52.out (Kd.C_below HRrowsP.out (below_step HB.out HF3.out)) (fun _ _ h => h) (fun _ h => h.elim) (fun _ _ => trivial) HF3.out HF3.out.size (by have := HNrowsP.out; simp; omega) ?_
  intro v55 W10 ho hb hg hat
  clear hat
  have HO51b := Aside0.mk (Kd.R_over HO51.out HO52.out (by decide) hg)
  rw [List.nil_append] at ho
  have HO55 := Aside0.mk ho
  have hsz_ := HB.out.size
  clear ho hg HF3 HO51 HO52
  have n0_ := Aside0.mk (below_step HB.out hb)
  have n1_ := Aside0.mk (blk_below BKg3.out hb)
  have n2_ := Aside0.mk (blk_below BKg9.out hb)
  clear HB
  clear BKg3
  clear BKg9
  have HB := n0_
  have BKg3 := n1_
  have BKg9 := n2_
  clear n0_ n1_ n2_
  clear hb
  obtain ⟨AX, cX, eX_, hX_⟩ := RX.of (d := k85) (w := w) (xs := l0) HO51b.out HLrowsW.out HKrowsW.out (by have := HNrowsW.out; omega)
  subst eX_
  have HX := Aside0.mk (hX_.lower hsz_)
  clear hX_ HO51b
  obtain ⟨AP, cP, eX_, hX_⟩ := RX.of (d := k71) (w := w) (xs := l1) HO55.out HLrowsP.out HKrowsP.out (by have := HNrowsP.out; omega)
  subst eX_
  have HP := Aside0.mk (hX_.lower hsz_)
  clear hX_ HO55
  clear hsz_
  have hcg3_0 : W10.cell? ⟨g3, 0, none⟩ = some (.slice A0 l0.length c0) := (blk_cell BKg3.out 0).trans rfl
  have hcg3_1 : W10.cell? ⟨g3, 1, none⟩ = some (.slice A1 l1.length c1) := (blk_cell BKg3.out 1).trans rfl
  have hcg9_0 : W10.cell? ⟨g9, 0, none⟩ = some (.slice A0 l0.length c0) := (blk_cell BKg9.out 0).trans rfl
  have hfg9_0 := blk_frozen BKg9.out 0
  refine hK.out _ _ ⟨hcg3_0, hcg3_1⟩ (fun hHeld => ?_)
  clear hK K
  refine norm_ (a' := ?_) ?_ ?_
  rotate_left
  · show Act.put _ (some 55) _ = _
    simp only [Act.put, List.setIfInBounds_toArray, List.set_cons_zero, List.set_cons_succ, i64_w, i32_w]
    rfl
  refine last_ (i := 9) (N := none) #[true, true, true, true, true, true, true, true, true, true, false, false] rfl rfl (by kernel_rfl) (by decide) (fun K hK => ?_)
  refine skip_ (w1 := ?_) (by rfl) rfl ?_ ?_
  rotate_left
  · go_simp
    rfl
  skip
  (try replace BKg3 := Aside0.mk (blk_far BKg3.out (p := ⟨g9, 0, none⟩) (by show g3 ≠ g9; first | exact Nat.ne_of_lt NEg3_g9.out | exact Nat.ne_of_gt NEg9_g3.out) (.slice AX l0.length cX)))
  (try replace HX := Aside0.mk (RX.setCell (j := 0) (u := .slice AX l0.length cX) HX.out BKg9.out (by decide)))
  (try replace HP := Aside0.mk (RX.setCell (j := 0) (u := .slice AX l0.length cX) HP.out BKg9.out (by decide)))
  replace HB := Aside0.mk (HB.out.setCell (p := ⟨g9, 0, none⟩) GEg9.out (.slice AX l0.length cX))
  replace BKg9 := Aside0.mk (blk_put BKg9.out 0 (.slice AX l0.length cX) rfl)
  generalize W10.setCell ⟨g9, 0, none⟩ (.slice AX l0.length cX) = W11 at *
  have hcg9_1 : W11.cell? ⟨g9, 1, none⟩ = some (.slice A1 l1.length c1) := (blk_cell BKg9.out 1).trans rfl
  have hfg9_1 := blk_frozen BKg9.out 1
  refine hK.out _ _ ?_
  clear hK K
  refine pure_ (i := 10) (N := some 57) (v := ?_) (a' := ?_) #[true, true, true, true, true, true, true, true, true, true, true, false] rfl rfl (by kernel_rfl) (fun _ _ _ h => h) (Or.inl ⟨by rfl, ?_⟩) ?_ ?_
  rotate_left
  · intro w'
    go_simp
    with_reducible rfl
  rotate_left
  · simp only [Act.put, List.setIfInBounds_toArray, List.set_cons_zero, List.set_cons_succ, i64_w, i32_w]
    rfl
  refine last_ (i := 11) (N := none) #[true, true, true, true, true, true, true, true, true, true, true, true] rfl rfl (by kernel_rfl) (by decide) (fun K hK => ?_)
  refine skip_ (w1 := ?_) (by rfl) rfl ?_ ?_
  rotate_left
  · go_simp
    rfl
  skip
  (try replace BKg3 := Aside0.mk (blk_far BKg3.out (p := ⟨g9, 1, none⟩) (by show g3 ≠ g9; first | exact Nat.ne_of_lt NEg3_g9.out | exact Nat.ne_of_gt NEg9_g3.out) (.slice AP l1.length cP)))
  (try replace HX := Aside0.mk (RX.setCell (j := 1) (u := .slice AP l1.length cP) HX.out BKg9.out (by decide)))
  (try replace HP := Aside0.mk (RX.setCell (j := 1) (u := .slice AP l1.length cP) HP.out BKg9.out (by decide)))
  replace HB := Aside0.mk (HB.out.setCell (p := ⟨g9, 1, none⟩) GEg9.out (.slice AP l1.length cP))
  replace BKg9 := Aside0.mk (blk_put BKg9.out 1 (.slice AP l1.length cP) rfl)
  generalize W11.setCell ⟨g9, 1, none⟩ (.slice AP l1.length cP) = W12 at *
  refine hK.out _ _ ?_
  clear hK K
  refine done_ (by kernel_rfl) ?_
  replace BKg9 := Aside0.mk (show W12.heap[g9]? = some (.cells #[.slice AX l0.length cX, .slice AP l1.length cP, .int .i64 wg] 25 (0, 0)) from BKg9.out)
  (try clear hfg9_0)
  (try clear hfg9_1)
  (try clear hcg9_0)
  (try clear hcg9_1)
  (try clear hcg3_0 hcg3_1)
  generalize W12 = W_ at *
  obtain ⟨go, csx, eA_, hgo_, hbk_, hpb_⟩ := RX.open_ HX.out HN0.out
  subst eA_
  have BKgo := Aside0.mk hbk_
  have GEgo := Aside0.mk hgo_
  have HXLE := Aside0.mk HX.out.le
  have HXSM := Aside0.mk HX.out.sm
  obtain ⟨ad, ea, ha0, ha1, ha2⟩ := at_T85 HR0.out (p : Int) (by omega) (by have := HPL.out; omega)
  obtain ⟨ad', ea', hb0, hb1, hb2⟩ := at_T85 HR0.out (q : Int) (by omega) (by have := HQL.out; omega)
  rw [ea] at ea'
  obtain rfl := Option.some.inj ea'
  have HEA := Aside0.mk ea
  simp only [Int.toNat_natCast] at ha0 ha1 ha2 hb0 hb1 hb2
  rw [HXA.out] at ha0 ha1 ha2
  rw [HXB.out] at hb0 hb1 hb2
  have Ha0 := Aside0.mk ha0
  have Ha1 := Aside0.mk ha1
  have Ha2 := Aside0.mk ha2
  have Hb0 := Aside0.mk hb0
  have Hb1 := Aside0.mk hb1
  have Hb2 := Aside0.mk hb2
  clear ha0 ha1 ha2 hb0 hb1 hb2 hgo_ hbk_ ea ea' HX
  have HPB := Aside0.mk hpb_
  clear hpb_
  have hpx : (p : Int) < (l0.length : Int) := by have := HPL.out; omega
  have hqx : (q : Int) < (l0.length : Int) := by have := HQL.out; omega
  have hcg9_0 : W_.cell? ⟨g9, 0, none⟩ = some (.slice (some ⟨go, 0, none⟩) l0.length cX) := (blk_cell BKg9.out 0).trans rfl
  have hcg3_0 : W_.cell? ⟨g3, 0, none⟩ = some (.slice (some ad) l0.length c0) := by rw [← HEA.out]; exact (blk_cell BKg3.out 0).trans rfl
  have hca0 : W_.cell? (ad.add (p * 3)) = some (.int .i64 xa.f0) := (HB.out.cell (World.block_lt_of_cell? _ _ Ha0.out)).trans Ha0.out
  have hca1 : W_.cell? ⟨(ad.add (p * 3)).block, (ad.add (p * 3)).off + 1, none⟩ = some (.int .i64 xa.f1.f0) := (HB.out.cell (World.block_lt_of_cell? _ _ Ha1.out)).trans Ha1.out
  have hca2 : W_.cell? ⟨(ad.add (p * 3)).block, (ad.add (p * 3)).off + 2, none⟩ = some (.int .i64 xa.f1.f1) := (HB.out.cell (World.block_lt_of_cell? _ _ Ha2.out)).trans Ha2.out
  have hcb0 : W_.cell? (ad.add (q * 3)) = some (.int .i64 xb.f0) := (HB.out.cell (World.block_lt_of_cell? _ _ Hb0.out)).trans Hb0.out
  have hcb1 : W_.cell? ⟨(ad.add (q * 3)).block, (ad.add (q * 3)).off + 1, none⟩ = some (.int .i64 xb.f1.f0) := (HB.out.cell (World.block_lt_of_cell? _ _ Hb1.out)).trans Hb1.out
  have hcb2 : W_.cell? ⟨(ad.add (q * 3)).block, (ad.add (q * 3)).off + 2, none⟩ = some (.int .i64 xb.f1.f1) := (HB.out.cell (World.block_lt_of_cell? _ _ Hb2.out)).trans Hb2.out
  go_wp2
  refine start_ (n := 20) (S := fun w' => w'.cell? ⟨g9, 0, none⟩ = some (.slice (some ⟨go, 0, none⟩) l0.length cX) ∧ w'.cell? ⟨g3, 0, none⟩ = some (.slice (some ad) l0.length c0) ∧ w'.cell? (ad.add (p * 3)) = some (.int .i64 xa.f0) ∧ w'.cell? ⟨(ad.add (p * 3)).block, (ad.add (p * 3)).off + 1, none⟩ = some (.int .i64 xa.f1.f0) ∧ w'.cell? ⟨(ad.add (p * 3)).block, (ad.add (p * 3)).off + 2, none⟩ = some (.int .i64 xa.f1.f1) ∧ w'.cell? (ad.add (q * 3)) = some (.int .i64 xb.f0) ∧ w'.cell? ⟨(ad.add (q * 3)).block, (ad.add (q * 3)).off + 1, none⟩ = some (.int .i64 xb.f1.f0) ∧ w'.cell? ⟨(ad.add (q * 3)).block, (ad.add (q * 3)).off + 2, none⟩ = some (.int .i64 xb.f1.f1)) (ds := [19]) #[false, false, false, false, false, false, false, false, false, false, false, false, false, false, false, false, false, false, false, false] (by kernel_rfl) rfl rfl ⟨hcg9_0, hcg3_0, hca0, hca1, hca2, hcb0, hcb1, hcb2⟩ (fun hHeld => ?_)
  have hb := below_drew1 (Below.refl W_.heap.size W_)
  have n0_ := Aside0.mk (below_step HB.out hb)
  have n1_ := Aside0.mk (blk_below BKg3.out hb)
  have n2_ := Aside0.mk (blk_below BKg9.out hb)
  have n3_ := Aside0.mk (blk_below BKgo.out hb)
  have n4_ := Aside0.mk (HP.out.below hb)
  clear HB
  clear BKg3
  clear BKg9
  clear BKgo
  clear HP
  have HB := n0_
  have BKg3 := n1_
  have BKg9 := n2_
  have BKgo := n3_
  have HP := n4_
  clear n0_ n1_ n2_ n3_ n4_
  replace hcg9_0 := (hb.cell (World.block_lt_of_cell? _ _ hcg9_0)).trans hcg9_0
  replace hcg3_0 := (hb.cell (World.block_lt_of_cell? _ _ hcg3_0)).trans hcg3_0
  replace hca0 := (hb.cell (World.block_lt_of_cell? _ _ hca0)).trans hca0
  replace hca1 := (hb.cell (World.block_lt_of_cell? _ _ hca1)).trans hca1
  replace hca2 := (hb.cell (World.block_lt_of_cell? _ _ hca2)).trans hca2
  replace hcb0 := (hb.cell (World.block_lt_of_cell? _ _ hcb0)).trans hcb0
  replace hcb1 := (hb.cell (World.block_lt_of_cell? _ _ hcb1)).trans hcb1
  replace hcb2 := (hb.cell (World.block_lt_of_cell? _ _ hcb2)).trans hcb2
  generalize W_.drew = W5 at *
  clear hb
  refine pure_ (i := 0) (N := some 58) (v := ?_) (a' := ?_) #[true, false, false, false, false, false, false, false, false, false, false, false, false, false, false, false, false, false, false, false] rfl rfl (by kernel_rfl) (fun _ _ _ h => h) (Or.inl ⟨by rfl, ?_⟩) ?_ ?_
  rotate_left
  · intro w'
    go_simp
    with_reducible rfl
  rotate_left
  · simp only [Act.put, List.setIfInBounds_toArray, List.set_cons_zero, List.set_cons_succ, i64_w, i32_w]
    rfl
  refine pure_ (i := 2) (N := some 60) (v := ?_) (a' := ?_) #[true, false, true, false, false, false, false, false, false, false, false, false, false, false, false, false, false, false, false, false] rfl rfl (by kernel_rfl) (fun _ _ _ h => h) (Or.inl ⟨by rfl, ?_⟩) ?_ ?_
  rotate_left
  · intro w'
    go_simp
    with_reducible rfl
  rotate_left
  · simp only [Act.put, List.setIfInBounds_toArray, List.set_cons_zero, List.set_cons_succ, i64_w, i32_w]
    rfl
  refine pure_ (i := 3) (N := some 61) (v := ?_) (a' := ?_) #[true, false, true, true, false, false, false, false, false, false, false, false, false, false, false, false, false, false, false, false] rfl rfl (by kernel_rfl) (fun _ _ _ h => h) (Or.inl ⟨by rfl, ?_⟩) ?_ ?_
  rotate_left
  · intro w'
    go_simp
    with_reducible rfl
  rotate_left
  · simp only [Act.put, List.setIfInBounds_toArray, List.set_cons_zero, List.set_cons_succ, i64_w, i32_w]
    rfl
  refine pure_ (i := 5) (N := some 63) (v := ?_) (a' := ?_) #[true, false, true, true, false, true, false, false, false, false, false, false, false, false, false, false, false, false, false, false] rfl rfl (by kernel_rfl) (fun _ _ _ h => h) (Or.inl ⟨by rfl, ?_⟩) ?_ ?_
  rotate_left
  · intro w'
    go_simp
    with_reducible rfl
  rotate_left
  · simp only [Act.put, List.setIfInBounds_toArray, List.set_cons_zero, List.set_cons_succ, i64_w, i32_w]
    rfl
  refine pure_ (i := 6) (N := some 64) (v := ?_) (a' := ?_) #[true, false, true, true, false, true, true, false, false, false, false, false, false, false, false, false, false, false, false, false] rfl rfl (by kernel_rfl) (fun _ _ _ h => h) (Or.inl ⟨by rfl, ?_⟩) ?_ ?_
  rotate_left
  · intro w'
    go_simp
    with_reducible rfl
  rotate_left
  · simp only [Act.put, List.setIfInBounds_toArray, List.set_cons_zero, List.set_cons_succ, i64_w, i32_w]
    rfl
  refine pure_ (i := 8) (N := some 66) (v := ?_) (a' := ?_) #[true, false, true, true, false, true, true, false, true, false, false, false, false, false, false, false, false, false, false, false] rfl rfl (by kernel_rfl) (fun _ _ _ h => h) (Or.inl ⟨by rfl, ?_⟩) ?_ ?_
  rotate_left
  · intro w'
    go_simp
    with_reducible rfl
  rotate_left
  · simp only [Act.put, List.setIfInBounds_toArray, List.set_cons_zero, List.set_cons_succ, i64_w, i32_w]
    rfl
  refine pure_ (i := 11) (N := some 69) (v := ?_) (a' := ?_) #[true, false, true, true, false, true, true, false, true, false, false, true, false, false, false, false, false, false, false, false] rfl rfl (by kernel_rfl) (fun _ _ _ h => h) (Or.inl ⟨by rfl, ?_⟩) ?_ ?_
  rotate_left
  · intro w'
    go_simp
    with_reducible rfl
  rotate_left
  · simp only [Act.put, List.setIfInBounds_toArray, List.set_cons_zero, List.set_cons_succ, i64_w, i32_w]
    rfl
  refine pure_ (i := 13) (N := some 71) (v := ?_) (a' := ?_) #[true, false, true, true, false, true, true, false, true, false, false, true, false, true, false, false, false, false, false, false] rfl rfl (by kernel_rfl) (fun _ _ _ h => h) (Or.inl ⟨by rfl, ?_⟩) ?_ ?_
  rotate_left
  · intro w'
    go_simp
    with_reducible rfl
  rotate_left
  · simp only [Act.put, List.setIfInBounds_toArray, List.set_cons_zero, List.set_cons_succ, i64_w, i32_w]
    rfl
  refine take_ (i := 1) (N := some 59) (v := ?_) (a' := ?_) #[true, true, true, true, false, true, true, false, true, false, false, true, false, true, false, false, false, false, false, false] rfl rfl (by kernel_rfl) (fun _ _ _ h => h) (Or.inl ⟨by rfl, ?_⟩) hHeld ?_ ?_
  rotate_left
  · rintro w' ⟨s0, s1, s2, s3, s4, s5, s6, s7⟩
    go_simp
    with_reducible rfl
  rotate_left
  · simp only [Act.put, List.setIfInBounds_toArray, List.set_cons_zero, List.set_cons_succ, i64_w, i32_w]
    rfl
  refine take_ (i := 4) (N := some 62) (v := ?_) (a' := ?_) #[true, true, true, true, true, true, true, false, true, false, false, true, false, true, false, false, false, false, false, false] rfl rfl (by kernel_rfl) (fun _ _ _ h => h) (Or.inl ⟨by rfl, ?_⟩) hHeld ?_ ?_
  rotate_left
  · rintro w' ⟨s0, s1, s2, s3, s4, s5, s6, s7⟩
    go_simp
    with_reducible rfl
  rotate_left
  · simp only [Act.put, List.setIfInBounds_toArray, List.set_cons_zero, List.set_cons_succ, i64_w, i32_w]
    rfl
  refine take_ (i := 7) (N := some 65) (v := ?_) (a' := ?_) #[true, true, true, true, true, true, true, true, true, false, false, true, false, true, false, false, false, false, false, false] rfl rfl (by kernel_rfl) (fun _ _ _ h => h) (Or.inl ⟨by rfl, ?_⟩) hHeld ?_ ?_
  rotate_left
  · rintro w' ⟨s0, s1, s2, s3, s4, s5, s6, s7⟩
    go_simp
    with_reducible rfl
  rotate_left
  · simp only [Act.put, List.setIfInBounds_toArray, List.set_cons_zero, List.set_cons_succ, i64_w, i32_w]
    rfl
  refine pure_ (i := 9) (N := some 67) (v := ?_) (a' := ?_) #[true, true, true, true, true, true, true, true, true, true, false, true, false, true, false, false, false, false, false, false] rfl rfl (by kernel_rfl) (fun _ _ _ h => h) (Or.inl ⟨by rfl, ?_⟩) ?_ ?_
  rotate_left
  · intro w'
    go_simp
    with_reducible rfl
  rotate_left
  · simp only [Act.put, List.setIfInBounds_toArray, List.set_cons_zero, List.set_cons_succ, i64_w, i32_w]
    rfl
  refine take_ (i := 10) (N := some 68) (v := ?_) (a' := ?_) #[true, true, true, true, true, true, true, true, true, true, true, true, false, true, false, false, false, false, false, false] rfl rfl (by kernel_rfl) (fun _ _ _ h => h) (Or.inl ⟨by rfl, ?_⟩) hHeld ?_ ?_
  rotate_left
  · rintro w' ⟨s0, s1, s2, s3, s4, s5, s6, s7⟩
    go_simp
    with_reducible rfl
  rotate_left
  · simp only [Act.put, List.setIfInBounds_toArray, List.set_cons_zero, List.set_cons_succ, i64_w, i32_w]
    rfl
  refine take_ (i := 12) (N := some 70) (v := ?_) (a' := ?_) #[true, true, true, true, true, true, true, true, true, true, true, true, true, true, false, false, false, false, false, false] rfl rfl (by kernel_rfl) (fun _ _ _ h => h) (Or.inl ⟨by rfl, ?_⟩) hHeld ?_ ?_
  rotate_left
  · rintro w' ⟨s0, s1, s2, s3, s4, s5, s6, s7⟩
    go_simp
    with_reducible rfl
  rotate_left
  · simp only [Act.put, List.setIfInBounds_toArray, List.set_cons_zero, List.set_cons_succ, i64_w, i32_w]
    rfl
  refine pure_ (i := 14) (N := some 72) (v := ?_) (a' := ?_) #[true, true, true, true, true, true, true, true, true, true, true, true, true, true, true, false, false, false, false, false] rfl rfl (by kernel_rfl) (fun _ _ _ h => h) (Or.inl ⟨by rfl, ?_⟩) ?_ ?_
  rotate_left
  · intro w'
    go_simp
    with_reducible rfl
  rotate_left
  · simp only [Act.put, List.setIfInBounds_toArray, List.set_cons_zero, List.set_cons_succ, i64_w, i32_w]
    rfl
  refine take_ (i := 15) (N := some 73) (v := ?_) (a' := ?_) #[true, true, true, true, true, true, true, true, true, true, true, true, true, true, true, true, false, false, false, false] rfl rfl (by kernel_rfl) (fun _ _ _ h => h) (Or.inl ⟨by rfl, ?_⟩) hHeld ?_ ?_
  rotate_left
  · rintro w' ⟨s0, s1, s2, s3, s4, s5, s6, s7⟩
    go_simp
    with_reducible rfl
  rotate_left
  · simp only [Act.put, List.setIfInBounds_toArray, List.set_cons_zero, List.set_cons_succ, i64_w, i32_w]
    rfl
  refine pure_ (i := 16) (N := some 74) (v := ?_) (a' := ?_) #[true, true, true, true, true, true, true, true, true, true, true, true, true, true, true, true, true, false, false, false] rfl rfl (by kernel_rfl) (fun _ _ _ h => h) (Or.inl ⟨by rfl, ?_⟩) ?_ ?_
  rotate_left
  · intro w'
    go_simp
    with_reducible rfl
  rotate_left
  · simp only [Act.put, List.setIfInBounds_toArray, List.set_cons_zero, List.set_cons_succ, i64_w, i32_w]
    rfl
  refine one_ (i := 17) (N := none) #[true, true, true, true, true, true, true, true, true, true, true, true, true, true, true, true, true, true, false, false] rfl rfl (by kernel_rfl) (by decide) (fun K hK => ?_)
  have hwh := PB.whole HPB.out BKgo.out p (by first | exact HPL.out | (rw [List.length_set]; exact HPL.out)) xb
  obtain ⟨hth, cs', hk', hpb'⟩ := hwh
  refine store_mid_ (by rfl) rfl 85 (.tmp 74) (.tmp 68) rfl go (p * 3) #[.int .i64 xb.f0, .int .i64 xb.f1.f0, .int .i64 xb.f1.f1] (by rfl) (by rfl) hth rfl (by simp [Value.oneCell']) ?_
  have hb_ := Aside0.mk (below_cells GEgo.out [.int .i64 xb.f0, .int .i64 xb.f1.f0, .int .i64 xb.f1.f1] (p * 3) HB.out)
  have n1_ := Aside0.mk (blk_cells (o := p * 3) (vs := [.int .i64 xb.f0, .int .i64 xb.f1.f0, .int .i64 xb.f1.f1]) BKg3.out BKgo.out (by decide))
  have n2_ := Aside0.mk (blk_cells (o := p * 3) (vs := [.int .i64 xb.f0, .int .i64 xb.f1.f0, .int .i64 xb.f1.f1]) BKg9.out BKgo.out (by decide))
  have n3_ := Aside0.mk (RX.cells (o := p * 3) (vs := [.int .i64 xb.f0, .int .i64 xb.f1.f0, .int .i64 xb.f1.f1]) HP.out BKgo.out (by decide))
  clear HB BKg3 BKg9 BKgo HP HPB hth
  have HB := hb_
  have BKg3 := n1_
  have BKg9 := n2_
  have HP := n3_
  have BKgo := Aside0.mk hk'
  have HPB := Aside0.mk hpb'
  clear hb_ n1_ n2_ n3_ hk' hpb'
  have eL_ : (#[.int .i64 xb.f0, .int .i64 xb.f1.f0, .int .i64 xb.f1.f1] : Array Value).toList = [.int .i64 xb.f0, .int .i64 xb.f1.f0, .int .i64 xb.f1.f1] := rfl
  rw [eL_]
  clear eL_
  generalize W5.setCells go (p * 3) [.int .i64 xb.f0, .int .i64 xb.f1.f0, .int .i64 xb.f1.f1] = W6 at *
  have hcg9_0 : W6.cell? ⟨g9, 0, none⟩ = some (.slice (some ⟨go, 0, none⟩) l0.length cX) := (blk_cell BKg9.out 0).trans rfl
  have hcg3_0 : W6.cell? ⟨g3, 0, none⟩ = some (.slice (some ad) l0.length c0) := by rw [← HEA.out]; exact (blk_cell BKg3.out 0).trans rfl
  have hca0 : W6.cell? (ad.add (p * 3)) = some (.int .i64 xa.f0) := (HB.out.cell (World.block_lt_of_cell? _ _ Ha0.out)).trans Ha0.out
  have hca1 : W6.cell? ⟨(ad.add (p * 3)).block, (ad.add (p * 3)).off + 1, none⟩ = some (.int .i64 xa.f1.f0) := (HB.out.cell (World.block_lt_of_cell? _ _ Ha1.out)).trans Ha1.out
  have hca2 : W6.cell? ⟨(ad.add (p * 3)).block, (ad.add (p * 3)).off + 2, none⟩ = some (.int .i64 xa.f1.f1) := (HB.out.cell (World.block_lt_of_cell? _ _ Ha2.out)).trans Ha2.out
  have hcb0 : W6.cell? (ad.add (q * 3)) = some (.int .i64 xb.f0) := (HB.out.cell (World.block_lt_of_cell? _ _ Hb0.out)).trans Hb0.out
  have hcb1 : W6.cell? ⟨(ad.add (q * 3)).block, (ad.add (q * 3)).off + 1, none⟩ = some (.int .i64 xb.f1.f0) := (HB.out.cell (World.block_lt_of_cell? _ _ Hb1.out)).trans Hb1.out
  have hcb2 : W6.cell? ⟨(ad.add (q * 3)).block, (ad.add (q * 3)).off + 2, none⟩ = some (.int .i64 xb.f1.f1) := (HB.out.cell (World.block_lt_of_cell? _ _ Hb2.out)).trans Hb2.out
  refine hK.out _ _ ⟨hcg9_0, hcg3_0, hca0, hca1, hca2, hcb0, hcb1, hcb2⟩ (fun hHeld => ?_)
  clear hK K
  refine pure_ (i := 18) (N := some 75) (v := ?_) (a' := ?_) #[true, true, true, true, true, true, true, true, true, true, true, true, true, true, true, true, true, true, true, false] rfl rfl (by kernel_rfl) (fun _ _ _ h => h) (Or.inl ⟨by rfl, ?_⟩) ?_ ?_
  rotate_left
  · intro w'
    go_simp
    with_reducible rfl
  rotate_left
  · simp only [Act.put, List.setIfInBounds_toArray, List.set_cons_zero, List.set_cons_succ, i64_w, i32_w]
    rfl
  refine last_ (i := 19) (N := none) #[true, true, true, true, true, true, true, true, true, true, true, true, true, true, true, true, true, true, true, true] rfl rfl (by kernel_rfl) (by decide) (fun K hK => ?_)
  have hwh := PB.whole HPB.out BKgo.out q (by first | exact HQL.out | (rw [List.length_set]; exact HQL.out)) xa
  obtain ⟨hth, cs', hk', hpb'⟩ := hwh
  refine store_mid_ (by rfl) rfl 85 (.tmp 75) (.tmp 73) rfl go (q * 3) #[.int .i64 xa.f0, .int .i64 xa.f1.f0, .int .i64 xa.f1.f1] (by rfl) (by rfl) hth rfl (by simp [Value.oneCell']) ?_
  have hb_ := Aside0.mk (below_cells GEgo.out [.int .i64 xa.f0, .int .i64 xa.f1.f0, .int .i64 xa.f1.f1] (q * 3) HB.out)
  have n1_ := Aside0.mk (blk_cells (o := q * 3) (vs := [.int .i64 xa.f0, .int .i64 xa.f1.f0, .int .i64 xa.f1.f1]) BKg3.out BKgo.out (by decide))
  have n2_ := Aside0.mk (blk_cells (o := q * 3) (vs := [.int .i64 xa.f0, .int .i64 xa.f1.f0, .int .i64 xa.f1.f1]) BKg9.out BKgo.out (by decide))
  have n3_ := Aside0.mk (RX.cells (o := q * 3) (vs := [.int .i64 xa.f0, .int .i64 xa.f1.f0, .int .i64 xa.f1.f1]) HP.out BKgo.out (by decide))
  clear HB BKg3 BKg9 BKgo HP HPB hth
  have HB := hb_
  have BKg3 := n1_
  have BKg9 := n2_
  have HP := n3_
  have BKgo := Aside0.mk hk'
  have HPB := Aside0.mk hpb'
  clear hb_ n1_ n2_ n3_ hk' hpb'
  have eL_ : (#[.int .i64 xa.f0, .int .i64 xa.f1.f0, .int .i64 xa.f1.f1] : Array Value).toList = [.int .i64 xa.f0, .int .i64 xa.f1.f0, .int .i64 xa.f1.f1] := rfl
  rw [eL_]
  clear eL_
  generalize W6.setCells go (q * 3) [.int .i64 xa.f0, .int .i64 xa.f1.f0, .int .i64 xa.f1.f1] = W7 at *
  refine hK.out _ _ ?_
  clear hK K
  refine done_ (by kernel_rfl) ?_
  have HX := Aside0.mk (show RX k85 85 w W7 w.heap.size (some ⟨go, 0, none⟩) cX xs from ⟨by have := HXLE.out; rw [HXN.out]; exact this, by have := HXSM.out; rw [HXN.out]; exact this, .inr ⟨go, _, rfl, GEgo.out, BKgo.out, by have h := HPB.out; rw [HXS.out] at h; exact h⟩⟩)
  replace BKg9 := Aside0.mk (show W7.heap[g9]? = some (.cells #[.slice (some ⟨go, 0, none⟩) xs.length cX, .slice AP l1.length cP, .int .i64 wg] 25 (0, 0)) from by rw [HXN.out]; exact BKg9.out)
  clear BKgo GEgo HPB HXLE HXSM Ha0 Ha1 Ha2 Hb0 Hb1 Hb2 HEA
  (try clear hcg9_0 hcg3_0 hca0 hca1 hca2 hcb0 hcb1 hcb2)
  clear hpx hqx
  generalize W7 = W_ at *
  generalize (some (⟨go, 0, none⟩ : Addr) : Option Addr) = AX at *
  replace HP := Aside0.mk (show RX k71 71 w W_ w.heap.size AP cP (ys 0) from by rw [HY0.out]; exact HP.out)
  go_wp2
  go_loopg [10] l1.length (fun kq v10 w' => ∃ m : Nat, v10 = .int .i64 (m : Int) ∧ Aside0 (m + kq = l1.length) ∧ Aside0 (Below w.heap.size w w') ∧ Aside0 (w'.heap[g3]? = some (.cells #[.slice A0 l0.length c0, .slice A1 l1.length c1, .int .i64 wg] 25 (0, 0))) ∧ Aside0 (w'.heap[g9]? = some (.cells #[.slice AX xs.length cX, .slice AP l1.length cP, .int .i64 wg] 25 (0, 0))) ∧ Aside0 (RX k85 85 w w' w.heap.size AX cX xs) ∧ Aside0 (RX k71 71 w w' w.heap.size AP cP (ys m)))
  case atStart => exact ⟨0, rfl, ⟨Nat.zero_add _⟩, HB, BKg3, BKg9, HX, HP⟩
  case round =>
    clear HB BKg3 BKg9 HX HP
    obtain ⟨m, rfl, HM, HB, BKg3, BKg9, HX, HP⟩ := hrel
    have hcg9_1 : wr.cell? ⟨g9, 1, none⟩ = some (.slice AP l1.length cP) := (blk_cell BKg9.out 1).trans rfl
    by_cases hlt : m < l1.length
    · cases gk with
      | zero => have := HM.out; omega
      | succ k1 =>
      have hwm := wrap_succ m _ hlt (by have := HRT.out.n1; omega)
      obtain ⟨hyl, eys⟩ := HYS.out m hlt
      have HYS1 := Aside0.mk eys
      have HPLE := Aside0.mk HP.out.le
      have HPSM := Aside0.mk HP.out.sm
      obtain ⟨gp, csx, eA, hgp, hbk, hpb⟩ := HP.out.open_ (by omega)
      subst eA
      have BKgp := Aside0.mk hbk
      have GEgp := Aside0.mk hgp
      obtain ⟨fr, hfr⟩ : ∃ fr, csx[m * 2 + 1]? = some (.int .i64 fr) := by
        obtain ⟨c, hc, hcs⟩ := hpb m ((ys m).getD m z71) (by rw [List.getD_eq_getElem?_getD, List.getElem?_eq_getElem (by omega)]; rfl)
        obtain ⟨A, n, rfl, _, _⟩ := k71_open hc
        exact ⟨_, hcs 1 _ rfl⟩
      have HQ1 := Aside0.mk hfr
      obtain ⟨ad, Az, cz_, ea, _, hb1, _, _⟩ := at_T71 HR1.out (m : Int) (by omega) (by omega)
      simp only [Int.toNat_natCast] at hb1
      obtain ⟨fb, hfb⟩ : ∃ fb, (rd_T71 l1 (m : Int)).f1 = fb := ⟨_, rfl⟩
      rw [hfb] at hb1 HYS1
      have HPC := Aside0.mk (hpb.bundle m (by omega) (sv fb))
      have hmx : (m : Int) < (l1.length : Int) := by omega
      have hcg3_1 : wr.cell? ⟨g3, 1, none⟩ = some (.slice (some ad) l1.length c1) := by rw [← ea]; exact (blk_cell BKg3.out 1).trans rfl
      have hcb1 : wr.cell? ⟨(ad.add (m * 2)).block, (ad.add (m * 2)).off + 1, none⟩ = some (.int .i64 fb) := (HB.out.cell (World.block_lt_of_cell? _ _ hb1)).trans hb1
      have HYL := Aside0.mk hyl
      clear hbk hgp hpb HP hfr hb1 hfb ea eys hyl
      go_wp2
      refine start_ (n := 15) (S := fun w' => w'.cell? ⟨g9, 1, none⟩ = some (.slice (some ⟨gp, 0, none⟩) l1.length cP) ∧ w'.cell? ⟨g3, 1, none⟩ = some (.slice (some ad) l1.length c1) ∧ w'.cell? ⟨(ad.add (m * 2)).block, (ad.add (m * 2)).off + 1, none⟩ = some (.int .i64 fb)) (ds := [14]) #[false, false, false, false, false, false, false, false, false, false, false, false, false, false, false] (by kernel_rfl) rfl rfl ⟨hcg9_1, hcg3_1, hcb1⟩ (fun hHeld => ?_)
      have hb := below_drew1 (Below.refl wr.heap.size wr)
      have n0_ := Aside0.mk (below_step HB.out hb)
      have n1_ := Aside0.mk (blk_below BKg3.out hb)
      have n2_ := Aside0.mk (blk_below BKg9.out hb)
      have n3_ := Aside0.mk (blk_below BKgp.out hb)
      have n4_ := Aside0.mk (HX.out.below hb)
      clear HB
      clear BKg3
      clear BKg9
      clear BKgp
      clear HX
      have HB := n0_
      have BKg3 := n1_
      have BKg9 := n2_
      have BKgp := n3_
      have HX := n4_
      clear n0_ n1_ n2_ n3_ n4_
      replace hcg9_1 := (hb.cell (World.block_lt_of_cell? _ _ hcg9_1)).trans hcg9_1
      replace hcg3_1 := (hb.cell (World.block_lt_of_cell? _ _ hcg3_1)).trans hcg3_1
      replace hcb1 := (hb.cell (World.block_lt_of_cell? _ _ hcb1)).trans hcb1
      generalize wr.drew = W7 at *
      clear hb
      refine pure_ (i := 0) (N := some 83) (v := ?_) (a' := ?_) #[true, false, false, false, false, false, false, false, false, false, false, false, false, false, false] rfl rfl (by kernel_rfl) (fun _ _ _ h => h) (Or.inl ⟨by rfl, ?_⟩) ?_ ?_
      rotate_left
      · intro w'
        go_simp
        with_reducible rfl
      rotate_left
      · simp only [Act.put, List.setIfInBounds_toArray, List.set_cons_zero, List.set_cons_succ, i64_w, i32_w]
        rfl
      refine pure_ (i := 2) (N := some 85) (v := ?_) (a' := ?_) #[true, false, true, false, false, false, false, false, false, false, false, false, false, false, false] rfl rfl (by kernel_rfl) (fun _ _ _ h => h) (Or.inl ⟨by rfl, ?_⟩) ?_ ?_
      rotate_left
      · intro w'
        go_simp
        with_reducible rfl
      rotate_left
      · simp only [Act.put, List.setIfInBounds_toArray, List.set_cons_zero, List.set_cons_succ, i64_w, i32_w]
        rfl
      refine pure_ (i := 3) (N := some 86) (v := ?_) (a' := ?_) #[true, false, true, true, false, false, false, false, false, false, false, false, false, false, false] rfl rfl (by kernel_rfl) (fun _ _ _ h => h) (Or.inl ⟨by rfl, ?_⟩) ?_ ?_
      rotate_left
      · intro w'
        go_simp
        with_reducible rfl
      rotate_left
      · simp only [Act.put, List.setIfInBounds_toArray, List.set_cons_zero, List.set_cons_succ, i64_w, i32_w]
        rfl
      refine pure_ (i := 5) (N := some 88) (v := ?_) (a' := ?_) #[true, false, true, true, false, true, false, false, false, false, false, false, false, false, false] rfl rfl (by kernel_rfl) (fun _ _ _ h => h) (Or.inl ⟨by rfl, ?_⟩) ?_ ?_
      rotate_left
      · intro w'
        go_simp
        with_reducible rfl
      rotate_left
      · simp only [Act.put, List.setIfInBounds_toArray, List.set_cons_zero, List.set_cons_succ, i64_w, i32_w]
        rfl
      refine pure_ (i := 9) (N := some 92) (v := ?_) (a' := ?_) #[true, false, true, true, false, true, false, false, false, true, false, false, false, false, false] rfl rfl (by kernel_rfl) (fun _ _ _ h => h) (Or.inl ⟨by rfl, ?_⟩) ?_ ?_
      rotate_left
      · intro w'
        go_simp
        with_reducible rfl
      rotate_left
      · simp only [Act.put, List.setIfInBounds_toArray, List.set_cons_zero, List.set_cons_succ, i64_w, i32_w]
        rfl
      refine pure_ (i := 10) (N := some 93) (v := ?_) (a' := ?_) #[true, false, true, true, false, true, false, false, false, true, true, false, false, false, false] rfl rfl (by kernel_rfl) (fun _ _ _ h => h) (Or.inl ⟨by rfl, ?_⟩) ?_ ?_
      rotate_left
      · intro w'
        go_simp
        with_reducible rfl
      rotate_left
      · simp only [Act.put, List.setIfInBounds_toArray, List.set_cons_zero, List.set_cons_succ, i64_w, i32_w]
        rfl
      refine take_ (i := 1) (N := some 84) (v := ?_) (a' := ?_) #[true, true, true, true, false, true, false, false, false, true, true, false, false, false, false] rfl rfl (by kernel_rfl) (fun _ _ _ h => h) (Or.inl ⟨by rfl, ?_⟩) hHeld ?_ ?_
      rotate_left
      · rintro w' ⟨s0, s1, s2⟩
        go_simp
        with_reducible rfl
      rotate_left
      · simp only [Act.put, List.setIfInBounds_toArray, List.set_cons_zero, List.set_cons_succ, i64_w, i32_w]
        rfl
      refine take_ (i := 4) (N := some 87) (v := ?_) (a' := ?_) #[true, true, true, true, true, true, false, false, false, true, true, false, false, false, false] rfl rfl (by kernel_rfl) (fun _ _ _ h => h) (Or.inl ⟨by rfl, ?_⟩) hHeld ?_ ?_
      rotate_left
      · rintro w' ⟨s0, s1, s2⟩
        go_simp
        with_reducible rfl
      rotate_left
      · simp only [Act.put, List.setIfInBounds_toArray, List.set_cons_zero, List.set_cons_succ, i64_w, i32_w]
        rfl
      refine pure_ (i := 6) (N := some 89) (v := ?_) (a' := ?_) #[true, true, true, true, true, true, true, false, false, true, true, false, false, false, false] rfl rfl (by kernel_rfl) (fun _ _ _ h => h) (Or.inl ⟨by rfl, ?_⟩) ?_ ?_
      rotate_left
      · intro w'
        go_simp
        with_reducible rfl
      rotate_left
      · simp only [Act.put, List.setIfInBounds_toArray, List.set_cons_zero, List.set_cons_succ, i64_w, i32_w]
        rfl
      refine pure_ (i := 7) (N := some 90) (v := ?_) (a' := ?_) #[true, true, true, true, true, true, true, true, false, true, true, false, false, false, false] rfl rfl (by kernel_rfl) (fun _ _ _ h => h) (Or.inl ⟨by rfl, ?_⟩) ?_ ?_
      rotate_left
      · intro w'
        go_simp
        with_reducible rfl
      rotate_left
      · simp only [Act.put, List.setIfInBounds_toArray, List.set_cons_zero, List.set_cons_succ, i64_w, i32_w]
        rfl
      refine take_ (i := 8) (N := some 91) (v := ?_) (a' := ?_) #[true, true, true, true, true, true, true, true, true, true, true, false, false, false, false] rfl rfl (by kernel_rfl) (fun _ _ _ h => h) (Or.inl ⟨by rfl, ?_⟩) hHeld ?_ ?_
      rotate_left
      · rintro w' ⟨s0, s1, s2⟩
        go_simp
        with_reducible rfl
      rotate_left
      · simp only [Act.put, List.setIfInBounds_toArray, List.set_cons_zero, List.set_cons_succ, i64_w, i32_w]
        rfl
      refine one_ (i := 11) (N := some 94) #[true, true, true, true, true, true, true, true, true, true, true, true, false, false, false] rfl rfl (by kernel_rfl) (by decide) (fun K hK => ?_)
      refine goes_ Try.func55 (by kernel_rfl) rfl #[.int .i64 fb, .int .i64 (p : Int), .int .i64 (q : Int)] (by rfl) rfl rfl (by simp only [List.map_toArray, List.map_cons, List.map_nil]; rfl) ?_
      with_reducible refine (posserlaw03_swap.calls fb (p : Int) (q : Int) (sv fb) _ (HSV.out fb)).mono ?_
      rintro e Wx ⟨rfl, ⟨nd, rfl⟩⟩
      have hb := pw_below_drewN (Below.refl W7.heap.size W7) nd
      replace hcg9_1 := (hb.cell (World.block_lt_of_cell? _ _ hcg9_1)).trans hcg9_1
      replace hcg3_1 := (hb.cell (World.block_lt_of_cell? _ _ hcg3_1)).trans hcg3_1
      replace hcb1 := (hb.cell (World.block_lt_of_cell? _ _ hcb1)).trans hcb1
      have n0_ := Aside0.mk (below_step HB.out hb)
      have n1_ := Aside0.mk (blk_below BKg3.out hb)
      have n2_ := Aside0.mk (blk_below BKg9.out hb)
      have n3_ := Aside0.mk (blk_below BKgp.out hb)
      have n4_ := Aside0.mk (HX.out.below hb)
      clear HB
      clear BKg3
      clear BKg9
      clear BKgp
      clear HX
      have HB := n0_
      have BKg3 := n1_
      have BKg9 := n2_
      have BKgp := n3_
      have HX := n4_
      clear n0_ n1_ n2_ n3_ n4_
      clear hb
      generalize W7.drewN nd = W8 at *
      have hcp1 : W8.cell? ⟨gp, m * 2 + 1, none⟩ = some (.int .i64 fr) := (blk_cell BKgp.out (m * 2 + 1)).trans HQ1.out
      have hfp1 := blk_frozen BKgp.out (m * 2 + 1)
      refine ⟨_, rfl, ?_⟩
      refine hK.out _ _ ⟨hcg9_1, hcg3_1, hcb1⟩ (fun hHeld => ?_)
      clear hK K
      refine norm_ (a' := ?_) ?_ ?_
      rotate_left
      · show Act.put _ (some 94) _ = _
        simp only [Act.put, List.setIfInBounds_toArray, List.set_cons_zero, List.set_cons_succ, i64_w, i32_w]
        rfl
      refine pure_ (i := 12) (N := some 95) (v := ?_) (a' := ?_) #[true, true, true, true, true, true, true, true, true, true, true, true, true, false, false] rfl rfl (by kernel_rfl) (fun _ _ _ h => h) (Or.inl ⟨by rfl, ?_⟩) ?_ ?_
      rotate_left
      · intro w'
        go_simp
        with_reducible rfl
      rotate_left
      · simp only [Act.put, List.setIfInBounds_toArray, List.set_cons_zero, List.set_cons_succ, i64_w, i32_w]
        rfl
      refine pure_ (i := 13) (N := some 96) (v := ?_) (a' := ?_) #[true, true, true, true, true, true, true, true, true, true, true, true, true, true, false] rfl rfl (by kernel_rfl) (fun _ _ _ h => h) (Or.inl ⟨by rfl, ?_⟩) ?_ ?_
      rotate_left
      · intro w'
        go_simp
        with_reducible rfl
      rotate_left
      · simp only [Act.put, List.setIfInBounds_toArray, List.set_cons_zero, List.set_cons_succ, i64_w, i32_w]
        rfl
      refine last_ (i := 14) (N := none) #[true, true, true, true, true, true, true, true, true, true, true, true, true, true, true] rfl rfl (by kernel_rfl) (by decide) (fun K hK => ?_)
      refine skip_ (w1 := ?_) (by rfl) rfl ?_ ?_
      rotate_left
      · go_simp
        rfl
      skip
      (try replace BKg3 := Aside0.mk (blk_setCell (j := m * 2 + 1) BKg3.out BKgp.out (by decide) (.int .i64 (sv fb))))
      (try replace BKg9 := Aside0.mk (blk_setCell (j := m * 2 + 1) BKg9.out BKgp.out (by decide) (.int .i64 (sv fb))))
      (try replace HX := Aside0.mk (RX.setCell (j := m * 2 + 1) (u := .int .i64 (sv fb)) HX.out BKgp.out (by decide)))
      replace HB := Aside0.mk (HB.out.setCell (p := ⟨gp, m * 2 + 1, none⟩) GEgp.out (.int .i64 (sv fb)))
      replace BKgp := Aside0.mk (blk_put BKgp.out (m * 2 + 1) (.int .i64 (sv fb)) rfl)
      generalize W8.setCell ⟨gp, m * 2 + 1, none⟩ (.int .i64 (sv fb)) = W9 at *
      refine hK.out _ _ ?_
      clear hK K
      refine done_ (by kernel_rfl) ?_
      go_wp2
      have HP := Aside0.mk (show RX k71 71 w W9 w.heap.size (some ⟨gp, 0, none⟩) cP (ys (m + 1)) from ⟨by have := HPLE.out; rw [HYS1.out, List.length_set]; exact this, by have := HPSM.out; rw [HYS1.out, List.length_set]; exact this, .inr ⟨gp, _, rfl, GEgp.out, BKgp.out, by rw [HYS1.out]; exact HPC.out⟩⟩)
      go_roundg k1
      case measure => omega
      case rel => exact ⟨m + 1, by go_num, ⟨by have := HM.out; omega⟩, HB, BKg3, BKg9, HX, HP⟩
    · obtain rfl : m = l1.length := by have := HM.out; omega
      obtain ⟨W_, hWW⟩ : ∃ W_ : World, W_ = wr := ⟨_, rfl⟩
      subst hWW
      clear hcg9_1 HM
      have eyl := HYLL.out
      replace HP := Aside0.mk (show RX k71 71 w W_ w.heap.size AP cP yl from by rw [← HYE.out]; exact HP.out)
      replace BKg9 := Aside0.mk (show W_.heap[g9]? = some (.cells #[.slice AX xs.length cX, .slice AP yl.length cP, .int .i64 wg] 25 (0, 0)) from by rw [eyl]; exact BKg9.out)
      (try have hcg3_0 : W_.cell? ⟨g3, 0, none⟩ = some (.slice A0 l0.length c0) := (blk_cell BKg3.out 0).trans rfl)
      (try have hcg3_1 : W_.cell? ⟨g3, 1, none⟩ = some (.slice A1 l1.length c1) := (blk_cell BKg3.out 1).trans rfl)
      (try have hcg3_2 : W_.cell? ⟨g3, 2, none⟩ = some (.int .i64 wg) := (blk_cell BKg3.out 2).trans rfl)
      (try have hcg9_0 : W_.cell? ⟨g9, 0, none⟩ = some (.slice AX xs.length cX) := (blk_cell BKg9.out 0).trans rfl)
      (try have hcg9_1 : W_.cell? ⟨g9, 1, none⟩ = some (.slice AP yl.length cP) := (blk_cell BKg9.out 1).trans rfl)
      (try have hcg9_2 : W_.cell? ⟨g9, 2, none⟩ = some (.int .i64 wg) := (blk_cell BKg9.out 2).trans rfl)
      have hlty : ¬ (l1.length : Int) < (yl.length : Int) := by omega
      have hltd : decide ((l1.length : Int) < (yl.length : Int)) = false := decide_eq_false hlty
      clear eyl
      rcases HCS.out with ⟨he, hex⟩ | ⟨he, hex, hw, hu, hd, hd2⟩
      · have HE := Aside0.mk he
        have HEX := Aside0.mk hex
        clear he hex
        go_wp2_with (first | ((with_reducible refine gate_dst (N := 15) rfl ?_); refine box_event ?hg (N := 15) ?hd (cs := #[.int .i64 0, .int .i64 0]) (t := 55) ?hr ?_; (case hd => rfl); (case hg => rfl); (case hr => first | (go_simp; done) | (go_simp; rfl)); intro g15 hg W_ hbox hb; (try have NEg17_g15 := Aside0.mk (show g17 < g15 from by rw [hg]; exact blk_lt BKg17.out)); have GEg15 := Aside0.mk (by rw [hg]; exact HB.out.size : w.heap.size ≤ g15); (try clear hcg3_0 hcg3_1 hcg3_2); (try clear hcg9_0 hcg9_1 hcg9_2); (try clear hcg15_0 hcg15_1); (try replace HB := Aside0.mk (below_step HB.out hb)); (try replace HT := Aside0.mk (HT.out.below hb)); (try replace BKg3 := Aside0.mk (blk_below BKg3.out hb)); (try replace BKg9 := Aside0.mk (blk_below BKg9.out hb)); (try replace HX := Aside0.mk (HX.out.below hb)); (try replace HP := Aside0.mk (HP.out.below hb)); (try replace HW := Aside0.mk (Kd.R_below HW.out hb)); (try replace HU := Aside0.mk (Kd.R_below HU.out hb)); (try replace BKg15 := Aside0.mk (blk_below BKg15.out hb)); (try replace BKg17 := Aside0.mk (blk_below BKg17.out hb)); (try replace HL := Aside0.mk (Kd.R_below HL.out hb)); (try replace HM := Aside0.mk (Kd.R_below HM.out hb)); have BKg15 := Aside0.mk hbox; clear hb hbox hg; (try have hcg3_0 : W_.cell? ⟨g3, 0, none⟩ = some (.slice A0 l0.length c0) := (blk_cell BKg3.out 0).trans rfl); (try have hcg3_1 : W_.cell? ⟨g3, 1, none⟩ = some (.slice A1 l1.length c1) := (blk_cell BKg3.out 1).trans rfl); (try have hcg3_2 : W_.cell? ⟨g3, 2, none⟩ = some (.int .i64 wg) := (blk_cell BKg3.out 2).trans rfl); (try have hcg9_0 : W_.cell? ⟨g9, 0, none⟩ = some (.slice AX xs.length cX) := (blk_cell BKg9.out 0).trans rfl); (try have hcg9_1 : W_.cell? ⟨g9, 1, none⟩ = some (.slice AP yl.length cP) := (blk_cell BKg9.out 1).trans rfl); (try have hcg9_2 : W_.cell? ⟨g9, 2, none⟩ = some (.int .i64 wg) := (blk_cell BKg9.out 2).trans rfl); (try have hcg15_0 : W_.cell? ⟨g15, 0, none⟩ = some (.int .i64 0) := (blk_cell BKg15.out 0).trans rfl); (try have hcg15_1 : W_.cell? ⟨g15, 1, none⟩ = some (.int .i64 0) := (blk_cell BKg15.out 1).trans rfl)) | ((with_reducible refine gate_store (t := 55) (p := 15) rfl ?_); go_must (refine wpList_store_row rfl 55 _ _ rfl g15 #[.int .i64 0, .int .i64 0] rfl rfl 55 (#[.int .i64 0, .int .i64 0]) BKg15.out rfl rfl (by simp [Value.oneCell']) ?_; (try clear hcg3_0 hcg3_1 hcg3_2); (try clear hcg9_0 hcg9_1 hcg9_2); (try clear hcg15_0 hcg15_1); (try clear HT); (try replace BKg3 := Aside0.mk (blk_setRow BKg3.out BKg15.out (by decide) (#[.int .i64 0, .int .i64 0]))); (try replace BKg9 := Aside0.mk (blk_setRow BKg9.out BKg15.out (by decide) (#[.int .i64 0, .int .i64 0]))); (try replace HX := Aside0.mk (RX.setRow (us := #[.int .i64 0, .int .i64 0]) HX.out BKg15.out (by decide))); (try replace HP := Aside0.mk (RX.setRow (us := #[.int .i64 0, .int .i64 0]) HP.out BKg15.out (by decide))); (try replace HW := Aside0.mk (row_setRow HW.out BKg15.out (by decide) (#[.int .i64 0, .int .i64 0]))); (try replace HU := Aside0.mk (row_setRow HU.out BKg15.out (by decide) (#[.int .i64 0, .int .i64 0]))); (try replace BKg17 := Aside0.mk ((setRow_other W_ g15 g17 (#[.int .i64 0, .int .i64 0]) (by first | exact Nat.ne_of_lt NEg17_g15.out | exact Nat.ne_of_gt NEg15_g17.out)).trans BKg17.out)); (try replace HL := Aside0.mk (row_setRow HL.out BKg15.out (by decide) (#[.int .i64 0, .int .i64 0]))); (try replace HM := Aside0.mk (row_setRow HM.out BKg15.out (by decide) (#[.int .i64 0, .int .i64 0]))); replace HB := Aside0.mk (below_setRow HB.out GEg15.out (#[.int .i64 0, .int .i64 0])); replace BKg15 := Aside0.mk (setRow_heap W_ g15 _ (#[.int .i64 0, .int .i64 0]) _ _ BKg15.out); generalize W_.setRow g15 (#[.int .i64 0, .int .i64 0]) = W_ at *; (try have hcg3_0 : W_.cell? ⟨g3, 0, none⟩ = some (.slice A0 l0.length c0) := (blk_cell BKg3.out 0).trans rfl); (try have hcg3_1 : W_.cell? ⟨g3, 1, none⟩ = some (.slice A1 l1.length c1) := (blk_cell BKg3.out 1).trans rfl); (try have hcg3_2 : W_.cell? ⟨g3, 2, none⟩ = some (.int .i64 wg) := (blk_cell BKg3.out 2).trans rfl); (try have hcg9_0 : W_.cell? ⟨g9, 0, none⟩ = some (.slice AX xs.length cX) := (blk_cell BKg9.out 0).trans rfl); (try have hcg9_1 : W_.cell? ⟨g9, 1, none⟩ = some (.slice AP yl.length cP) := (blk_cell BKg9.out 1).trans rfl); (try have hcg9_2 : W_.cell? ⟨g9, 2, none⟩ = some (.int .i64 wg) := (blk_cell BKg9.out 2).trans rfl); (try have hcg15_0 : W_.cell? ⟨g15, 0, none⟩ = some (.int .i64 0) := (blk_cell BKg15.out 0).trans rfl); (try have hcg15_1 : W_.cell? ⟨g15, 1, none⟩ = some (.int .i64 0) := (blk_cell BKg15.out 1).trans rfl))) | ((with_reducible refine gate_dst (N := 17) rfl ?_); refine box_event ?hg (N := 17) ?hd (cs := #[.int .i64 0, .int .i64 0]) (t := 55) ?hr ?_; (case hd => rfl); (case hg => rfl); (case hr => first | (go_simp; done) | (go_simp; rfl)); intro g17 hg W_ hbox hb; (try have NEg15_g17 := Aside0.mk (show g15 < g17 from by rw [hg]; exact blk_lt BKg15.out)); have GEg17 := Aside0.mk (by rw [hg]; exact HB.out.size : w.heap.size ≤ g17); (try clear hcg3_0 hcg3_1 hcg3_2); (try clear hcg9_0 hcg9_1 hcg9_2); (try clear hcg15_0 hcg15_1); (try clear hcg17_0 hcg17_1); (try replace HB := Aside0.mk (below_step HB.out hb)); (try replace HT := Aside0.mk (HT.out.below hb)); (try replace BKg3 := Aside0.mk (blk_below BKg3.out hb)); (try replace BKg9 := Aside0.mk (blk_below BKg9.out hb)); (try replace HX := Aside0.mk (HX.out.below hb)); (try replace HP := Aside0.mk (HP.out.below hb)); (try replace HW := Aside0.mk (Kd.R_below HW.out hb)); (try replace HU := Aside0.mk (Kd.R_below HU.out hb)); (try replace BKg15 := Aside0.mk (blk_below BKg15.out hb)); (try replace BKg17 := Aside0.mk (blk_below BKg17.out hb)); (try replace HL := Aside0.mk (Kd.R_below HL.out hb)); (try replace HM := Aside0.mk (Kd.R_below HM.out hb)); have BKg17 := Aside0.mk hbox; clear hb hbox hg; (try have hcg3_0 : W_.cell? ⟨g3, 0, none⟩ = some (.slice A0 l0.length c0) := (blk_cell BKg3.out 0).trans rfl); (try have hcg3_1 : W_.cell? ⟨g3, 1, none⟩ = some (.slice A1 l1.length c1) := (blk_cell BKg3.out 1).trans rfl); (try have hcg3_2 : W_.cell? ⟨g3, 2, none⟩ = some (.int .i64 wg) := (blk_cell BKg3.out 2).trans rfl); (try have hcg9_0 : W_.cell? ⟨g9, 0, none⟩ = some (.slice AX xs.length cX) := (blk_cell BKg9.out 0).trans rfl); (try have hcg9_1 : W_.cell? ⟨g9, 1, none⟩ = some (.slice AP yl.length cP) := (blk_cell BKg9.out 1).trans rfl); (try have hcg9_2 : W_.cell? ⟨g9, 2, none⟩ = some (.int .i64 wg) := (blk_cell BKg9.out 2).trans rfl); (try have hcg15_0 : W_.cell? ⟨g15, 0, none⟩ = some (.int .i64 0) := (blk_cell BKg15.out 0).trans rfl); (try have hcg15_1 : W_.cell? ⟨g15, 1, none⟩ = some (.int .i64 0) := (blk_cell BKg15.out 1).trans rfl); (try have hcg17_0 : W_.cell? ⟨g17, 0, none⟩ = some (.int .i64 0) := (blk_cell BKg17.out 0).trans rfl); (try have hcg17_1 : W_.cell? ⟨g17, 1, none⟩ = some (.int .i64 0) := (blk_cell BKg17.out 1).trans rfl)) | ((with_reducible refine gate_store (t := 55) (p := 17) rfl ?_); go_must (refine wpList_store_row rfl 55 _ _ rfl g17 #[.int .i64 0, .int .i64 0] rfl rfl 55 (#[.int .i64 0, .int .i64 0]) BKg17.out rfl rfl (by simp [Value.oneCell']) ?_; (try clear hcg3_0 hcg3_1 hcg3_2); (try clear hcg9_0 hcg9_1 hcg9_2); (try clear hcg15_0 hcg15_1); (try clear hcg17_0 hcg17_1); (try clear HT); (try replace BKg3 := Aside0.mk (blk_setRow BKg3.out BKg17.out (by decide) (#[.int .i64 0, .int .i64 0]))); (try replace BKg9 := Aside0.mk (blk_setRow BKg9.out BKg17.out (by decide) (#[.int .i64 0, .int .i64 0]))); (try replace HX := Aside0.mk (RX.setRow (us := #[.int .i64 0, .int .i64 0]) HX.out BKg17.out (by decide))); (try replace HP := Aside0.mk (RX.setRow (us := #[.int .i64 0, .int .i64 0]) HP.out BKg17.out (by decide))); (try replace HW := Aside0.mk (row_setRow HW.out BKg17.out (by decide) (#[.int .i64 0, .int .i64 0]))); (try replace HU := Aside0.mk (row_setRow HU.out BKg17.out (by decide) (#[.int .i64 0, .int .i64 0]))); (try replace BKg15 := Aside0.mk ((setRow_other W_ g17 g15 (#[.int .i64 0, .int .i64 0]) (by first | exact Nat.ne_of_lt NEg15_g17.out | exact Nat.ne_of_gt NEg17_g15.out)).trans BKg15.out)); (try replace HL := Aside0.mk (row_setRow HL.out BKg17.out (by decide) (#[.int .i64 0, .int .i64 0]))); (try replace HM := Aside0.mk (row_setRow HM.out BKg17.out (by decide) (#[.int .i64 0, .int .i64 0]))); replace HB := Aside0.mk (below_setRow HB.out GEg17.out (#[.int .i64 0, .int .i64 0])); replace BKg17 := Aside0.mk (setRow_heap W_ g17 _ (#[.int .i64 0, .int .i64 0]) _ _ BKg17.out); generalize W_.setRow g17 (#[.int .i64 0, .int .i64 0]) = W_ at *; (try have hcg3_0 : W_.cell? ⟨g3, 0, none⟩ = some (.slice A0 l0.length c0) := (blk_cell BKg3.out 0).trans rfl); (try have hcg3_1 : W_.cell? ⟨g3, 1, none⟩ = some (.slice A1 l1.length c1) := (blk_cell BKg3.out 1).trans rfl); (try have hcg3_2 : W_.cell? ⟨g3, 2, none⟩ = some (.int .i64 wg) := (blk_cell BKg3.out 2).trans rfl); (try have hcg9_0 : W_.cell? ⟨g9, 0, none⟩ = some (.slice AX xs.length cX) := (blk_cell BKg9.out 0).trans rfl); (try have hcg9_1 : W_.cell? ⟨g9, 1, none⟩ = some (.slice AP yl.length cP) := (blk_cell BKg9.out 1).trans rfl); (try have hcg9_2 : W_.cell? ⟨g9, 2, none⟩ = some (.int .i64 wg) := (blk_cell BKg9.out 2).trans rfl); (try have hcg15_0 : W_.cell? ⟨g15, 0, none⟩ = some (.int .i64 0) := (blk_cell BKg15.out 0).trans rfl); (try have hcg15_1 : W_.cell? ⟨g15, 1, none⟩ = some (.int .i64 0) := (blk_cell BKg15.out 1).trans rfl); (try have hcg17_0 : W_.cell? ⟨g17, 0, none⟩ = some (.int .i64 0) := (blk_cell BKg17.out 0).trans rfl); (try have hcg17_1 : W_.cell? ⟨g17, 1, none⟩ = some (.int .i64 0) := (blk_cell BKg17.out 1).trans rfl))) | (go_at_call 23; go_must (first | ((with_reducible refine (tab_c _ (HRT.out.below HB.out) HL0.out HL1.out).mono ?_); rintro e W_ ⟨B0, d0, B1, d1, rfl, ht, hb⟩; (try clear hcg3_0 hcg3_1 hcg3_2); (try clear hcg9_0 hcg9_1 hcg9_2); (try clear hcg15_0 hcg15_1); (try clear hcg17_0 hcg17_1); (try replace HB := Aside0.mk (below_step HB.out hb)); (try replace HT := Aside0.mk (HT.out.below hb)); (try replace BKg3 := Aside0.mk (blk_below BKg3.out hb)); (try replace BKg9 := Aside0.mk (blk_below BKg9.out hb)); (try replace HX := Aside0.mk (HX.out.below hb)); (try replace HP := Aside0.mk (HP.out.below hb)); (try replace HW := Aside0.mk (Kd.R_below HW.out hb)); (try replace HU := Aside0.mk (Kd.R_below HU.out hb)); (try replace BKg15 := Aside0.mk (blk_below BKg15.out hb)); (try replace BKg17 := Aside0.mk (blk_below BKg17.out hb)); (try replace HL := Aside0.mk (Kd.R_below HL.out hb)); (try replace HM := Aside0.mk (Kd.R_below HM.out hb)); (try clear HT); have HT := Aside0.mk ht; clear ht; clear hb; (try have hcg3_0 : W_.cell? ⟨g3, 0, none⟩ = some (.slice A0 l0.length c0) := (blk_cell BKg3.out 0).trans rfl); (try have hcg3_1 : W_.cell? ⟨g3, 1, none⟩ = some (.slice A1 l1.length c1) := (blk_cell BKg3.out 1).trans rfl); (try have hcg3_2 : W_.cell? ⟨g3, 2, none⟩ = some (.int .i64 wg) := (blk_cell BKg3.out 2).trans rfl); (try have hcg9_0 : W_.cell? ⟨g9, 0, none⟩ = some (.slice AX xs.length cX) := (blk_cell BKg9.out 0).trans rfl); (try have hcg9_1 : W_.cell? ⟨g9, 1, none⟩ = some (.slice AP yl.length cP) := (blk_cell BKg9.out 1).trans rfl); (try have hcg9_2 : W_.cell? ⟨g9, 2, none⟩ = some (.int .i64 wg) := (blk_cell BKg9.out 2).trans rfl); (try have hcg15_0 : W_.cell? ⟨g15, 0, none⟩ = some (.int .i64 0) := (blk_cell BKg15.out 0).trans rfl); (try have hcg15_1 : W_.cell? ⟨g15, 1, none⟩ = some (.int .i64 0) := (blk_cell BKg15.out 1).trans rfl); (try have hcg17_0 : W_.cell? ⟨g17, 0, none⟩ = some (.int .i64 0) := (blk_cell BKg17.out 0).trans rfl); (try have hcg17_1 : W_.cell? ⟨g17, 1, none⟩ = some (.int .i64 0) := (blk_cell BKg17.out 1).trans rfl)) | ((with_reducible refine (tab_c _ (rtabWP HB.out HX.out HP.out HX30.out HY30.out HYM.out) HLX.out HLY.out).mono ?_); rintro e W_ ⟨B0, d0, B1, d1, rfl, ht, hb⟩; (try clear hcg3_0 hcg3_1 hcg3_2); (try clear hcg9_0 hcg9_1 hcg9_2); (try clear hcg15_0 hcg15_1); (try clear hcg17_0 hcg17_1); (try replace HB := Aside0.mk (below_step HB.out hb)); (try replace HT := Aside0.mk (HT.out.below hb)); (try replace BKg3 := Aside0.mk (blk_below BKg3.out hb)); (try replace BKg9 := Aside0.mk (blk_below BKg9.out hb)); (try replace HX := Aside0.mk (HX.out.below hb)); (try replace HP := Aside0.mk (HP.out.below hb)); (try replace HW := Aside0.mk (Kd.R_below HW.out hb)); (try replace HU := Aside0.mk (Kd.R_below HU.out hb)); (try replace BKg15 := Aside0.mk (blk_below BKg15.out hb)); (try replace BKg17 := Aside0.mk (blk_below BKg17.out hb)); (try replace HL := Aside0.mk (Kd.R_below HL.out hb)); (try replace HM := Aside0.mk (Kd.R_below HM.out hb)); (try clear HT); have HT := Aside0.mk ht; clear ht; clear hb; (try have hcg3_0 : W_.cell? ⟨g3, 0, none⟩ = some (.slice A0 l0.length c0) := (blk_cell BKg3.out 0).trans rfl); (try have hcg3_1 : W_.cell? ⟨g3, 1, none⟩ = some (.slice A1 l1.length c1) := (blk_cell BKg3.out 1).trans rfl); (try have hcg3_2 : W_.cell? ⟨g3, 2, none⟩ = some (.int .i64 wg) := (blk_cell BKg3.out 2).trans rfl); (try have hcg9_0 : W_.cell? ⟨g9, 0, none⟩ = some (.slice AX xs.length cX) := (blk_cell BKg9.out 0).trans rfl); (try have hcg9_1 : W_.cell? ⟨g9, 1, none⟩ = some (.slice AP yl.length cP) := (blk_cell BKg9.out 1).trans rfl); (try have hcg9_2 : W_.cell? ⟨g9, 2, none⟩ = some (.int .i64 wg) := (blk_cell BKg9.out 2).trans rfl); (try have hcg15_0 : W_.cell? ⟨g15, 0, none⟩ = some (.int .i64 0) := (blk_cell BKg15.out 0).trans rfl); (try have hcg15_1 : W_.cell? ⟨g15, 1, none⟩ = some (.int .i64 0) := (blk_cell BKg15.out 1).trans rfl); (try have hcg17_0 : W_.cell? ⟨g17, 0, none⟩ = some (.int .i64 0) := (blk_cell BKg17.out 0).trans rfl); (try have hcg17_1 : W_.cell? ⟨g17, 1, none⟩ = some (.int .i64 0) := (blk_cell BKg17.out 1).trans rfl)))) | (go_at_call 32; go_must (first | ((with_reducible refine (leave_c _ HT.out HCK.out HSL.out).mono ?_); rintro e W_ ⟨v_, rfl, ho, hb⟩; (try clear hcg3_0 hcg3_1 hcg3_2); (try clear hcg9_0 hcg9_1 hcg9_2); (try clear hcg15_0 hcg15_1); (try clear hcg17_0 hcg17_1); (try replace HB := Aside0.mk (below_step HB.out hb)); (try replace HT := Aside0.mk (HT.out.below hb)); (try replace BKg3 := Aside0.mk (blk_below BKg3.out hb)); (try replace BKg9 := Aside0.mk (blk_below BKg9.out hb)); (try replace HX := Aside0.mk (HX.out.below hb)); (try replace HP := Aside0.mk (HP.out.below hb)); (try replace HW := Aside0.mk (Kd.R_below HW.out hb)); (try replace HU := Aside0.mk (Kd.R_below HU.out hb)); (try replace BKg15 := Aside0.mk (blk_below BKg15.out hb)); (try replace BKg17 := Aside0.mk (blk_below BKg17.out hb)); (try replace HL := Aside0.mk (Kd.R_below HL.out hb)); (try replace HM := Aside0.mk (Kd.R_below HM.out hb)); have HL := Aside0.mk ho; obtain ⟨AHL, cHL, eHL⟩ := Kd.R_slice HL.out; subst eHL; clear ho; clear hb; (try have hcg3_0 : W_.cell? ⟨g3, 0, none⟩ = some (.slice A0 l0.length c0) := (blk_cell BKg3.out 0).trans rfl); (try have hcg3_1 : W_.cell? ⟨g3, 1, none⟩ = some (.slice A1 l1.length c1) := (blk_cell BKg3.out 1).trans rfl); (try have hcg3_2 : W_.cell? ⟨g3, 2, none⟩ = some (.int .i64 wg) := (blk_cell BKg3.out 2).trans rfl); (try have hcg9_0 : W_.cell? ⟨g9, 0, none⟩ = some (.slice AX xs.length cX) := (blk_cell BKg9.out 0).trans rfl); (try have hcg9_1 : W_.cell? ⟨g9, 1, none⟩ = some (.slice AP yl.length cP) := (blk_cell BKg9.out 1).trans rfl); (try have hcg9_2 : W_.cell? ⟨g9, 2, none⟩ = some (.int .i64 wg) := (blk_cell BKg9.out 2).trans rfl); (try have hcg15_0 : W_.cell? ⟨g15, 0, none⟩ = some (.int .i64 0) := (blk_cell BKg15.out 0).trans rfl); (try have hcg15_1 : W_.cell? ⟨g15, 1, none⟩ = some (.int .i64 0) := (blk_cell BKg15.out 1).trans rfl); (try have hcg17_0 : W_.cell? ⟨g17, 0, none⟩ = some (.int .i64 0) := (blk_cell BKg17.out 0).trans rfl); (try have hcg17_1 : W_.cell? ⟨g17, 1, none⟩ = some (.int .i64 0) := (blk_cell BKg17.out 1).trans rfl)) | ((with_reducible refine (leave_c _ HT.out HCX.out HSM.out).mono ?_); rintro e W_ ⟨v_, rfl, ho, hb⟩; (try clear hcg3_0 hcg3_1 hcg3_2); (try clear hcg9_0 hcg9_1 hcg9_2); (try clear hcg15_0 hcg15_1); (try clear hcg17_0 hcg17_1); (try replace HB := Aside0.mk (below_step HB.out hb)); (try replace HT := Aside0.mk (HT.out.below hb)); (try replace BKg3 := Aside0.mk (blk_below BKg3.out hb)); (try replace BKg9 := Aside0.mk (blk_below BKg9.out hb)); (try replace HX := Aside0.mk (HX.out.below hb)); (try replace HP := Aside0.mk (HP.out.below hb)); (try replace HW := Aside0.mk (Kd.R_below HW.out hb)); (try replace HU := Aside0.mk (Kd.R_below HU.out hb)); (try replace BKg15 := Aside0.mk (blk_below BKg15.out hb)); (try replace BKg17 := Aside0.mk (blk_below BKg17.out hb)); (try replace HL := Aside0.mk (Kd.R_below HL.out hb)); (try replace HM := Aside0.mk (Kd.R_below HM.out hb)); have HM := Aside0.mk ho; obtain ⟨AHM, cHM, eHM⟩ := Kd.R_slice HM.out; subst eHM; clear ho; clear hb; (try have hcg3_0 : W_.cell? ⟨g3, 0, none⟩ = some (.slice A0 l0.length c0) := (blk_cell BKg3.out 0).trans rfl); (try have hcg3_1 : W_.cell? ⟨g3, 1, none⟩ = some (.slice A1 l1.length c1) := (blk_cell BKg3.out 1).trans rfl); (try have hcg3_2 : W_.cell? ⟨g3, 2, none⟩ = some (.int .i64 wg) := (blk_cell BKg3.out 2).trans rfl); (try have hcg9_0 : W_.cell? ⟨g9, 0, none⟩ = some (.slice AX xs.length cX) := (blk_cell BKg9.out 0).trans rfl); (try have hcg9_1 : W_.cell? ⟨g9, 1, none⟩ = some (.slice AP yl.length cP) := (blk_cell BKg9.out 1).trans rfl); (try have hcg9_2 : W_.cell? ⟨g9, 2, none⟩ = some (.int .i64 wg) := (blk_cell BKg9.out 2).trans rfl); (try have hcg15_0 : W_.cell? ⟨g15, 0, none⟩ = some (.int .i64 0) := (blk_cell BKg15.out 0).trans rfl); (try have hcg15_1 : W_.cell? ⟨g15, 1, none⟩ = some (.int .i64 0) := (blk_cell BKg15.out 1).trans rfl); (try have hcg17_0 : W_.cell? ⟨g17, 0, none⟩ = some (.int .i64 0) := (blk_cell BKg17.out 0).trans rfl); (try have hcg17_1 : W_.cell? ⟨g17, 1, none⟩ = some (.int .i64 0) := (blk_cell BKg17.out 1).trans rfl)))) | (go_at_call 22; go_must (first | ((with_reducible refine (whose_n _ HT.out HE.out).mono ?_); rintro e W_ ⟨rfl, hb⟩; (try clear hcg3_0 hcg3_1 hcg3_2); (try clear hcg9_0 hcg9_1 hcg9_2); (try clear hcg15_0 hcg15_1); (try clear hcg17_0 hcg17_1); (try replace HB := Aside0.mk (below_step HB.out hb)); (try replace HT := Aside0.mk (HT.out.below hb)); (try replace BKg3 := Aside0.mk (blk_below BKg3.out hb)); (try replace BKg9 := Aside0.mk (blk_below BKg9.out hb)); (try replace HX := Aside0.mk (HX.out.below hb)); (try replace HP := Aside0.mk (HP.out.below hb)); (try replace HW := Aside0.mk (Kd.R_below HW.out hb)); (try replace HU := Aside0.mk (Kd.R_below HU.out hb)); (try replace BKg15 := Aside0.mk (blk_below BKg15.out hb)); (try replace BKg17 := Aside0.mk (blk_below BKg17.out hb)); (try replace HL := Aside0.mk (Kd.R_below HL.out hb)); (try replace HM := Aside0.mk (Kd.R_below HM.out hb)); skip; clear hb; (try have hcg3_0 : W_.cell? ⟨g3, 0, none⟩ = some (.slice A0 l0.length c0) := (blk_cell BKg3.out 0).trans rfl); (try have hcg3_1 : W_.cell? ⟨g3, 1, none⟩ = some (.slice A1 l1.length c1) := (blk_cell BKg3.out 1).trans rfl); (try have hcg3_2 : W_.cell? ⟨g3, 2, none⟩ = some (.int .i64 wg) := (blk_cell BKg3.out 2).trans rfl); (try have hcg9_0 : W_.cell? ⟨g9, 0, none⟩ = some (.slice AX xs.length cX) := (blk_cell BKg9.out 0).trans rfl); (try have hcg9_1 : W_.cell? ⟨g9, 1, none⟩ = some (.slice AP yl.length cP) := (blk_cell BKg9.out 1).trans rfl); (try have hcg9_2 : W_.cell? ⟨g9, 2, none⟩ = some (.int .i64 wg) := (blk_cell BKg9.out 2).trans rfl); (try have hcg15_0 : W_.cell? ⟨g15, 0, none⟩ = some (.int .i64 0) := (blk_cell BKg15.out 0).trans rfl); (try have hcg15_1 : W_.cell? ⟨g15, 1, none⟩ = some (.int .i64 0) := (blk_cell BKg15.out 1).trans rfl); (try have hcg17_0 : W_.cell? ⟨g17, 0, none⟩ = some (.int .i64 0) := (blk_cell BKg17.out 0).trans rfl); (try have hcg17_1 : W_.cell? ⟨g17, 1, none⟩ = some (.int .i64 0) := (blk_cell BKg17.out 1).trans rfl)) | ((with_reducible refine (whose_n _ HT.out HEX.out).mono ?_); rintro e W_ ⟨rfl, hb⟩; (try clear hcg3_0 hcg3_1 hcg3_2); (try clear hcg9_0 hcg9_1 hcg9_2); (try clear hcg15_0 hcg15_1); (try clear hcg17_0 hcg17_1); (try replace HB := Aside0.mk (below_step HB.out hb)); (try replace HT := Aside0.mk (HT.out.below hb)); (try replace BKg3 := Aside0.mk (blk_below BKg3.out hb)); (try replace BKg9 := Aside0.mk (blk_below BKg9.out hb)); (try replace HX := Aside0.mk (HX.out.below hb)); (try replace HP := Aside0.mk (HP.out.below hb)); (try replace HW := Aside0.mk (Kd.R_below HW.out hb)); (try replace HU := Aside0.mk (Kd.R_below HU.out hb)); (try replace BKg15 := Aside0.mk (blk_below BKg15.out hb)); (try replace BKg17 := Aside0.mk (blk_below BKg17.out hb)); (try replace HL := Aside0.mk (Kd.R_below HL.out hb)); (try replace HM := Aside0.mk (Kd.R_below HM.out hb)); skip; clear hb; (try have hcg3_0 : W_.cell? ⟨g3, 0, none⟩ = some (.slice A0 l0.length c0) := (blk_cell BKg3.out 0).trans rfl); (try have hcg3_1 : W_.cell? ⟨g3, 1, none⟩ = some (.slice A1 l1.length c1) := (blk_cell BKg3.out 1).trans rfl); (try have hcg3_2 : W_.cell? ⟨g3, 2, none⟩ = some (.int .i64 wg) := (blk_cell BKg3.out 2).trans rfl); (try have hcg9_0 : W_.cell? ⟨g9, 0, none⟩ = some (.slice AX xs.length cX) := (blk_cell BKg9.out 0).trans rfl); (try have hcg9_1 : W_.cell? ⟨g9, 1, none⟩ = some (.slice AP yl.length cP) := (blk_cell BKg9.out 1).trans rfl); (try have hcg9_2 : W_.cell? ⟨g9, 2, none⟩ = some (.int .i64 wg) := (blk_cell BKg9.out 2).trans rfl); (try have hcg15_0 : W_.cell? ⟨g15, 0, none⟩ = some (.int .i64 0) := (blk_cell BKg15.out 0).trans rfl); (try have hcg15_1 : W_.cell? ⟨g15, 1, none⟩ = some (.int .i64 0) := (blk_cell BKg15.out 1).trans rfl); (try have hcg17_0 : W_.cell? ⟨g17, 0, none⟩ = some (.int .i64 0) := (blk_cell BKg17.out 0).trans rfl); (try have hcg17_1 : W_.cell? ⟨g17, 1, none⟩ = some (.int .i64 0) := (blk_cell BKg17.out 1).trans rfl)))) | (go_at_call 37; go_must (first | ((with_reducible refine (ast_n _ HT.out HE.out).mono ?_); rintro e W_ ⟨rfl, hb⟩; (try clear hcg3_0 hcg3_1 hcg3_2); (try clear hcg9_0 hcg9_1 hcg9_2); (try clear hcg15_0 hcg15_1); (try clear hcg17_0 hcg17_1); (try replace HB := Aside0.mk (below_step HB.out hb)); (try replace HT := Aside0.mk (HT.out.below hb)); (try replace BKg3 := Aside0.mk (blk_below BKg3.out hb)); (try replace BKg9 := Aside0.mk (blk_below BKg9.out hb)); (try replace HX := Aside0.mk (HX.out.below hb)); (try replace HP := Aside0.mk (HP.out.below hb)); (try replace HW := Aside0.mk (Kd.R_below HW.out hb)); (try replace HU := Aside0.mk (Kd.R_below HU.out hb)); (try replace BKg15 := Aside0.mk (blk_below BKg15.out hb)); (try replace BKg17 := Aside0.mk (blk_below BKg17.out hb)); (try replace HL := Aside0.mk (Kd.R_below HL.out hb)); (try replace HM := Aside0.mk (Kd.R_below HM.out hb)); skip; clear hb; (try have hcg3_0 : W_.cell? ⟨g3, 0, none⟩ = some (.slice A0 l0.length c0) := (blk_cell BKg3.out 0).trans rfl); (try have hcg3_1 : W_.cell? ⟨g3, 1, none⟩ = some (.slice A1 l1.length c1) := (blk_cell BKg3.out 1).trans rfl); (try have hcg3_2 : W_.cell? ⟨g3, 2, none⟩ = some (.int .i64 wg) := (blk_cell BKg3.out 2).trans rfl); (try have hcg9_0 : W_.cell? ⟨g9, 0, none⟩ = some (.slice AX xs.length cX) := (blk_cell BKg9.out 0).trans rfl); (try have hcg9_1 : W_.cell? ⟨g9, 1, none⟩ = some (.slice AP yl.length cP) := (blk_cell BKg9.out 1).trans rfl); (try have hcg9_2 : W_.cell? ⟨g9, 2, none⟩ = some (.int .i64 wg) := (blk_cell BKg9.out 2).trans rfl); (try have hcg15_0 : W_.cell? ⟨g15, 0, none⟩ = some (.int .i64 0) := (blk_cell BKg15.out 0).trans rfl); (try have hcg15_1 : W_.cell? ⟨g15, 1, none⟩ = some (.int .i64 0) := (blk_cell BKg15.out 1).trans rfl); (try have hcg17_0 : W_.cell? ⟨g17, 0, none⟩ = some (.int .i64 0) := (blk_cell BKg17.out 0).trans rfl); (try have hcg17_1 : W_.cell? ⟨g17, 1, none⟩ = some (.int .i64 0) := (blk_cell BKg17.out 1).trans rfl)) | ((with_reducible refine (ast_n _ HT.out HEX.out).mono ?_); rintro e W_ ⟨rfl, hb⟩; (try clear hcg3_0 hcg3_1 hcg3_2); (try clear hcg9_0 hcg9_1 hcg9_2); (try clear hcg15_0 hcg15_1); (try clear hcg17_0 hcg17_1); (try replace HB := Aside0.mk (below_step HB.out hb)); (try replace HT := Aside0.mk (HT.out.below hb)); (try replace BKg3 := Aside0.mk (blk_below BKg3.out hb)); (try replace BKg9 := Aside0.mk (blk_below BKg9.out hb)); (try replace HX := Aside0.mk (HX.out.below hb)); (try replace HP := Aside0.mk (HP.out.below hb)); (try replace HW := Aside0.mk (Kd.R_below HW.out hb)); (try replace HU := Aside0.mk (Kd.R_below HU.out hb)); (try replace BKg15 := Aside0.mk (blk_below BKg15.out hb)); (try replace BKg17 := Aside0.mk (blk_below BKg17.out hb)); (try replace HL := Aside0.mk (Kd.R_below HL.out hb)); (try replace HM := Aside0.mk (Kd.R_below HM.out hb)); skip; clear hb; (try have hcg3_0 : W_.cell? ⟨g3, 0, none⟩ = some (.slice A0 l0.length c0) := (blk_cell BKg3.out 0).trans rfl); (try have hcg3_1 : W_.cell? ⟨g3, 1, none⟩ = some (.slice A1 l1.length c1) := (blk_cell BKg3.out 1).trans rfl); (try have hcg3_2 : W_.cell? ⟨g3, 2, none⟩ = some (.int .i64 wg) := (blk_cell BKg3.out 2).trans rfl); (try have hcg9_0 : W_.cell? ⟨g9, 0, none⟩ = some (.slice AX xs.length cX) := (blk_cell BKg9.out 0).trans rfl); (try have hcg9_1 : W_.cell? ⟨g9, 1, none⟩ = some (.slice AP yl.length cP) := (blk_cell BKg9.out 1).trans rfl); (try have hcg9_2 : W_.cell? ⟨g9, 2, none⟩ = some (.int .i64 wg) := (blk_cell BKg9.out 2).trans rfl); (try have hcg15_0 : W_.cell? ⟨g15, 0, none⟩ = some (.int .i64 0) := (blk_cell BKg15.out 0).trans rfl); (try have hcg15_1 : W_.cell? ⟨g15, 1, none⟩ = some (.int .i64 0) := (blk_cell BKg15.out 1).trans rfl); (try have hcg17_0 : W_.cell? ⟨g17, 0, none⟩ = some (.int .i64 0) := (blk_cell BKg17.out 0).trans rfl); (try have hcg17_1 : W_.cell? ⟨g17, 1, none⟩ = some (.int .i64 0) := (blk_cell BKg17.out 1).trans rfl)))) | (go_at_call 21; go_must (refine (awake_calls _).mono ?_; rintro e W_ ⟨rfl, hb⟩; (try clear hcg3_0 hcg3_1 hcg3_2); (try clear hcg9_0 hcg9_1 hcg9_2); (try clear hcg15_0 hcg15_1); (try clear hcg17_0 hcg17_1); (try replace HB := Aside0.mk (below_step HB.out hb)); (try replace HT := Aside0.mk (HT.out.below hb)); (try replace BKg3 := Aside0.mk (blk_below BKg3.out hb)); (try replace BKg9 := Aside0.mk (blk_below BKg9.out hb)); (try replace HX := Aside0.mk (HX.out.below hb)); (try replace HP := Aside0.mk (HP.out.below hb)); (try replace HW := Aside0.mk (Kd.R_below HW.out hb)); (try replace HU := Aside0.mk (Kd.R_below HU.out hb)); (try replace BKg15 := Aside0.mk (blk_below BKg15.out hb)); (try replace BKg17 := Aside0.mk (blk_below BKg17.out hb)); (try replace HL := Aside0.mk (Kd.R_below HL.out hb)); (try replace HM := Aside0.mk (Kd.R_below HM.out hb)); skip; clear hb; (try have hcg3_0 : W_.cell? ⟨g3, 0, none⟩ = some (.slice A0 l0.length c0) := (blk_cell BKg3.out 0).trans rfl); (try have hcg3_1 : W_.cell? ⟨g3, 1, none⟩ = some (.slice A1 l1.length c1) := (blk_cell BKg3.out 1).trans rfl); (try have hcg3_2 : W_.cell? ⟨g3, 2, none⟩ = some (.int .i64 wg) := (blk_cell BKg3.out 2).trans rfl); (try have hcg9_0 : W_.cell? ⟨g9, 0, none⟩ = some (.slice AX xs.length cX) := (blk_cell BKg9.out 0).trans rfl); (try have hcg9_1 : W_.cell? ⟨g9, 1, none⟩ = some (.slice AP yl.length cP) := (blk_cell BKg9.out 1).trans rfl); (try have hcg9_2 : W_.cell? ⟨g9, 2, none⟩ = some (.int .i64 wg) := (blk_cell BKg9.out 2).trans rfl); (try have hcg15_0 : W_.cell? ⟨g15, 0, none⟩ = some (.int .i64 0) := (blk_cell BKg15.out 0).trans rfl); (try have hcg15_1 : W_.cell? ⟨g15, 1, none⟩ = some (.int .i64 0) := (blk_cell BKg15.out 1).trans rfl); (try have hcg17_0 : W_.cell? ⟨g17, 0, none⟩ = some (.int .i64 0) := (blk_cell BKg17.out 0).trans rfl); (try have hcg17_1 : W_.cell? ⟨g17, 1, none⟩ = some (.int .i64 0) := (blk_cell BKg17.out 1).trans rfl))))
        go_ret
        exact ⟨rfl, HB.out⟩
      · have HE := Aside0.mk he
        have HEX := Aside0.mk hex
        have HSW := Aside0.mk hw
        have HSU := Aside0.mk hu
        have HSD := Aside0.mk hd
        have HSE := Aside0.mk hd2
        clear he hex hw hu hd hd2
        go_wp2_with (first | ((with_reducible refine gate_dst (N := 15) rfl ?_); refine box_event ?hg (N := 15) ?hd (cs := #[.int .i64 0, .int .i64 0]) (t := 55) ?hr ?_; (case hd => rfl); (case hg => rfl); (case hr => first | (go_simp; done) | (go_simp; rfl)); intro g15 hg W_ hbox hb; (try have NEg17_g15 := Aside0.mk (show g17 < g15 from by rw [hg]; exact blk_lt BKg17.out)); have GEg15 := Aside0.mk (by rw [hg]; exact HB.out.size : w.heap.size ≤ g15); (try clear hcg3_0 hcg3_1 hcg3_2); (try clear hcg9_0 hcg9_1 hcg9_2); (try clear hcg15_0 hcg15_1); (try replace HB := Aside0.mk (below_step HB.out hb)); (try replace HT := Aside0.mk (HT.out.below hb)); (try replace BKg3 := Aside0.mk (blk_below BKg3.out hb)); (try replace BKg9 := Aside0.mk (blk_below BKg9.out hb)); (try replace HX := Aside0.mk (HX.out.below hb)); (try replace HP := Aside0.mk (HP.out.below hb)); (try replace HW := Aside0.mk (Kd.R_below HW.out hb)); (try replace HU := Aside0.mk (Kd.R_below HU.out hb)); (try replace BKg15 := Aside0.mk (blk_below BKg15.out hb)); (try replace BKg17 := Aside0.mk (blk_below BKg17.out hb)); (try replace HL := Aside0.mk (Kd.R_below HL.out hb)); (try replace HM := Aside0.mk (Kd.R_below HM.out hb)); have BKg15 := Aside0.mk hbox; clear hb hbox hg; (try have hcg3_0 : W_.cell? ⟨g3, 0, none⟩ = some (.slice A0 l0.length c0) := (blk_cell BKg3.out 0).trans rfl); (try have hcg3_1 : W_.cell? ⟨g3, 1, none⟩ = some (.slice A1 l1.length c1) := (blk_cell BKg3.out 1).trans rfl); (try have hcg3_2 : W_.cell? ⟨g3, 2, none⟩ = some (.int .i64 wg) := (blk_cell BKg3.out 2).trans rfl); (try have hcg9_0 : W_.cell? ⟨g9, 0, none⟩ = some (.slice AX xs.length cX) := (blk_cell BKg9.out 0).trans rfl); (try have hcg9_1 : W_.cell? ⟨g9, 1, none⟩ = some (.slice AP yl.length cP) := (blk_cell BKg9.out 1).trans rfl); (try have hcg9_2 : W_.cell? ⟨g9, 2, none⟩ = some (.int .i64 wg) := (blk_cell BKg9.out 2).trans rfl); (try have hcg15_0 : W_.cell? ⟨g15, 0, none⟩ = some (.int .i64 0) := (blk_cell BKg15.out 0).trans rfl); (try have hcg15_1 : W_.cell? ⟨g15, 1, none⟩ = some (.int .i64 0) := (blk_cell BKg15.out 1).trans rfl)) | ((with_reducible refine gate_store (t := 55) (p := 15) rfl ?_); go_must (refine wpList_store_row rfl 55 _ _ rfl g15 #[.int .i64 lo, .int .i64 hi] rfl rfl 55 (#[.int .i64 0, .int .i64 0]) BKg15.out rfl rfl (by simp [Value.oneCell']) ?_; (try clear hcg3_0 hcg3_1 hcg3_2); (try clear hcg9_0 hcg9_1 hcg9_2); (try clear hcg15_0 hcg15_1); (try clear HT); (try replace BKg3 := Aside0.mk (blk_setRow BKg3.out BKg15.out (by decide) (#[.int .i64 lo, .int .i64 hi]))); (try replace BKg9 := Aside0.mk (blk_setRow BKg9.out BKg15.out (by decide) (#[.int .i64 lo, .int .i64 hi]))); (try replace HX := Aside0.mk (RX.setRow (us := #[.int .i64 lo, .int .i64 hi]) HX.out BKg15.out (by decide))); (try replace HP := Aside0.mk (RX.setRow (us := #[.int .i64 lo, .int .i64 hi]) HP.out BKg15.out (by decide))); (try replace HW := Aside0.mk (row_setRow HW.out BKg15.out (by decide) (#[.int .i64 lo, .int .i64 hi]))); (try replace HU := Aside0.mk (row_setRow HU.out BKg15.out (by decide) (#[.int .i64 lo, .int .i64 hi]))); (try replace BKg17 := Aside0.mk ((setRow_other W_ g15 g17 (#[.int .i64 lo, .int .i64 hi]) (by first | exact Nat.ne_of_lt NEg17_g15.out | exact Nat.ne_of_gt NEg15_g17.out)).trans BKg17.out)); (try replace HL := Aside0.mk (row_setRow HL.out BKg15.out (by decide) (#[.int .i64 lo, .int .i64 hi]))); (try replace HM := Aside0.mk (row_setRow HM.out BKg15.out (by decide) (#[.int .i64 lo, .int .i64 hi]))); replace HB := Aside0.mk (below_setRow HB.out GEg15.out (#[.int .i64 lo, .int .i64 hi])); replace BKg15 := Aside0.mk (setRow_heap W_ g15 _ (#[.int .i64 lo, .int .i64 hi]) _ _ BKg15.out); generalize W_.setRow g15 (#[.int .i64 lo, .int .i64 hi]) = W_ at *; (try have hcg3_0 : W_.cell? ⟨g3, 0, none⟩ = some (.slice A0 l0.length c0) := (blk_cell BKg3.out 0).trans rfl); (try have hcg3_1 : W_.cell? ⟨g3, 1, none⟩ = some (.slice A1 l1.length c1) := (blk_cell BKg3.out 1).trans rfl); (try have hcg3_2 : W_.cell? ⟨g3, 2, none⟩ = some (.int .i64 wg) := (blk_cell BKg3.out 2).trans rfl); (try have hcg9_0 : W_.cell? ⟨g9, 0, none⟩ = some (.slice AX xs.length cX) := (blk_cell BKg9.out 0).trans rfl); (try have hcg9_1 : W_.cell? ⟨g9, 1, none⟩ = some (.slice AP yl.length cP) := (blk_cell BKg9.out 1).trans rfl); (try have hcg9_2 : W_.cell? ⟨g9, 2, none⟩ = some (.int .i64 wg) := (blk_cell BKg9.out 2).trans rfl); (try have hcg15_0 : W_.cell? ⟨g15, 0, none⟩ = some (.int .i64 lo) := (blk_cell BKg15.out 0).trans rfl); (try have hcg15_1 : W_.cell? ⟨g15, 1, none⟩ = some (.int .i64 hi) := (blk_cell BKg15.out 1).trans rfl))) | ((with_reducible refine gate_dst (N := 17) rfl ?_); refine box_event ?hg (N := 17) ?hd (cs := #[.int .i64 0, .int .i64 0]) (t := 55) ?hr ?_; (case hd => rfl); (case hg => rfl); (case hr => first | (go_simp; done) | (go_simp; rfl)); intro g17 hg W_ hbox hb; (try have NEg15_g17 := Aside0.mk (show g15 < g17 from by rw [hg]; exact blk_lt BKg15.out)); have GEg17 := Aside0.mk (by rw [hg]; exact HB.out.size : w.heap.size ≤ g17); (try clear hcg3_0 hcg3_1 hcg3_2); (try clear hcg9_0 hcg9_1 hcg9_2); (try clear hcg15_0 hcg15_1); (try clear hcg17_0 hcg17_1); (try replace HB := Aside0.mk (below_step HB.out hb)); (try replace HT := Aside0.mk (HT.out.below hb)); (try replace BKg3 := Aside0.mk (blk_below BKg3.out hb)); (try replace BKg9 := Aside0.mk (blk_below BKg9.out hb)); (try replace HX := Aside0.mk (HX.out.below hb)); (try replace HP := Aside0.mk (HP.out.below hb)); (try replace HW := Aside0.mk (Kd.R_below HW.out hb)); (try replace HU := Aside0.mk (Kd.R_below HU.out hb)); (try replace BKg15 := Aside0.mk (blk_below BKg15.out hb)); (try replace BKg17 := Aside0.mk (blk_below BKg17.out hb)); (try replace HL := Aside0.mk (Kd.R_below HL.out hb)); (try replace HM := Aside0.mk (Kd.R_below HM.out hb)); have BKg17 := Aside0.mk hbox; clear hb hbox hg; (try have hcg3_0 : W_.cell? ⟨g3, 0, none⟩ = some (.slice A0 l0.length c0) := (blk_cell BKg3.out 0).trans rfl); (try have hcg3_1 : W_.cell? ⟨g3, 1, none⟩ = some (.slice A1 l1.length c1) := (blk_cell BKg3.out 1).trans rfl); (try have hcg3_2 : W_.cell? ⟨g3, 2, none⟩ = some (.int .i64 wg) := (blk_cell BKg3.out 2).trans rfl); (try have hcg9_0 : W_.cell? ⟨g9, 0, none⟩ = some (.slice AX xs.length cX) := (blk_cell BKg9.out 0).trans rfl); (try have hcg9_1 : W_.cell? ⟨g9, 1, none⟩ = some (.slice AP yl.length cP) := (blk_cell BKg9.out 1).trans rfl); (try have hcg9_2 : W_.cell? ⟨g9, 2, none⟩ = some (.int .i64 wg) := (blk_cell BKg9.out 2).trans rfl); (try have hcg15_0 : W_.cell? ⟨g15, 0, none⟩ = some (.int .i64 lo) := (blk_cell BKg15.out 0).trans rfl); (try have hcg15_1 : W_.cell? ⟨g15, 1, none⟩ = some (.int .i64 hi) := (blk_cell BKg15.out 1).trans rfl); (try have hcg17_0 : W_.cell? ⟨g17, 0, none⟩ = some (.int .i64 0) := (blk_cell BKg17.out 0).trans rfl); (try have hcg17_1 : W_.cell? ⟨g17, 1, none⟩ = some (.int .i64 0) := (blk_cell BKg17.out 1).trans rfl)) | ((with_reducible refine gate_store (t := 55) (p := 17) rfl ?_); go_must (refine wpList_store_row rfl 55 _ _ rfl g17 #[.int .i64 lo, .int .i64 hi] rfl rfl 55 (#[.int .i64 0, .int .i64 0]) BKg17.out rfl rfl (by simp [Value.oneCell']) ?_; (try clear hcg3_0 hcg3_1 hcg3_2); (try clear hcg9_0 hcg9_1 hcg9_2); (try clear hcg15_0 hcg15_1); (try clear hcg17_0 hcg17_1); (try clear HT); (try replace BKg3 := Aside0.mk (blk_setRow BKg3.out BKg17.out (by decide) (#[.int .i64 lo, .int .i64 hi]))); (try replace BKg9 := Aside0.mk (blk_setRow BKg9.out BKg17.out (by decide) (#[.int .i64 lo, .int .i64 hi]))); (try replace HX := Aside0.mk (RX.setRow (us := #[.int .i64 lo, .int .i64 hi]) HX.out BKg17.out (by decide))); (try replace HP := Aside0.mk (RX.setRow (us := #[.int .i64 lo, .int .i64 hi]) HP.out BKg17.out (by decide))); (try replace HW := Aside0.mk (row_setRow HW.out BKg17.out (by decide) (#[.int .i64 lo, .int .i64 hi]))); (try replace HU := Aside0.mk (row_setRow HU.out BKg17.out (by decide) (#[.int .i64 lo, .int .i64 hi]))); (try replace BKg15 := Aside0.mk ((setRow_other W_ g17 g15 (#[.int .i64 lo, .int .i64 hi]) (by first | exact Nat.ne_of_lt NEg15_g17.out | exact Nat.ne_of_gt NEg17_g15.out)).trans BKg15.out)); (try replace HL := Aside0.mk (row_setRow HL.out BKg17.out (by decide) (#[.int .i64 lo, .int .i64 hi]))); (try replace HM := Aside0.mk (row_setRow HM.out BKg17.out (by decide) (#[.int .i64 lo, .int .i64 hi]))); replace HB := Aside0.mk (below_setRow HB.out GEg17.out (#[.int .i64 lo, .int .i64 hi])); replace BKg17 := Aside0.mk (setRow_heap W_ g17 _ (#[.int .i64 lo, .int .i64 hi]) _ _ BKg17.out); generalize W_.setRow g17 (#[.int .i64 lo, .int .i64 hi]) = W_ at *; (try have hcg3_0 : W_.cell? ⟨g3, 0, none⟩ = some (.slice A0 l0.length c0) := (blk_cell BKg3.out 0).trans rfl); (try have hcg3_1 : W_.cell? ⟨g3, 1, none⟩ = some (.slice A1 l1.length c1) := (blk_cell BKg3.out 1).trans rfl); (try have hcg3_2 : W_.cell? ⟨g3, 2, none⟩ = some (.int .i64 wg) := (blk_cell BKg3.out 2).trans rfl); (try have hcg9_0 : W_.cell? ⟨g9, 0, none⟩ = some (.slice AX xs.length cX) := (blk_cell BKg9.out 0).trans rfl); (try have hcg9_1 : W_.cell? ⟨g9, 1, none⟩ = some (.slice AP yl.length cP) := (blk_cell BKg9.out 1).trans rfl); (try have hcg9_2 : W_.cell? ⟨g9, 2, none⟩ = some (.int .i64 wg) := (blk_cell BKg9.out 2).trans rfl); (try have hcg15_0 : W_.cell? ⟨g15, 0, none⟩ = some (.int .i64 lo) := (blk_cell BKg15.out 0).trans rfl); (try have hcg15_1 : W_.cell? ⟨g15, 1, none⟩ = some (.int .i64 hi) := (blk_cell BKg15.out 1).trans rfl); (try have hcg17_0 : W_.cell? ⟨g17, 0, none⟩ = some (.int .i64 lo) := (blk_cell BKg17.out 0).trans rfl); (try have hcg17_1 : W_.cell? ⟨g17, 1, none⟩ = some (.int .i64 hi) := (blk_cell BKg17.out 1).trans rfl))) | (go_at_call 23; go_must (first | ((with_reducible refine (tab_c _ (HRT.out.below HB.out) HL0.out HL1.out).mono ?_); rintro e W_ ⟨B0, d0, B1, d1, rfl, ht, hb⟩; (try clear hcg3_0 hcg3_1 hcg3_2); (try clear hcg9_0 hcg9_1 hcg9_2); (try clear hcg15_0 hcg15_1); (try clear hcg17_0 hcg17_1); (try replace HB := Aside0.mk (below_step HB.out hb)); (try replace HT := Aside0.mk (HT.out.below hb)); (try replace BKg3 := Aside0.mk (blk_below BKg3.out hb)); (try replace BKg9 := Aside0.mk (blk_below BKg9.out hb)); (try replace HX := Aside0.mk (HX.out.below hb)); (try replace HP := Aside0.mk (HP.out.below hb)); (try replace HW := Aside0.mk (Kd.R_below HW.out hb)); (try replace HU := Aside0.mk (Kd.R_below HU.out hb)); (try replace BKg15 := Aside0.mk (blk_below BKg15.out hb)); (try replace BKg17 := Aside0.mk (blk_below BKg17.out hb)); (try replace HL := Aside0.mk (Kd.R_below HL.out hb)); (try replace HM := Aside0.mk (Kd.R_below HM.out hb)); (try clear HT); have HT := Aside0.mk ht; clear ht; clear hb; (try have hcg3_0 : W_.cell? ⟨g3, 0, none⟩ = some (.slice A0 l0.length c0) := (blk_cell BKg3.out 0).trans rfl); (try have hcg3_1 : W_.cell? ⟨g3, 1, none⟩ = some (.slice A1 l1.length c1) := (blk_cell BKg3.out 1).trans rfl); (try have hcg3_2 : W_.cell? ⟨g3, 2, none⟩ = some (.int .i64 wg) := (blk_cell BKg3.out 2).trans rfl); (try have hcg9_0 : W_.cell? ⟨g9, 0, none⟩ = some (.slice AX xs.length cX) := (blk_cell BKg9.out 0).trans rfl); (try have hcg9_1 : W_.cell? ⟨g9, 1, none⟩ = some (.slice AP yl.length cP) := (blk_cell BKg9.out 1).trans rfl); (try have hcg9_2 : W_.cell? ⟨g9, 2, none⟩ = some (.int .i64 wg) := (blk_cell BKg9.out 2).trans rfl); (try have hcg15_0 : W_.cell? ⟨g15, 0, none⟩ = some (.int .i64 lo) := (blk_cell BKg15.out 0).trans rfl); (try have hcg15_1 : W_.cell? ⟨g15, 1, none⟩ = some (.int .i64 hi) := (blk_cell BKg15.out 1).trans rfl); (try have hcg17_0 : W_.cell? ⟨g17, 0, none⟩ = some (.int .i64 lo) := (blk_cell BKg17.out 0).trans rfl); (try have hcg17_1 : W_.cell? ⟨g17, 1, none⟩ = some (.int .i64 hi) := (blk_cell BKg17.out 1).trans rfl)) | ((with_reducible refine (tab_c _ (rtabWP HB.out HX.out HP.out HX30.out HY30.out HYM.out) HLX.out HLY.out).mono ?_); rintro e W_ ⟨B0, d0, B1, d1, rfl, ht, hb⟩; (try clear hcg3_0 hcg3_1 hcg3_2); (try clear hcg9_0 hcg9_1 hcg9_2); (try clear hcg15_0 hcg15_1); (try clear hcg17_0 hcg17_1); (try replace HB := Aside0.mk (below_step HB.out hb)); (try replace HT := Aside0.mk (HT.out.below hb)); (try replace BKg3 := Aside0.mk (blk_below BKg3.out hb)); (try replace BKg9 := Aside0.mk (blk_below BKg9.out hb)); (try replace HX := Aside0.mk (HX.out.below hb)); (try replace HP := Aside0.mk (HP.out.below hb)); (try replace HW := Aside0.mk (Kd.R_below HW.out hb)); (try replace HU := Aside0.mk (Kd.R_below HU.out hb)); (try replace BKg15 := Aside0.mk (blk_below BKg15.out hb)); (try replace BKg17 := Aside0.mk (blk_below BKg17.out hb)); (try replace HL := Aside0.mk (Kd.R_below HL.out hb)); (try replace HM := Aside0.mk (Kd.R_below HM.out hb)); (try clear HT); have HT := Aside0.mk ht; clear ht; clear hb; (try have hcg3_0 : W_.cell? ⟨g3, 0, none⟩ = some (.slice A0 l0.length c0) := (blk_cell BKg3.out 0).trans rfl); (try have hcg3_1 : W_.cell? ⟨g3, 1, none⟩ = some (.slice A1 l1.length c1) := (blk_cell BKg3.out 1).trans rfl); (try have hcg3_2 : W_.cell? ⟨g3, 2, none⟩ = some (.int .i64 wg) := (blk_cell BKg3.out 2).trans rfl); (try have hcg9_0 : W_.cell? ⟨g9, 0, none⟩ = some (.slice AX xs.length cX) := (blk_cell BKg9.out 0).trans rfl); (try have hcg9_1 : W_.cell? ⟨g9, 1, none⟩ = some (.slice AP yl.length cP) := (blk_cell BKg9.out 1).trans rfl); (try have hcg9_2 : W_.cell? ⟨g9, 2, none⟩ = some (.int .i64 wg) := (blk_cell BKg9.out 2).trans rfl); (try have hcg15_0 : W_.cell? ⟨g15, 0, none⟩ = some (.int .i64 lo) := (blk_cell BKg15.out 0).trans rfl); (try have hcg15_1 : W_.cell? ⟨g15, 1, none⟩ = some (.int .i64 hi) := (blk_cell BKg15.out 1).trans rfl); (try have hcg17_0 : W_.cell? ⟨g17, 0, none⟩ = some (.int .i64 lo) := (blk_cell BKg17.out 0).trans rfl); (try have hcg17_1 : W_.cell? ⟨g17, 1, none⟩ = some (.int .i64 hi) := (blk_cell BKg17.out 1).trans rfl)))) | (go_at_call 32; go_must (first | ((with_reducible refine (leave_c _ HT.out HCK.out HSL.out).mono ?_); rintro e W_ ⟨v_, rfl, ho, hb⟩; (try clear hcg3_0 hcg3_1 hcg3_2); (try clear hcg9_0 hcg9_1 hcg9_2); (try clear hcg15_0 hcg15_1); (try clear hcg17_0 hcg17_1); (try replace HB := Aside0.mk (below_step HB.out hb)); (try replace HT := Aside0.mk (HT.out.below hb)); (try replace BKg3 := Aside0.mk (blk_below BKg3.out hb)); (try replace BKg9 := Aside0.mk (blk_below BKg9.out hb)); (try replace HX := Aside0.mk (HX.out.below hb)); (try replace HP := Aside0.mk (HP.out.below hb)); (try replace HW := Aside0.mk (Kd.R_below HW.out hb)); (try replace HU := Aside0.mk (Kd.R_below HU.out hb)); (try replace BKg15 := Aside0.mk (blk_below BKg15.out hb)); (try replace BKg17 := Aside0.mk (blk_below BKg17.out hb)); (try replace HL := Aside0.mk (Kd.R_below HL.out hb)); (try replace HM := Aside0.mk (Kd.R_below HM.out hb)); have HL := Aside0.mk ho; obtain ⟨AHL, cHL, eHL⟩ := Kd.R_slice HL.out; subst eHL; clear ho; clear hb; (try have hcg3_0 : W_.cell? ⟨g3, 0, none⟩ = some (.slice A0 l0.length c0) := (blk_cell BKg3.out 0).trans rfl); (try have hcg3_1 : W_.cell? ⟨g3, 1, none⟩ = some (.slice A1 l1.length c1) := (blk_cell BKg3.out 1).trans rfl); (try have hcg3_2 : W_.cell? ⟨g3, 2, none⟩ = some (.int .i64 wg) := (blk_cell BKg3.out 2).trans rfl); (try have hcg9_0 : W_.cell? ⟨g9, 0, none⟩ = some (.slice AX xs.length cX) := (blk_cell BKg9.out 0).trans rfl); (try have hcg9_1 : W_.cell? ⟨g9, 1, none⟩ = some (.slice AP yl.length cP) := (blk_cell BKg9.out 1).trans rfl); (try have hcg9_2 : W_.cell? ⟨g9, 2, none⟩ = some (.int .i64 wg) := (blk_cell BKg9.out 2).trans rfl); (try have hcg15_0 : W_.cell? ⟨g15, 0, none⟩ = some (.int .i64 lo) := (blk_cell BKg15.out 0).trans rfl); (try have hcg15_1 : W_.cell? ⟨g15, 1, none⟩ = some (.int .i64 hi) := (blk_cell BKg15.out 1).trans rfl); (try have hcg17_0 : W_.cell? ⟨g17, 0, none⟩ = some (.int .i64 lo) := (blk_cell BKg17.out 0).trans rfl); (try have hcg17_1 : W_.cell? ⟨g17, 1, none⟩ = some (.int .i64 hi) := (blk_cell BKg17.out 1).trans rfl)) | ((with_reducible refine (leave_c _ HT.out HCX.out HSM.out).mono ?_); rintro e W_ ⟨v_, rfl, ho, hb⟩; (try clear hcg3_0 hcg3_1 hcg3_2); (try clear hcg9_0 hcg9_1 hcg9_2); (try clear hcg15_0 hcg15_1); (try clear hcg17_0 hcg17_1); (try replace HB := Aside0.mk (below_step HB.out hb)); (try replace HT := Aside0.mk (HT.out.below hb)); (try replace BKg3 := Aside0.mk (blk_below BKg3.out hb)); (try replace BKg9 := Aside0.mk (blk_below BKg9.out hb)); (try replace HX := Aside0.mk (HX.out.below hb)); (try replace HP := Aside0.mk (HP.out.below hb)); (try replace HW := Aside0.mk (Kd.R_below HW.out hb)); (try replace HU := Aside0.mk (Kd.R_below HU.out hb)); (try replace BKg15 := Aside0.mk (blk_below BKg15.out hb)); (try replace BKg17 := Aside0.mk (blk_below BKg17.out hb)); (try replace HL := Aside0.mk (Kd.R_below HL.out hb)); (try replace HM := Aside0.mk (Kd.R_below HM.out hb)); have HM := Aside0.mk ho; obtain ⟨AHM, cHM, eHM⟩ := Kd.R_slice HM.out; subst eHM; clear ho; clear hb; (try have hcg3_0 : W_.cell? ⟨g3, 0, none⟩ = some (.slice A0 l0.length c0) := (blk_cell BKg3.out 0).trans rfl); (try have hcg3_1 : W_.cell? ⟨g3, 1, none⟩ = some (.slice A1 l1.length c1) := (blk_cell BKg3.out 1).trans rfl); (try have hcg3_2 : W_.cell? ⟨g3, 2, none⟩ = some (.int .i64 wg) := (blk_cell BKg3.out 2).trans rfl); (try have hcg9_0 : W_.cell? ⟨g9, 0, none⟩ = some (.slice AX xs.length cX) := (blk_cell BKg9.out 0).trans rfl); (try have hcg9_1 : W_.cell? ⟨g9, 1, none⟩ = some (.slice AP yl.length cP) := (blk_cell BKg9.out 1).trans rfl); (try have hcg9_2 : W_.cell? ⟨g9, 2, none⟩ = some (.int .i64 wg) := (blk_cell BKg9.out 2).trans rfl); (try have hcg15_0 : W_.cell? ⟨g15, 0, none⟩ = some (.int .i64 lo) := (blk_cell BKg15.out 0).trans rfl); (try have hcg15_1 : W_.cell? ⟨g15, 1, none⟩ = some (.int .i64 hi) := (blk_cell BKg15.out 1).trans rfl); (try have hcg17_0 : W_.cell? ⟨g17, 0, none⟩ = some (.int .i64 lo) := (blk_cell BKg17.out 0).trans rfl); (try have hcg17_1 : W_.cell? ⟨g17, 1, none⟩ = some (.int .i64 hi) := (blk_cell BKg17.out 1).trans rfl)))) | (go_at_call 22; go_must (first | ((with_reducible refine (whose_c _ HT.out HE.out HSW.out).mono ?_); rintro e W_ ⟨v_, rfl, ho, hb⟩; (try clear hcg3_0 hcg3_1 hcg3_2); (try clear hcg9_0 hcg9_1 hcg9_2); (try clear hcg15_0 hcg15_1); (try clear hcg17_0 hcg17_1); (try replace HB := Aside0.mk (below_step HB.out hb)); (try replace HT := Aside0.mk (HT.out.below hb)); (try replace BKg3 := Aside0.mk (blk_below BKg3.out hb)); (try replace BKg9 := Aside0.mk (blk_below BKg9.out hb)); (try replace HX := Aside0.mk (HX.out.below hb)); (try replace HP := Aside0.mk (HP.out.below hb)); (try replace HW := Aside0.mk (Kd.R_below HW.out hb)); (try replace HU := Aside0.mk (Kd.R_below HU.out hb)); (try replace BKg15 := Aside0.mk (blk_below BKg15.out hb)); (try replace BKg17 := Aside0.mk (blk_below BKg17.out hb)); (try replace HL := Aside0.mk (Kd.R_below HL.out hb)); (try replace HM := Aside0.mk (Kd.R_below HM.out hb)); have HW := Aside0.mk ho; obtain ⟨AHW, cHW, eHW⟩ := Kd.R_slice HW.out; subst eHW; clear ho; clear hb; (try have hcg3_0 : W_.cell? ⟨g3, 0, none⟩ = some (.slice A0 l0.length c0) := (blk_cell BKg3.out 0).trans rfl); (try have hcg3_1 : W_.cell? ⟨g3, 1, none⟩ = some (.slice A1 l1.length c1) := (blk_cell BKg3.out 1).trans rfl); (try have hcg3_2 : W_.cell? ⟨g3, 2, none⟩ = some (.int .i64 wg) := (blk_cell BKg3.out 2).trans rfl); (try have hcg9_0 : W_.cell? ⟨g9, 0, none⟩ = some (.slice AX xs.length cX) := (blk_cell BKg9.out 0).trans rfl); (try have hcg9_1 : W_.cell? ⟨g9, 1, none⟩ = some (.slice AP yl.length cP) := (blk_cell BKg9.out 1).trans rfl); (try have hcg9_2 : W_.cell? ⟨g9, 2, none⟩ = some (.int .i64 wg) := (blk_cell BKg9.out 2).trans rfl); (try have hcg15_0 : W_.cell? ⟨g15, 0, none⟩ = some (.int .i64 lo) := (blk_cell BKg15.out 0).trans rfl); (try have hcg15_1 : W_.cell? ⟨g15, 1, none⟩ = some (.int .i64 hi) := (blk_cell BKg15.out 1).trans rfl); (try have hcg17_0 : W_.cell? ⟨g17, 0, none⟩ = some (.int .i64 lo) := (blk_cell BKg17.out 0).trans rfl); (try have hcg17_1 : W_.cell? ⟨g17, 1, none⟩ = some (.int .i64 hi) := (blk_cell BKg17.out 1).trans rfl)) | ((with_reducible refine (whose_c _ HT.out HEX.out HSU.out).mono ?_); rintro e W_ ⟨v_, rfl, ho, hb⟩; (try clear hcg3_0 hcg3_1 hcg3_2); (try clear hcg9_0 hcg9_1 hcg9_2); (try clear hcg15_0 hcg15_1); (try clear hcg17_0 hcg17_1); (try replace HB := Aside0.mk (below_step HB.out hb)); (try replace HT := Aside0.mk (HT.out.below hb)); (try replace BKg3 := Aside0.mk (blk_below BKg3.out hb)); (try replace BKg9 := Aside0.mk (blk_below BKg9.out hb)); (try replace HX := Aside0.mk (HX.out.below hb)); (try replace HP := Aside0.mk (HP.out.below hb)); (try replace HW := Aside0.mk (Kd.R_below HW.out hb)); (try replace HU := Aside0.mk (Kd.R_below HU.out hb)); (try replace BKg15 := Aside0.mk (blk_below BKg15.out hb)); (try replace BKg17 := Aside0.mk (blk_below BKg17.out hb)); (try replace HL := Aside0.mk (Kd.R_below HL.out hb)); (try replace HM := Aside0.mk (Kd.R_below HM.out hb)); have HU := Aside0.mk ho; obtain ⟨AHU, cHU, eHU⟩ := Kd.R_slice HU.out; subst eHU; clear ho; clear hb; (try have hcg3_0 : W_.cell? ⟨g3, 0, none⟩ = some (.slice A0 l0.length c0) := (blk_cell BKg3.out 0).trans rfl); (try have hcg3_1 : W_.cell? ⟨g3, 1, none⟩ = some (.slice A1 l1.length c1) := (blk_cell BKg3.out 1).trans rfl); (try have hcg3_2 : W_.cell? ⟨g3, 2, none⟩ = some (.int .i64 wg) := (blk_cell BKg3.out 2).trans rfl); (try have hcg9_0 : W_.cell? ⟨g9, 0, none⟩ = some (.slice AX xs.length cX) := (blk_cell BKg9.out 0).trans rfl); (try have hcg9_1 : W_.cell? ⟨g9, 1, none⟩ = some (.slice AP yl.length cP) := (blk_cell BKg9.out 1).trans rfl); (try have hcg9_2 : W_.cell? ⟨g9, 2, none⟩ = some (.int .i64 wg) := (blk_cell BKg9.out 2).trans rfl); (try have hcg15_0 : W_.cell? ⟨g15, 0, none⟩ = some (.int .i64 lo) := (blk_cell BKg15.out 0).trans rfl); (try have hcg15_1 : W_.cell? ⟨g15, 1, none⟩ = some (.int .i64 hi) := (blk_cell BKg15.out 1).trans rfl); (try have hcg17_0 : W_.cell? ⟨g17, 0, none⟩ = some (.int .i64 lo) := (blk_cell BKg17.out 0).trans rfl); (try have hcg17_1 : W_.cell? ⟨g17, 1, none⟩ = some (.int .i64 hi) := (blk_cell BKg17.out 1).trans rfl)))) | (go_at_call 37; go_must (first | ((with_reducible refine (ast_c _ HT.out HE.out HSD.out).mono ?_); rintro e W_ ⟨rfl, hb⟩; (try clear hcg3_0 hcg3_1 hcg3_2); (try clear hcg9_0 hcg9_1 hcg9_2); (try clear hcg15_0 hcg15_1); (try clear hcg17_0 hcg17_1); (try replace HB := Aside0.mk (below_step HB.out hb)); (try replace HT := Aside0.mk (HT.out.below hb)); (try replace BKg3 := Aside0.mk (blk_below BKg3.out hb)); (try replace BKg9 := Aside0.mk (blk_below BKg9.out hb)); (try replace HX := Aside0.mk (HX.out.below hb)); (try replace HP := Aside0.mk (HP.out.below hb)); (try replace HW := Aside0.mk (Kd.R_below HW.out hb)); (try replace HU := Aside0.mk (Kd.R_below HU.out hb)); (try replace BKg15 := Aside0.mk (blk_below BKg15.out hb)); (try replace BKg17 := Aside0.mk (blk_below BKg17.out hb)); (try replace HL := Aside0.mk (Kd.R_below HL.out hb)); (try replace HM := Aside0.mk (Kd.R_below HM.out hb)); skip; clear hb; (try have hcg3_0 : W_.cell? ⟨g3, 0, none⟩ = some (.slice A0 l0.length c0) := (blk_cell BKg3.out 0).trans rfl); (try have hcg3_1 : W_.cell? ⟨g3, 1, none⟩ = some (.slice A1 l1.length c1) := (blk_cell BKg3.out 1).trans rfl); (try have hcg3_2 : W_.cell? ⟨g3, 2, none⟩ = some (.int .i64 wg) := (blk_cell BKg3.out 2).trans rfl); (try have hcg9_0 : W_.cell? ⟨g9, 0, none⟩ = some (.slice AX xs.length cX) := (blk_cell BKg9.out 0).trans rfl); (try have hcg9_1 : W_.cell? ⟨g9, 1, none⟩ = some (.slice AP yl.length cP) := (blk_cell BKg9.out 1).trans rfl); (try have hcg9_2 : W_.cell? ⟨g9, 2, none⟩ = some (.int .i64 wg) := (blk_cell BKg9.out 2).trans rfl); (try have hcg15_0 : W_.cell? ⟨g15, 0, none⟩ = some (.int .i64 lo) := (blk_cell BKg15.out 0).trans rfl); (try have hcg15_1 : W_.cell? ⟨g15, 1, none⟩ = some (.int .i64 hi) := (blk_cell BKg15.out 1).trans rfl); (try have hcg17_0 : W_.cell? ⟨g17, 0, none⟩ = some (.int .i64 lo) := (blk_cell BKg17.out 0).trans rfl); (try have hcg17_1 : W_.cell? ⟨g17, 1, none⟩ = some (.int .i64 hi) := (blk_cell BKg17.out 1).trans rfl)) | ((with_reducible refine (ast_c _ HT.out HEX.out HSE.out).mono ?_); rintro e W_ ⟨rfl, hb⟩; (try clear hcg3_0 hcg3_1 hcg3_2); (try clear hcg9_0 hcg9_1 hcg9_2); (try clear hcg15_0 hcg15_1); (try clear hcg17_0 hcg17_1); (try replace HB := Aside0.mk (below_step HB.out hb)); (try replace HT := Aside0.mk (HT.out.below hb)); (try replace BKg3 := Aside0.mk (blk_below BKg3.out hb)); (try replace BKg9 := Aside0.mk (blk_below BKg9.out hb)); (try replace HX := Aside0.mk (HX.out.below hb)); (try replace HP := Aside0.mk (HP.out.below hb)); (try replace HW := Aside0.mk (Kd.R_below HW.out hb)); (try replace HU := Aside0.mk (Kd.R_below HU.out hb)); (try replace BKg15 := Aside0.mk (blk_below BKg15.out hb)); (try replace BKg17 := Aside0.mk (blk_below BKg17.out hb)); (try replace HL := Aside0.mk (Kd.R_below HL.out hb)); (try replace HM := Aside0.mk (Kd.R_below HM.out hb)); skip; clear hb; (try have hcg3_0 : W_.cell? ⟨g3, 0, none⟩ = some (.slice A0 l0.length c0) := (blk_cell BKg3.out 0).trans rfl); (try have hcg3_1 : W_.cell? ⟨g3, 1, none⟩ = some (.slice A1 l1.length c1) := (blk_cell BKg3.out 1).trans rfl); (try have hcg3_2 : W_.cell? ⟨g3, 2, none⟩ = some (.int .i64 wg) := (blk_cell BKg3.out 2).trans rfl); (try have hcg9_0 : W_.cell? ⟨g9, 0, none⟩ = some (.slice AX xs.length cX) := (blk_cell BKg9.out 0).trans rfl); (try have hcg9_1 : W_.cell? ⟨g9, 1, none⟩ = some (.slice AP yl.length cP) := (blk_cell BKg9.out 1).trans rfl); (try have hcg9_2 : W_.cell? ⟨g9, 2, none⟩ = some (.int .i64 wg) := (blk_cell BKg9.out 2).trans rfl); (try have hcg15_0 : W_.cell? ⟨g15, 0, none⟩ = some (.int .i64 lo) := (blk_cell BKg15.out 0).trans rfl); (try have hcg15_1 : W_.cell? ⟨g15, 1, none⟩ = some (.int .i64 hi) := (blk_cell BKg15.out 1).trans rfl); (try have hcg17_0 : W_.cell? ⟨g17, 0, none⟩ = some (.int .i64 lo) := (blk_cell BKg17.out 0).trans rfl); (try have hcg17_1 : W_.cell? ⟨g17, 1, none⟩ = some (.int .i64 hi) := (blk_cell BKg17.out 1).trans rfl)))))
        obtain ⟨W1, hW1⟩ : ∃ W1 : World, W1 = W_ := ⟨_, rfl⟩
        subst hW1
        (try clear hcg3_0 hcg3_1 hcg3_2)
        (try clear hcg9_0 hcg9_1 hcg9_2)
        (try clear hcg15_0 hcg15_1)
        (try clear hcg17_0 hcg17_1)
        go_loopg [23] ws.length (fun kq v23 w' => ∃ m : Nat, v23 = .int .i64 (m : Int) ∧ Aside0 (m + kq = ws.length) ∧ Aside0 (Below W1.heap.size W1 w'))
        case atStart => exact ⟨0, rfl, ⟨Nat.zero_add _⟩, ⟨Below.refl _ _⟩⟩
        case round =>
          obtain ⟨m, rfl, HM, HB1⟩ := hrel
          by_cases hlt : m < ws.length
          · cases gk with
            | zero => have := HM.out; omega
            | succ k1 =>
            have hwm := wrap_succ m _ hlt (by have := HLW.out; have := HRT.out.n1; omega)
            obtain ⟨adw, Aw, cw, ew, hcw, lw, cw_⟩ := at_LL (Kd.R_reads' HW.out).2.2 m (by omega)
            obtain ⟨adu, Au, cu, eu, hcu, lu, cu_⟩ := at_LL (Kd.R_reads' HU.out).2.2 m (by have := HLU.out; omega)
            subst ew
            subst eu
            obtain ⟨hx30, hxl, hhas⟩ := HROW.out m hlt
            generalize ws.getD m [] = x at *
            generalize us.getD m [] = y at *
            have HCWP := Aside0.mk hcw
            have HCUP := Aside0.mk hcu
            have LW := Aside0.mk lw
            have LU := Aside0.mk lu
            have CW := Aside0.mk cw_
            have CUP := Aside0.mk cu_
            have HX3 := Aside0.mk hx30
            have HHSA := Aside0.mk hhas
            have hxyd : ((x.length : Int) != (y.length : Int)) = false := by rw [hxl]; simp
            have hmw : (m : Int) < (ws.length : Int) := by omega
            have hmu : (m : Int) < (us.length : Int) := by have := HLU.out; omega
            have hcw0 : wr.cell? (adw.add m) = some (.slice Aw x.length cw) := (HB1.out.cell (World.block_lt_of_cell? _ _ HCWP.out)).trans HCWP.out
            have hcu0 : wr.cell? (adu.add m) = some (.slice Au y.length cu) := (HB1.out.cell (World.block_lt_of_cell? _ _ HCUP.out)).trans HCUP.out
            clear hcw hcu lw lu cw_ cu_ hx30 hhas hxl
            go_wp2
            refine start_ (n := 11) (S := fun w' => w'.cell? (adw.add m) = some (.slice Aw x.length cw) ∧ w'.cell? (adu.add m) = some (.slice Au y.length cu)) (ds := []) #[false, false, false, false, false, false, false, false, false, false, false] (by kernel_rfl) rfl rfl ⟨hcw0, hcu0⟩ (fun hHeld => ?_)
            have hb := below_drew1 (Below.refl wr.heap.size wr)
            have n0_ := Aside0.mk (below_step HB1.out hb)
            clear HB1
            have HB1 := n0_
            clear n0_
            replace hcw0 := (hb.cell (World.block_lt_of_cell? _ _ hcw0)).trans hcw0
            replace hcu0 := (hb.cell (World.block_lt_of_cell? _ _ hcu0)).trans hcu0
            generalize wr.drew = W7 at *
            clear hb
            refine pure_ (i := 0) (N := some 204) (v := ?_) (a' := ?_) #[true, false, false, false, false, false, false, false, false, false, false] rfl rfl (by kernel_rfl) (fun _ _ _ h => h) (Or.inl ⟨by rfl, ?_⟩) ?_ ?_
            rotate_left
            · intro w'
              go_simp
              with_reducible rfl
            rotate_left
            · simp only [Act.put, List.setIfInBounds_toArray, List.set_cons_zero, List.set_cons_succ, i64_w, i32_w]
              rfl
            refine pure_ (i := 1) (N := some 205) (v := ?_) (a' := ?_) #[true, true, false, false, false, false, false, false, false, false, false] rfl rfl (by kernel_rfl) (fun _ _ _ h => h) (Or.inl ⟨by rfl, ?_⟩) ?_ ?_
            rotate_left
            · intro w'
              go_simp
              with_reducible rfl
            rotate_left
            · simp only [Act.put, List.setIfInBounds_toArray, List.set_cons_zero, List.set_cons_succ, i64_w, i32_w]
              rfl
            refine pure_ (i := 2) (N := some 206) (v := ?_) (a' := ?_) #[true, true, true, false, false, false, false, false, false, false, false] rfl rfl (by kernel_rfl) (fun _ _ _ h => h) (Or.inl ⟨by rfl, ?_⟩) ?_ ?_
            rotate_left
            · intro w'
              go_simp
              with_reducible rfl
            rotate_left
            · simp only [Act.put, List.setIfInBounds_toArray, List.set_cons_zero, List.set_cons_succ, i64_w, i32_w]
              rfl
            refine pure_ (i := 5) (N := some 209) (v := ?_) (a' := ?_) #[true, true, true, false, false, true, false, false, false, false, false] rfl rfl (by kernel_rfl) (fun _ _ _ h => h) (Or.inl ⟨by rfl, ?_⟩) ?_ ?_
            rotate_left
            · intro w'
              go_simp
              with_reducible rfl
            rotate_left
            · simp only [Act.put, List.setIfInBounds_toArray, List.set_cons_zero, List.set_cons_succ, i64_w, i32_w]
              rfl
            refine pure_ (i := 6) (N := some 210) (v := ?_) (a' := ?_) #[true, true, true, false, false, true, true, false, false, false, false] rfl rfl (by kernel_rfl) (fun _ _ _ h => h) (Or.inl ⟨by rfl, ?_⟩) ?_ ?_
            rotate_left
            · intro w'
              go_simp
              with_reducible rfl
            rotate_left
            · simp only [Act.put, List.setIfInBounds_toArray, List.set_cons_zero, List.set_cons_succ, i64_w, i32_w]
              rfl
            refine pure_ (i := 7) (N := some 211) (v := ?_) (a' := ?_) #[true, true, true, false, false, true, true, true, false, false, false] rfl rfl (by kernel_rfl) (fun _ _ _ h => h) (Or.inl ⟨by rfl, ?_⟩) ?_ ?_
            rotate_left
            · intro w'
              go_simp
              with_reducible rfl
            rotate_left
            · simp only [Act.put, List.setIfInBounds_toArray, List.set_cons_zero, List.set_cons_succ, i64_w, i32_w]
              rfl
            refine take_ (i := 3) (N := some 207) (v := ?_) (a' := ?_) #[true, true, true, true, false, true, true, true, false, false, false] rfl rfl (by kernel_rfl) (fun _ _ _ h => h) (Or.inl ⟨by rfl, ?_⟩) hHeld ?_ ?_
            rotate_left
            · rintro w' ⟨s0, s1⟩
              go_simp
              with_reducible rfl
            rotate_left
            · simp only [Act.put, List.setIfInBounds_toArray, List.set_cons_zero, List.set_cons_succ, i64_w, i32_w]
              rfl
            refine pure_ (i := 4) (N := some 208) (v := ?_) (a' := ?_) #[true, true, true, true, true, true, true, true, false, false, false] rfl rfl (by kernel_rfl) (fun _ _ _ h => h) (Or.inl ⟨by rfl, ?_⟩) ?_ ?_
            rotate_left
            · intro w'
              go_simp
              with_reducible rfl
            rotate_left
            · simp only [Act.put, List.setIfInBounds_toArray, List.set_cons_zero, List.set_cons_succ, i64_w, i32_w]
              rfl
            refine take_ (i := 8) (N := some 212) (v := ?_) (a' := ?_) #[true, true, true, true, true, true, true, true, true, false, false] rfl rfl (by kernel_rfl) (fun _ _ _ h => h) (Or.inl ⟨by rfl, ?_⟩) hHeld ?_ ?_
            rotate_left
            · rintro w' ⟨s0, s1⟩
              go_simp
              with_reducible rfl
            rotate_left
            · simp only [Act.put, List.setIfInBounds_toArray, List.set_cons_zero, List.set_cons_succ, i64_w, i32_w]
              rfl
            refine pure_ (i := 9) (N := some 213) (v := ?_) (a' := ?_) #[true, true, true, true, true, true, true, true, true, true, false] rfl rfl (by kernel_rfl) (fun _ _ _ h => h) (Or.inl ⟨by rfl, ?_⟩) ?_ ?_
            rotate_left
            · intro w'
              go_simp
              with_reducible rfl
            rotate_left
            · simp only [Act.put, List.setIfInBounds_toArray, List.set_cons_zero, List.set_cons_succ, i64_w, i32_w]
              rfl
            refine pure_ (i := 10) (N := some 214) (v := ?_) (a' := ?_) #[true, true, true, true, true, true, true, true, true, true, true] rfl rfl (by kernel_rfl) (fun _ _ _ h => h) (Or.inl ⟨by rfl, ?_⟩) ?_ ?_
            rotate_left
            · intro w'
              go_simp
              with_reducible rfl
            rotate_left
            · simp only [Act.put, List.setIfInBounds_toArray, List.set_cons_zero, List.set_cons_succ, i64_w, i32_w]
              rfl
            refine done_ (by kernel_rfl) ?_
            go_wp2
            clear hcw0 hcu0
            go_loopg [24] x.length (fun kq v24 w' => ∃ j : Nat, v24 = .int .i64 (j : Int) ∧ Aside0 (j + kq = x.length) ∧ Aside0 (Below W1.heap.size W1 w'))
            case atStart => exact ⟨0, rfl, ⟨Nat.zero_add _⟩, HB1⟩
            case round =>
              clear HB1
              obtain ⟨j, rfl, HJ, HB2⟩ := hrel
              have hcw0 : wr.cell? (adw.add m) = some (.slice Aw x.length cw) := (HB2.out.cell (World.block_lt_of_cell? _ _ HCWP.out)).trans HCWP.out
              by_cases hlj : j < x.length
              · cases gk with
                | zero => have := HJ.out; omega
                | succ k2 =>
                have hwj := wrap_succ j _ hlj (by have := HX3.out; omega)
                have HHS := Aside0.mk (HHSA.out j hlj)
                obtain ⟨adx, ex, hcx0⟩ := Kd.at_int (Kd.C_below CW.out HB2.out) (j : Int) (by omega) (by omega)
                subst ex
                simp only [Int.toNat_natCast] at hcx0
                generalize rd x (j : Int) = v at *
                have hjx : (j : Int) < (x.length : Int) := by omega
                have hcu0 : wr.cell? (adu.add m) = some (.slice Au y.length cu) := (HB2.out.cell (World.block_lt_of_cell? _ _ HCUP.out)).trans HCUP.out
                have CU := Aside0.mk (Kd.C_below CUP.out HB2.out)
                go_wp2
                refine start_ (n := 16) (S := fun w' => w'.cell? (adu.add m) = some (.slice Au y.length cu) ∧ w'.cell? (adw.add m) = some (.slice (some adx) x.length cw) ∧ w'.cell? (adx.add j) = some (.int .i64 v)) (ds := []) #[false, false, false, false, false, false, false, false, false, false, false, false, false, false, false, false] (by kernel_rfl) rfl rfl ⟨hcu0, hcw0, hcx0⟩ (fun hHeld => ?_)
                have hb := below_drew1 (Below.refl wr.heap.size wr)
                have n0_ := Aside0.mk (below_step HB2.out hb)
                have n1_ := Aside0.mk (Kd.C_below CU.out hb)
                clear HB2
                clear CU
                have HB2 := n0_
                have CU := n1_
                clear n0_ n1_
                replace hcu0 := (hb.cell (World.block_lt_of_cell? _ _ hcu0)).trans hcu0
                replace hcw0 := (hb.cell (World.block_lt_of_cell? _ _ hcw0)).trans hcw0
                replace hcx0 := (hb.cell (World.block_lt_of_cell? _ _ hcx0)).trans hcx0
                generalize wr.drew = W7 at *
                clear hb
                refine pure_ (i := 0) (N := some 224) (v := ?_) (a' := ?_) #[true, false, false, false, false, false, false, false, false, false, false, false, false, false, false, false] rfl rfl (by kernel_rfl) (fun _ _ _ h => h) (Or.inl ⟨by rfl, ?_⟩) ?_ ?_
                rotate_left
                · intro w'
                  go_simp
                  with_reducible rfl
                rotate_left
                · simp only [Act.put, List.setIfInBounds_toArray, List.set_cons_zero, List.set_cons_succ, i64_w, i32_w]
                  rfl
                refine pure_ (i := 1) (N := some 225) (v := ?_) (a' := ?_) #[true, true, false, false, false, false, false, false, false, false, false, false, false, false, false, false] rfl rfl (by kernel_rfl) (fun _ _ _ h => h) (Or.inl ⟨by rfl, ?_⟩) ?_ ?_
                rotate_left
                · intro w'
                  go_simp
                  with_reducible rfl
                rotate_left
                · simp only [Act.put, List.setIfInBounds_toArray, List.set_cons_zero, List.set_cons_succ, i64_w, i32_w]
                  rfl
                refine pure_ (i := 2) (N := some 226) (v := ?_) (a' := ?_) #[true, true, true, false, false, false, false, false, false, false, false, false, false, false, false, false] rfl rfl (by kernel_rfl) (fun _ _ _ h => h) (Or.inl ⟨by rfl, ?_⟩) ?_ ?_
                rotate_left
                · intro w'
                  go_simp
                  with_reducible rfl
                rotate_left
                · simp only [Act.put, List.setIfInBounds_toArray, List.set_cons_zero, List.set_cons_succ, i64_w, i32_w]
                  rfl
                refine pure_ (i := 4) (N := some 228) (v := ?_) (a' := ?_) #[true, true, true, false, true, false, false, false, false, false, false, false, false, false, false, false] rfl rfl (by kernel_rfl) (fun _ _ _ h => h) (Or.inl ⟨by rfl, ?_⟩) ?_ ?_
                rotate_left
                · intro w'
                  go_simp
                  with_reducible rfl
                rotate_left
                · simp only [Act.put, List.setIfInBounds_toArray, List.set_cons_zero, List.set_cons_succ, i64_w, i32_w]
                  rfl
                refine pure_ (i := 5) (N := some 229) (v := ?_) (a' := ?_) #[true, true, true, false, true, true, false, false, false, false, false, false, false, false, false, false] rfl rfl (by kernel_rfl) (fun _ _ _ h => h) (Or.inl ⟨by rfl, ?_⟩) ?_ ?_
                rotate_left
                · intro w'
                  go_simp
                  with_reducible rfl
                rotate_left
                · simp only [Act.put, List.setIfInBounds_toArray, List.set_cons_zero, List.set_cons_succ, i64_w, i32_w]
                  rfl
                refine pure_ (i := 6) (N := some 230) (v := ?_) (a' := ?_) #[true, true, true, false, true, true, true, false, false, false, false, false, false, false, false, false] rfl rfl (by kernel_rfl) (fun _ _ _ h => h) (Or.inl ⟨by rfl, ?_⟩) ?_ ?_
                rotate_left
                · intro w'
                  go_simp
                  with_reducible rfl
                rotate_left
                · simp only [Act.put, List.setIfInBounds_toArray, List.set_cons_zero, List.set_cons_succ, i64_w, i32_w]
                  rfl
                refine pure_ (i := 8) (N := some 232) (v := ?_) (a' := ?_) #[true, true, true, false, true, true, true, false, true, false, false, false, false, false, false, false] rfl rfl (by kernel_rfl) (fun _ _ _ h => h) (Or.inl ⟨by rfl, ?_⟩) ?_ ?_
                rotate_left
                · intro w'
                  go_simp
                  with_reducible rfl
                rotate_left
                · simp only [Act.put, List.setIfInBounds_toArray, List.set_cons_zero, List.set_cons_succ, i64_w, i32_w]
                  rfl
                refine pure_ (i := 11) (N := some 235) (v := ?_) (a' := ?_) #[true, true, true, false, true, true, true, false, true, false, false, true, false, false, false, false] rfl rfl (by kernel_rfl) (fun _ _ _ h => h) (Or.inl ⟨by rfl, ?_⟩) ?_ ?_
                rotate_left
                · intro w'
                  go_simp
                  with_reducible rfl
                rotate_left
                · simp only [Act.put, List.setIfInBounds_toArray, List.set_cons_zero, List.set_cons_succ, i64_w, i32_w]
                  rfl
                refine pure_ (i := 12) (N := some 236) (v := ?_) (a' := ?_) #[true, true, true, false, true, true, true, false, true, false, false, true, true, false, false, false] rfl rfl (by kernel_rfl) (fun _ _ _ h => h) (Or.inl ⟨by rfl, ?_⟩) ?_ ?_
                rotate_left
                · intro w'
                  go_simp
                  with_reducible rfl
                rotate_left
                · simp only [Act.put, List.setIfInBounds_toArray, List.set_cons_zero, List.set_cons_succ, i64_w, i32_w]
                  rfl
                refine take_ (i := 3) (N := some 227) (v := ?_) (a' := ?_) #[true, true, true, true, true, true, true, false, true, false, false, true, true, false, false, false] rfl rfl (by kernel_rfl) (fun _ _ _ h => h) (Or.inl ⟨by rfl, ?_⟩) hHeld ?_ ?_
                rotate_left
                · rintro w' ⟨s0, s1, s2⟩
                  go_simp
                  with_reducible rfl
                rotate_left
                · simp only [Act.put, List.setIfInBounds_toArray, List.set_cons_zero, List.set_cons_succ, i64_w, i32_w]
                  rfl
                refine take_ (i := 7) (N := some 231) (v := ?_) (a' := ?_) #[true, true, true, true, true, true, true, true, true, false, false, true, true, false, false, false] rfl rfl (by kernel_rfl) (fun _ _ _ h => h) (Or.inl ⟨by rfl, ?_⟩) hHeld ?_ ?_
                rotate_left
                · rintro w' ⟨s0, s1, s2⟩
                  go_simp
                  with_reducible rfl
                rotate_left
                · simp only [Act.put, List.setIfInBounds_toArray, List.set_cons_zero, List.set_cons_succ, i64_w, i32_w]
                  rfl
                refine pure_ (i := 9) (N := some 233) (v := ?_) (a' := ?_) #[true, true, true, true, true, true, true, true, true, true, false, true, true, false, false, false] rfl rfl (by kernel_rfl) (fun _ _ _ h => h) (Or.inl ⟨by rfl, ?_⟩) ?_ ?_
                rotate_left
                · intro w'
                  go_simp
                  with_reducible rfl
                rotate_left
                · simp only [Act.put, List.setIfInBounds_toArray, List.set_cons_zero, List.set_cons_succ, i64_w, i32_w]
                  rfl
                refine take_ (i := 10) (N := some 234) (v := ?_) (a' := ?_) #[true, true, true, true, true, true, true, true, true, true, true, true, true, false, false, false] rfl rfl (by kernel_rfl) (fun _ _ _ h => h) (Or.inl ⟨by rfl, ?_⟩) hHeld ?_ ?_
                rotate_left
                · rintro w' ⟨s0, s1, s2⟩
                  go_simp
                  with_reducible rfl
                rotate_left
                · simp only [Act.put, List.setIfInBounds_toArray, List.set_cons_zero, List.set_cons_succ, i64_w, i32_w]
                  rfl
                refine one_ (i := 13) (N := some 237) #[true, true, true, true, true, true, true, true, true, true, true, true, true, true, false, false] rfl rfl (by kernel_rfl) (by decide) (fun K hK => ?_)
                refine goes_ Try.func55 (by kernel_rfl) rfl #[.int .i64 v, .int .i64 (p : Int), .int .i64 (q : Int)] (by rfl) rfl rfl (by simp only [List.map_toArray, List.map_cons, List.map_nil]; rfl) ?_
                with_reducible refine (posserlaw03_swap.calls v (p : Int) (q : Int) (sv v) _ (HSV.out v)).mono ?_
                rintro e Wx ⟨rfl, ⟨nd, rfl⟩⟩
                have hb := pw_below_drewN (Below.refl W7.heap.size W7) nd
                replace hcu0 := (hb.cell (World.block_lt_of_cell? _ _ hcu0)).trans hcu0
                replace hcw0 := (hb.cell (World.block_lt_of_cell? _ _ hcw0)).trans hcw0
                replace hcx0 := (hb.cell (World.block_lt_of_cell? _ _ hcx0)).trans hcx0
                have n0_ := Aside0.mk (below_step HB2.out hb)
                have n1_ := Aside0.mk (Kd.C_below CU.out hb)
                clear HB2
                clear CU
                have HB2 := n0_
                have CU := n1_
                clear n0_ n1_
                clear hb
                generalize W7.drewN nd = W8 at *
                refine ⟨_, rfl, ?_⟩
                refine hK.out _ _ ⟨hcu0, hcw0, hcx0⟩ (fun hHeld => ?_)
                clear hK K
                refine norm_ (a' := ?_) ?_ ?_
                rotate_left
                · show Act.put _ (some 237) _ = _
                  simp only [Act.put, List.setIfInBounds_toArray, List.set_cons_zero, List.set_cons_succ, i64_w, i32_w]
                  rfl
                refine one_ (i := 14) (N := some 238) #[true, true, true, true, true, true, true, true, true, true, true, true, true, true, true, false] rfl rfl (by kernel_rfl) (by decide) (fun K hK => ?_)
                refine goes_ Try.func56 (by kernel_rfl) rfl #[.slice Au y.length cu, .int .i64 (sv v)] (by rfl) rfl rfl (by simp only [List.map_toArray, List.map_cons, List.map_nil]; rfl) ?_
                with_reducible refine (posserref03_Has.calls k Au cu y (sv v) true _ CU.out LU.out HHS.out).mono ?_
                rintro e Wx ⟨rfl, ⟨nd, rfl⟩⟩
                have hb := pw_below_drewN (Below.refl W8.heap.size W8) nd
                replace hcu0 := (hb.cell (World.block_lt_of_cell? _ _ hcu0)).trans hcu0
                replace hcw0 := (hb.cell (World.block_lt_of_cell? _ _ hcw0)).trans hcw0
                replace hcx0 := (hb.cell (World.block_lt_of_cell? _ _ hcx0)).trans hcx0
                have n0_ := Aside0.mk (below_step HB2.out hb)
                have n1_ := Aside0.mk (Kd.C_below CU.out hb)
                clear HB2
                clear CU
                have HB2 := n0_
                have CU := n1_
                clear n0_ n1_
                clear hb
                generalize W8.drewN nd = W9 at *
                refine ⟨_, rfl, ?_⟩
                refine hK.out _ _ ⟨hcu0, hcw0, hcx0⟩ (fun hHeld => ?_)
                clear hK K
                refine norm_ (a' := ?_) ?_ ?_
                rotate_left
                · show Act.put _ (some 238) _ = _
                  simp only [Act.put, List.setIfInBounds_toArray, List.set_cons_zero, List.set_cons_succ, i64_w, i32_w]
                  rfl
                refine pure_ (i := 15) (N := some 239) (v := ?_) (a' := ?_) #[true, true, true, true, true, true, true, true, true, true, true, true, true, true, true, true] rfl rfl (by kernel_rfl) (fun _ _ _ h => h) (Or.inl ⟨by rfl, ?_⟩) ?_ ?_
                rotate_left
                · intro w'
                  go_simp
                  with_reducible rfl
                rotate_left
                · simp only [Act.put, List.setIfInBounds_toArray, List.set_cons_zero, List.set_cons_succ, i64_w, i32_w]
                  rfl
                refine done_ (by kernel_rfl) ?_
                go_wp2
                go_roundg k2
                case measure => omega
                case rel => exact ⟨j + 1, by go_num, ⟨by have := HJ.out; omega⟩, HB2⟩
              · obtain rfl : j = x.length := by have := HJ.out; omega
                go_wp2
                go_roundg k1
                case measure => omega
                case rel => exact ⟨m + 1, by go_num, ⟨by have := HM.out; omega⟩, HB2⟩
          · go_wp2_with (first | (go_at_call 21; go_must (have hb0 := Aside0.mk (below_step HB.out HB1.out); refine (awake_calls _).mono ?_; rintro e W_ ⟨rfl, hb⟩; replace HB := Aside0.mk (below_step hb0.out hb))))
            go_ret
            exact ⟨rfl, HB.out⟩
end Go.Proofs.Ytnbbbeghgomnoaa.X
