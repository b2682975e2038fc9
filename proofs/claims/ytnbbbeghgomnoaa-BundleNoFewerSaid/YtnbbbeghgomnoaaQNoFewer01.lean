/-
  For every valid table that has a truth: in no truth fewer pieces are astray than in the best one, nor as many, so that it is lexicographically before it; the moves are as many as these, and after them no piece is astray in this truth.
-/
import Derived.Test.YtnbbbeghgomnoaaQSure01
import Derived.Below
import Derived.Deep.Draws
import Derived.Deep.AppendLies
import Derived.Maps.AppendAt
import Derived.OwnWalk
import Derived.Laws.BytesArg
import Derived.Laws.MakeOwn
import Derived.Laws.OwnMore
import Derived.Deep.OwnRows
import Derived.Tactics
import Derived.Lib.ConvBytes
import Derived.Laws.Slices
import Derived.WalkKit
import Derived.KernelRfl
import Derived.RowKit3
import Derived.Deep.LoopGhost
import Derived.Deep.QuietTactic
import Derived.BigQuiet
import Derived.WideLaws
import Derived.Deep.DeepCutAuto
import Derived.Deep.CutBlock
import Derived.Deep.RegionHeld3
import Derived.Laws.Rows
import Derived.Lib.AppendStr
import Derived.ArgAppend
import Derived.Laws.IdiomCopy
import Derived.RowKit
import Derived.Test.YtnbbbeghgomnoaaProg
import Derived.OrdersHeld
import Derived.Laws.BitsLemmas
import Derived.Deep.DeepMust
import Derived.Test.YtnbbbeghgomnoaaRows
import Derived.ProofKit
import Derived.OpenShut
import Derived.ShutString
import Derived.ChangeOld
import Derived.SizedLaws
set_option linter.unusedVariables false
set_option linter.unusedSimpArgs false
set_option linter.unusedVariables false
set_option linter.unusedSimpArgs false
namespace Go.Proofs.YtnbbbeghgomnoaaW.PrintWords
open Go.RowKit
section
variable {P : Program} {ops : Array Oper} {rest : List Oper} {o : Oper} {a : Act} {Q : Exit → Act → World → Prop}
end
section
variable {P : Program}
end
section
variable {P : Program} {ops : Array Oper} {rest : List Oper} {o : Oper} {a : Act} {Q : Exit → Act → World → Prop}
end
section
variable {P : Program} {ops : Array Oper} {rest : List Oper} {o : Oper} {a : Act} {Q : Exit → Act → World → Prop}
end
theorem blk_ne {w : World} {g g' : Nat} {t t' : TypeId} {cs cs' : Array Value} (h : w.heap[g]? = some (.cells cs t (0, 0))) (h' : w.heap[g']? = some (.cells cs' t' (0, 0))) (hne : t ≠ t') : g ≠ g' := by
 rintro rfl
 rw [h] at h'
 injection h' with h'
 injection h' with _ ht
 exact hne ht
section
variable {P : Program} {ops : Array Oper} {o : Oper} {a : Act} {Q : Exit → Act → World → Prop} {K : Act → World → Prop}
end
section
variable {α : Type} {enc : α → Value} {d : α}
end
section
variable {α : Type} {P : Program} {ops : Array Oper} {rest : List Oper} {o : Oper} {a : Act} {Q : Exit → Act → World → Prop}
end
section
variable {P : Program}
end
section
variable {α : Type} {R R' : α → List Value → Prop} {e : TypeId} {size : Nat} {w w1 : World} {base : Nat} {v : Value} {ps : List α}
theorem OwnRow.lower (h : OwnRow R e size w base v ps) {base' : Nat} (hb : base' ≤ base) : OwnRow R e size w base' v ps := by
 obtain ⟨inner, ho, hr⟩ := h
 exact ⟨inner, own_weaken ho hb, hr⟩
end
section
variable {P : Program} {ops : Array Oper} {rest : List Oper} {o : Oper} {a : Act} {Q : Exit → Act → World → Prop} {α : Type} {R : α → List Value → Prop}
end
section
variable {P : Program} {ops : Array Oper} {o : Oper} {a : Act} {Q : Exit → Act → World → Prop} {K : Act → World → Prop} {α : Type} {R : α → List Value → Prop}
end
section
variable {α : Type} {P : Program}
end
section
variable {P : Program} {ops : Array Oper} {rest : List Oper} {o : Oper} {a : Act} {Q : Exit → Act → World → Prop}
end
namespace Kd
section
variable {α : Type} {d : Kd α} {e : Nat} {w w1 : World} {base : Nat} {ok ok' : Nat → Prop} {v : Value} {xs : List α}
end
section
variable {P : Program} {ops : Array Oper} {rest : List Oper} {o : Oper} {a : Act} {Q : Exit → Act → World → Prop} {α : Type}
end
section
variable {P : Program} {ops : Array Oper} {o : Oper} {a : Act} {Q : Exit → Act → World → Prop} {Kc : Act → World → Prop} {α : Type}
end
end Kd
namespace Kd
section
variable {α : Type} {F : Kd α → Kd α} {sz : Nat} {E : List Nat} {hs : ∀ n, (upto F sz E n).sz = sz} {hE : ∀ n q, q ∈ (upto F sz E n).E → q ∈ E}
end
end Kd
namespace Kd
end Kd
namespace Kd
section
variable {α β : Type} {d : Kd α} {d' : Kd β} {e e' : Nat} {w w1 W : World} {base b b' : Nat} {ok ok' okv oku : Nat → Prop} {v u : Value} {xs : List α} {ys : List β}
end
section
variable {w W : World} {A : Option Addr} {n : Nat}
variable {α : Type} {enc : α → Value} {h1 : ∀ x, (enc x).oneCell' = true} {e base g cap : Nat} {ok : Nat → Prop} {xs : List α}
end
section
variable {P : Program} {ops : Array Oper} {rest : List Oper} {o : Oper} {a : Act} {Q : Exit → Act → World → Prop}
variable {α : Type}
end
end Kd
section
variable {P : Program}
end
section
variable {w w1 : World} {base n size : Nat} {e : TypeId} {v : Value} {xs : List Value}
end
section
variable {P : Program}
end
namespace Kd
section
variable {α : Type} {d : Kd α} {e : Nat} {w w1 W : World} {base : Nat} {ok ok' : Nat → Prop} {v : Value} {xs : List α}
end
section
variable {P : Program} {ops : Array Oper} {rest : List Oper} {o : Oper} {a : Act} {Q' : Exit → Act → World → Prop} {Kc : Act → World → Prop} {α : Type}
end
end Kd
namespace Kd
section
variable {α : Type} {d : Kd α} {e e' : Nat} {w w1 W : World} {base : Nat} {ok : Nat → Prop} {u v : Value} {xs : List α}
end
end Kd
namespace Kd
section
variable {α : Type} {d : Kd α} {e base g n cap : Nat} {ok okp : Nat → Prop} {W : World} {xs : List α}
end
end Kd
namespace Kd
section
variable {α : Type} {F : Kd α → Kd α} {sz : Nat} {E : List Nat} {hs : ∀ n, (upto F sz E n).sz = sz} {hE : ∀ n q, q ∈ (upto F sz E n).E → q ∈ E}
end
end Kd
namespace Kd
section
variable {P : Program} {ops : Array Oper} {rest : List Oper} {o : Oper} {a : Act} {Q : Exit → Act → World → Prop} {α : Type}
theorem R_append_rows (d : Kd α) {Rr : α → List Value → Prop} {w0 W : World} (base : Nat) (hgd : o.guard = none) (s x : Operand) (t e : TypeId) (z : Value) (bytes : Nat)
  (ho : o.op = .call { callee := .builtin .append, args := #[s, x], argTypes := #[t, t] })
  (ht : P.underlying t = some (.slice e)) (hinfo : (P.info? e).map (fun i => (i.zero, i.size, i.bytes)) = some (some z, d.sz, bytes)) (hz : z.cells.size = d.sz) (hs0 : 0 < d.sz) (hb0 : 0 < bytes)
  (v : Value) (xs ys : List α) (A : Option Addr) (m c : Nat) (ok okp : Nat → Prop) (hs : a.eval s = v) (hx : a.eval x = .slice A m c)
  (HO : d.R e W base ok v xs) (HR : ReadsRow Rr d.sz W A m ys) (hKM : ∀ x cs, Rr x cs → d.M W base okp x cs) (hokp : ∀ k, okp k → ok k ∧ some k ≠ v.ownBlock) (hfresh : ∀ k, W.heap.size ≤ k → ok k)
  (HB : Below base w0 W) (hbase : base ≤ W.heap.size) (hl : (xs.length + m) * bytes ≤ 140737488355328)
  (h : ∀ v1 w1, d.R e w1 base ok v1 (xs ++ ys) → Below base w0 w1 → W.grownBy w1 v.ownBlock → (v1.ownBlock = v.ownBlock ∨ ∃ b, v1.ownBlock = some b ∧ W.heap.size ≤ b) → wpList P ops Q rest (a.put o.dst v1) w1) :
  wpList P ops Q (o :: rest) a W := by
 obtain ⟨i0, hi, hzz⟩ := Option.map_eq_some_iff.1 hinfo
 simp only [Prod.mk.injEq] at hzz
 obtain ⟨hz0, hz1, hz2⟩ := hzz
 have hm : ys.length = m := HR.1
 have hlen : xs.length + m ≤ 140737488355328 := Nat.le_trans (Nat.le_mul_of_pos_right _ hb0) hl
 obtain ⟨hok, inner, hown, hr⟩ := HO
 have hrun : ∃ v1 w1, (Builtin.append_ #[t, t] o.type #[v, .slice A m c]).run P W = .ok v1 w1 ∧ d.R e w1 base ok v1 (xs ++ ys) ∧ W.grownBy w1 v.ownBlock ∧ (v1.ownBlock = v.ownBlock ∨ ∃ b, v1.ownBlock = some b ∧ W.heap.size ≤ b) := by
  rcases A with _ | ad
  ·have h0 : m = 0 := by
    rcases Nat.eq_zero_or_pos m with h0 | h0
    ·exact h0
    ·obtain ⟨ad, h, _⟩ := HR.2.2 h0
     cases h
   subst h0
   obtain rfl : ys = [] := List.eq_nil_of_length_eq_zero hm
   refine ⟨v, W, ?_, by rw [List.append_nil]; exact ⟨hok, inner, hown, hr⟩, World.grownBy.refl W _, .inl rfl⟩
   rcases hown.2 with ⟨rfl, hn⟩ | ⟨g, cap, cur, rfl, _, _, hnc, _⟩
   ·simp [Builtin.append_, run_underlying ht, sizeOf, typeInfo, hi, Builtin.lenOf, Builtin.firstCells]
   ·simp [Builtin.append_, run_underlying ht, sizeOf, typeInfo, hi, Builtin.lenOf, Builtin.firstCells, hnc, storeCells]
  ·obtain ⟨news, hnr, hnc⟩ := ReadsRow.inner_ HR
   have hnM : Reps (d.M W base okp) d.sz ys news := hnr.imp_ (fun p c hp => hKM p c hp)
   have hone : ∀ u ∈ news, u.oneCell' = true := by
    intro u hu
    obtain ⟨q, hq, rfl⟩ := List.mem_iff_getElem.1 hu
    have hql : q / d.sz < ys.length := by
     rw [Nat.div_lt_iff_lt_mul hs0]
     rw [← hnM.1]
     exact hq
    have hc := hnM.2 (q / d.sz) _ (List.getElem?_eq_getElem hql)
    refine d.K_one (d.K_of_M hc) _ ?_
    rw [List.mem_iff_getElem?]
    refine ⟨q % d.sz, ?_⟩
    rw [List.getElem?_take, if_pos (Nat.mod_lt _ hs0), List.getElem?_drop, Nat.mul_comm, Nat.div_add_mod, List.getElem?_eq_getElem hq]
   obtain ⟨v1, w1, hrun, h2, hg, _, hat⟩ := run_append_own_at (P := P) W base t o.type e i0 z d.sz bytes ht hi hz0 hz1 hz2 hz hs0 v xs.length inner hown ad m c news (by rw [hnM.1, hm]) hnc hone (by simp only [maxLen]; omega) hl hbase
   have hat' : v1.ownBlock = v.ownBlock ∨ ∃ b, v1.ownBlock = some b ∧ W.heap.size ≤ b := by
    rcases hat with hat | hat
    ·exact .inl hat
    ·exact .inr ⟨_, hat, Nat.le_refl _⟩
   have hne : ∀ k, some k ≠ v.ownBlock → k < W.heap.size → some k ≠ v1.ownBlock := by
    intro k hk hlt
    rcases hat' with hat | ⟨b, hb, hle⟩
    ·rw [hat]; exact hk
    ·rw [hb]
     intro he
     injection he with he
     omega
   have step : ∀ {q : α} {c : List Value} {o : Nat → Prop}, d.M W base o q c → (∀ k, o k → ok k ∧ some k ≠ v.ownBlock) → d.M w1 base (fun k => ok k ∧ some k ≠ v1.ownBlock) q c := by
    intro q c o hq ho
    have h1 := d.M_move (w1 := w1) (fun k hk => hg.block k hk.2.2.1 (ho k hk.1).2) (d.M_bound hq)
    exact d.M_mono (fun k hk => ⟨(ho k hk.1).1, hne k (ho k hk.1).2 hk.2.2.1⟩) h1
   refine ⟨v1, w1, hrun, ⟨fun k hk => ?_, inner ++ news, by rw [List.length_append, hm]; exact h2, reps_append (hr.imp_ (fun _ _ hq => step hq (fun _ hk => hk))) (hnM.imp_ (fun _ _ hq => step hq hokp))⟩, hg, hat'⟩
   rcases hat' with hat | ⟨b, hb, hle⟩
   ·exact hok k (hat ▸ hk)
   ·rw [hb] at hk
    injection hk with hk
    exact hfresh k (by omega)
 obtain ⟨v1, w1, hr1, h1, hg, hat⟩ := hrun
 refine wpList_plain hgd fun K hK => ?_
 unfold Oper.wp execOp
 simp only [ho, resolve, invoke, builtin, Sem.run_bind, Sem.run_pure, Result.andThen_ok, List.map_toArray, List.map_cons, List.map_nil, hs, hx, hr1]
 exact hK _ _ (h v1 w1 h1 (HB.grown hg hbase (own_base hown)) hg hat)
end
end Kd
namespace Kd
section
variable {P : Program} {ops : Array Oper} {rest : List Oper} {o : Oper} {a : Act} {Q : Exit → Act → World → Prop} {α : Type}
end
end Kd
namespace Kd
section
variable {α : Type} {k : Kd α} {w : World} {A : Option Addr} {xs : List α} {m c : Nat}
end
end Kd
section
variable {P : Program}
end
namespace Kd
section
variable {α β : Type} {d : Kd α} {d' : Kd β} {e e' base base' n : Nat} {ok ok' : Nat → Prop} {w W w1 W1 : World} {v u : Value} {xs : List α} {ys : List β} {A : Option Addr} {c : Nat}
end
section
variable {α : Type} {enc : α → Value} {h1 : ∀ x, (enc x).oneCell' = true} {w W : World} {A : Option Addr} {n g : Nat} {xs : List α}
end
end Kd
namespace Kd
section
variable {α : Type} {d : Kd α} {e base g : Nat} {ok : Nat → Prop} {w w1 : World} {v : Value} {xs : List α} {o : Obj}
end
end Kd
section
variable {P : Program} {ops : Array Oper} {rest : List Oper} {o : Oper} {a : Act} {Q : Exit → Act → World → Prop}
end
namespace Kd
section
variable {α : Type} {enc : α → Value} {h1 : ∀ x, (enc x).oneCell' = true} {e base g n cap : Nat} {ok : Nat → Prop} {W : World} {xs : List α}
end
end Kd
section
variable {P : Program} {ops : Array Oper} {rest : List Oper} {o : Oper} {a : Act} {Q : Exit → Act → World → Prop}
end
namespace Kd
section
variable {α : Type} {enc : α → Value} {h1 : ∀ x, (enc x).oneCell' = true} {e base g n cap : Nat} {ok : Nat → Prop} {W : World} {xs : List α}
end
end Kd
section
variable {P : Program} {ops : Array Oper} {rest : List Oper} {o : Oper} {a : Act} {Q : Exit → Act → World → Prop} {W : World}
end
section
variable {P : Program} {ops : Array Oper} {o : Oper} {a : Act} {Q : Exit → Act → World → Prop} {Kc : Act → World → Prop}
namespace Kd
variable {α : Type}
end Kd
end
section
variable {P : Program} {tmps : Array Value} {w : World}
end
namespace Kd
section
variable {P : Program} {α : Type}
end
section
variable {P : Program} {ops : Array Oper} {rest : List Oper} {o : Oper} {a : Act} {Q : Exit → Act → World → Prop} {Kc : Act → World → Prop} {α : Type}
end
end Kd
end Go.Proofs.YtnbbbeghgomnoaaW.PrintWords
namespace Go.Proofs.YtnbbbeghgomnoaaW.PrintWords
open Go.RowKit
namespace Kd
section
variable {α : Type} {d : Kd α} {e base n cap g : Nat} {ok ok' okp : Nat → Prop} {w w1 W : World} {v v1 : Value} {xs ys : List α}
theorem reads_raw {Rr : α → List Value → Prop} {sz m : Nat} {A : Option Addr} (h : ReadsRow Rr sz W A m ys) (hR : ∀ x c, Rr x c → c.length = sz ∧ ∀ u ∈ c, u.oneCell' = true) :
  ∃ news : List (List Value), news.length = ys.length ∧ ReadsRow (fun x cs => cs = x ∧ cs.length = sz ∧ ∀ u ∈ cs, u.oneCell' = true) sz W A m news ∧ ∀ (j : Nat) (x : α) (c : List Value), ys[j]? = some x → news[j]? = some c → Rr x c := by
 rcases Nat.eq_zero_or_pos m with h0 | hp
 ·have hy : ys = [] := List.eq_nil_of_length_eq_zero (h.1.trans h0)
  subst hy
  exact ⟨[], rfl, ⟨h0 ▸ rfl, h.2.1, fun hp => by omega⟩, fun j x c hx => by simp at hx⟩
 ·obtain ⟨ad, rfl, _⟩ := h.2.2 hp
  obtain ⟨inner, hr, hc⟩ := ReadsRow.inner_ h
  refine ⟨chunks sz ys.length inner, chunks_length _ _ _, ⟨by rw [chunks_length]; exact h.1, h.2.1, fun _ => ⟨ad, rfl, fun j p hj => ?_⟩⟩, fun j x c hx hcc => ?_⟩
  ·have hjl : j < ys.length := by have := (List.getElem?_eq_some_iff.1 hj).1; rwa [chunks_length] at this
   have hpe := chunks_get hj
   have hq := hR _ _ (hr.2 j _ (List.getElem?_eq_getElem hjl))
   rw [← hpe] at hq
   refine ⟨p, hq.1, ⟨rfl, hq⟩, fun i u hu => ?_⟩
   have hu2 : inner[j * sz + i]? = some u := by
    rw [hpe, List.getElem?_take] at hu
    split at hu
    ·rw [List.getElem?_drop] at hu
     exact hu
    ·cases hu
   exact hc _ u hu2
  ·rw [chunks_get hcc]
   exact hr.2 j x hx
end
section
variable {P : Program} {ops : Array Oper} {rest : List Oper} {o : Oper} {a : Act} {Q : Exit → Act → World → Prop} {Kc : Act → World → Prop} {α : Type}
end
end Kd
end Go.Proofs.YtnbbbeghgomnoaaW.PrintWords
namespace Go.Proofs.Ytnbbbeghgomnoaa.X
open Go.RowKit Go.Proofs.YtnbbbeghgomnoaaW.PrintWords Go.Proofs.YtnbbbeghgomnoaaW.PrintLast Go.Proofs.YtnbbbeghgomnoaaW.PrintMore
attribute [local go_sem] max2_int min2_int max_two min_two max_three min_three max_four min_four
set_option linter.unusedVariables false
set_option linter.unusedSimpArgs false
theorem info71 : (Try.prog.info? 71).map (fun i => (i.zero, i.size, i.bytes)) = some (some (.agg #[(.slice none 0 0), (.int .i64 0)]), 2, 32) := by kernel_rfl
end Go.Proofs.Ytnbbbeghgomnoaa.X
namespace Go.Proofs.Ytnbbbeghgomnoaa.X
open Go.RowKit Go.Proofs.YtnbbbeghgomnoaaW.PrintWords Go.Proofs.YtnbbbeghgomnoaaW.PrintLast Go.Proofs.YtnbbbeghgomnoaaW.PrintMore
set_option maxHeartbeats 4000000 in
set_option maxRecDepth 100000 in
theorem ProveTruth_ok {A0 : Option Addr} {c0 : Nat} {l0 : List S109} {A1 : Option Addr} {c1 : Nat} {l1 : List S110} (wg : Int) {Al : Option Addr} {cl : Nat} {l : List Int} {w : World} (ht : Tab A0 c0 l0 A1 c1 l1 w) (hrl : Kd.C (Kd.int .i64) w Al l.length l) (hcl : l.length ≤ cl) (hll : l.length ≤ 1000000) (he : checkT l0 l1 wg = 0) (ha : areB l0 l1 l = true) :
  Calls Try.prog 60 #[.agg #[.slice A0 l0.length c0, .slice A1 l1.length c1, .int .i64 wg], .slice Al l.length cl] w fun e w' => e = .returned (.bool (isT l0 l1.length wg l)) ∧ Below w.heap.size w w' := by
 have hu35 := Try.underlying35
 have hu121 := Try.underlying121
 have HT := Aside0.mk ht
 have HRL := Aside0.mk hrl
 have HCL := Aside0.mk hcl
 have HLL := Aside0.mk hll
 clear ht hrl hcl hll
 have HB := Aside0.mk (Below.refl w.heap.size w)
 have HE := Aside0.mk he
 have HN0 := Aside0.mk (checkT_zero he).n0
 have HN1 := Aside0.mk (checkT_zero he).n1
 have HAB := Aside0.mk ha
 have HOW := Aside0.mk (allL_owners l0 l1 l (areB_mem.1 ha))
 clear he ha
 go_enter Try.func60, Try.ntmps60
 go_wp2_with (first | ((with_reducible refine gate_dst (N := 2) rfl ?_); refine sbox (N := 2) #[.slice A0 l0.length c0, .slice A1 l1.length c1, .int .i64 wg] 35 ?_; intro g2 hg W_ hbox hb; have GEg2 := Aside0.mk (by rw [hg]; exact HB.out.size : w.heap.size ≤ g2); replace HB := Aside0.mk (below_step HB.out hb); have BKg2 := Aside0.mk hbox; clear hb hbox hg; have hcz0 := sc 0 BKg2; have hcz1 := sc 1 BKg2; have hcz2 := sc 2 BKg2) | (go_at_call 61; go_must (refine (check_calls wg (HT.out.below HB.out)).mono ?_; rintro e W_ ⟨rfl, hb⟩; replace BKg2 := Aside0.mk (blk_below BKg2.out hb); replace HB := Aside0.mk (below_step HB.out hb); clear hb hcz0 hcz1 hcz2; rw [HE.out]; have hcz0 := sc 0 BKg2; have hcz1 := sc 1 BKg2; have hcz2 := sc 2 BKg2)) | (go_at_call 83; go_must (refine (listed_calls A0 c0 l0 A1 c1 l1 wg Al cl l _ (HT.out.below HB.out).r0 HT.out.h0 (HT.out.below HB.out).r1 HT.out.h1 (Kd.C_below HRL.out HB.out) HCL.out HT.out.n0 HN1.out HT.out.ms (by have := HLL.out; omega)).mono ?_; rintro e W_ ⟨o, rfl, ho1, ho2, hb⟩; replace BKg2 := Aside0.mk (blk_below BKg2.out hb); replace HB := Aside0.mk (below_step HB.out hb); clear hb hcz0 hcz1 hcz2; have HO1 := Aside0.mk ho1; have HO2 := Aside0.mk ho2; clear ho1 ho2; have ho_ : o = pad l := pad_of (HO1.out HAB.out) HO2.out; subst ho_; unfold ac; rw [HAB.out])))
 have hb := below_alloc (Below.refl W_.heap.size W_) (.cells #[.int .i64 (pad l 0), .int .i64 (pad l 1), .int .i64 (pad l 2), .int .i64 (pad l 3), .int .i64 (pad l 4), .int .i64 (pad l 5), .int .i64 (pad l 6)] 121)
 have BKg8 := Aside0.mk (heap_alloc_new W_ (.cells #[.int .i64 (pad l 0), .int .i64 (pad l 1), .int .i64 (pad l 2), .int .i64 (pad l 3), .int .i64 (pad l 4), .int .i64 (pad l 5), .int .i64 (pad l 6)] 121))
 replace BKg2 := Aside0.mk (blk_below BKg2.out hb)
 replace HB := Aside0.mk (below_step HB.out hb)
 clear hb
 try (clear hcz0 hcz1 hcz2)
 generalize W_.alloc (.cells #[.int .i64 (pad l 0), .int .i64 (pad l 1), .int .i64 (pad l 2), .int .i64 (pad l 3), .int .i64 (pad l 4), .int .i64 (pad l 5), .int .i64 (pad l 6)] 121) = W5 at *
 generalize W_.heap.size = g8 at *
 have hcz0 := sc 0 BKg2
 have hcz1 := sc 1 BKg2
 have hcz2 := sc 2 BKg2
 have hca0 := sc 0 BKg8
 have hca1 := sc 1 BKg8
 have hca2 := sc 2 BKg8
 have hca3 := sc 3 BKg8
 have hca4 := sc 4 BKg8
 have hca5 := sc 5 BKg8
 have hca6 := sc 6 BKg8
 refine start_ (n := 11) (S := fun w' => w'.cell? ⟨g2, 0, none⟩ = some (.slice A0 l0.length c0) ∧ w'.cell? ⟨g2, 1, none⟩ = some (.slice A1 l1.length c1) ∧ w'.cell? ⟨g2, 2, none⟩ = some (.int .i64 wg) ∧ w'.cell? ⟨g8, 0, none⟩ = some (.int .i64 (pad l 0)) ∧ w'.cell? ⟨g8, 1, none⟩ = some (.int .i64 (pad l 1)) ∧ w'.cell? ⟨g8, 2, none⟩ = some (.int .i64 (pad l 2)) ∧ w'.cell? ⟨g8, 3, none⟩ = some (.int .i64 (pad l 3)) ∧ w'.cell? ⟨g8, 4, none⟩ = some (.int .i64 (pad l 4)) ∧ w'.cell? ⟨g8, 5, none⟩ = some (.int .i64 (pad l 5)) ∧ w'.cell? ⟨g8, 6, none⟩ = some (.int .i64 (pad l 6))) (ds := []) (lm 11 0) (by kernel_rfl) rfl (by kernel_rfl) ⟨hcz0, hcz1, hcz2, hca0, hca1, hca2, hca3, hca4, hca5, hca6⟩ (fun hHeld => ?_)
 have hb := below_drew1 (Below.refl W5.heap.size W5)
 replace BKg2 := Aside0.mk (blk_below BKg2.out hb)
 replace BKg8 := Aside0.mk (blk_below BKg8.out hb)
 replace HB := Aside0.mk (below_step HB.out hb)
 replace hcz0 := (hb.cell (World.block_lt_of_cell? _ _ hcz0)).trans hcz0
 replace hcz1 := (hb.cell (World.block_lt_of_cell? _ _ hcz1)).trans hcz1
 replace hcz2 := (hb.cell (World.block_lt_of_cell? _ _ hcz2)).trans hcz2
 replace hca0 := (hb.cell (World.block_lt_of_cell? _ _ hca0)).trans hca0
 replace hca1 := (hb.cell (World.block_lt_of_cell? _ _ hca1)).trans hca1
 replace hca2 := (hb.cell (World.block_lt_of_cell? _ _ hca2)).trans hca2
 replace hca3 := (hb.cell (World.block_lt_of_cell? _ _ hca3)).trans hca3
 replace hca4 := (hb.cell (World.block_lt_of_cell? _ _ hca4)).trans hca4
 replace hca5 := (hb.cell (World.block_lt_of_cell? _ _ hca5)).trans hca5
 replace hca6 := (hb.cell (World.block_lt_of_cell? _ _ hca6)).trans hca6
 generalize W5.drew = W6 at *
 clear hb
 refine sP (i := 0) (N := some 16) (lm 11 1) ?_
 refine sP (i := 1) (N := some 17) (lm 11 3) ?_
 refine sP (i := 6) (N := some 22) (lm 11 67) ?_
 refine take_ (i := 2) (N := some 18) (v := ?_) (a' := ?_) (lm 11 71) rfl rfl (by kernel_rfl) (fun _ _ _ h => h) (Or.inl ⟨by rfl, ?_⟩) hHeld ?_ ?_
 rotate_left
 ·rintro w' ⟨s0, s1, s2, s3, s4, s5, s6, s7, s8, s9⟩
  go_simp
  with_reducible rfl
 rotate_left
 ·simp only [Act.put, List.setIfInBounds_toArray, List.set_cons_zero, List.set_cons_succ, i64_w, i32_w]
  rfl
 refine take_ (i := 3) (N := some 19) (v := ?_) (a' := ?_) (lm 11 79) rfl rfl (by kernel_rfl) (fun _ _ _ h => h) (Or.inl ⟨by rfl, ?_⟩) hHeld ?_ ?_
 rotate_left
 ·rintro w' ⟨s0, s1, s2, s3, s4, s5, s6, s7, s8, s9⟩
  go_simp
  with_reducible rfl
 rotate_left
 ·simp only [Act.put, List.setIfInBounds_toArray, List.set_cons_zero, List.set_cons_succ, i64_w, i32_w]
  rfl
 refine take_ (i := 7) (N := some 23) (v := ?_) (a' := ?_) (lm 11 207) rfl rfl (by kernel_rfl) (fun _ _ _ h => h) (Or.inl ⟨by rfl, ?_⟩) hHeld ?_ ?_
 rotate_left
 ·rintro w' ⟨s0, s1, s2, s3, s4, s5, s6, s7, s8, s9⟩
  go_simp
  with_reducible rfl
 rotate_left
 ·simp only [Act.put, List.setIfInBounds_toArray, List.set_cons_zero, List.set_cons_succ, i64_w, i32_w]
  rfl
 refine one_ (i := 4) (N := some 20) (lm 11 223) rfl rfl (by kernel_rfl) (by decide) (fun K hK => ?_)
 refine goes_ Try.func86 (by kernel_rfl) rfl #[.agg #[.slice A0 l0.length c0, .slice A1 l1.length c1, .int .i64 wg], .agg #[.int .i64 (pad l 0), .int .i64 (pad l 1), .int .i64 (pad l 2), .int .i64 (pad l 3), .int .i64 (pad l 4), .int .i64 (pad l 5), .int .i64 (pad l 6)]] (by rfl) rfl rfl (by simp only [List.map_toArray, List.map_cons, List.map_nil]; rfl) ?_
 with_reducible refine (wrong_calls A0 c0 l0 A1 c1 l1 wg (pad l) W6 (HT.out.below HB.out).r0 HT.out.n0 HN1.out HOW.out).mono ?_
 rintro e W7 ⟨v20, rfl, ho, hb⟩
 refine ⟨_, rfl, ?_⟩
 replace hcz0 := (hb.cell (World.block_lt_of_cell? _ _ hcz0)).trans hcz0
 replace hcz1 := (hb.cell (World.block_lt_of_cell? _ _ hcz1)).trans hcz1
 replace hcz2 := (hb.cell (World.block_lt_of_cell? _ _ hcz2)).trans hcz2
 replace hca0 := (hb.cell (World.block_lt_of_cell? _ _ hca0)).trans hca0
 replace hca1 := (hb.cell (World.block_lt_of_cell? _ _ hca1)).trans hca1
 replace hca2 := (hb.cell (World.block_lt_of_cell? _ _ hca2)).trans hca2
 replace hca3 := (hb.cell (World.block_lt_of_cell? _ _ hca3)).trans hca3
 replace hca4 := (hb.cell (World.block_lt_of_cell? _ _ hca4)).trans hca4
 replace hca5 := (hb.cell (World.block_lt_of_cell? _ _ hca5)).trans hca5
 replace hca6 := (hb.cell (World.block_lt_of_cell? _ _ hca6)).trans hca6
 replace BKg2 := Aside0.mk (blk_below BKg2.out hb)
 replace BKg8 := Aside0.mk (blk_below BKg8.out hb)
 replace HB := Aside0.mk (below_step HB.out hb)
 obtain ⟨Ab, cb, eb⟩ := Kd.R_slice ho
 subst eb
 clear ho
 clear hb
 refine hK.out _ _ ⟨hcz0, hcz1, hcz2, hca0, hca1, hca2, hca3, hca4, hca5, hca6⟩ (fun hHeld => ?_)
 clear hK K
 refine sN ?_
 refine sP (i := 5) (N := some 21) (lm 11 255) ?_
 refine sP (i := 8) (N := some 24) (lm 11 511) ?_
 refine sP (i := 9) (N := some 25) (lm 11 1023) ?_
 refine sP (i := 10) (N := some 4) (lm 11 2047) ?_
 refine done_ (by kernel_rfl) ?_
 go_wp2
 go_ret
 exact ⟨rfl, HB.out⟩
end Go.Proofs.Ytnbbbeghgomnoaa.X
namespace Go.Proofs.Ytnbbbeghgomnoaa.X
open Go.RowKit Go.Proofs.YtnbbbeghgomnoaaW.PrintWords Go.Proofs.YtnbbbeghgomnoaaW.PrintLast Go.Proofs.YtnbbbeghgomnoaaW.PrintMore
set_option maxHeartbeats 4000000 in
set_option maxRecDepth 100000 in
theorem ProveFewest_ok {A0 : Option Addr} {c0 : Nat} {l0 : List S109} {A1 : Option Addr} {c1 : Nat} {l1 : List S110} (wg : Int) {Al : Option Addr} {cl : Nat} {l : List Int} {w : World} (ht : Tab A0 c0 l0 A1 c1 l1 w) (hrl : Kd.C (Kd.int .i64) w Al l.length l) (hcl : l.length ≤ cl) (hll : l.length ≤ 1000000) (mny : Int) (he : checkT l0 l1 wg = 0) (ha : areB l0 l1 l = true) (hi : isT l0 l1.length wg l = true) :
  Calls Try.prog 40 #[.agg #[.slice A0 l0.length c0, .slice A1 l1.length c1, .int .i64 wg], .slice Al l.length cl, .int .i64 mny] w fun e w' => e = .returned (.bool (decide (lostN l1 (pad l) ≤ mny))) ∧ Below w.heap.size w w' := by
 have hu35 := Try.underlying35
 have hu121 := Try.underlying121
 have HT := Aside0.mk ht
 have HRL := Aside0.mk hrl
 have HCL := Aside0.mk hcl
 have HLL := Aside0.mk hll
 clear ht hrl hcl hll
 have HB := Aside0.mk (Below.refl w.heap.size w)
 have HE := Aside0.mk he
 have HN0 := Aside0.mk (checkT_zero he).n0
 have HN1 := Aside0.mk (checkT_zero he).n1
 have HAB := Aside0.mk ha
 clear he ha
 have HIT := Aside0.mk hi
 clear hi
 go_enter Try.func40, Try.ntmps40
 go_wp2_with (first | ((with_reducible refine gate_dst (N := 3) rfl ?_); refine sbox (N := 3) #[.slice A0 l0.length c0, .slice A1 l1.length c1, .int .i64 wg] 35 ?_; intro g2 hg W_ hbox hb; have GEg2 := Aside0.mk (by rw [hg]; exact HB.out.size : w.heap.size ≤ g2); replace HB := Aside0.mk (below_step HB.out hb); have BKg2 := Aside0.mk hbox; clear hb hbox hg; have hcz0 := sc 0 BKg2; have hcz1 := sc 1 BKg2; have hcz2 := sc 2 BKg2) | (go_at_call 83; go_must (refine (listed_calls A0 c0 l0 A1 c1 l1 wg Al cl l _ (HT.out.below HB.out).r0 HT.out.h0 (HT.out.below HB.out).r1 HT.out.h1 (Kd.C_below HRL.out HB.out) HCL.out HT.out.n0 HN1.out HT.out.ms (by have := HLL.out; omega)).mono ?_; rintro e W_ ⟨o, rfl, ho1, ho2, hb⟩; replace BKg2 := Aside0.mk (blk_below BKg2.out hb); replace HB := Aside0.mk (below_step HB.out hb); clear hb hcz0 hcz1 hcz2; have HO1 := Aside0.mk ho1; have HO2 := Aside0.mk ho2; clear ho1 ho2; have ho_ : o = pad l := pad_of (HO1.out HAB.out) HO2.out; subst ho_; unfold ac; rw [HAB.out]; have hczz : ∀ o, (W_.alloc o).cell? ⟨g2, 0, none⟩ = some (.slice A0 l0.length c0) := fun o => (blk_cell (blk_alloc BKg2.out o) 0).trans rfl; have hczy : ∀ o, (W_.alloc o).cell? ⟨g2, 1, none⟩ = some (.slice A1 l1.length c1) := fun o => (blk_cell (blk_alloc BKg2.out o) 1).trans rfl; have hczx : ∀ o, (W_.alloc o).cell? ⟨g2, 2, none⟩ = some (.int .i64 wg) := fun o => (blk_cell (blk_alloc BKg2.out o) 2).trans rfl)) | (go_at_call 60; go_must (have HBA := Aside0.mk (below_alloc HB.out (.cells #[.int .i64 (pad l 0), .int .i64 (pad l 1), .int .i64 (pad l 2), .int .i64 (pad l 3), .int .i64 (pad l 4), .int .i64 (pad l 5), .int .i64 (pad l 6)] 121)); refine (ProveTruth_ok wg (HT.out.below HBA.out) (Kd.C_below HRL.out HBA.out) HCL.out HLL.out HE.out HAB.out).mono ?_; rintro e W4 ⟨rfl, hb⟩; rw [HIT.out]; have HB4 := Aside0.mk (below_step HBA.out hb); have BK4 := Aside0.mk (blk_below (blk_alloc BKg2.out (.cells #[.int .i64 (pad l 0), .int .i64 (pad l 1), .int .i64 (pad l 2), .int .i64 (pad l 3), .int .i64 (pad l 4), .int .i64 (pad l 5), .int .i64 (pad l 6)] 121)) hb); have BK8 := Aside0.mk (blk_below (heap_alloc_new W_ (.cells #[.int .i64 (pad l 0), .int .i64 (pad l 1), .int .i64 (pad l 2), .int .i64 (pad l 3), .int .i64 (pad l 4), .int .i64 (pad l 5), .int .i64 (pad l 6)] 121)) hb); have hcq0 := sc 0 BK4; have hcq1 := sc 1 BK4; have hcq2 := sc 2 BK4; have hcp0 : W4.cell? ⟨W_.heap.size, 0, none⟩ = some (.int .i64 (pad l 0)) := (blk_cell BK8.out 0).trans rfl; have hcp1 : W4.cell? ⟨W_.heap.size, 1, none⟩ = some (.int .i64 (pad l 1)) := (blk_cell BK8.out 1).trans rfl; have hcp2 : W4.cell? ⟨W_.heap.size, 2, none⟩ = some (.int .i64 (pad l 2)) := (blk_cell BK8.out 2).trans rfl; have hcp3 : W4.cell? ⟨W_.heap.size, 3, none⟩ = some (.int .i64 (pad l 3)) := (blk_cell BK8.out 3).trans rfl; have hcp4 : W4.cell? ⟨W_.heap.size, 4, none⟩ = some (.int .i64 (pad l 4)) := (blk_cell BK8.out 4).trans rfl; have hcp5 : W4.cell? ⟨W_.heap.size, 5, none⟩ = some (.int .i64 (pad l 5)) := (blk_cell BK8.out 5).trans rfl; have hcp6 : W4.cell? ⟨W_.heap.size, 6, none⟩ = some (.int .i64 (pad l 6)) := (blk_cell BK8.out 6).trans rfl; clear hb)) | (go_at_call 82; go_must (refine (astray_calls A0 c0 l0 A1 c1 l1 wg (pad l) W4 (HT.out.below HB4.out).r1 HN1.out).mono ?_; rintro e W8 ⟨v24, rfl, ho, hb⟩; obtain ⟨Ab, cb, eb⟩ := Kd.R_slice ho; subst eb; have HB8 := Aside0.mk (below_step HB4.out hb); clear ho hb)))
 go_ret
 exact ⟨rfl, HB8.out⟩
end Go.Proofs.Ytnbbbeghgomnoaa.X
namespace Go.Proofs.Ytnbbbeghgomnoaa.X
open Go.RowKit Go.Proofs.YtnbbbeghgomnoaaW.PrintWords Go.Proofs.YtnbbbeghgomnoaaW.PrintLast Go.Proofs.YtnbbbeghgomnoaaW.PrintMore
theorem mn_le (a b : Int) : mn a b ≤ a ∧ mn a b ≤ b ∧ (mn a b = a ∨ mn a b = b) := by
 unfold mn
 split
 ·exact ⟨by omega, by omega, .inr rfl⟩
 ·exact ⟨by omega, by omega, .inl rfl⟩
theorem mx_ge (a b : Int) : a ≤ mx a b ∧ b ≤ mx a b ∧ (mx a b = a ∨ mx a b = b) := by
 unfold mx
 split
 ·exact ⟨by omega, by omega, .inr rfl⟩
 ·exact ⟨by omega, by omega, .inl rfl⟩
theorem bounds_fold {α : Type} (g : α → Int) : ∀ (ts : List α) (a b : Int), (ts.foldl (fun r x => (mn r.1 (g x), mx r.2 (g x))) (a, b)).1 ≤ a ∧ (∀ x ∈ ts, (ts.foldl (fun r x => (mn r.1 (g x), mx r.2 (g x))) (a, b)).1 ≤ g x) ∧
  ((ts.foldl (fun r x => (mn r.1 (g x), mx r.2 (g x))) (a, b)).1 = a ∨ ∃ x ∈ ts, g x = (ts.foldl (fun r x => (mn r.1 (g x), mx r.2 (g x))) (a, b)).1) ∧
  b ≤ (ts.foldl (fun r x => (mn r.1 (g x), mx r.2 (g x))) (a, b)).2 ∧ (∀ x ∈ ts, g x ≤ (ts.foldl (fun r x => (mn r.1 (g x), mx r.2 (g x))) (a, b)).2) ∧
  ((ts.foldl (fun r x => (mn r.1 (g x), mx r.2 (g x))) (a, b)).2 = b ∨ ∃ x ∈ ts, g x = (ts.foldl (fun r x => (mn r.1 (g x), mx r.2 (g x))) (a, b)).2) := by
 intro ts
 induction ts with
 | nil => intro a b; exact ⟨Int.le_refl _, fun _ h => by simp at h, .inl rfl, Int.le_refl _, fun _ h => by simp at h, .inl rfl⟩
 | cons y r ih =>
  intro a b
  rw [List.foldl_cons]
  obtain ⟨h1, h2, h3, h4, h5, h6⟩ := ih (mn a (g y)) (mx b (g y))
  obtain ⟨m1, m2, m3⟩ := mn_le a (g y)
  obtain ⟨n1, n2, n3⟩ := mx_ge b (g y)
  refine ⟨Int.le_trans h1 m1, fun x hx => ?_, ?_, Int.le_trans n1 h4, fun x hx => ?_, ?_⟩
  ·rcases List.mem_cons.1 hx with rfl | hx
   ·exact Int.le_trans h1 m2
   ·exact h2 x hx
  ·rcases h3 with h3 | ⟨x, hx, h3⟩
   ·rcases m3 with m3 | m3
    ·exact .inl (h3.trans m3)
    ·exact .inr ⟨y, List.mem_cons_self, (h3.trans m3).symm⟩
   ·exact .inr ⟨x, List.mem_cons_of_mem _ hx, h3⟩
  ·rcases List.mem_cons.1 hx with rfl | hx
   ·exact Int.le_trans n2 h4
   ·exact h5 x hx
  ·rcases h6 with h6 | ⟨x, hx, h6⟩
   ·rcases n3 with n3 | n3
    ·exact .inl (h6.trans n3)
    ·exact .inr ⟨y, List.mem_cons_self, (h6.trans n3).symm⟩
   ·exact .inr ⟨x, List.mem_cons_of_mem _ hx, h6⟩
theorem boundsL_spec (g : List Int → Int) {ts : List (List Int)} (h : ts ≠ []) : (∀ x ∈ ts, (boundsL g ts).1 ≤ g x ∧ g x ≤ (boundsL g ts).2) ∧ (∃ x ∈ ts, g x = (boundsL g ts).1) ∧ (∃ x ∈ ts, g x = (boundsL g ts).2) := by
 obtain ⟨y, r, rfl⟩ : ∃ y r, ts = y :: r := List.exists_cons_of_ne_nil h
 obtain ⟨h1, h2, h3, h4, h5, h6⟩ := bounds_fold g (y :: r) (g y) (g y)
 refine ⟨fun x hx => ⟨h2 x hx, h5 x hx⟩, ?_, ?_⟩
 ·rcases h3 with h3 | h3
  ·exact ⟨y, List.mem_cons_self, h3.symm⟩
  ·exact h3
 ·rcases h6 with h6 | h6
  ·exact ⟨y, List.mem_cons_self, h6.symm⟩
  ·exact h6
end Go.Proofs.Ytnbbbeghgomnoaa.X
namespace Go.Proofs.Ytnbbbeghgomnoaa.X
open Go.RowKit Go.Proofs.YtnbbbeghgomnoaaW.PrintWords Go.Proofs.YtnbbbeghgomnoaaW.PrintLast Go.Proofs.YtnbbbeghgomnoaaW.PrintMore
theorem truths_own {l0 : List S109} {l1 : List S110} {wg : Int} {x : List Int} (h : x ∈ truthsL l0 l1 wg) (i : Nat) (hi : i < l1.length) : 0 ≤ pad x i ∧ pad x i < l0.length := allL_owners l0 l1 x (truths_mem h) i hi
end Go.Proofs.Ytnbbbeghgomnoaa.X
namespace Go.Proofs.Ytnbbbeghgomnoaa.X
open Go.RowKit Go.Proofs.YtnbbbeghgomnoaaW.PrintWords Go.Proofs.YtnbbbeghgomnoaaW.PrintLast Go.Proofs.YtnbbbeghgomnoaaW.PrintMore
theorem checkT_of {l0 : List S109} {l1 : List S110} {wg : Int} (h : Val l0 l1 wg) : checkT l0 l1 wg = 0 := by
  unfold checkT
  have h0 := h.n0
  have h1 := h.n1
  have hm := h.mn
  have hw : okIn wg 0 5 = true := by
    unfold okIn
    rw [decide_eq_true h.wg0, decide_eq_true h.wg1]; rfl
  rw [if_neg (by omega), hw, h.ws, h.ps, if_neg (by decide), if_neg (by omega)]
structure Same (L1 L1' : List S110) : Prop where
  len : L1'.length = L1.length
  mks : ∀ i, (L1'.getD i z110).f0 = (L1.getD i z110).f0
theorem Same.opts {L1 L1' : List S110} (h : Same L1 L1') (L0 : List S109) : optsL L0 L1' = optsL L0 L1 := by
  funext i
  unfold optsL
  rw [h.mks i]
theorem Same.all {L1 L1' : List S110} (h : Same L1 L1') (L0 : List S109) : allL L0 L1' = allL L0 L1 := by
  unfold allL
  rw [h.opts L0, h.len]
theorem Same.val {L1 L1' : List S110} (h : Same L1 L1') {L0 : List S109} {wg : Int} (hv : Val L0 L1 wg) (hb : ∀ i, i < L1'.length → okIn (L1'.getD i z110).f1 0 ((L0.length : Int) - 1) = true) : Val L0 L1' wg := by
  refine ⟨hv.n0, by rw [h.len]; exact hv.n1, hv.wg0, hv.wg1, hv.ws, ?_, ?_⟩
  · rw [List.all_eq_true]
    intro z hz
    obtain ⟨i, hi, rfl⟩ := List.mem_iff_getElem.1 hz
    have e' : L1'[i] = L1'.getD i z110 := by rw [List.getD_eq_getElem?_getD, List.getElem?_eq_getElem hi]; rfl
    have hi2 : i < L1.length := by rw [← h.len]; exact hi
    have hp := List.all_eq_true.1 hv.ps (L1.getD i z110) (getD_mem L1 i z110 hi2)
    unfold okP at hp ⊢
    rw [Bool.and_eq_true, Bool.and_eq_true] at hp ⊢
    rw [e', h.mks i]
    exact ⟨⟨hp.1.1, hb i hi⟩, hp.2⟩
  · have hm := hv.mn
    rw [manyT_eq] at hm ⊢
    rw [h.all L0]; exact hm
end Go.Proofs.Ytnbbbeghgomnoaa.X
namespace Go.Proofs.Ytnbbbeghgomnoaa.X
open Go.RowKit Go.Proofs.YtnbbbeghgomnoaaW.PrintWords Go.Proofs.YtnbbbeghgomnoaaW.PrintLast Go.Proofs.YtnbbbeghgomnoaaW.PrintMore
attribute [local go_sem] max2_int min2_int max_two min_two max_three min_three max_four min_four
set_option linter.unusedVariables false
set_option linter.unusedSimpArgs false
mutual
def posserref03_Before.l0 : Nat → List Int → List Int → Int → Option (Bool)
 | 0, _, _, _ => none
 | k + 1, x0, x1, x5 => if x5 < (x0.length : Int) then (posserref03_Before.j1 k x0 x1 x5 (decide (x5 < (x1.length : Int)))) else (posserref03_Before.j1 k x0 x1 x5 false)
def posserref03_Before.j1 : Nat → List Int → List Int → Int → Bool → Option (Bool)
 | 0, _, _, _, _ => none
 | k + 1, x0, x1, x5, x15 => if x15 = true then (if 0 ≤ x5 then (if x5 < (x0.length : Int) then (if x5 < (x1.length : Int) then (if (rd x0 x5) = (rd x1 x5) then (posserref03_Before.l0 k x0 x1 (wrap64 (x5 + 1))) else (some (decide ((rd x0 x5) < (rd x1 x5))))) else (none)) else (none)) else (none)) else (some (decide ((x0.length : Int) < (x1.length : Int))))
end
def posserref03_Before.f (k : Nat) (l0 : List Int) (l1 : List Int) : Option (Bool) := posserref03_Before.l0 k l0 l1 0
set_option maxHeartbeats 8000000 in
set_option maxRecDepth 100000 in
theorem posserref03_Before.calls (k : Nat) (A0 : Option Addr) (c0 : Nat) (l0 : List Int) (A1 : Option Addr) (c1 : Nat) (l1 : List Int) (r : Bool) (w : World) (hr0 : Kd.C (Kd.int .i64) w A0 l0.length l0) (hc0 : l0.length ≤ c0) (hr1 : Kd.C (Kd.int .i64) w A1 l1.length l1) (hc1 : l1.length ≤ c1) (h : posserref03_Before.f k l0 l1 = some r) :
  Calls Try.prog 51 #[.slice A0 l0.length c0, .slice A1 l1.length c1] w fun e w' => e = .returned (.bool r) ∧ Drawn0 w w' := by
 have HR0 := Aside0.mk hr0
 have HC0 := Aside0.mk hc0
 clear hr0 hc0
 have HR1 := Aside0.mk hr1
 have HC1 := Aside0.mk hc1
 clear hr1 hc1
 have H : (posserref03_Before.l0 k l0 l1 0) = some r := h
 clear h
 have H' := Aside0.mk H
 clear H
 go_enter Try.func51, Try.ntmps51
 go_wp2
 repeat (go_quiet (fail); try go_wp2)
 go_loopg [5] k (fun kq v5 w' => ∃ (x5_1 : Int), v5 = .int .i64 x5_1 ∧ Aside0 (posserref03_Before.l0 kq l0 l1 x5_1 = some r) ∧ Aside0 (kq ≤ k) ∧ Drawn0 w w')
 case atStart => exact ⟨(0), (by first | rfl | (simp; done) | (simp [*]; done)), H', ⟨Nat.le_refl _⟩, by repeat (first | exact Drawn0.refl _ | apply Drawn0.step)⟩
 case round =>
  clear H'
  try clear c1
  try clear p2
  obtain ⟨x5_1, rfl, HA, HK1, ⟨m1, rfl⟩⟩ := hrel
  cases gk with
  | zero => exact absurd HA.out (by simp [posserref03_Before.l0])
  | succ k1 =>
   have H := HA.out
   clear HA
   simp only [posserref03_Before.l0] at H
   have HC3 := Aside0.mk H
   clear H
   go_upto_region 2 with (fail)
   repeat (go_quiet (fail); go_upto_region 2 with (fail))
   go_cut [15] (fun v15 wc => ∃ (kq : Nat) (x15_2 : Bool), v15 = .bool x15_2 ∧ Aside0 (posserref03_Before.j1 kq l0 l1 x5_1 x15_2 = some r) ∧ Aside0 (kq ≤ k1) ∧ Drawn0 w wc)
   case first =>
    have H := HC3.out
    clear HC3
    by_cases c4 : x5_1 < (l0.length : Int)
    ·rw [if_pos c4] at H
     have c4b0 : decide (x5_1 < (l0.length : Int)) = true := decide_eq_true c4
     clear c4
     (first | rw [c4b0] | (simp only [i64_w, i32_w]; rw [c4b0]) | skip)
     have H' := Aside0.mk H
     clear H
     go_wp2
     repeat (go_quiet (fail); try go_wp2)
     go_meet
     case rel => exact ⟨_, (decide (x5_1 < (l1.length : Int))), (by first | rfl | (simp; done) | (simp [*]; done)), H', ⟨by have := HK1.out; first | omega | exact Nat.le_refl _⟩, by repeat (first | exact Drawn0.refl _ | apply Drawn0.step)⟩
    ·rw [if_neg c4] at H
     have c4b0 : decide (x5_1 < (l0.length : Int)) = false := decide_eq_false c4
     clear c4
     (first | rw [c4b0] | (simp only [i64_w, i32_w]; rw [c4b0]) | skip)
     have H' := Aside0.mk H
     clear H
     go_wp2
     repeat (go_quiet (fail); try go_wp2)
     go_meet
     case rel => exact ⟨_, (false), (by first | rfl | (simp; done) | (simp [*]; done)), H', ⟨by have := HK1.out; first | omega | exact Nat.le_refl _⟩, by repeat (first | exact Drawn0.refl _ | apply Drawn0.step)⟩
   case rest =>
    clear HC3
    try clear c1
    try clear p2
    try clear c4
    try clear c4b0
    try clear p2
    obtain ⟨kq, x15_2, rfl, HA, HJ2, ⟨mc2, rfl⟩⟩ := hcut
    cases kq with
    | zero => exact absurd HA.out (by simp [posserref03_Before.j1])
    | succ kj2 =>
     have H := HA.out
     clear HA
     simp only [posserref03_Before.j1] at H
     by_cases c5 : x15_2 = true
     ·subst c5
      have H1 : (if 0 ≤ x5_1 then (if x5_1 < (l0.length : Int) then (if x5_1 < (l1.length : Int) then (if (rd l0 x5_1) = (rd l1 x5_1) then (posserref03_Before.l0 kj2 l0 l1 (wrap64 (x5_1 + 1))) else (some (decide ((rd l0 x5_1) < (rd l1 x5_1))))) else (none)) else (none)) else (none)) = some r := by rw [if_pos rfl] at H; exact H
      clear H
      have H := H1
      clear H1
      by_cases c6 : 0 ≤ x5_1
      ·rw [if_pos c6] at H
       have c6b0 : decide (0 ≤ x5_1) = true := decide_eq_true c6
       clear c6
       by_cases c7 : x5_1 < (l0.length : Int)
       ·rw [if_pos c7] at H
        have c7b0 : decide (x5_1 < (l0.length : Int)) = true := decide_eq_true c7
        clear c7
        by_cases c8 : x5_1 < (l1.length : Int)
        ·rw [if_pos c8] at H
         have c8b0 : decide (x5_1 < (l1.length : Int)) = true := decide_eq_true c8
         clear c8
         by_cases c9 : (rd l0 x5_1) = (rd l1 x5_1)
         ·rw [if_pos c9] at H
          have c9b0 : ((rd l0 x5_1) == (rd l1 x5_1)) = true := beq_iff_eq.mpr c9
          have c9b1 : ((rd l0 x5_1) != (rd l1 x5_1)) = false := bne_eq_false_iff_eq.mpr c9
          clear c9
          have H' := Aside0.mk H
          clear H
          have p280 : 0 ≤ (x5_1 : Int) := of_decide_eq_true (by first | (with_reducible assumption) | assumption)
          have q280 : x5_1 < (l0.length : Int) := of_decide_eq_true (by first | (with_reducible assumption) | assumption)
          obtain ⟨ad280, e280, hx280_0⟩ := Kd.at_int HR0.out x5_1 p280 q280
          cases e280
          replace p280 := eq_true p280
          replace q280 := eq_true q280
          have p281 : 0 ≤ (x5_1 : Int) := of_decide_eq_true (by first | (with_reducible assumption) | assumption)
          have q281 : x5_1 < (l1.length : Int) := of_decide_eq_true (by first | (with_reducible assumption) | assumption)
          obtain ⟨ad281, e281, hx281_0⟩ := Kd.at_int HR1.out x5_1 p281 q281
          cases e281
          replace p281 := eq_true p281
          replace q281 := eq_true q281
          go_wp2
          repeat (go_quiet (fail); try go_wp2)
          go_roundg kj2
          case measure => have := HK1.out; have := HJ2.out; omega
          case rel => exact ⟨(wrap64 (x5_1 + 1)), (by first | rfl | (simp; done) | (simp [*]; done)), H', ⟨by have := HK1.out; have := HJ2.out; omega⟩, by repeat (first | exact Drawn0.refl _ | apply Drawn0.step)⟩
         ·rw [if_neg c9] at H
          have c9b0 : ((rd l0 x5_1) == (rd l1 x5_1)) = false := beq_eq_false_iff_ne.mpr c9
          have c9b1 : ((rd l0 x5_1) != (rd l1 x5_1)) = true := bne_iff_ne.mpr c9
          obtain rfl := Option.some.inj H
          have p280 : 0 ≤ (x5_1 : Int) := of_decide_eq_true (by first | (with_reducible assumption) | assumption)
          have q280 : x5_1 < (l0.length : Int) := of_decide_eq_true (by first | (with_reducible assumption) | assumption)
          obtain ⟨ad280, e280, hx280_0⟩ := Kd.at_int HR0.out x5_1 p280 q280
          cases e280
          replace p280 := eq_true p280
          replace q280 := eq_true q280
          have p281 : 0 ≤ (x5_1 : Int) := of_decide_eq_true (by first | (with_reducible assumption) | assumption)
          have q281 : x5_1 < (l1.length : Int) := of_decide_eq_true (by first | (with_reducible assumption) | assumption)
          obtain ⟨ad281, e281, hx281_0⟩ := Kd.at_int HR1.out x5_1 p281 q281
          cases e281
          replace p281 := eq_true p281
          replace q281 := eq_true q281
          have p282 : 0 ≤ (x5_1 : Int) := of_decide_eq_true (by first | (with_reducible assumption) | assumption)
          have q282 : x5_1 < (l0.length : Int) := of_decide_eq_true (by first | (with_reducible assumption) | assumption)
          obtain ⟨ad282, e282, hx282_0⟩ := Kd.at_int HR0.out x5_1 p282 q282
          obtain rfl : ad280 = ad282 := (by injection e282)
          replace p282 := eq_true p282
          replace q282 := eq_true q282
          have p283 : 0 ≤ (x5_1 : Int) := of_decide_eq_true (by first | (with_reducible assumption) | assumption)
          have q283 : x5_1 < (l1.length : Int) := of_decide_eq_true (by first | (with_reducible assumption) | assumption)
          obtain ⟨ad283, e283, hx283_0⟩ := Kd.at_int HR1.out x5_1 p283 q283
          obtain rfl : ad281 = ad283 := (by injection e283)
          replace p283 := eq_true p283
          replace q283 := eq_true q283
          go_wp2
          repeat (go_quiet (fail); try go_wp2)
          go_ret
          exact ⟨by first | rfl | (simp; done) | (simp [*]; done), by repeat (first | exact Drawn0.refl _ | apply Drawn0.step)⟩
        ·rw [if_neg c8] at H
         exact absurd H (by simp)
       ·rw [if_neg c7] at H
        exact absurd H (by simp)
      ·rw [if_neg c6] at H
       exact absurd H (by simp)
     ·replace c5 := Bool.eq_false_iff.mpr c5
      subst c5
      have H1 : (some (decide ((l0.length : Int) < (l1.length : Int)))) = some r := by rw [if_neg (show ¬ (false = true) by decide)] at H; exact H
      clear H
      have H := H1
      clear H1
      obtain rfl := Option.some.inj H
      go_wp2
      repeat (go_quiet (fail); try go_wp2)
      go_ret
      exact ⟨by first | rfl | (simp; done) | (simp [*]; done), by repeat (first | exact Drawn0.refl _ | apply Drawn0.step)⟩
end Go.Proofs.Ytnbbbeghgomnoaa.X
namespace Go.Proofs.Ytnbbbeghgomnoaa.X
open Go.RowKit Go.Proofs.YtnbbbeghgomnoaaW.PrintWords Go.Proofs.YtnbbbeghgomnoaaW.PrintLast Go.Proofs.YtnbbbeghgomnoaaW.PrintMore
def beforeB : List Int → List Int → Bool
 | [], b => decide (0 < b.length)
 | _ :: _, [] => false
 | x :: a, y :: b => if x = y then beforeB a b else decide (x < y)
def shorterB (a b : List Int) : Bool := decide (a.length < b.length) || (decide (a.length = b.length) && beforeB a b)
theorem beforeB_trans : ∀ (a b c : List Int), beforeB a b = true → beforeB b c = true → beforeB a c = true := by
 intro a
 induction a with
 | nil =>
  intro b c h1 h2
  cases c with
  | cons z c => rfl
  | nil =>
   cases b with
   | nil => exact h1
   | cons y b => cases h2
 | cons x a ih =>
  intro b c h1 h2
  cases b with
  | nil => cases h1
  | cons y b =>
   cases c with
   | nil => cases h2
   | cons z c =>
    unfold beforeB at h1 h2 ⊢
    by_cases e1 : x = y
    ·rw [if_pos e1] at h1
     by_cases e2 : y = z
     ·rw [if_pos e2] at h2
      rw [if_pos (e1.trans e2)]; exact ih b c h1 h2
     ·rw [if_neg e2] at h2
      have := of_decide_eq_true h2
      rw [if_neg (by omega)]; exact decide_eq_true (by omega)
    ·rw [if_neg e1] at h1
     have h3 := of_decide_eq_true h1
     by_cases e2 : y = z
     ·rw [if_neg (by omega)]; exact decide_eq_true (by omega)
     ·rw [if_neg e2] at h2
      have h4 := of_decide_eq_true h2
      rw [if_neg (by omega)]; exact decide_eq_true (by omega)
theorem Before_ev (a b : List Int) (ha : a.length ≤ 1000000) (hb : b.length ≤ 1000000) : Evt (fun k => posserref03_Before.f k a b) (beforeB a b) := by
 have main : ∀ (d i : Nat), i + d = a.length → i ≤ b.length → Evt (fun k => posserref03_Before.l0 k a b (i : Int)) (beforeB (a.drop i) (b.drop i)) := by
  intro d
  induction d with
  | zero =>
   intro i hi hib
   have he : beforeB (a.drop i) (b.drop i) = decide ((a.length : Int) < (b.length : Int)) := by
    rw [List.drop_eq_nil_of_le (by omega)]
    show decide (0 < (b.drop i).length) = _
    rw [List.length_drop]
    by_cases h : i < b.length
    ·rw [decide_eq_true (by omega), decide_eq_true (by omega)]
    ·rw [decide_eq_false (by omega), decide_eq_false (by omega)]
   rw [he]
   refine Evt.succ (Evt.succ (Evt.const _) (g := fun k => posserref03_Before.j1 k a b (i : Int) false) (fun k => ?_)) (fun k => ?_)
   ·simp only [posserref03_Before.j1]
    rw [if_neg (by decide)]
   ·simp only [posserref03_Before.l0]
    rw [if_neg (by omega)]
  | succ d ih =>
   intro i hi hib
   have hlt : i < a.length := by omega
   have hda : a.drop i = a[i] :: a.drop (i + 1) := List.drop_eq_getElem_cons hlt
   by_cases hlb : i < b.length
   ·have hdb : b.drop i = b[i] :: b.drop (i + 1) := List.drop_eq_getElem_cons hlb
    have hbe : beforeB (a.drop i) (b.drop i) = if a[i] = b[i] then beforeB (a.drop (i + 1)) (b.drop (i + 1)) else decide (a[i] < b[i]) := by rw [hda, hdb]; rfl
    rw [hbe]
    by_cases he : a[i] = b[i]
    ·rw [if_pos he]
     refine Evt.succ (Evt.succ (ih (i + 1) (by omega) (by omega)) (g := fun k => posserref03_Before.j1 k a b (i : Int) true) (fun k => ?_)) (fun k => ?_)
     ·simp only [posserref03_Before.j1]
      rw [if_pos trivial, if_pos (by omega), if_pos (by omega), if_pos (by omega), rd_get a i hlt, rd_get b i hlb, if_pos he, wrap_succ i _ hlt (by omega)]
     ·simp only [posserref03_Before.l0]
      rw [if_pos (by omega), decide_eq_true (by omega)]
    ·rw [if_neg he]
     refine Evt.succ (Evt.succ (Evt.const _) (g := fun k => posserref03_Before.j1 k a b (i : Int) true) (fun k => ?_)) (fun k => ?_)
     ·simp only [posserref03_Before.j1]
      rw [if_pos trivial, if_pos (by omega), if_pos (by omega), if_pos (by omega), rd_get a i hlt, rd_get b i hlb, if_neg he]
     ·simp only [posserref03_Before.l0]
      rw [if_pos (by omega), decide_eq_true (by omega)]
   ·have hbe : beforeB (a.drop i) (b.drop i) = decide ((a.length : Int) < (b.length : Int)) := by
     rw [hda, show b.drop i = [] from List.drop_eq_nil_of_le (by omega), decide_eq_false (by omega)]; rfl
    rw [hbe]
    refine Evt.succ (Evt.succ (Evt.const _) (g := fun k => posserref03_Before.j1 k a b (i : Int) false) (fun k => ?_)) (fun k => ?_)
    ·simp only [posserref03_Before.j1]
     rw [if_neg (by decide)]
    ·simp only [posserref03_Before.l0]
     rw [if_pos (by omega), decide_eq_false (by omega)]
 exact main a.length 0 (by omega) (by omega)
theorem shorterB_irrefl : ∀ a : List Int, shorterB a a = false := by
 intro a
 have hb : ∀ a : List Int, beforeB a a = false := by
  intro a
  induction a with
  | nil => rfl
  | cons x a ih => unfold beforeB; rw [if_pos rfl]; exact ih
 unfold shorterB
 rw [hb, decide_eq_false (by omega), Bool.and_false]; rfl
end Go.Proofs.Ytnbbbeghgomnoaa.X
namespace Go.Proofs.Ytnbbbeghgomnoaa.X
open Go.RowKit Go.Proofs.YtnbbbeghgomnoaaW.PrintWords Go.Proofs.YtnbbbeghgomnoaaW.PrintLast Go.Proofs.YtnbbbeghgomnoaaW.PrintMore
theorem beforeB_irrefl (a : List Int) : beforeB a a = false := by
  have h := shorterB_irrefl a
  unfold shorterB at h
  rw [Bool.or_eq_false_iff, decide_eq_true rfl, Bool.true_and] at h
  exact h.2
theorem sel_sorted (P : Nat → Bool) (n : Nat) : (sel P n).Pairwise (fun a b => a < b) := by
  unfold sel
  rw [List.pairwise_map]
  refine List.Pairwise.imp (R := fun a b : Nat => a < b) (fun h => by omega) (List.Pairwise.filter _ ?_)
  exact List.pairwise_lt_range
theorem prods_sorted (opts : Nat → List Int) (ho : ∀ i, (opts i).Pairwise (fun a b => a < b)) : ∀ d i, (prods opts d i).Pairwise (fun a b => beforeB a b = true) := by
  intro d
  induction d with
  | zero => intro i; exact List.pairwise_singleton _ _
  | succ d ih =>
    intro i
    show ((opts i).flatMap fun v => (prods opts d (i + 1)).map (v :: ·)).Pairwise _
    rw [List.pairwise_flatMap]
    refine ⟨fun v _ => ?_, (ho i).imp fun {a b} hab => ?_⟩
    · rw [List.pairwise_map]
      refine (ih (i + 1)).imp fun {a b} h => ?_
      show (if v = v then beforeB a b else decide (v < v)) = true
      rw [if_pos rfl]; exact h
    · intro x hx y hy
      obtain ⟨x', _, rfl⟩ := List.mem_map.1 hx
      obtain ⟨y', _, rfl⟩ := List.mem_map.1 hy
      show (if a = b then beforeB x' y' else decide (a < b)) = true
      rw [if_neg (by omega)]
      exact decide_eq_true hab
theorem truths_sorted (L0 : List S109) (L1 : List S110) (wg : Int) : (truthsL L0 L1 wg).Pairwise (fun a b => beforeB a b = true) :=
  List.Pairwise.filter _ (prods_sorted _ (fun _ => sel_sorted _ _) _ _)
def bestF (f : List Int → Int) (l : List (List Int)) (b : List Int) : List Int := l.foldl (fun b x => if f x < f b then x else b) b
theorem bestF_spec (f : List Int → Int) : ∀ (l : List (List Int)) (b : List Int), l.Pairwise (fun a b => beforeB a b = true) → (∀ x ∈ l, beforeB b x = true) →
    (bestF f l b = b ∨ bestF f l b ∈ l) ∧ f (bestF f l b) ≤ f b ∧ (∀ x ∈ l, f (bestF f l b) ≤ f x) ∧ (f b = f (bestF f l b) → b = bestF f l b ∨ beforeB (bestF f l b) b = true) ∧ ∀ x ∈ l, f x = f (bestF f l b) → x = bestF f l b ∨ beforeB (bestF f l b) x = true := by
  intro l
  induction l with
  | nil => intro b _ _; exact ⟨.inl rfl, Int.le_refl _, by simp, fun _ => .inl rfl, by simp⟩
  | cons x l ih =>
    intro b hp hb
    rw [List.pairwise_cons] at hp
    have hs : bestF f (x :: l) b = bestF f l (if f x < f b then x else b) := rfl
    rw [hs]
    by_cases hx : f x < f b
    · rw [if_pos hx]
      obtain ⟨h1, h2, h3, h4, h5⟩ := ih x hp.2 hp.1
      refine ⟨.inr ?_, by omega, fun y hy => ?_, fun h => by omega, fun y hy => ?_⟩
      · rcases h1 with h | h
        · rw [h]; exact List.mem_cons_self ..
        · exact List.mem_cons_of_mem _ h
      · rcases List.mem_cons.1 hy with rfl | hy
        · exact h2
        · exact h3 y hy
      · rcases List.mem_cons.1 hy with rfl | hy
        · exact h4
        · exact h5 y hy
    · rw [if_neg hx]
      obtain ⟨h1, h2, h3, h4, h5⟩ := ih b hp.2 (fun y hy => hb y (List.mem_cons_of_mem _ hy))
      have hbx := hb x (List.mem_cons_self ..)
      refine ⟨?_, h2, fun y hy => ?_, h4, fun y hy => ?_⟩
      · rcases h1 with h | h
        · exact .inl h
        · exact .inr (List.mem_cons_of_mem _ h)
      · rcases List.mem_cons.1 hy with rfl | hy
        · omega
        · exact h3 y hy
      · rcases List.mem_cons.1 hy with rfl | hy
        · intro he
          rcases h4 (by omega) with h | h
          · rw [← h]; exact .inr hbx
          · exact .inr (beforeB_trans _ _ _ h hbx)
        · exact h5 y hy
theorem best_spec {L0 : List S109} {L1 : List S110} {wg : Int} (h : truthsL L0 L1 wg ≠ []) : bestL L1 (truthsL L0 L1 wg) ∈ truthsL L0 L1 wg ∧ ∀ x ∈ truthsL L0 L1 wg, lostN L1 (pad (bestL L1 (truthsL L0 L1 wg))) ≤ lostN L1 (pad x) ∧ (lostN L1 (pad x) = lostN L1 (pad (bestL L1 (truthsL L0 L1 wg))) → beforeB x (bestL L1 (truthsL L0 L1 wg)) = false) := by
  have hs := truths_sorted L0 L1 wg
  generalize truthsL L0 L1 wg = ts at h hs
  match ts, h, hs with
  | t :: l, _, hs =>
    rw [List.pairwise_cons] at hs
    have e : bestL L1 (t :: l) = bestF (fun x => lostN L1 (pad x)) l t := by
      unfold bestL bestF
      rw [List.getD_cons_zero, List.foldl_cons, if_neg (Int.lt_irrefl _)]
    obtain ⟨h1, h2, h3, h4, h5⟩ := bestF_spec (fun x => lostN L1 (pad x)) l t hs.2 hs.1
    rw [e]
    have no : ∀ x r : List Int, (x = r ∨ beforeB r x = true) → beforeB x r = false := fun x r h => by
      rcases h with rfl | h
      · exact beforeB_irrefl x
      · cases hc : beforeB x r
        · rfl
        · have := beforeB_trans _ _ _ h hc
          rw [beforeB_irrefl] at this
          cases this
    refine ⟨?_, fun x hx => ?_⟩
    · rcases h1 with h | h
      · rw [h]; exact List.mem_cons_self ..
      · exact List.mem_cons_of_mem _ h
    · rcases List.mem_cons.1 hx with rfl | hx
      · exact ⟨h2, fun he => no _ _ (h4 he)⟩
      · exact ⟨h3 x hx, fun he => no _ _ (h5 x hx he)⟩
def moved (l1 : List S71) (o : Nat → Int) (js : List Nat) : List S71 := js.foldl (fun l j => l.set j ⟨(l.getD j z71).f0, o j⟩) l1
theorem moved_succ (l1 : List S71) (o : Nat → Int) (js : List Nat) (m : Nat) (hm : m < js.length) : moved l1 o (js.take (m + 1)) = (moved l1 o (js.take m)).set js[m] ⟨((moved l1 o (js.take m)).getD js[m] z71).f0, o js[m]⟩ := by
  unfold moved
  rw [List.take_succ_eq_append_getElem hm, List.foldl_append]; rfl
theorem moved_spec (l1 : List S71) (o : Nat → Int) (js : List Nat) (h : ∀ j ∈ js, j < l1.length) : ∀ m, m ≤ js.length → (moved l1 o (js.take m)).length = l1.length ∧ ∀ i, (moved l1 o (js.take m)).getD i z71 = if i ∈ js.take m then ⟨(l1.getD i z71).f0, o i⟩ else l1.getD i z71 := by
  intro m
  induction m with
  | zero => intro _; exact ⟨rfl, fun i => by simp [moved]⟩
  | succ m ih =>
    intro hm
    obtain ⟨h1, h2⟩ := ih (by omega)
    have hlt : m < js.length := hm
    have hj : js[m] < l1.length := h _ (List.getElem_mem hlt)
    rw [moved_succ l1 o js m hlt]
    refine ⟨by rw [List.length_set, h1], fun i => ?_⟩
    have hf : ((moved l1 o (js.take m)).getD js[m] z71).f0 = (l1.getD js[m] z71).f0 := by
      rw [h2 js[m]]
      split <;> rfl
    rw [List.take_succ_eq_append_getElem hlt, List.getD_eq_getElem?_getD, List.getElem?_set]
    by_cases hi : js[m] = i
    · rw [if_pos hi, if_pos (by omega), if_pos (List.mem_append_right _ (by rw [hi]; exact List.mem_singleton_self i)), hf, hi]; rfl
    · rw [if_neg hi, ← List.getD_eq_getElem?_getD, h2 i]
      have : i ∈ js.take m ++ [js[m]] ↔ i ∈ js.take m := ⟨fun h => (List.mem_append.1 h).elim id (fun h => absurd (List.mem_singleton.1 h).symm hi), fun h => List.mem_append_left _ h⟩
      by_cases hm : i ∈ js.take m
      · rw [if_pos hm, if_pos (this.2 hm)]
      · rw [if_neg hm, if_neg (fun h => hm (this.1 h))]
end Go.Proofs.Ytnbbbeghgomnoaa.X
namespace Go.Proofs.Ytnbbbeghgomnoaa.X
open Go.RowKit Go.Proofs.YtnbbbeghgomnoaaW.PrintWords Go.Proofs.YtnbbbeghgomnoaaW.PrintLast Go.Proofs.YtnbbbeghgomnoaaW.PrintMore
attribute [local go_sem] max2_int min2_int max_two min_two max_three min_three max_four min_four
set_option linter.unusedVariables false
set_option linter.unusedSimpArgs false
def posserlaw03_ready.f (k : Nat) (l0_0 : List (S85)) (l0_1 : List (S71)) (a0_2 : Int) : Option (Bool) := (posserlaw03_Thin.f k l0_0 l0_1 a0_2).bind fun t444 => (if t444 = true then ((posserref03_Fault.f k l0_0 l0_1 a0_2).bind fun t445 => (some (t445 == 0))) else (some false))
set_option maxHeartbeats 8000000 in
set_option maxRecDepth 100000 in
theorem posserlaw03_ready.calls (k : Nat) (A0_0 : Option Addr) (c0_0 : Nat) (l0_0 : List (S85)) (A0_1 : Option Addr) (c0_1 : Nat) (l0_1 : List (S71)) (a0_2 : Int) (r : Bool) (w : World) (hr0_0 : Kd.C k85 w A0_0 l0_0.length l0_0) (hc0_0 : l0_0.length ≤ c0_0) (hr0_1 : Kd.C k71 w A0_1 l0_1.length l0_1) (hc0_1 : l0_1.length ≤ c0_1) (h : posserlaw03_ready.f k l0_0 l0_1 a0_2 = some r) :
  Calls Try.prog 47 #[.agg #[.slice A0_0 l0_0.length c0_0, .slice A0_1 l0_1.length c0_1, .int .i64 a0_2]] w fun e w' => e = .returned (.bool r) ∧ Below w.heap.size w w' := by
 have hu25 := Try.underlying25
 have HR0_0 := Aside0.mk hr0_0
 have HC0_0 := Aside0.mk hc0_0
 clear hr0_0 hc0_0
 have HR0_1 := Aside0.mk hr0_1
 have HC0_1 := Aside0.mk hc0_1
 clear hr0_1 hc0_1
 have HB := Aside0.mk (Below.refl w.heap.size w)
 have H : ((posserlaw03_Thin.f k l0_0 l0_1 a0_2).bind fun t444 => (if t444 = true then ((posserref03_Fault.f k l0_0 l0_1 a0_2).bind fun t445 => (some (t445 == 0))) else (some false))) = some r := h
 clear h
 replace H := Option.bind_eq_some_iff.mp H
 obtain ⟨t444, A20, H⟩ := H
 replace H : (if t444 = true then ((posserref03_Fault.f k l0_0 l0_1 a0_2).bind fun t445 => (some (t445 == 0))) else (some false)) = some r := H
 have A2 := Aside0.mk A20
 clear A20
 by_cases c3 : t444 = true
 ·subst c3
  have H1 : ((posserref03_Fault.f k l0_0 l0_1 a0_2).bind fun t445 => (some (t445 == 0))) = some r := by rw [if_pos rfl] at H; exact H
  clear H
  have H := H1
  clear H1
  replace H := Option.bind_eq_some_iff.mp H
  obtain ⟨t445, A40, H⟩ := H
  replace H : (some (t445 == 0)) = some r := H
  have A4 := Aside0.mk A40
  clear A40
  obtain rfl := Option.some.inj H
  go_enter Try.func47, Try.ntmps47
  go_wp2_with (first | ((with_reducible refine gate_dst (N := 1) rfl ?_); refine sbox (N := 1) #[.slice A0_0 l0_0.length c0_0, .slice A0_1 l0_1.length c0_1, .int .i64 a0_2] 25 ?_; intro gb443 hg w5 hbox hb; have BK443 := Aside0.mk (hbox); have GW443 := Aside0.mk (sge hg HB : w.heap.size ≤ gb443); have GE443 := Aside0.mk (sge hg HB : w.heap.size ≤ gb443); replace HB := Aside0.mk (sbs HB hb); clear hb hbox hg; have hcz6_0 := sc 0 BK443; have hcz6_1 := sc 1 BK443; have hcz6_2 := sc 2 BK443; have hfz6_0 := blk_frozen BK443.out 0; have hfz6_1 := blk_frozen BK443.out 1; have hfz6_2 := blk_frozen BK443.out 2) | ((with_reducible refine gate_callee (f := 20) rfl ?_); refine goesL_ (some 4) rfl rfl Try.func20 (by kernel_rfl) rfl #[.agg #[.slice A0_0 l0_0.length c0_0, .slice A0_1 l0_1.length c0_1, .int .i64 a0_2]] rfl (by (try simp only [List.map_toArray, List.map_cons, List.map_nil]); first | done | rfl | (simp only [List.length_drop, List.length_take]; rfl)) ?_; (with_reducible refine (posserlaw03_Thin.calls k _ _ l0_0 _ _ l0_1 a0_2 true _ ?side1 ?side2 ?side3 ?side4 A2.out).mono ?_); (case side1 => exact sCb HR0_0 HB); (case side2 => exact HC0_0.out); (case side3 => exact sCb HR0_1 HB); (case side4 => exact HC0_1.out); rintro e w7 ⟨rfl, hb⟩; refine ⟨_, rfl, ?_⟩; replace BK443 := Aside0.mk (sbb BK443 hb); replace HB := Aside0.mk (sbs1 HB GE443 hb); (try clear hb); (try clear hb2); (try clear hk); (try clear hi); have hcz8_0 := sc 0 BK443; have hcz8_1 := sc 1 BK443; have hcz8_2 := sc 2 BK443; have hfz8_0 := blk_frozen BK443.out 0; have hfz8_1 := blk_frozen BK443.out 1; have hfz8_2 := blk_frozen BK443.out 2) | (go_at_call 75; (with_reducible refine (posserref03_Fault.calls k _ _ l0_0 _ _ l0_1 a0_2 t445 _ ?side1 ?side2 ?side3 ?side4 A4.out).mono ?_); (case side1 => exact sCb HR0_0 HB); (case side2 => exact HC0_0.out); (case side3 => exact sCb HR0_1 HB); (case side4 => exact HC0_1.out); rintro e w9 ⟨rfl, hb⟩; replace BK443 := Aside0.mk (sbb BK443 hb); replace HB := Aside0.mk (sbs1 HB GE443 hb); (try clear hb); (try clear hb2); (try clear hk); (try clear hi)))
  go_ret
  exact ⟨by first | rfl | (simp [errW_none, errW_some] <;> rfl) | (simp [*, errW_none, errW_some] <;> rfl), (sbe1 HB GE443)⟩
 ·replace c3 := Bool.eq_false_iff.mpr c3
  subst c3
  have H1 : (some false) = some r := by rw [if_neg (show ¬ (false = true) by decide)] at H; exact H
  clear H
  have H := H1
  clear H1
  obtain rfl := Option.some.inj H
  go_enter Try.func47, Try.ntmps47
  go_wp2_with (first | ((with_reducible refine gate_dst (N := 1) rfl ?_); refine sbox (N := 1) #[.slice A0_0 l0_0.length c0_0, .slice A0_1 l0_1.length c0_1, .int .i64 a0_2] 25 ?_; intro gb443 hg w10 hbox hb; have BK443 := Aside0.mk (hbox); have GW443 := Aside0.mk (sge hg HB : w.heap.size ≤ gb443); have GE443 := Aside0.mk (sge hg HB : w.heap.size ≤ gb443); replace HB := Aside0.mk (sbs HB hb); clear hb hbox hg; have hcz11_0 := sc 0 BK443; have hcz11_1 := sc 1 BK443; have hcz11_2 := sc 2 BK443; have hfz11_0 := blk_frozen BK443.out 0; have hfz11_1 := blk_frozen BK443.out 1; have hfz11_2 := blk_frozen BK443.out 2) | ((with_reducible refine gate_callee (f := 20) rfl ?_); refine goesL_ (some 4) rfl rfl Try.func20 (by kernel_rfl) rfl #[.agg #[.slice A0_0 l0_0.length c0_0, .slice A0_1 l0_1.length c0_1, .int .i64 a0_2]] rfl (by (try simp only [List.map_toArray, List.map_cons, List.map_nil]); first | done | rfl | (simp only [List.length_drop, List.length_take]; rfl)) ?_; (with_reducible refine (posserlaw03_Thin.calls k _ _ l0_0 _ _ l0_1 a0_2 false _ ?side1 ?side2 ?side3 ?side4 A2.out).mono ?_); (case side1 => exact sCb HR0_0 HB); (case side2 => exact HC0_0.out); (case side3 => exact sCb HR0_1 HB); (case side4 => exact HC0_1.out); rintro e w12 ⟨rfl, hb⟩; refine ⟨_, rfl, ?_⟩; replace BK443 := Aside0.mk (sbb BK443 hb); replace HB := Aside0.mk (sbs1 HB GE443 hb); (try clear hb); (try clear hb2); (try clear hk); (try clear hi)))
  go_ret
  exact ⟨by first | rfl | (simp [errW_none, errW_some] <;> rfl) | (simp [*, errW_none, errW_some] <;> rfl), (sbe1 HB GE443)⟩
end Go.Proofs.Ytnbbbeghgomnoaa.X
namespace Go.Proofs.Ytnbbbeghgomnoaa.X
open Go.RowKit Go.Proofs.YtnbbbeghgomnoaaW.PrintWords Go.Proofs.YtnbbbeghgomnoaaW.PrintLast Go.Proofs.YtnbbbeghgomnoaaW.PrintMore
theorem rdy_ev (l0 : List S85) (l1 : List S71) (wg : Int) : Evt (fun k => posserlaw03_ready.f k l0 l1 wg) (thinR l0 l1 && decide (checkT (l0.map cvW) (l1.map cvP) wg = 0)) := by
  obtain ⟨K, hK⟩ := Thin_ev l0 l1 wg
  cases hth : thinR l0 l1 with
  | false =>
    refine ⟨K, fun k hk => ?_⟩
    have g1 := hK k hk
    dsimp only at g1 ⊢
    unfold posserlaw03_ready.f
    rw [g1, hth]; rfl
  | true =>
    obtain ⟨L, hL⟩ := Fault_ev wg (thinR_iff.1 hth)
    refine ⟨K + L, fun k hk => ?_⟩
    have g1 := hK k (by omega)
    have g2 := hL k (by omega)
    dsimp only at g1 g2 ⊢
    unfold posserlaw03_ready.f
    rw [g1, hth]
    simp only [Option.bind_some, if_true]
    rw [g2]
    simp only [Option.bind_some]
    exact congrArg some (by rw [Bool.true_and, Bool.eq_iff_iff, beq_iff_eq, decide_eq_true_eq])
theorem rdy_cases (l0 : List S85) (l1 : List S71) (wg : Int) : (∃ K, ∀ k, K ≤ k → posserlaw03_ready.f k l0 l1 wg = some false) ∨ (VR l0 l1 wg ∧ checkT (l0.map cvW) (l1.map cvP) wg = 0 ∧ ∃ K, ∀ k, K ≤ k → posserlaw03_ready.f k l0 l1 wg = some true) := by
  have h := rdy_ev l0 l1 wg
  by_cases h1 : thinR l0 l1 = true
  · by_cases h2 : checkT (l0.map cvW) (l1.map cvP) wg = 0
    · rw [h1, decide_eq_true h2] at h
      exact .inr ⟨VR.of (thinR_iff.1 h1) h2, h2, h⟩
    · rw [h1, decide_eq_false h2] at h
      exact .inl h
  · rw [Bool.eq_false_iff.2 h1] at h
    exact .inl h
theorem ask_cases {l0 : List S109} {l1 : List S110} {wg : Int} (hc : checkT l0 l1 wg = 0) : (askE l0 l1 wg = 11 ∧ truthsL l0 l1 wg = []) ∨ (askE l0 l1 wg = 0 ∧ truthsL l0 l1 wg ≠ []) := by
  unfold askE
  rw [if_neg (fun h => h hc)]
  by_cases h : truthsL l0 l1 wg = []
  · rw [if_pos h]; exact .inl ⟨rfl, h⟩
  · rw [if_neg h]; exact .inr ⟨rfl, h⟩
theorem u16_rng {a : Int} (h : (Lit.int .u16 a).wf = true) : 0 ≤ a ∧ a ≤ 65535 := by
  unfold Lit.wf at h
  rw [Bool.and_eq_true, decide_eq_true_eq, decide_eq_true_eq] at h
  exact ⟨h.1, h.2⟩
theorem tmod_nat (a n : Int) (h0 : 0 ≤ a) (h1 : a ≤ 65535) (hn : 0 < n) : Int.tmod (wrap64 a) n = ((a.toNat % n.toNat : Nat) : Int) := by
  rw [wrap64_id _ (by omega) (by omega), Int.tmod_eq_emod_of_nonneg h0]
  obtain ⟨x, rfl⟩ : ∃ x : Nat, a = (x : Int) := ⟨a.toNat, by omega⟩
  obtain ⟨y, rfl⟩ : ∃ y : Nat, n = (y : Int) := ⟨n.toNat, by omega⟩
  rw [Int.toNat_natCast, Int.toNat_natCast]; rfl
end Go.Proofs.Ytnbbbeghgomnoaa.X
namespace Go.Proofs.Ytnbbbeghgomnoaa.X
open Go.RowKit Go.Proofs.YtnbbbeghgomnoaaW.PrintWords Go.Proofs.YtnbbbeghgomnoaaW.PrintLast Go.Proofs.YtnbbbeghgomnoaaW.PrintMore
attribute [local go_sem] max2_int min2_int max_two min_two max_three min_three max_four min_four
set_option linter.unusedVariables false
set_option linter.unusedSimpArgs false
def posserref03_Astray.l0 : Nat → List Int → List Int → Int → List (S85) → List (S71) → Int → Option (List Int)
  | 0, _, _, _, _, _, _ => none
  | k + 1, x1, x5, x6, x336000, x336001, x336002 => if x6 < (x1.length : Int) then (if 0 ≤ x6 then (if x6 < (x336001.length : Int) then (if ((rd_T71 x336001 x6).f1) = (rd x1 x6) then (posserref03_Astray.l0 k x1 x5 (wrap64 (x6 + 1)) x336000 x336001 x336002) else (if x5.length < 17592186044416 then (posserref03_Astray.l0 k x1 (x5 ++ [x6]) (wrap64 (x6 + 1)) x336000 x336001 x336002) else (none))) else (none)) else (none)) else (some x5)
def posserref03_Astray.f (k : Nat) (l0_0 : List (S85)) (l0_1 : List (S71)) (a0_2 : Int) (l1 : List Int) : Option (List Int) := posserref03_Astray.l0 k l1 ([] : List Int) 0 l0_0 l0_1 a0_2
set_option maxHeartbeats 8000000 in
set_option maxRecDepth 100000 in
theorem posserref03_Astray.calls (k : Nat) (A0_0 : Option Addr) (c0_0 : Nat) (l0_0 : List (S85)) (A0_1 : Option Addr) (c0_1 : Nat) (l0_1 : List (S71)) (a0_2 : Int) (A1 : Option Addr) (c1 : Nat) (l1 : List Int) (r : List Int) (w : World) (hr0_0 : Kd.C k85 w A0_0 l0_0.length l0_0) (hc0_0 : l0_0.length ≤ c0_0) (hr0_1 : Kd.C k71 w A0_1 l0_1.length l0_1) (hc0_1 : l0_1.length ≤ c0_1) (hr1 : Kd.C (Kd.int .i64) w A1 l1.length l1) (hc1 : l1.length ≤ c1) (h : posserref03_Astray.f k l0_0 l0_1 a0_2 l1 = some r) :
    Calls Try.prog 43 #[.agg #[.slice A0_0 l0_0.length c0_0, .slice A0_1 l0_1.length c0_1, .int .i64 a0_2], .slice A1 l1.length c1] w fun e w' => ∃ v0_ : Value, e = .returned (v0_) ∧ Kd.R (Kd.int .i64) 3 w' w.heap.size (fun _ => True) v0_ r ∧ Below w.heap.size w w' := by
  have hu25 := Try.underlying25
  have HR0_0 := Aside0.mk hr0_0
  have HC0_0 := Aside0.mk hc0_0
  clear hr0_0 hc0_0
  have HR0_1 := Aside0.mk hr0_1
  have HC0_1 := Aside0.mk hc0_1
  clear hr0_1 hc0_1
  have HR1 := Aside0.mk hr1
  have HC1 := Aside0.mk hc1
  clear hr1 hc1
  have HB := Aside0.mk (Below.refl w.heap.size w)
  have H : (posserref03_Astray.l0 k l1 ([] : List Int) 0 l0_0 l0_1 a0_2) = some r := h
  clear h
  have H' := Aside0.mk H
  clear H
  go_enter Try.func43, Try.ntmps43
  go_wp2_with (first | ((with_reducible refine gate_dst (N := 2) rfl ?_); refine box_event ?hg (N := 2) ?hd (cs := #[.slice A0_0 l0_0.length c0_0, .slice A0_1 l0_1.length c0_1, .int .i64 a0_2]) (t := 25) ?hr ?_; (case hd => rfl); (case hg => rfl); (case hr => first | (go_simp; done) | (go_simp; rfl)); intro gb335 hg w3 hbox hb; have n0_ := Aside0.mk (below_step (by repeat (first | (with_reducible first | exact HB.out | apply below_alloc | apply pw_below_drewN | apply below_drew1) | exact HB.out)) hb); have n1_ := Aside0.mk (hbox); have n2_ := Aside0.mk ((by rw [hg]; exact (below_size (by repeat (first | (with_reducible first | exact HB.out | apply below_alloc | apply pw_below_drewN | apply below_drew1) | exact HB.out))) : w.heap.size ≤ gb335)); have n3_ := Aside0.mk ((by rw [hg]; exact (below_size (by repeat (first | (with_reducible first | exact HB.out | apply below_alloc | apply pw_below_drewN | apply below_drew1) | exact HB.out))) : w.heap.size ≤ gb335)); clear HB; have HB := n0_; have BK335 := n1_; have GW335 := n2_; have GE335 := n3_; clear n0_ n1_ n2_ n3_; clear hb hbox hg))
  repeat (go_quiet (first | ((with_reducible refine gate_dst (N := 2) rfl ?_); refine box_event ?hg (N := 2) ?hd (cs := #[.slice A0_0 l0_0.length c0_0, .slice A0_1 l0_1.length c0_1, .int .i64 a0_2]) (t := 25) ?hr ?_; (case hd => rfl); (case hg => rfl); (case hr => first | (go_simp; done) | (go_simp; rfl)); intro gb335 hg w3 hbox hb; have n0_ := Aside0.mk (below_step (by repeat (first | (with_reducible first | exact HB.out | apply below_alloc | apply pw_below_drewN | apply below_drew1) | exact HB.out)) hb); have n1_ := Aside0.mk (hbox); have n2_ := Aside0.mk ((by rw [hg]; exact (below_size (by repeat (first | (with_reducible first | exact HB.out | apply below_alloc | apply pw_below_drewN | apply below_drew1) | exact HB.out))) : w.heap.size ≤ gb335)); have n3_ := Aside0.mk ((by rw [hg]; exact (below_size (by repeat (first | (with_reducible first | exact HB.out | apply below_alloc | apply pw_below_drewN | apply below_drew1) | exact HB.out))) : w.heap.size ≤ gb335)); clear HB; have HB := n0_; have BK335 := n1_; have GW335 := n2_; have GE335 := n3_; clear n0_ n1_ n2_ n3_; clear hb hbox hg)); try go_wp2_with (first | ((with_reducible refine gate_dst (N := 2) rfl ?_); refine box_event ?hg (N := 2) ?hd (cs := #[.slice A0_0 l0_0.length c0_0, .slice A0_1 l0_1.length c0_1, .int .i64 a0_2]) (t := 25) ?hr ?_; (case hd => rfl); (case hg => rfl); (case hr => first | (go_simp; done) | (go_simp; rfl)); intro gb335 hg w3 hbox hb; have n0_ := Aside0.mk (below_step (by repeat (first | (with_reducible first | exact HB.out | apply below_alloc | apply pw_below_drewN | apply below_drew1) | exact HB.out)) hb); have n1_ := Aside0.mk (hbox); have n2_ := Aside0.mk ((by rw [hg]; exact (below_size (by repeat (first | (with_reducible first | exact HB.out | apply below_alloc | apply pw_below_drewN | apply below_drew1) | exact HB.out))) : w.heap.size ≤ gb335)); have n3_ := Aside0.mk ((by rw [hg]; exact (below_size (by repeat (first | (with_reducible first | exact HB.out | apply below_alloc | apply pw_below_drewN | apply below_drew1) | exact HB.out))) : w.heap.size ≤ gb335)); clear HB; have HB := n0_; have BK335 := n1_; have GW335 := n2_; have GE335 := n3_; clear n0_ n1_ n2_ n3_; clear hb hbox hg)))
  go_loopg [5, 6] k (fun kq v5 v6 w' => ∃ (x5_1 : List Int) (x6_1 : Int), v6 = .int .i64 x6_1 ∧ Aside0 (posserref03_Astray.l0 kq l1 x5_1 x6_1 l0_0 l0_1 a0_2 = some r) ∧ Aside0 (kq ≤ k) ∧ Aside0 (Kd.R (Kd.int .i64) 3 w' w.heap.size (fun _ => True) v5 x5_1) ∧ Aside0 (w'.heap[gb335]? = some (.cells #[(.slice A0_0 l0_0.length c0_0), (.slice A0_1 l0_1.length c0_1), .int .i64 a0_2] 25 (0, 0))) ∧ Aside0 (Below w.heap.size w w'))
  case atStart => exact ⟨(([] : List Int)), (0), (by first | rfl | (simp; done) | (simp [*]; done)), H', ⟨Nat.le_refl _⟩, ⟨by first | exact Kd.R_nil _ _ _ _ _ | exact Kd.N_nil _ _ _ _ _ | exact Kd.V_nil _ _ _ _ _ | exact Kd.Q_nil _ _ _ _ _ | exact Kd.S_nil _ _ _ _ _⟩, ⟨by (with_reducible repeat (first | refine blk_drewN ?_ _ | refine blk_drew ?_ | refine blk_alloc ?_ _)); exact BK335.out⟩, ⟨by repeat (first | (with_reducible first | exact HB.out | apply below_alloc | apply pw_below_drewN | apply below_drew1 | refine below_set ?_ GE335.out) | exact HB.out)⟩⟩
  case round =>
    clear H'
    try clear c1
    try clear p2
    obtain ⟨x5_1, x6_1, rfl, HA, HK1, HO_5, BK335, HB⟩ := hrel
    cases gk with
    | zero => exact absurd HA.out (by simp [posserref03_Astray.l0])
    | succ k1 =>
      have H := HA.out
      clear HA
      simp only [posserref03_Astray.l0] at H
      by_cases c4 : x6_1 < (l1.length : Int)
      · rw [if_pos c4] at H
        have c4b0 : decide (x6_1 < (l1.length : Int)) = true := decide_eq_true c4
        clear c4
        by_cases c5 : 0 ≤ x6_1
        · rw [if_pos c5] at H
          have c5b0 : decide (0 ≤ x6_1) = true := decide_eq_true c5
          clear c5
          by_cases c6 : x6_1 < (l0_1.length : Int)
          · rw [if_pos c6] at H
            have c6b0 : decide (x6_1 < (l0_1.length : Int)) = true := decide_eq_true c6
            clear c6
            by_cases c7 : ((rd_T71 l0_1 x6_1).f1) = (rd l1 x6_1)
            · rw [if_pos c7] at H
              have c7b0 : (((rd_T71 l0_1 x6_1).f1) == (rd l1 x6_1)) = true := beq_iff_eq.mpr c7
              have c7b1 : (((rd_T71 l0_1 x6_1).f1) != (rd l1 x6_1)) = false := bne_eq_false_iff_eq.mpr c7
              clear c7
              have H' := Aside0.mk H
              clear H
              have hcz8_0 : wr.cell? ⟨gb335, 0, none⟩ = some (.slice A0_0 l0_0.length c0_0) := (blk_cell BK335.out 0).trans rfl
              have hcz8_1 : wr.cell? ⟨gb335, 1, none⟩ = some (.slice A0_1 l0_1.length c0_1) := (blk_cell BK335.out 1).trans rfl
              have hcz8_2 : wr.cell? ⟨gb335, 2, none⟩ = some (.int .i64 a0_2) := (blk_cell BK335.out 2).trans rfl
              have hfz8_0 := blk_frozen BK335.out 0
              have hfz8_1 := blk_frozen BK335.out 1
              have hfz8_2 := blk_frozen BK335.out 2
              have p336 : 0 ≤ (x6_1 : Int) := of_decide_eq_true (by first | (with_reducible assumption) | assumption)
              have q336 : x6_1 < (l0_1.length : Int) := of_decide_eq_true (by first | (with_reducible assumption) | assumption)
              obtain ⟨ad336, A336_0, c336_0, e336, hx336_0, hx336_1, hl336_0, hi336_0⟩ := at_T71 HR0_1.out x6_1 p336 q336
              cases e336
              replace hx336_0 := (HB.out.cell (World.block_lt_of_cell? w _ hx336_0)).trans hx336_0
              replace hx336_1 := (HB.out.cell (World.block_lt_of_cell? w _ hx336_1)).trans hx336_1
              have HR336_0 := Aside0.mk hi336_0
              have HC336_0 := Aside0.mk hl336_0
              clear hi336_0 hl336_0
              replace p336 := eq_true p336
              replace q336 := eq_true q336
              have p337 : 0 ≤ (x6_1 : Int) := of_decide_eq_true (by first | (with_reducible assumption) | assumption)
              have q337 : x6_1 < (l1.length : Int) := of_decide_eq_true (by first | (with_reducible assumption) | assumption)
              obtain ⟨ad337, e337, hx337_0⟩ := Kd.at_int HR1.out x6_1 p337 q337
              cases e337
              replace hx337_0 := (HB.out.cell (World.block_lt_of_cell? w _ hx337_0)).trans hx337_0
              replace p337 := eq_true p337
              replace q337 := eq_true q337
              go_wp2
              repeat (go_quiet (fail); try go_wp2)
              go_roundg k1
              case measure => have := HK1.out; omega
              case rel => exact ⟨(x5_1), (wrap64 (x6_1 + 1)), (by first | rfl | (simp; done) | (simp [*]; done)), H', ⟨by have := HK1.out; omega⟩, ⟨by (with_reducible repeat (first | apply Kd.R_alloc | apply Kd.R_drewN | apply Kd.R_drew)); exact HO_5.out⟩, ⟨by (with_reducible repeat (first | refine blk_drewN ?_ _ | refine blk_drew ?_ | refine blk_alloc ?_ _)); exact BK335.out⟩, ⟨by repeat (first | (with_reducible first | exact HB.out | apply below_alloc | apply pw_below_drewN | apply below_drew1 | refine below_set ?_ GE335.out) | exact HB.out)⟩⟩
            · rw [if_neg c7] at H
              have c7b0 : (((rd_T71 l0_1 x6_1).f1) == (rd l1 x6_1)) = false := beq_eq_false_iff_ne.mpr c7
              have c7b1 : (((rd_T71 l0_1 x6_1).f1) != (rd l1 x6_1)) = true := bne_iff_ne.mpr c7
              by_cases c9 : x5_1.length < 17592186044416
              · rw [if_pos c9] at H
                have LMc9 := Aside0.mk c9
                clear c9
                obtain ⟨y338, hy338⟩ : ∃ y_ : List Int, y_ = (x5_1 ++ [x6_1]) := ⟨_, rfl⟩
                replace H : (posserref03_Astray.l0 k1 l1 y338 (wrap64 (x6_1 + 1)) l0_0 l0_1 a0_2) = some r := by first | (rw [hy338]; with_reducible exact H) | (have H2_ := (Option.bind_some _ _).symm.trans H; rw [hy338]; with_reducible exact H2_) | (have H2_ := (Option.bind_some _ _).symm.trans H; with_reducible exact H2_) | with_reducible exact H | (rw [hy338]; exact H) | exact H
                have Ny338 := Aside0.mk hy338
                clear hy338
                have H' := Aside0.mk H
                clear H
                have hcz10_0 : wr.cell? ⟨gb335, 0, none⟩ = some (.slice A0_0 l0_0.length c0_0) := (blk_cell BK335.out 0).trans rfl
                have hcz10_1 : wr.cell? ⟨gb335, 1, none⟩ = some (.slice A0_1 l0_1.length c0_1) := (blk_cell BK335.out 1).trans rfl
                have hcz10_2 : wr.cell? ⟨gb335, 2, none⟩ = some (.int .i64 a0_2) := (blk_cell BK335.out 2).trans rfl
                have hfz10_0 := blk_frozen BK335.out 0
                have hfz10_1 := blk_frozen BK335.out 1
                have hfz10_2 := blk_frozen BK335.out 2
                have p336 : 0 ≤ (x6_1 : Int) := of_decide_eq_true (by first | (with_reducible assumption) | assumption)
                have q336 : x6_1 < (l0_1.length : Int) := of_decide_eq_true (by first | (with_reducible assumption) | assumption)
                obtain ⟨ad336, A336_0, c336_0, e336, hx336_0, hx336_1, hl336_0, hi336_0⟩ := at_T71 HR0_1.out x6_1 p336 q336
                cases e336
                replace hx336_0 := (HB.out.cell (World.block_lt_of_cell? w _ hx336_0)).trans hx336_0
                replace hx336_1 := (HB.out.cell (World.block_lt_of_cell? w _ hx336_1)).trans hx336_1
                have HR336_0 := Aside0.mk hi336_0
                have HC336_0 := Aside0.mk hl336_0
                clear hi336_0 hl336_0
                replace p336 := eq_true p336
                replace q336 := eq_true q336
                have p337 : 0 ≤ (x6_1 : Int) := of_decide_eq_true (by first | (with_reducible assumption) | assumption)
                have q337 : x6_1 < (l1.length : Int) := of_decide_eq_true (by first | (with_reducible assumption) | assumption)
                obtain ⟨ad337, e337, hx337_0⟩ := Kd.at_int HR1.out x6_1 p337 q337
                cases e337
                replace hx337_0 := (HB.out.cell (World.block_lt_of_cell? w _ hx337_0)).trans hx337_0
                replace p337 := eq_true p337
                replace q337 := eq_true q337
                go_wp2_with (first | ((with_reducible refine gate_builtin (b := .append) (xs := #[.tmp 24, .tmp 26]) rfl ?_); at_builtin; refine Kd.R_append (Kd.int .i64) (w0 := w) w.heap.size rfl (.tmp 24) (.tmp 26) 39 3 (.int .i64 0) 8 rfl Try.underlying39 info3 rfl (by decide) (by omega) u5 x5_1 x6_1 [.int .i64 x6_1] (fun _ => True) (fun _ => False) rfl rfl ?aP (fun _ hk => hk.elim) ?aF ?aO ?aB ?aS ?aL ?_; (case aP => exact rfl); (case aB => exact (by repeat (first | (with_reducible first | exact HB.out | apply below_alloc | apply pw_below_drewN | apply below_drew1 | refine below_set ?_ GE335.out) | exact HB.out))); (case aF => exact (fun _ _ => trivial)); (case aO => exact (by (with_reducible repeat (first | apply Kd.R_alloc | apply Kd.R_drewN | apply Kd.R_drew)); exact HO_5.out)); (case aS => exact (below_size (by repeat (first | (with_reducible first | exact HB.out | apply below_alloc | apply pw_below_drewN | apply below_drew1 | refine below_set ?_ GE335.out) | exact HB.out)))); (case aL => have := LMc9.out; omega); intro v339 w11 ho hb hg hat; rw [← Ny338.out] at ho; have n0_ := Aside0.mk (blk_grown (g := gb335) (o := .cells #[.slice A0_0 l0_0.length c0_0, .slice (some ad336) l0_1.length c0_1, .int .i64 a0_2] 25 (0, 0)) (by (with_reducible repeat (first | refine blk_drewN ?_ _ | refine blk_drew ?_ | refine blk_alloc ?_ _)); exact BK335.out) hg (Kd.R_ne HO_5.out BK335.out (by decide))); have n1_ := Aside0.mk (hb); have n2_ := Aside0.mk (ho); clear BK335; clear HB; clear HO_5; have BK335 := n0_; have HB := n1_; have HO340 := n2_; clear n0_ n1_ n2_; clear ho hb hg hat))
                repeat (go_quiet (first | ((with_reducible refine gate_builtin (b := .append) (xs := #[.tmp 24, .tmp 26]) rfl ?_); at_builtin; refine Kd.R_append (Kd.int .i64) (w0 := w) w.heap.size rfl (.tmp 24) (.tmp 26) 39 3 (.int .i64 0) 8 rfl Try.underlying39 info3 rfl (by decide) (by omega) u5 x5_1 x6_1 [.int .i64 x6_1] (fun _ => True) (fun _ => False) rfl rfl ?aP (fun _ hk => hk.elim) ?aF ?aO ?aB ?aS ?aL ?_; (case aP => exact rfl); (case aB => exact (by repeat (first | (with_reducible first | exact HB.out | apply below_alloc | apply pw_below_drewN | apply below_drew1 | refine below_set ?_ GE335.out) | exact HB.out))); (case aF => exact (fun _ _ => trivial)); (case aO => exact (by (with_reducible repeat (first | apply Kd.R_alloc | apply Kd.R_drewN | apply Kd.R_drew)); exact HO_5.out)); (case aS => exact (below_size (by repeat (first | (with_reducible first | exact HB.out | apply below_alloc | apply pw_below_drewN | apply below_drew1 | refine below_set ?_ GE335.out) | exact HB.out)))); (case aL => have := LMc9.out; omega); intro v339 w11 ho hb hg hat; rw [← Ny338.out] at ho; have n0_ := Aside0.mk (blk_grown (g := gb335) (o := .cells #[.slice A0_0 l0_0.length c0_0, .slice (some ad336) l0_1.length c0_1, .int .i64 a0_2] 25 (0, 0)) (by (with_reducible repeat (first | refine blk_drewN ?_ _ | refine blk_drew ?_ | refine blk_alloc ?_ _)); exact BK335.out) hg (Kd.R_ne HO_5.out BK335.out (by decide))); have n1_ := Aside0.mk (hb); have n2_ := Aside0.mk (ho); clear BK335; clear HB; clear HO_5; have BK335 := n0_; have HB := n1_; have HO340 := n2_; clear n0_ n1_ n2_; clear ho hb hg hat)); try go_wp2_with (first | ((with_reducible refine gate_builtin (b := .append) (xs := #[.tmp 24, .tmp 26]) rfl ?_); at_builtin; refine Kd.R_append (Kd.int .i64) (w0 := w) w.heap.size rfl (.tmp 24) (.tmp 26) 39 3 (.int .i64 0) 8 rfl Try.underlying39 info3 rfl (by decide) (by omega) u5 x5_1 x6_1 [.int .i64 x6_1] (fun _ => True) (fun _ => False) rfl rfl ?aP (fun _ hk => hk.elim) ?aF ?aO ?aB ?aS ?aL ?_; (case aP => exact rfl); (case aB => exact (by repeat (first | (with_reducible first | exact HB.out | apply below_alloc | apply pw_below_drewN | apply below_drew1 | refine below_set ?_ GE335.out) | exact HB.out))); (case aF => exact (fun _ _ => trivial)); (case aO => exact (by (with_reducible repeat (first | apply Kd.R_alloc | apply Kd.R_drewN | apply Kd.R_drew)); exact HO_5.out)); (case aS => exact (below_size (by repeat (first | (with_reducible first | exact HB.out | apply below_alloc | apply pw_below_drewN | apply below_drew1 | refine below_set ?_ GE335.out) | exact HB.out)))); (case aL => have := LMc9.out; omega); intro v339 w11 ho hb hg hat; rw [← Ny338.out] at ho; have n0_ := Aside0.mk (blk_grown (g := gb335) (o := .cells #[.slice A0_0 l0_0.length c0_0, .slice (some ad336) l0_1.length c0_1, .int .i64 a0_2] 25 (0, 0)) (by (with_reducible repeat (first | refine blk_drewN ?_ _ | refine blk_drew ?_ | refine blk_alloc ?_ _)); exact BK335.out) hg (Kd.R_ne HO_5.out BK335.out (by decide))); have n1_ := Aside0.mk (hb); have n2_ := Aside0.mk (ho); clear BK335; clear HB; clear HO_5; have BK335 := n0_; have HB := n1_; have HO340 := n2_; clear n0_ n1_ n2_; clear ho hb hg hat)))
                go_roundg k1
                case measure => have := HK1.out; omega
                case rel => exact ⟨(y338), (wrap64 (x6_1 + 1)), (by first | rfl | (simp; done) | (simp [*]; done)), H', ⟨by have := HK1.out; omega⟩, ⟨by (with_reducible repeat (first | apply Kd.R_alloc | apply Kd.R_drewN | apply Kd.R_drew)); exact HO340.out⟩, ⟨by (with_reducible repeat (first | refine blk_drewN ?_ _ | refine blk_drew ?_ | refine blk_alloc ?_ _)); exact BK335.out⟩, ⟨by repeat (first | (with_reducible first | exact HB.out | apply below_alloc | apply pw_below_drewN | apply below_drew1 | refine below_set ?_ GE335.out) | exact HB.out)⟩⟩
              · rw [if_neg c9] at H
                exact absurd H (by simp)
          · rw [if_neg c6] at H
            exact absurd H (by simp)
        · rw [if_neg c5] at H
          exact absurd H (by simp)
      · rw [if_neg c4] at H
        have c4b0 : decide (x6_1 < (l1.length : Int)) = false := decide_eq_false c4
        clear c4
        obtain rfl := Option.some.inj H
        go_wp2
        repeat (go_quiet (fail); try go_wp2)
        go_ret
        exact ⟨_, by first | rfl | (simp [errW_none, errW_some] <;> rfl) | (simp [*, errW_none, errW_some] <;> rfl), by (with_reducible repeat (first | apply Kd.R_alloc | apply Kd.R_drewN | apply Kd.R_drew)); exact HO_5.out, by repeat (first | (with_reducible first | exact HB.out | apply below_alloc | apply pw_below_drewN | apply below_drew1 | refine below_set ?_ GE335.out) | exact HB.out)⟩
end Go.Proofs.Ytnbbbeghgomnoaa.X
namespace Go.Proofs.Ytnbbbeghgomnoaa.X
open Go.RowKit Go.Proofs.YtnbbbeghgomnoaaW.PrintWords Go.Proofs.YtnbbbeghgomnoaaW.PrintLast Go.Proofs.YtnbbbeghgomnoaaW.PrintMore
theorem Evt.all {α β : Type} {g : α → Nat → Option β} {r : α → β} : ∀ (l : List α), (∀ x ∈ l, Evt (g x) (r x)) → ∃ K, ∀ k, K ≤ k → ∀ x ∈ l, g x k = some (r x)
  | [], _ => ⟨0, fun _ _ _ h => by cases h⟩
  | a :: l, h => by
    obtain ⟨K, hK⟩ := h a (List.mem_cons_self ..)
    obtain ⟨L, hL⟩ := Evt.all l fun x hx => h x (List.mem_cons_of_mem _ hx)
    refine ⟨K + L, fun k hk x hx => ?_⟩
    rcases List.mem_cons.1 hx with rfl | hx
    · exact hK k (by omega)
    · exact hL k (by omega) x hx
theorem RAstray_ev {l0 : List S85} {l1 : List S71} (wg : Int) (h1 : l1.length ≤ 30) (x : List Int) (hx : x.length = l1.length) : Evt (fun k => posserref03_Astray.f k l0 l1 wg x) (sel (off (l1.map cvP) (pad x)) (l1.map cvP).length) := by
  rw [List.length_map]
  have main : ∀ (d i : Nat), i + d = l1.length → Evt (fun k => posserref03_Astray.l0 k x (sel (off (l1.map cvP) (pad x)) i) (i : Int) l0 l1 wg) (sel (off (l1.map cvP) (pad x)) l1.length) := by
    intro d
    induction d with
    | zero =>
      intro i hi
      obtain rfl : i = l1.length := by omega
      refine Evt.succ (Evt.const _) (fun k => ?_)
      simp only [posserref03_Astray.l0]
      rw [if_neg (by omega)]
    | succ d ih =>
      intro i hi
      have hlt : i < l1.length := by omega
      have hoff : off (l1.map cvP) (pad x) i = !decide ((l1.getD i z71).f1 = x.getD i 0) := by
        unfold off
        rw [cvP_getD]; rfl
      have hn := ih (i + 1) (by omega)
      by_cases he : (l1.getD i z71).f1 = x.getD i 0
      · rw [sel_no _ _ (by rw [hoff, decide_eq_true he]; rfl)] at hn
        refine Evt.succ hn (fun k => ?_)
        simp only [posserref03_Astray.l0]
        rw [if_pos (by omega), if_pos (by omega), if_pos (by omega), rd_nat, rd_T71_nat, if_pos he, wrap_succ i _ hlt (by omega)]
      · rw [sel_yes _ _ (by rw [hoff, decide_eq_false he]; rfl)] at hn
        refine Evt.succ hn (fun k => ?_)
        simp only [posserref03_Astray.l0]
        have := sel_le (off (l1.map cvP) (pad x)) i
        rw [if_pos (by omega), if_pos (by omega), if_pos (by omega), rd_nat, rd_T71_nat, if_neg he, if_pos (by omega), wrap_succ i _ hlt (by omega)]
  exact main l1.length 0 (by omega)
end Go.Proofs.Ytnbbbeghgomnoaa.X
namespace Go.Proofs.Ytnbbbeghgomnoaa.X
open Go.RowKit Go.Proofs.YtnbbbeghgomnoaaW.PrintWords Go.Proofs.YtnbbbeghgomnoaaW.PrintLast Go.Proofs.YtnbbbeghgomnoaaW.PrintMore
abbrev RI (w : World) (b : Nat) (v : Value) (xs : List Int) : Prop := Kd.R (Kd.int .i64) 3 w b (fun _ => True) v xs
section
variable {A0 : Option Addr} {c0 : Nat} {l0 : List S109} {A1 : Option Addr} {c1 : Nat} {l1 : List S110} {w : World}
theorem tab_c {A0 : Option Addr} {c0 : Nat} {l0 : List S85} {A1 : Option Addr} {c1 : Nat} {l1 : List S71} (wg : Int) {w : World} (ht : RTab A0 c0 l0 A1 c1 l1 w) {L0 : List S109} {L1 : List S110} (h0 : l0.map cvW = L0) (h1 : l1.map cvP = L1) :
    Calls Try.prog 23 #[.agg #[.slice A0 l0.length c0, .slice A1 l1.length c1, .int .i64 wg]] w fun e w' => ∃ B0 d0 B1 d1, e = .returned (.agg #[.slice B0 L0.length d0, .slice B1 L1.length d1, .int .i64 wg]) ∧ Tab B0 d0 L0 B1 d1 L1 w' ∧ Below w.heap.size w w' := by
  subst h0 h1
  refine (Table_calls wg ht).mono ?_
  rintro e w' ⟨B0, d0, B1, d1, rfl, h, _, _, hb⟩
  exact ⟨B0, d0, B1, d1, by simp only [List.length_map], h, hb⟩
theorem few_c (wg : Int) (ht : Tab A0 c0 l0 A1 c1 l1 w) (he : askE l0 l1 wg = 0) {vs : List Int} (hs : bestL l1 (truthsL l0 l1 wg) = vs) :
    Calls Try.prog 38 #[.agg #[.slice A0 l0.length c0, .slice A1 l1.length c1, .int .i64 wg]] w fun e w' => ∃ v, e = .returned (.tuple #[v, .int .i64 0]) ∧ RI w' w.heap.size v vs ∧ Below w.heap.size w w' := by
  subst hs
  exact Fewest_ok wg ht he
theorem few_n (wg : Int) (ht : Tab A0 c0 l0 A1 c1 l1 w) (he : askE l0 l1 wg = 11) :
    Calls Try.prog 38 #[.agg #[.slice A0 l0.length c0, .slice A1 l1.length c1, .int .i64 wg]] w fun e w' => e = .returned (.tuple #[.slice none 0 0, .int .i64 11]) ∧ Below w.heap.size w w' := by
  have h := Fewest_e wg ht (by omega)
  rwa [he] at h
theorem mov_c (wg : Int) (ht : Tab A0 c0 l0 A1 c1 l1 w) (he : askE l0 l1 wg = 0) {vs : List S69} (hs : movesL l1 (bestL l1 (truthsL l0 l1 wg)) = vs) :
    Calls Try.prog 39 #[.agg #[.slice A0 l0.length c0, .slice A1 l1.length c1, .int .i64 wg]] w fun e w' => ∃ v, e = .returned (.tuple #[v, .int .i64 0]) ∧ Kd.R k69 69 w' w.heap.size (fun _ => True) v vs ∧ Below w.heap.size w w' := by
  subst hs
  exact Moves_ok wg ht he
theorem mov_n (wg : Int) (ht : Tab A0 c0 l0 A1 c1 l1 w) (he : askE l0 l1 wg = 11) :
    Calls Try.prog 39 #[.agg #[.slice A0 l0.length c0, .slice A1 l1.length c1, .int .i64 wg]] w fun e w' => e = .returned (.tuple #[.slice none 0 0, .int .i64 11]) ∧ Below w.heap.size w w' := by
  have h := Moves_e wg ht (by omega)
  rwa [he] at h
theorem ast_c (wg : Int) (ht : Tab A0 c0 l0 A1 c1 l1 w) (he : askE l0 l1 wg = 0) {lo hi : Int} (hs : boundsL (fun x => lostN l1 (pad x)) (truthsL l0 l1 wg) = (lo, hi)) :
    Calls Try.prog 37 #[.agg #[.slice A0 l0.length c0, .slice A1 l1.length c1, .int .i64 wg]] w fun e w' => e = .returned (.tuple #[.agg #[.int .i64 lo, .int .i64 hi], .int .i64 0]) ∧ Below w.heap.size w w' := by
  have h := Astray_ok wg ht he
  rwa [hs] at h
end
theorem list_c {A : Option Addr} {c : Nat} {l : List Int} {w : World} (hr : Kd.C (Kd.int .i64) w A l.length l) (hl : l.length ≤ 1000000) :
    Calls Try.prog 41 #[.slice A l.length c] w fun e w' => ∃ B d, e = .returned (.slice B l.length d) ∧ RI w' w.heap.size (.slice B l.length d) l ∧ Below w.heap.size w w' := by
  refine (list_calls A c l w hr hl).mono ?_
  rintro e w' ⟨v, rfl, h, hb⟩
  obtain ⟨B, d, rfl⟩ := Kd.R_slice h
  exact ⟨B, d, rfl, h, hb⟩
end Go.Proofs.Ytnbbbeghgomnoaa.X
namespace Go.Proofs.Ytnbbbeghgomnoaa.X
open Go.RowKit Go.Proofs.YtnbbbeghgomnoaaW.PrintWords Go.Proofs.YtnbbbeghgomnoaaW.PrintLast Go.Proofs.YtnbbbeghgomnoaaW.PrintMore
def PB {α : Type} (d : Kd α) (w : World) (cs : Array Value) (xs : List α) : Prop := ∀ j x, xs[j]? = some x → ∃ c : List Value, d.K w x c ∧ ∀ i u, c[i]? = some u → cs[j * d.sz + i]? = some u
structure RX {α : Type} (d : Kd α) (e : Nat) (w W : World) (b : Nat) (A : Option Addr) (c : Nat) (xs : List α) : Prop where
  le : xs.length ≤ c
  sm : xs.length ≤ 1000
  blk : xs.length = 0 ∨ ∃ g cs, A = some ⟨g, 0, none⟩ ∧ b ≤ g ∧ W.heap[g]? = some (.cells cs e (0, 0)) ∧ PB d w cs xs
section
variable {α : Type} {d : Kd α} {e : Nat} {w W W' : World} {b : Nat} {A : Option Addr} {c : Nat} {xs : List α}
theorem RX.below (h : RX d e w W b A c xs) (hb : Below W.heap.size W W') : RX d e w W' b A c xs := by
  refine ⟨h.le, h.sm, ?_⟩
  rcases h.blk with h0 | ⟨g, cs, h1, h2, h3, h4⟩
  · exact .inl h0
  · exact .inr ⟨g, cs, h1, h2, blk_below h3 hb, h4⟩
theorem RX.setRow {g' t : Nat} {cs' us : Array Value} (h : RX d e w W b A c xs) (hk : W.heap[g']? = some (.cells cs' t (0, 0))) (ht : e ≠ t) : RX d e w (W.setRow g' us) b A c xs := by
  refine ⟨h.le, h.sm, ?_⟩
  rcases h.blk with h0 | ⟨g, cs, h1, h2, h3, h4⟩
  · exact .inl h0
  · refine .inr ⟨g, cs, h1, h2, (setRow_other W g' g us (fun he => ?_)).trans h3, h4⟩
    subst he
    rw [h3] at hk
    injection hk with hk
    injection hk with _ hk
    exact ht hk
theorem RX.setCell {g' j t : Nat} {cs' : Array Value} {u : Value} (h : RX d e w W b A c xs) (hk : W.heap[g']? = some (.cells cs' t (0, 0))) (ht : e ≠ t) : RX d e w (W.setCell ⟨g', j, none⟩ u) b A c xs := by
  refine ⟨h.le, h.sm, ?_⟩
  rcases h.blk with h0 | ⟨g, cs, h1, h2, h3, h4⟩
  · exact .inl h0
  · refine .inr ⟨g, cs, h1, h2, blk_far h3 (fun he => ?_) u, h4⟩
    have he' : g = g' := he
    subst he'
    rw [h3] at hk
    injection hk with hk
    injection hk with _ hk
    exact ht hk
theorem RX.lower {b' : Nat} (h : RX d e w W b A c xs) (hb : b' ≤ b) : RX d e w W b' A c xs := by
  refine ⟨h.le, h.sm, ?_⟩
  rcases h.blk with h0 | ⟨g, cs, h1, h2, h3, h4⟩
  · exact .inl h0
  · exact .inr ⟨g, cs, h1, Nat.le_trans hb h2, h3, h4⟩
theorem addr0 (g k : Nat) : Addr.add ⟨g, 0, none⟩ k = ⟨g, k, none⟩ := by
  cases k with
  | zero => rfl
  | succ k => simp [Addr.add]
theorem RX.C (h : RX d e w W b A c xs) (hb : Below w.heap.size w W) : d.C W A xs.length xs := by
  refine ⟨rfl, by have := h.sm; omega, fun hp => ?_⟩
  rcases h.blk with h0 | ⟨g, cs, h1, h2, h3, h4⟩
  · omega
  · refine ⟨_, h1, fun j p hj => ?_⟩
    obtain ⟨q, hq, hc⟩ := h4 j p hj
    exact ⟨q, d.K_len hq, d.K_below hb hq, fun i u hu => by rw [addr0]; exact (blk_cell h3 _).trans (hc i u hu)⟩
theorem RX.of {v : Value} {rows : List (List Value)} (hR : (Kd.raw d.sz).R e W b (fun _ => True) v rows) (hl : rows.length = xs.length) (hK : ∀ (j : Nat) (x : α) (r : List Value), xs[j]? = some x → rows[j]? = some r → d.K w x r) (hs : xs.length ≤ 1000) : ∃ A c, v = .slice A xs.length c ∧ RX d e w W b A c xs := by
  obtain ⟨_, inner, ho, hr⟩ := hR
  rcases ho.2 with ⟨rfl, h0⟩ | ⟨g, cap, cur, rfl, hg, hh, hn, _, hz, ht⟩
  · have hx : xs.length = 0 := by rw [← hl]; exact h0
    exact ⟨none, 0, by rw [hx], by rw [hx]; exact Nat.le_refl _, hs, .inl hx⟩
  · refine ⟨some ⟨g, 0, none⟩, cap, by rw [hl], by rw [← hl]; exact hn, hs, .inr ⟨g, cur, rfl, hg, hh, fun j x hx => ?_⟩⟩
    have hj : j < rows.length := by rw [hl]; exact (List.getElem?_eq_some_iff.1 hx).1
    have hrj := List.getElem?_eq_getElem hj
    refine ⟨rows[j], hK j x _ hx hrj, fun i u hu => ?_⟩
    have h1 := hr.2 j _ hrj
    have h2 : (inner.drop (j * d.sz)).take d.sz = rows[j] := h1.1
    rw [← h2, List.getElem?_take] at hu
    split at hu
    · rw [List.getElem?_drop] at hu
      rw [← ht, List.getElem?_take] at hu
      split at hu
      · rw [Array.getElem?_toList] at hu; exact hu
      · cases hu
    · cases hu
end
theorem PB.bundle {w : World} {cs : Array Value} {xs : List S71} (h : PB k71 w cs xs) (p : Nat) (hp : p < xs.length) (v : Int) : PB k71 w (cs.setIfInBounds (p * 2 + 1) (.int .i64 v)) (xs.set p ⟨(xs.getD p z71).f0, v⟩) := by
  intro j x hx
  rw [List.getElem?_set] at hx
  by_cases hj : p = j
  · subst hj
    rw [if_pos rfl, if_pos hp] at hx
    injection hx with hx
    subst hx
    have hg : xs[p]? = some (xs.getD p z71) := by rw [List.getD_eq_getElem?_getD, List.getElem?_eq_getElem hp]; rfl
    obtain ⟨c, hc, hcs⟩ := h p _ hg
    obtain ⟨A, n, rfl, hl, hC⟩ := k71_open hc
    refine ⟨[.slice A (xs.getD p z71).f0.length n, .int .i64 v], k71_mk w ⟨(xs.getD p z71).f0, v⟩ hl hC, fun i u hu => ?_⟩
    have h0 := hcs 0 _ rfl
    have h1 := hcs 1 _ rfl
    have hz : k71.sz = 2 := rfl
    rw [hz] at h0 h1 ⊢
    match i, hu with
    | 0, hu =>
      rw [Array.getElem?_setIfInBounds, if_neg (by omega)]
      injection hu with hu
      rw [← hu]; exact h0
    | 1, hu =>
      have hlt : p * 2 + 1 < cs.size := (Array.getElem?_eq_some_iff.1 h1).1
      rw [Array.getElem?_setIfInBounds, if_pos rfl, if_pos hlt]
      exact hu
    | i + 2, hu => simp at hu
  · rw [if_neg hj] at hx
    obtain ⟨c, hc, hcs⟩ := h j x hx
    refine ⟨c, hc, fun i u hu => ?_⟩
    have hi : i < 2 := by
      have h1 := (List.getElem?_eq_some_iff.1 hu).1
      have h2 := k71.K_len hc
      have hz : k71.sz = 2 := rfl
      omega
    have hz : k71.sz = 2 := rfl
    have := hcs i u hu
    rw [hz] at this ⊢
    rw [Array.getElem?_setIfInBounds, if_neg (by omega)]
    exact this
theorem PB.came {w : World} {cs : Array Value} {xs : List S85} (h : PB k85 w cs xs) (p : Nat) (hp : p < xs.length) (u v : Int) : PB k85 w ((cs.setIfInBounds (p * 3 + 1) (.int .i64 u)).setIfInBounds (p * 3 + 2) (.int .i64 v)) (xs.set p ⟨(xs.getD p z85).f0, ⟨u, v⟩⟩) := by
  have hz : k85.sz = 3 := rfl
  intro j x hx
  rw [List.getElem?_set] at hx
  by_cases hj : p = j
  · subst hj
    rw [if_pos rfl, if_pos hp] at hx
    injection hx with hx
    subst hx
    have hg : xs[p]? = some (xs.getD p z85) := by rw [List.getD_eq_getElem?_getD, List.getElem?_eq_getElem hp]; rfl
    obtain ⟨c, hc, hcs⟩ := h p _ hg
    obtain rfl := k85_open hc
    refine ⟨[.int .i64 (xs.getD p z85).f0, .int .i64 u, .int .i64 v], k85_mk w ⟨(xs.getD p z85).f0, ⟨u, v⟩⟩, fun i y hy => ?_⟩
    have h0 := hcs 0 _ rfl
    have h1 := hcs 1 _ rfl
    have h2 := hcs 2 _ rfl
    rw [hz] at h0 h1 h2 ⊢
    have l1 : p * 3 + 1 < cs.size := (Array.getElem?_eq_some_iff.1 h1).1
    have l2 : p * 3 + 2 < cs.size := (Array.getElem?_eq_some_iff.1 h2).1
    match i, hy with
    | 0, hy =>
      rw [Array.getElem?_setIfInBounds, if_neg (by omega), Array.getElem?_setIfInBounds, if_neg (by omega)]
      injection hy with hy
      rw [← hy]; exact h0
    | 1, hy =>
      rw [Array.getElem?_setIfInBounds, if_neg (by omega), Array.getElem?_setIfInBounds, if_pos rfl, if_pos l1]
      exact hy
    | 2, hy =>
      rw [Array.getElem?_setIfInBounds, if_pos rfl, if_pos (by rw [Array.size_setIfInBounds]; exact l2)]
      exact hy
    | i + 3, hy => simp at hy
  · rw [if_neg hj] at hx
    obtain ⟨c, hc, hcs⟩ := h j x hx
    refine ⟨c, hc, fun i y hy => ?_⟩
    have hi : i < 3 := by
      have h1 := (List.getElem?_eq_some_iff.1 hy).1
      have h2 := k85.K_len hc
      omega
    have := hcs i y hy
    rw [hz] at this ⊢
    rw [Array.getElem?_setIfInBounds, if_neg (by omega), Array.getElem?_setIfInBounds, if_neg (by omega)]
    exact this
theorem RX.open_ {α : Type} {d : Kd α} {e : Nat} {w W : World} {b : Nat} {A : Option Addr} {c : Nat} {xs : List α} (h : RX d e w W b A c xs) (hn : xs.length ≠ 0) : ∃ g cs, A = some ⟨g, 0, none⟩ ∧ b ≤ g ∧ W.heap[g]? = some (.cells cs e (0, 0)) ∧ PB d w cs xs := by
  rcases h.blk with h0 | h1
  · exact absurd h0 hn
  · exact h1
theorem blk_ne {W : World} {g g' t t' : Nat} {cs cs' : Array Value} (h : W.heap[g]? = some (.cells cs t (0, 0))) (hk : W.heap[g']? = some (.cells cs' t' (0, 0))) (ht : t ≠ t') : g ≠ g' := fun he => by
  subst he
  rw [h] at hk
  injection hk with hk
  injection hk with _ hk
  exact ht hk
theorem blk_setRow {W : World} {g g' t t' : Nat} {cs cs' : Array Value} (h : W.heap[g]? = some (.cells cs t (0, 0))) (hk : W.heap[g']? = some (.cells cs' t' (0, 0))) (ht : t ≠ t') (us : Array Value) : (W.setRow g' us).heap[g]? = some (.cells cs t (0, 0)) :=
  (setRow_other W g' g us (blk_ne h hk ht)).trans h
theorem blk_setCell {W : World} {g g' t t' j : Nat} {cs cs' : Array Value} (h : W.heap[g]? = some (.cells cs t (0, 0))) (hk : W.heap[g']? = some (.cells cs' t' (0, 0))) (ht : t ≠ t') (u : Value) : (W.setCell ⟨g', j, none⟩ u).heap[g]? = some (.cells cs t (0, 0)) :=
  blk_far h (p := ⟨g', j, none⟩) (blk_ne h hk ht) u
theorem rtabP {A0 : Option Addr} {c0 : Nat} {l0 : List S85} {A1 : Option Addr} {c1 : Nat} {l1 : List S71} {w W : World} {b : Nat} {AX : Option Addr} {cX : Nat} {xs : List S71} (ht : RTab A0 c0 l0 A1 c1 l1 w) (hb : Below w.heap.size w W) (hx : RX k71 71 w W b AX cX xs) (h1 : xs.length ≤ 30) (hm : ∀ p ∈ xs, p.f0.length ≤ 30) : RTab A0 c0 l0 AX cX xs W :=
  ⟨Kd.C_below ht.r0 hb, ht.h0, hx.C hb, hx.le, ht.n0, h1, hm⟩
theorem rows_of {α : Type} {d : Kd α} {w : World} {A : Option Addr} {xs : List α} (h : d.C w A xs.length xs) : ∃ rows : List (List Value), rows.length = xs.length ∧ (Kd.raw d.sz).C w A xs.length rows ∧ ∀ (j : Nat) (x : α) (r : List Value), xs[j]? = some x → rows[j]? = some r → d.K w x r := by
  obtain ⟨rows, h1, h2, h3⟩ := Kd.reads_raw h (fun x c hc => ⟨d.K_len hc, d.K_one hc⟩)
  exact ⟨rows, h1, h2, h3⟩
end Go.Proofs.Ytnbbbeghgomnoaa.X
namespace Go.Proofs.Ytnbbbeghgomnoaa.X
open Go.RowKit Go.Proofs.YtnbbbeghgomnoaaW.PrintWords Go.Proofs.YtnbbbeghgomnoaaW.PrintLast Go.Proofs.YtnbbbeghgomnoaaW.PrintMore
section
variable {A0 : Option Addr} {c0 : Nat} {l0 : List S109} {A1 : Option Addr} {c1 : Nat} {l1 : List S110} {Al : Option Addr} {cl : Nat} {l : List Int} {w : World} {b : Nat}
theorem play_c (wg : Int) (ht : Tab A0 c0 l0 A1 c1 l1 w) (hr : RI w b (.slice Al l.length cl) l) (hll : l.length ≤ 1000000) (he : checkT l0 l1 wg = 0) (ha : areB l0 l1 l = true) {os xs : List Int} (ho : ownL l0.length l1.length (pad l) = os) (hx : sel (off l1 (pad l)) l1.length = xs) :
    Calls Try.prog 50 #[.agg #[.slice A0 l0.length c0, .slice A1 l1.length c1, .int .i64 wg], .slice Al l.length cl] w fun e w' => ∃ v1 v2, e = .returned (.tuple #[v1, v2, .int .i64 0]) ∧ RI w' w.heap.size v1 os ∧ RI w' w.heap.size v2 xs ∧ Below w.heap.size w w' := by
  subst ho hx
  refine (Play_ok wg ht (Kd.R_reads' hr).2.2 (Kd.R_reads' hr).2.1 hll he ha).mono ?_
  rintro e w' ⟨v1, v2, h1, h2, h3, _, h4⟩
  exact ⟨v1, v2, h1, h2, h3, h4⟩
end
end Go.Proofs.Ytnbbbeghgomnoaa.X
namespace Go.Proofs.Ytnbbbeghgomnoaa.X
open Go.RowKit Go.Proofs.YtnbbbeghgomnoaaW.PrintWords Go.Proofs.YtnbbbeghgomnoaaW.PrintLast Go.Proofs.YtnbbbeghgomnoaaW.PrintMore
theorem pfew_c {A0 : Option Addr} {c0 : Nat} {l0 : List S109} {A1 : Option Addr} {c1 : Nat} {l1 : List S110} {Al : Option Addr} {cl : Nat} {l : List Int} {w : World} {b : Nat} (wg mny : Int) (ht : Tab A0 c0 l0 A1 c1 l1 w) (hr : RI w b (.slice Al l.length cl) l) (hll : l.length ≤ 1000000) (he : checkT l0 l1 wg = 0) (ha : areB l0 l1 l = true) (hi : isT l0 l1.length wg l = true) (hle : lostN l1 (pad l) ≤ mny) :
    Calls Try.prog 40 #[.agg #[.slice A0 l0.length c0, .slice A1 l1.length c1, .int .i64 wg], .slice Al l.length cl, .int .i64 mny] w fun e w' => e = .returned (.bool true) ∧ Below w.heap.size w w' := by
  have h := ProveFewest_ok wg ht (Kd.R_reads' hr).2.2 (Kd.R_reads' hr).2.1 hll mny he ha hi
  rwa [decide_eq_true hle] at h
end Go.Proofs.Ytnbbbeghgomnoaa.X
namespace Go.Proofs.Ytnbbbeghgomnoaa.X
open Go.RowKit Go.Proofs.YtnbbbeghgomnoaaW.PrintWords Go.Proofs.YtnbbbeghgomnoaaW.PrintLast Go.Proofs.YtnbbbeghgomnoaaW.PrintMore
set_option maxHeartbeats 4000000 in
set_option maxRecDepth 100000 in
theorem NoFewer_no (k : Nat) {A0 : Option Addr} {c0 : Nat} {l0 : List S85} {A1 : Option Addr} {c1 : Nat} {l1 : List S71} (wg : Int) (a1 : Int) {w : World} (r0 : Kd.C k85 w A0 l0.length l0) (g0 : l0.length ≤ c0) (r1 : Kd.C k71 w A1 l1.length l1) (g1 : l1.length ≤ c1) (hrd : posserlaw03_ready.f k l0 l1 wg = some false) :
  Calls Try.prog 9 #[.agg #[.slice A0 l0.length c0, .slice A1 l1.length c1, .int .i64 wg], .int .u16 a1] w fun e w' => e = .returned (.bool true) ∧ Below w.heap.size w w' := by
 have hu25 := Try.underlying25
 have hu35 := Try.underlying35
 have hu55 := Try.underlying55
 have HR0 := Aside0.mk r0
 have HC0 := Aside0.mk g0
 have HR1 := Aside0.mk r1
 have HC1 := Aside0.mk g1
 clear r0 g0 r1 g1
 have HRD := Aside0.mk hrd
 clear hrd
 have HB := Aside0.mk (Below.refl w.heap.size w)
 go_enter Try.func9, Try.ntmps9
 go_wp2_with (first | ((with_reducible refine gate_dst (N := 2) rfl ?_); refine sbox (N := 2) #[.slice A0 l0.length c0, .slice A1 l1.length c1, .int .i64 wg] 25 ?_; intro g2 hg W_ hbox hb; (try have NEg14_g2 := Aside0.mk (show g14 < g2 from by rw [hg]; exact blk_lt BKg14.out)); have GEg2 := Aside0.mk (by rw [hg]; exact HB.out.size : w.heap.size ≤ g2); (try have GEg2_w1 := Aside0.mk (by rw [hg]; exact HB_w1.out.size : w1.heap.size ≤ g2)); (try clear hcg2_0 hcg2_1 hcg2_2); (try replace HB := Aside0.mk (below_step HB.out hb)); (try replace HB_w1 := Aside0.mk (below_step HB_w1.out hb)); (try replace HT := Aside0.mk (HT.out.below hb)); (try replace BKg2 := Aside0.mk (blk_below BKg2.out hb)); (try replace HF := Aside0.mk (Kd.R_below HF.out hb)); (try replace HMV := Aside0.mk (Kd.R_below HMV.out hb)); (try replace BKg12 := Aside0.mk (blk_below BKg12.out hb)); (try replace HQ := Aside0.mk (Kd.R_below HQ.out hb)); (try replace BKg14 := Aside0.mk (blk_below BKg14.out hb)); (try replace HX := Aside0.mk (HX.out.below hb)); (try replace HPO := Aside0.mk (Kd.R_below HPO.out hb)); (try replace HPA := Aside0.mk (Kd.R_below HPA.out hb)); have BKg2 := Aside0.mk hbox; clear hb hbox hg; (try have hcg2_0 := sc 0 BKg2); (try have hcg2_1 := sc 1 BKg2); (try have hcg2_2 := sc 2 BKg2)) | (go_at_call 47; go_must (refine (posserlaw03_ready.calls k A0 c0 l0 A1 c1 l1 wg false _ (Kd.C_below HR0.out HB.out) HC0.out (Kd.C_below HR1.out HB.out) HC1.out HRD.out).mono ?_; rintro e W_ ⟨rfl, hb⟩; (try clear hcg2_0 hcg2_1 hcg2_2); (try replace HB := Aside0.mk (below_step HB.out hb)); (try replace HB_w1 := Aside0.mk (below_step HB_w1.out hb)); (try replace HT := Aside0.mk (HT.out.below hb)); (try replace BKg2 := Aside0.mk (blk_below BKg2.out hb)); (try replace HF := Aside0.mk (Kd.R_below HF.out hb)); (try replace HMV := Aside0.mk (Kd.R_below HMV.out hb)); (try replace BKg12 := Aside0.mk (blk_below BKg12.out hb)); (try replace HQ := Aside0.mk (Kd.R_below HQ.out hb)); (try replace BKg14 := Aside0.mk (blk_below BKg14.out hb)); (try replace HX := Aside0.mk (HX.out.below hb)); (try replace HPO := Aside0.mk (Kd.R_below HPO.out hb)); (try replace HPA := Aside0.mk (Kd.R_below HPA.out hb)); skip; clear hb; (try have hcg2_0 := sc 0 BKg2); (try have hcg2_1 := sc 1 BKg2); (try have hcg2_2 := sc 2 BKg2))) | (go_at_call 21; go_must (refine (awake_calls _).mono ?_; rintro e W_ ⟨rfl, hb⟩; (try clear hcg2_0 hcg2_1 hcg2_2); (try replace HB := Aside0.mk (below_step HB.out hb)); (try replace HB_w1 := Aside0.mk (below_step HB_w1.out hb)); (try replace HT := Aside0.mk (HT.out.below hb)); (try replace BKg2 := Aside0.mk (blk_below BKg2.out hb)); (try replace HF := Aside0.mk (Kd.R_below HF.out hb)); (try replace HMV := Aside0.mk (Kd.R_below HMV.out hb)); (try replace BKg12 := Aside0.mk (blk_below BKg12.out hb)); (try replace HQ := Aside0.mk (Kd.R_below HQ.out hb)); (try replace BKg14 := Aside0.mk (blk_below BKg14.out hb)); (try replace HX := Aside0.mk (HX.out.below hb)); (try replace HPO := Aside0.mk (Kd.R_below HPO.out hb)); (try replace HPA := Aside0.mk (Kd.R_below HPA.out hb)); skip; clear hb; (try have hcg2_0 := sc 0 BKg2); (try have hcg2_1 := sc 1 BKg2); (try have hcg2_2 := sc 2 BKg2))))
 go_ret
 exact ⟨rfl, HB.out⟩
set_option maxHeartbeats 4000000 in
set_option maxRecDepth 100000 in
theorem NoFewer_err (k : Nat) {A0 : Option Addr} {c0 : Nat} {l0 : List S85} {A1 : Option Addr} {c1 : Nat} {l1 : List S71} (wg : Int) (a1 : Int) {w : World} (r0 : Kd.C k85 w A0 l0.length l0) (g0 : l0.length ≤ c0) (r1 : Kd.C k71 w A1 l1.length l1) (g1 : l1.length ≤ c1) (ht : Thn l0 l1) {L0 : List S109} {L1 : List S110} (h0 : l0.map cvW = L0) (h1 : l1.map cvP = L1) (hrd : posserlaw03_ready.f k l0 l1 wg = some true) (he : askE L0 L1 wg = 11) (hsu : posserlaw03_sure.f k l0 l1 wg = some ([], 11)) :
  Calls Try.prog 9 #[.agg #[.slice A0 l0.length c0, .slice A1 l1.length c1, .int .i64 wg], .int .u16 a1] w fun e w' => e = .returned (.bool true) ∧ Below w.heap.size w w' := by
 have hu25 := Try.underlying25
 have hu35 := Try.underlying35
 have hu55 := Try.underlying55
 have HR0 := Aside0.mk r0
 have HC0 := Aside0.mk g0
 have HR1 := Aside0.mk r1
 have HC1 := Aside0.mk g1
 clear r0 g0 r1 g1
 have HRT := Aside0.mk (show RTab A0 c0 l0 A1 c1 l1 w from ⟨HR0.out, HC0.out, HR1.out, HC1.out, ht.n0, ht.n1, ht.ms⟩)
 clear ht
 have HL0 := Aside0.mk h0
 have HL1 := Aside0.mk h1
 have HRD := Aside0.mk hrd
 have HE := Aside0.mk he
 have HSU := Aside0.mk hsu
 clear h0 h1 hrd he hsu
 have HB := Aside0.mk (Below.refl w.heap.size w)
 go_enter Try.func9, Try.ntmps9
 go_wp2_with (first | ((with_reducible refine gate_dst (N := 2) rfl ?_); refine sbox (N := 2) #[.slice A0 l0.length c0, .slice A1 l1.length c1, .int .i64 wg] 25 ?_; intro g2 hg W_ hbox hb; (try have NEg14_g2 := Aside0.mk (show g14 < g2 from by rw [hg]; exact blk_lt BKg14.out)); have GEg2 := Aside0.mk (by rw [hg]; exact HB.out.size : w.heap.size ≤ g2); (try have GEg2_w1 := Aside0.mk (by rw [hg]; exact HB_w1.out.size : w1.heap.size ≤ g2)); (try clear hcg2_0 hcg2_1 hcg2_2); (try replace HB := Aside0.mk (below_step HB.out hb)); (try replace HB_w1 := Aside0.mk (below_step HB_w1.out hb)); (try replace HT := Aside0.mk (HT.out.below hb)); (try replace BKg2 := Aside0.mk (blk_below BKg2.out hb)); (try replace HF := Aside0.mk (Kd.R_below HF.out hb)); (try replace HMV := Aside0.mk (Kd.R_below HMV.out hb)); (try replace BKg12 := Aside0.mk (blk_below BKg12.out hb)); (try replace HQ := Aside0.mk (Kd.R_below HQ.out hb)); (try replace BKg14 := Aside0.mk (blk_below BKg14.out hb)); (try replace HX := Aside0.mk (HX.out.below hb)); (try replace HPO := Aside0.mk (Kd.R_below HPO.out hb)); (try replace HPA := Aside0.mk (Kd.R_below HPA.out hb)); have BKg2 := Aside0.mk hbox; clear hb hbox hg; (try have hcg2_0 := sc 0 BKg2); (try have hcg2_1 := sc 1 BKg2); (try have hcg2_2 := sc 2 BKg2)) | (go_at_call 47; go_must (refine (posserlaw03_ready.calls k A0 c0 l0 A1 c1 l1 wg true _ (Kd.C_below HR0.out HB.out) HC0.out (Kd.C_below HR1.out HB.out) HC1.out HRD.out).mono ?_; rintro e W_ ⟨rfl, hb⟩; (try clear hcg2_0 hcg2_1 hcg2_2); (try replace HB := Aside0.mk (below_step HB.out hb)); (try replace HB_w1 := Aside0.mk (below_step HB_w1.out hb)); (try replace HT := Aside0.mk (HT.out.below hb)); (try replace BKg2 := Aside0.mk (blk_below BKg2.out hb)); (try replace HF := Aside0.mk (Kd.R_below HF.out hb)); (try replace HMV := Aside0.mk (Kd.R_below HMV.out hb)); (try replace BKg12 := Aside0.mk (blk_below BKg12.out hb)); (try replace HQ := Aside0.mk (Kd.R_below HQ.out hb)); (try replace BKg14 := Aside0.mk (blk_below BKg14.out hb)); (try replace HX := Aside0.mk (HX.out.below hb)); (try replace HPO := Aside0.mk (Kd.R_below HPO.out hb)); (try replace HPA := Aside0.mk (Kd.R_below HPA.out hb)); skip; clear hb; (try have hcg2_0 := sc 0 BKg2); (try have hcg2_1 := sc 1 BKg2); (try have hcg2_2 := sc 2 BKg2))) | (go_at_call 23; go_must (refine (tab_c _ (HRT.out.below HB.out) HL0.out HL1.out).mono ?_; rintro e W_ ⟨B0, d0, B1, d1, rfl, ht, hb⟩; (try clear hcg2_0 hcg2_1 hcg2_2); (try replace HB := Aside0.mk (below_step HB.out hb)); (try replace HB_w1 := Aside0.mk (below_step HB_w1.out hb)); (try replace HT := Aside0.mk (HT.out.below hb)); (try replace BKg2 := Aside0.mk (blk_below BKg2.out hb)); (try replace HF := Aside0.mk (Kd.R_below HF.out hb)); (try replace HMV := Aside0.mk (Kd.R_below HMV.out hb)); (try replace BKg12 := Aside0.mk (blk_below BKg12.out hb)); (try replace HQ := Aside0.mk (Kd.R_below HQ.out hb)); (try replace BKg14 := Aside0.mk (blk_below BKg14.out hb)); (try replace HX := Aside0.mk (HX.out.below hb)); (try replace HPO := Aside0.mk (Kd.R_below HPO.out hb)); (try replace HPA := Aside0.mk (Kd.R_below HPA.out hb)); (try clear HT); have HT := Aside0.mk ht; clear ht; clear hb; (try have hcg2_0 := sc 0 BKg2); (try have hcg2_1 := sc 1 BKg2); (try have hcg2_2 := sc 2 BKg2))) | (go_at_call 24; go_must (refine (posserlaw03_sure.calls k A0 c0 l0 A1 c1 l1 wg [] 11 _ (HRT.out.below HB.out).r0 HC0.out (HRT.out.below HB.out).r1 HC1.out HSU.out).mono ?_; rintro e W_ ⟨v_, rfl, ho, hb⟩; (try clear hcg2_0 hcg2_1 hcg2_2); (try replace HB := Aside0.mk (below_step HB.out hb)); (try replace HB_w1 := Aside0.mk (below_step HB_w1.out hb)); (try replace HT := Aside0.mk (HT.out.below hb)); (try replace BKg2 := Aside0.mk (blk_below BKg2.out hb)); (try replace HF := Aside0.mk (Kd.R_below HF.out hb)); (try replace HMV := Aside0.mk (Kd.R_below HMV.out hb)); (try replace BKg12 := Aside0.mk (blk_below BKg12.out hb)); (try replace HQ := Aside0.mk (Kd.R_below HQ.out hb)); (try replace BKg14 := Aside0.mk (blk_below BKg14.out hb)); (try replace HX := Aside0.mk (HX.out.below hb)); (try replace HPO := Aside0.mk (Kd.R_below HPO.out hb)); (try replace HPA := Aside0.mk (Kd.R_below HPA.out hb)); have HL := Aside0.mk (Kd.S_R ho); obtain ⟨AHL, cHL, eHL⟩ := Kd.R_slice HL.out; subst eHL; clear ho; clear hb; (try have hcg2_0 := sc 0 BKg2); (try have hcg2_1 := sc 1 BKg2); (try have hcg2_2 := sc 2 BKg2))) | (go_at_call 38; go_must (refine (few_n _ HT.out HE.out).mono ?_; rintro e W_ ⟨rfl, hb⟩; (try clear hcg2_0 hcg2_1 hcg2_2); (try replace HB := Aside0.mk (below_step HB.out hb)); (try replace HB_w1 := Aside0.mk (below_step HB_w1.out hb)); (try replace HT := Aside0.mk (HT.out.below hb)); (try replace BKg2 := Aside0.mk (blk_below BKg2.out hb)); (try replace HF := Aside0.mk (Kd.R_below HF.out hb)); (try replace HMV := Aside0.mk (Kd.R_below HMV.out hb)); (try replace BKg12 := Aside0.mk (blk_below BKg12.out hb)); (try replace HQ := Aside0.mk (Kd.R_below HQ.out hb)); (try replace BKg14 := Aside0.mk (blk_below BKg14.out hb)); (try replace HX := Aside0.mk (HX.out.below hb)); (try replace HPO := Aside0.mk (Kd.R_below HPO.out hb)); (try replace HPA := Aside0.mk (Kd.R_below HPA.out hb)); skip; clear hb; (try have hcg2_0 := sc 0 BKg2); (try have hcg2_1 := sc 1 BKg2); (try have hcg2_2 := sc 2 BKg2))) | (go_at_call 39; go_must (refine (mov_n _ HT.out HE.out).mono ?_; rintro e W_ ⟨rfl, hb⟩; (try clear hcg2_0 hcg2_1 hcg2_2); (try replace HB := Aside0.mk (below_step HB.out hb)); (try replace HB_w1 := Aside0.mk (below_step HB_w1.out hb)); (try replace HT := Aside0.mk (HT.out.below hb)); (try replace BKg2 := Aside0.mk (blk_below BKg2.out hb)); (try replace HF := Aside0.mk (Kd.R_below HF.out hb)); (try replace HMV := Aside0.mk (Kd.R_below HMV.out hb)); (try replace BKg12 := Aside0.mk (blk_below BKg12.out hb)); (try replace HQ := Aside0.mk (Kd.R_below HQ.out hb)); (try replace BKg14 := Aside0.mk (blk_below BKg14.out hb)); (try replace HX := Aside0.mk (HX.out.below hb)); (try replace HPO := Aside0.mk (Kd.R_below HPO.out hb)); (try replace HPA := Aside0.mk (Kd.R_below HPA.out hb)); skip; clear hb; (try have hcg2_0 := sc 0 BKg2); (try have hcg2_1 := sc 1 BKg2); (try have hcg2_2 := sc 2 BKg2))) | (go_at_call 21; go_must (refine (awake_calls _).mono ?_; rintro e W_ ⟨rfl, hb⟩; (try clear hcg2_0 hcg2_1 hcg2_2); (try replace HB := Aside0.mk (below_step HB.out hb)); (try replace HB_w1 := Aside0.mk (below_step HB_w1.out hb)); (try replace HT := Aside0.mk (HT.out.below hb)); (try replace BKg2 := Aside0.mk (blk_below BKg2.out hb)); (try replace HF := Aside0.mk (Kd.R_below HF.out hb)); (try replace HMV := Aside0.mk (Kd.R_below HMV.out hb)); (try replace BKg12 := Aside0.mk (blk_below BKg12.out hb)); (try replace HQ := Aside0.mk (Kd.R_below HQ.out hb)); (try replace BKg14 := Aside0.mk (blk_below BKg14.out hb)); (try replace HX := Aside0.mk (HX.out.below hb)); (try replace HPO := Aside0.mk (Kd.R_below HPO.out hb)); (try replace HPA := Aside0.mk (Kd.R_below HPA.out hb)); skip; clear hb; (try have hcg2_0 := sc 0 BKg2); (try have hcg2_1 := sc 1 BKg2); (try have hcg2_2 := sc 2 BKg2))))
 go_ret
 exact ⟨rfl, HB.out⟩
set_option maxHeartbeats 4000000 in
set_option maxRecDepth 100000 in
theorem NoFewer_ok (k : Nat) {A0 : Option Addr} {c0 : Nat} {l0 : List S85} {A1 : Option Addr} {c1 : Nat} {l1 : List S71} (wg : Int) (a1 : Int) {w : World} (r0 : Kd.C k85 w A0 l0.length l0) (g0 : l0.length ≤ c0) (r1 : Kd.C k71 w A1 l1.length l1) (g1 : l1.length ≤ c1) (ht : Thn l0 l1) {L0 : List S109} {L1 : List S110} (h0 : l0.map cvW = L0) (h1 : l1.map cvP = L1) (hrd : posserlaw03_ready.f k l0 l1 wg = some true) (he : askE L0 L1 wg = 0) (hck : checkT L0 L1 wg = 0) {ts : List (List Int)} {p : Nat} {ot bs : List Int} {ms : List S69} {lo hi : Int} (hsu : posserlaw03_sure.f k l0 l1 wg = some (ts, 0)) (hp : Int.tmod (wrap64 a1) (ts.length : Int) = (p : Int)) (hpl : p < ts.length) (hot : ts.getD p [] = ot) (hf : bestL L1 (truthsL L0 L1 wg) = bs) (hm : movesL L1 (bestL L1 (truthsL L0 L1 wg)) = ms) (hd : boundsL (fun x => lostN L1 (pad x)) (truthsL L0 L1 wg) = (lo, hi)) (hll : bs.length ≤ 1000000) (hab : areB L0 L1 bs = true) (hit : isT L0 L1.length wg bs = true) (hle : lostN L1 (pad bs) ≤ lo) (hml : (ms.length : Int) = lo) {ys : Nat → List S71} {yl : List S71} {L1y : List S110} {ao : List Int} (hy0 : ys 0 = l1) (hye : ys ms.length = yl) (hyll : yl.length = l1.length) (hym : ∀ p ∈ yl, p.f0.length ≤ 30) (hms : ms.length ≤ 1000) (hmvf : ∀ m : Nat, m < ms.length → ∃ pc : Nat, pc < l1.length ∧ (rd_T69 ms (m : Int)).f0 = (pc : Int) ∧ (ys m).length = l1.length ∧ ((ys m).getD pc z71).f1 = (rd_T69 ms (m : Int)).f1 ∧ ys (m + 1) = (ys m).set pc ⟨((ys m).getD pc z71).f0, (rd_T69 ms (m : Int)).f2⟩) (hly : yl.map cvP = L1y) (hcy : checkT L0 L1y wg = 0) (haby : areB L0 L1y bs = true) (hsy : sel (off L1y (pad bs)) L1y.length = []) (hao : posserref03_Astray.f k l0 l1 wg ot = some ao) (hge : (ao.length : Int) ≥ lo) (hfin : (ao.length : Int) > lo ∨ (¬ ((ao.length : Int) > lo) ∧ posserref03_Before.f k ot bs = some false)) :
  Calls Try.prog 9 #[.agg #[.slice A0 l0.length c0, .slice A1 l1.length c1, .int .i64 wg], .int .u16 a1] w fun e w' => e = .returned (.bool true) ∧ Below w.heap.size w w' := by
 have hu25 := Try.underlying25
 have hu35 := Try.underlying35
 have hu55 := Try.underlying55
 have HR0 := Aside0.mk r0
 have HC0 := Aside0.mk g0
 have HR1 := Aside0.mk r1
 have HC1 := Aside0.mk g1
 clear r0 g0 r1 g1
 have HRT := Aside0.mk (show RTab A0 c0 l0 A1 c1 l1 w from ⟨HR0.out, HC0.out, HR1.out, HC1.out, ht.n0, ht.n1, ht.ms⟩)
 clear ht
 obtain ⟨rowsP, hLP, hRP, hKP⟩ := rows_of HR1.out
 have HRrowsP := Aside0.mk hRP
 have HLrowsP := Aside0.mk hLP
 have HKrowsP := Aside0.mk hKP
 have HNrowsP := Aside0.mk (show l1.length ≤ 30 from HRT.out.n1)
 clear hLP hRP hKP
 have HL0 := Aside0.mk h0
 have HL1 := Aside0.mk h1
 have HRD := Aside0.mk hrd
 have HE := Aside0.mk he
 have HCK := Aside0.mk hck
 have HSU := Aside0.mk hsu
 have HPN := Aside0.mk hp
 have HPL := Aside0.mk hpl
 have HOT := Aside0.mk hot
 have HSF := Aside0.mk hf
 have HSM := Aside0.mk hm
 have HSD := Aside0.mk hd
 have HLL := Aside0.mk hll
 have HAB := Aside0.mk hab
 have HIT := Aside0.mk hit
 have HLE := Aside0.mk hle
 have HY0 := Aside0.mk hy0
 have HYE := Aside0.mk hye
 have HYLL := Aside0.mk hyll
 have HYM := Aside0.mk hym
 have HMS := Aside0.mk hms
 have HMVF := Aside0.mk hmvf
 have HLY := Aside0.mk hly
 have HCY := Aside0.mk hcy
 have HABY := Aside0.mk haby
 have HSY := Aside0.mk hsy
 have HAO := Aside0.mk hao
 have HFIN := Aside0.mk hfin
 clear h0 h1 hrd he hck hsu hp hpl hot hf hm hd hll hab hit hle hy0 hye hyll hym hms hmvf hly hcy haby hsy hao hfin
 have HY30 := Aside0.mk (show yl.length ≤ 30 by have := HYLL.out; have := HRT.out.n1; omega)
 have hged := decide_eq_true hge
 have hmd : ((ms.length : Int) != lo) = false := by rw [hml]; simp
 have hz1 : ¬ ((ts.length : Int) = 0) := by have := HPL.out; omega
 have hz2 : ((ts.length : Int) == 0) = false := by simpa using hz1
 have hz3 : ¬ ts = [] := fun h => hz1 (by rw [h]; rfl)
 have HML := Aside0.mk hml
 clear hml
 have HB := Aside0.mk (Below.refl w.heap.size w)
 go_enter Try.func9, Try.ntmps9
 go_wp2_with (first | ((with_reducible refine gate_dst (N := 2) rfl ?_); refine sbox (N := 2) #[.slice A0 l0.length c0, .slice A1 l1.length c1, .int .i64 wg] 25 ?_; intro g2 hg W_ hbox hb; (try have NEg14_g2 := Aside0.mk (show g14 < g2 from by rw [hg]; exact blk_lt BKg14.out)); have GEg2 := Aside0.mk (by rw [hg]; exact HB.out.size : w.heap.size ≤ g2); (try have GEg2_w1 := Aside0.mk (by rw [hg]; exact HB_w1.out.size : w1.heap.size ≤ g2)); (try clear hcg2_0 hcg2_1 hcg2_2); (try replace HB := Aside0.mk (below_step HB.out hb)); (try replace HB_w1 := Aside0.mk (below_step HB_w1.out hb)); (try replace HT := Aside0.mk (HT.out.below hb)); (try replace BKg2 := Aside0.mk (blk_below BKg2.out hb)); (try replace HF := Aside0.mk (Kd.R_below HF.out hb)); (try replace HMV := Aside0.mk (Kd.R_below HMV.out hb)); (try replace BKg12 := Aside0.mk (blk_below BKg12.out hb)); (try replace HQ := Aside0.mk (Kd.R_below HQ.out hb)); (try replace BKg14 := Aside0.mk (blk_below BKg14.out hb)); (try replace HX := Aside0.mk (HX.out.below hb)); (try replace HPO := Aside0.mk (Kd.R_below HPO.out hb)); (try replace HPA := Aside0.mk (Kd.R_below HPA.out hb)); have BKg2 := Aside0.mk hbox; clear hb hbox hg; (try have hcg2_0 := sc 0 BKg2); (try have hcg2_1 := sc 1 BKg2); (try have hcg2_2 := sc 2 BKg2)) | (go_at_call 47; go_must (refine (posserlaw03_ready.calls k A0 c0 l0 A1 c1 l1 wg true _ (Kd.C_below HR0.out HB.out) HC0.out (Kd.C_below HR1.out HB.out) HC1.out HRD.out).mono ?_; rintro e W_ ⟨rfl, hb⟩; (try clear hcg2_0 hcg2_1 hcg2_2); (try clear hcg12_0 hcg12_1); (try clear hcl0); (try replace HB := Aside0.mk (below_step HB.out hb)); (try replace HB_w1 := Aside0.mk (below_step HB_w1.out hb)); (try replace HT := Aside0.mk (HT.out.below hb)); (try replace BKg2 := Aside0.mk (blk_below BKg2.out hb)); (try replace HF := Aside0.mk (Kd.R_below HF.out hb)); (try replace HMV := Aside0.mk (Kd.R_below HMV.out hb)); (try replace BKg12 := Aside0.mk (blk_below BKg12.out hb)); (try replace HQ := Aside0.mk (Kd.R_below HQ.out hb)); (try replace BKg14 := Aside0.mk (blk_below BKg14.out hb)); (try replace HX := Aside0.mk (HX.out.below hb)); (try replace HPO := Aside0.mk (Kd.R_below HPO.out hb)); (try replace HPA := Aside0.mk (Kd.R_below HPA.out hb)); skip; clear hb; (try have hcg2_0 := sc 0 BKg2); (try have hcg2_1 := sc 1 BKg2); (try have hcg2_2 := sc 2 BKg2); (try have hcg12_0 := sc 0 BKg12); (try have hcg12_1 := sc 1 BKg12); (try have hcl0 : W_.cell? (adl.add p) = some (.slice Ao ot.length co) := (HB_w1.out.cell (World.block_lt_of_cell? _ _ HCL.out)).trans HCL.out))) | (go_at_call 24; go_must (refine (posserlaw03_sure.calls k A0 c0 l0 A1 c1 l1 wg ts 0 _ (HRT.out.below HB.out).r0 HC0.out (HRT.out.below HB.out).r1 HC1.out HSU.out).mono ?_; rintro e W_ ⟨v_, rfl, ho, hb⟩; (try clear hcg2_0 hcg2_1 hcg2_2); (try clear hcg12_0 hcg12_1); (try clear hcl0); (try replace HB := Aside0.mk (below_step HB.out hb)); (try replace HB_w1 := Aside0.mk (below_step HB_w1.out hb)); (try replace HT := Aside0.mk (HT.out.below hb)); (try replace BKg2 := Aside0.mk (blk_below BKg2.out hb)); (try replace HF := Aside0.mk (Kd.R_below HF.out hb)); (try replace HMV := Aside0.mk (Kd.R_below HMV.out hb)); (try replace BKg12 := Aside0.mk (blk_below BKg12.out hb)); (try replace HQ := Aside0.mk (Kd.R_below HQ.out hb)); (try replace BKg14 := Aside0.mk (blk_below BKg14.out hb)); (try replace HX := Aside0.mk (HX.out.below hb)); (try replace HPO := Aside0.mk (Kd.R_below HPO.out hb)); (try replace HPA := Aside0.mk (Kd.R_below HPA.out hb)); have HL := Aside0.mk (Kd.S_R ho); obtain ⟨AHL, cHL, eHL⟩ := Kd.R_slice HL.out; subst eHL; clear ho; clear hb; (try have hcg2_0 := sc 0 BKg2); (try have hcg2_1 := sc 1 BKg2); (try have hcg2_2 := sc 2 BKg2); (try have hcg12_0 := sc 0 BKg12); (try have hcg12_1 := sc 1 BKg12); (try have hcl0 : W_.cell? (adl.add p) = some (.slice Ao ot.length co) := (HB_w1.out.cell (World.block_lt_of_cell? _ _ HCL.out)).trans HCL.out))))
 obtain ⟨w1, hw1⟩ : ∃ w1 : World, w1 = W_ := ⟨_, rfl⟩
 have HWSZ := Aside0.mk (show w.heap.size ≤ w1.heap.size from by rw [hw1]; exact HB.out.size)
 have HB_w1 := Aside0.mk (show Below w1.heap.size w1 W_ from by rw [hw1]; exact Below.refl _ _)
 obtain ⟨adl, Ao, co, el, hcl, lO, cO⟩ := at_LL (Kd.R_reads' HL.out).2.2 p (by have := HPL.out; omega)
 subst el
 rw [HOT.out] at hcl lO cO
 have HCL := Aside0.mk (show w1.cell? (adl.add p) = some (.slice Ao ot.length co) from by rw [hw1]; exact hcl)
 have LO := Aside0.mk lO
 have CO := Aside0.mk (show Kd.C (Kd.int .i64) w1 Ao ot.length ot from by rw [hw1]; exact cO)
 have hcl0 : W_.cell? (adl.add p) = some (.slice Ao ot.length co) := hcl
 clear hcl lO cO hw1 HL
 have hp := HPN.out
 have hpx : (p : Int) < (ts.length : Int) := by have := HPL.out; omega
 go_wp2_with (first | (go_at_call 23; go_must (refine (tab_c _ (HRT.out.below HB.out) HL0.out HL1.out).mono ?_; rintro e W_ ⟨B0, d0, B1, d1, rfl, ht, hb⟩; (try clear hcg2_0 hcg2_1 hcg2_2); (try clear hcg12_0 hcg12_1); (try clear hcl0); (try replace HB := Aside0.mk (below_step HB.out hb)); (try replace HB_w1 := Aside0.mk (below_step HB_w1.out hb)); (try replace HT := Aside0.mk (HT.out.below hb)); (try replace BKg2 := Aside0.mk (blk_below BKg2.out hb)); (try replace HF := Aside0.mk (Kd.R_below HF.out hb)); (try replace HMV := Aside0.mk (Kd.R_below HMV.out hb)); (try replace BKg12 := Aside0.mk (blk_below BKg12.out hb)); (try replace HQ := Aside0.mk (Kd.R_below HQ.out hb)); (try replace BKg14 := Aside0.mk (blk_below BKg14.out hb)); (try replace HX := Aside0.mk (HX.out.below hb)); (try replace HPO := Aside0.mk (Kd.R_below HPO.out hb)); (try replace HPA := Aside0.mk (Kd.R_below HPA.out hb)); (try clear HT); have HT := Aside0.mk ht; clear ht; clear hb; (try have hcg2_0 := sc 0 BKg2); (try have hcg2_1 := sc 1 BKg2); (try have hcg2_2 := sc 2 BKg2); (try have hcg12_0 := sc 0 BKg12); (try have hcg12_1 := sc 1 BKg12); (try have hcl0 : W_.cell? (adl.add p) = some (.slice Ao ot.length co) := (HB_w1.out.cell (World.block_lt_of_cell? _ _ HCL.out)).trans HCL.out))) | (go_at_call 38; go_must (refine (few_c _ HT.out HE.out HSF.out).mono ?_; rintro e W_ ⟨v_, rfl, ho, hb⟩; (try clear hcg2_0 hcg2_1 hcg2_2); (try clear hcg12_0 hcg12_1); (try clear hcl0); (try replace HB := Aside0.mk (below_step HB.out hb)); (try replace HB_w1 := Aside0.mk (below_step HB_w1.out hb)); (try replace HT := Aside0.mk (HT.out.below hb)); (try replace BKg2 := Aside0.mk (blk_below BKg2.out hb)); (try replace HF := Aside0.mk (Kd.R_below HF.out hb)); (try replace HMV := Aside0.mk (Kd.R_below HMV.out hb)); (try replace BKg12 := Aside0.mk (blk_below BKg12.out hb)); (try replace HQ := Aside0.mk (Kd.R_below HQ.out hb)); (try replace BKg14 := Aside0.mk (blk_below BKg14.out hb)); (try replace HX := Aside0.mk (HX.out.below hb)); (try replace HPO := Aside0.mk (Kd.R_below HPO.out hb)); (try replace HPA := Aside0.mk (Kd.R_below HPA.out hb)); have HF := Aside0.mk ho; obtain ⟨AHF, cHF, eHF⟩ := Kd.R_slice HF.out; subst eHF; clear ho; clear hb; (try have hcg2_0 := sc 0 BKg2); (try have hcg2_1 := sc 1 BKg2); (try have hcg2_2 := sc 2 BKg2); (try have hcg12_0 := sc 0 BKg12); (try have hcg12_1 := sc 1 BKg12); (try have hcl0 : W_.cell? (adl.add p) = some (.slice Ao ot.length co) := (HB_w1.out.cell (World.block_lt_of_cell? _ _ HCL.out)).trans HCL.out))) | (go_at_call 39; go_must (refine (mov_c _ HT.out HE.out HSM.out).mono ?_; rintro e W_ ⟨v_, rfl, ho, hb⟩; (try clear hcg2_0 hcg2_1 hcg2_2); (try clear hcg12_0 hcg12_1); (try clear hcl0); (try replace HB := Aside0.mk (below_step HB.out hb)); (try replace HB_w1 := Aside0.mk (below_step HB_w1.out hb)); (try replace HT := Aside0.mk (HT.out.below hb)); (try replace BKg2 := Aside0.mk (blk_below BKg2.out hb)); (try replace HF := Aside0.mk (Kd.R_below HF.out hb)); (try replace HMV := Aside0.mk (Kd.R_below HMV.out hb)); (try replace BKg12 := Aside0.mk (blk_below BKg12.out hb)); (try replace HQ := Aside0.mk (Kd.R_below HQ.out hb)); (try replace BKg14 := Aside0.mk (blk_below BKg14.out hb)); (try replace HX := Aside0.mk (HX.out.below hb)); (try replace HPO := Aside0.mk (Kd.R_below HPO.out hb)); (try replace HPA := Aside0.mk (Kd.R_below HPA.out hb)); have HMV := Aside0.mk ho; obtain ⟨AHMV, cHMV, eHMV⟩ := Kd.R_slice HMV.out; subst eHMV; clear ho; clear hb; (try have hcg2_0 := sc 0 BKg2); (try have hcg2_1 := sc 1 BKg2); (try have hcg2_2 := sc 2 BKg2); (try have hcg12_0 := sc 0 BKg12); (try have hcg12_1 := sc 1 BKg12); (try have hcl0 : W_.cell? (adl.add p) = some (.slice Ao ot.length co) := (HB_w1.out.cell (World.block_lt_of_cell? _ _ HCL.out)).trans HCL.out))) | ((with_reducible refine gate_dst (N := 12) rfl ?_); refine sbox (N := 12) #[.int .i64 0, .int .i64 0] 55 ?_; intro g12 hg W_ hbox hb; have GEg12 := Aside0.mk (by rw [hg]; exact HB.out.size : w.heap.size ≤ g12); (try have GEg12_w1 := Aside0.mk (by rw [hg]; exact HB_w1.out.size : w1.heap.size ≤ g12)); (try clear hcg2_0 hcg2_1 hcg2_2); (try clear hcg12_0 hcg12_1); (try clear hcl0); (try replace HB := Aside0.mk (below_step HB.out hb)); (try replace HB_w1 := Aside0.mk (below_step HB_w1.out hb)); (try replace HT := Aside0.mk (HT.out.below hb)); (try replace BKg2 := Aside0.mk (blk_below BKg2.out hb)); (try replace HF := Aside0.mk (Kd.R_below HF.out hb)); (try replace HMV := Aside0.mk (Kd.R_below HMV.out hb)); (try replace BKg12 := Aside0.mk (blk_below BKg12.out hb)); (try replace HQ := Aside0.mk (Kd.R_below HQ.out hb)); (try replace BKg14 := Aside0.mk (blk_below BKg14.out hb)); (try replace HX := Aside0.mk (HX.out.below hb)); (try replace HPO := Aside0.mk (Kd.R_below HPO.out hb)); (try replace HPA := Aside0.mk (Kd.R_below HPA.out hb)); have BKg12 := Aside0.mk hbox; clear hb hbox hg; (try have hcg2_0 := sc 0 BKg2); (try have hcg2_1 := sc 1 BKg2); (try have hcg2_2 := sc 2 BKg2); (try have hcg12_0 := sc 0 BKg12); (try have hcg12_1 := sc 1 BKg12); (try have hcl0 : W_.cell? (adl.add p) = some (.slice Ao ot.length co) := (HB_w1.out.cell (World.block_lt_of_cell? _ _ HCL.out)).trans HCL.out)) | ((with_reducible refine gate_store (t := 55) (p := 12) rfl ?_); go_must (refine wpList_store_row rfl 55 _ _ rfl g12 #[.int .i64 lo, .int .i64 hi] rfl rfl 55 (#[.int .i64 0, .int .i64 0]) BKg12.out rfl rfl (by simp [Value.oneCell']) ?_; (try clear hcg2_0 hcg2_1 hcg2_2); (try clear hcg12_0 hcg12_1); (try clear hcl0); (try clear HT); (try replace HB_w1 := Aside0.mk (below_setRow HB_w1.out GEg12_w1.out (#[.int .i64 lo, .int .i64 hi]))); (try replace BKg2 := Aside0.mk (blk_setRow BKg2.out BKg12.out (by decide) (#[.int .i64 lo, .int .i64 hi]))); (try replace HF := Aside0.mk (row_setRow HF.out BKg12.out (by decide) (#[.int .i64 lo, .int .i64 hi]))); (try replace HMV := Aside0.mk (row_setRow HMV.out BKg12.out (by decide) (#[.int .i64 lo, .int .i64 hi]))); (try replace HQ := Aside0.mk (row_setRow HQ.out BKg12.out (by decide) (#[.int .i64 lo, .int .i64 hi]))); (try replace BKg14 := Aside0.mk (blk_setRow BKg14.out BKg12.out (by decide) (#[.int .i64 lo, .int .i64 hi]))); (try replace HX := Aside0.mk (RX.setRow (us := #[.int .i64 lo, .int .i64 hi]) HX.out BKg12.out (by decide))); (try replace HPO := Aside0.mk (row_setRow HPO.out BKg12.out (by decide) (#[.int .i64 lo, .int .i64 hi]))); (try replace HPA := Aside0.mk (row_setRow HPA.out BKg12.out (by decide) (#[.int .i64 lo, .int .i64 hi]))); replace HB := Aside0.mk (below_setRow HB.out GEg12.out (#[.int .i64 lo, .int .i64 hi])); replace BKg12 := Aside0.mk (setRow_heap W_ g12 _ (#[.int .i64 lo, .int .i64 hi]) _ _ BKg12.out); generalize W_.setRow g12 (#[.int .i64 lo, .int .i64 hi]) = W_ at *; (try have hcg2_0 := sc 0 BKg2); (try have hcg2_1 := sc 1 BKg2); (try have hcg2_2 := sc 2 BKg2); (try have hcg12_0 := sc 0 BKg12); (try have hcg12_1 := sc 1 BKg12); (try have hcl0 : W_.cell? (adl.add p) = some (.slice Ao ot.length co) := (HB_w1.out.cell (World.block_lt_of_cell? _ _ HCL.out)).trans HCL.out))) | (go_at_call 37; go_must (refine (ast_c _ HT.out HE.out HSD.out).mono ?_; rintro e W_ ⟨rfl, hb⟩; (try clear hcg2_0 hcg2_1 hcg2_2); (try clear hcg12_0 hcg12_1); (try clear hcl0); (try replace HB := Aside0.mk (below_step HB.out hb)); (try replace HB_w1 := Aside0.mk (below_step HB_w1.out hb)); (try replace HT := Aside0.mk (HT.out.below hb)); (try replace BKg2 := Aside0.mk (blk_below BKg2.out hb)); (try replace HF := Aside0.mk (Kd.R_below HF.out hb)); (try replace HMV := Aside0.mk (Kd.R_below HMV.out hb)); (try replace BKg12 := Aside0.mk (blk_below BKg12.out hb)); (try replace HQ := Aside0.mk (Kd.R_below HQ.out hb)); (try replace BKg14 := Aside0.mk (blk_below BKg14.out hb)); (try replace HX := Aside0.mk (HX.out.below hb)); (try replace HPO := Aside0.mk (Kd.R_below HPO.out hb)); (try replace HPA := Aside0.mk (Kd.R_below HPA.out hb)); skip; clear hb; (try have hcg2_0 := sc 0 BKg2); (try have hcg2_1 := sc 1 BKg2); (try have hcg2_2 := sc 2 BKg2); (try have hcg12_0 := sc 0 BKg12); (try have hcg12_1 := sc 1 BKg12); (try have hcl0 : W_.cell? (adl.add p) = some (.slice Ao ot.length co) := (HB_w1.out.cell (World.block_lt_of_cell? _ _ HCL.out)).trans HCL.out))))
 (try clear hp)
 (try clear hcl0)
 (try clear HT)
 refine start_ (n := 27) (S := fun w' => w'.cell? ⟨g2, 0, none⟩ = some (.slice A0 l0.length c0) ∧ w'.cell? ⟨g2, 1, none⟩ = some (.slice A1 l1.length c1) ∧ w'.cell? ⟨g2, 2, none⟩ = some (.int .i64 wg) ∧ w'.cell? ⟨g12, 0, none⟩ = some (.int .i64 lo)) (ds := []) (lm 27 0) (by kernel_rfl) rfl (by kernel_rfl) ⟨hcg2_0, hcg2_1, hcg2_2, hcg12_0⟩ (fun hHeld => ?_)
 have hb := below_drew1 (Below.refl W_.heap.size W_)
 replace HB_w1 := Aside0.mk (below_step HB_w1.out hb)
 replace BKg2 := Aside0.mk (blk_below BKg2.out hb)
 replace HF := Aside0.mk (Kd.R_below HF.out hb)
 replace HMV := Aside0.mk (Kd.R_below HMV.out hb)
 replace BKg12 := Aside0.mk (blk_below BKg12.out hb)
 replace HB := Aside0.mk (below_step HB.out hb)
 replace hcg2_0 := (hb.cell (World.block_lt_of_cell? _ _ hcg2_0)).trans hcg2_0
 replace hcg2_1 := (hb.cell (World.block_lt_of_cell? _ _ hcg2_1)).trans hcg2_1
 replace hcg2_2 := (hb.cell (World.block_lt_of_cell? _ _ hcg2_2)).trans hcg2_2
 replace hcg12_0 := (hb.cell (World.block_lt_of_cell? _ _ hcg12_0)).trans hcg12_0
 generalize W_.drew = W5 at *
 clear hb
 refine sP (i := 0) (N := some 68) (lm 27 1) ?_
 refine sP (i := 1) (N := some 69) (lm 27 3) ?_
 refine sP (i := 2) (N := some 70) (lm 27 7) ?_
 refine sP (i := 3) (N := some 71) (lm 27 15) ?_
 refine sP (i := 4) (N := some 72) (lm 27 31) ?_
 refine sP (i := 5) (N := some 73) (lm 27 63) ?_
 refine sP (i := 6) (N := some 74) (lm 27 127) ?_
 refine sP (i := 7) (N := some 75) (lm 27 255) ?_
 refine sP (i := 8) (N := some 76) (lm 27 511) ?_
 refine sP (i := 9) (N := some 77) (lm 27 1023) ?_
 refine sP (i := 10) (N := some 78) (lm 27 2047) ?_
 refine sP (i := 13) (N := some 81) (lm 27 10239) ?_
 refine sP (i := 15) (N := some 83) (lm 27 43007) ?_
 refine take_ (i := 11) (N := some 79) (v := ?_) (a' := ?_) (lm 27 45055) rfl rfl (by kernel_rfl) (fun _ _ _ h => h) (Or.inl ⟨by rfl, ?_⟩) hHeld ?_ ?_
 rotate_left
 ·rintro w' ⟨s0, s1, s2, s3⟩
  go_simp
  with_reducible rfl
 rotate_left
 ·simp only [Act.put, List.setIfInBounds_toArray, List.set_cons_zero, List.set_cons_succ, i64_w, i32_w]
  rfl
 refine take_ (i := 16) (N := some 84) (v := ?_) (a' := ?_) (lm 27 110591) rfl rfl (by kernel_rfl) (fun _ _ _ h => h) (Or.inl ⟨by rfl, ?_⟩) hHeld ?_ ?_
 rotate_left
 ·rintro w' ⟨s0, s1, s2, s3⟩
  go_simp
  with_reducible rfl
 rotate_left
 ·simp only [Act.put, List.setIfInBounds_toArray, List.set_cons_zero, List.set_cons_succ, i64_w, i32_w]
  rfl
 refine one_ (i := 12) (N := some 80) (lm 27 114687) rfl rfl (by kernel_rfl) (by decide) (fun K hK => ?_)
 refine goes_ Try.func23 (by kernel_rfl) rfl #[.agg #[.slice A0 l0.length c0, .slice A1 l1.length c1, .int .i64 wg]] (by rfl) rfl rfl (by simp only [List.map_toArray, List.map_cons, List.map_nil]; rfl) ?_
 with_reducible refine (tab_c _ (HRT.out.below HB.out) HL0.out HL1.out).mono ?_
 rintro e W6 ⟨B0, d0, B1, d1, rfl, ht, hb⟩
 refine ⟨_, rfl, ?_⟩
 replace hcg2_0 := (hb.cell (World.block_lt_of_cell? _ _ hcg2_0)).trans hcg2_0
 replace hcg2_1 := (hb.cell (World.block_lt_of_cell? _ _ hcg2_1)).trans hcg2_1
 replace hcg2_2 := (hb.cell (World.block_lt_of_cell? _ _ hcg2_2)).trans hcg2_2
 replace hcg12_0 := (hb.cell (World.block_lt_of_cell? _ _ hcg12_0)).trans hcg12_0
 replace HB_w1 := Aside0.mk (below_step HB_w1.out hb)
 replace BKg2 := Aside0.mk (blk_below BKg2.out hb)
 replace HF := Aside0.mk (Kd.R_below HF.out hb)
 replace HMV := Aside0.mk (Kd.R_below HMV.out hb)
 replace BKg12 := Aside0.mk (blk_below BKg12.out hb)
 replace HB := Aside0.mk (below_step HB.out hb)
 have HT := Aside0.mk ht
 clear ht
 clear hb
 refine hK.out _ _ ⟨hcg2_0, hcg2_1, hcg2_2, hcg12_0⟩ (fun hHeld => ?_)
 clear hK K
 refine sN ?_
 refine one_ (i := 14) (N := some 82) (lm 27 131071) rfl rfl (by kernel_rfl) (by decide) (fun K hK => ?_)
 refine goes_ Try.func41 (by kernel_rfl) rfl #[.slice AHF bs.length cHF] (by rfl) rfl rfl (by simp only [List.map_toArray, List.map_cons, List.map_nil]; rfl) ?_
 with_reducible refine (list_c (Kd.R_reads' HF.out).2.2 HLL.out).mono ?_
 rintro e W7 ⟨AQ, cQ, rfl, ho, hb⟩
 refine ⟨_, rfl, ?_⟩
 replace hcg2_0 := (hb.cell (World.block_lt_of_cell? _ _ hcg2_0)).trans hcg2_0
 replace hcg2_1 := (hb.cell (World.block_lt_of_cell? _ _ hcg2_1)).trans hcg2_1
 replace hcg2_2 := (hb.cell (World.block_lt_of_cell? _ _ hcg2_2)).trans hcg2_2
 replace hcg12_0 := (hb.cell (World.block_lt_of_cell? _ _ hcg12_0)).trans hcg12_0
 replace HB_w1 := Aside0.mk (below_step HB_w1.out hb)
 replace BKg2 := Aside0.mk (blk_below BKg2.out hb)
 replace HF := Aside0.mk (Kd.R_below HF.out hb)
 replace HMV := Aside0.mk (Kd.R_below HMV.out hb)
 replace BKg12 := Aside0.mk (blk_below BKg12.out hb)
 replace HT := Aside0.mk (HT.out.below hb)
 replace HB := Aside0.mk (below_step HB.out hb)
 have HQ := Aside0.mk ho
 clear ho
 clear hb
 refine hK.out _ _ ⟨hcg2_0, hcg2_1, hcg2_2, hcg12_0⟩ (fun hHeld => ?_)
 clear hK K
 refine sN ?_
 refine one_ (i := 17) (N := some 85) (lm 27 262143) rfl rfl (by kernel_rfl) (by decide) (fun K hK => ?_)
 refine goes_ Try.func40 (by kernel_rfl) rfl #[.agg #[.slice B0 L0.length d0, .slice B1 L1.length d1, .int .i64 wg], .slice AQ bs.length cQ, .int .i64 lo] (by rfl) rfl rfl (by simp only [List.map_toArray, List.map_cons, List.map_nil]; rfl) ?_
 with_reducible refine (pfew_c wg lo HT.out HQ.out HLL.out HCK.out HAB.out HIT.out HLE.out).mono ?_
 rintro e W8 ⟨rfl, hb⟩
 refine ⟨_, rfl, ?_⟩
 replace hcg2_0 := (hb.cell (World.block_lt_of_cell? _ _ hcg2_0)).trans hcg2_0
 replace hcg2_1 := (hb.cell (World.block_lt_of_cell? _ _ hcg2_1)).trans hcg2_1
 replace hcg2_2 := (hb.cell (World.block_lt_of_cell? _ _ hcg2_2)).trans hcg2_2
 replace hcg12_0 := (hb.cell (World.block_lt_of_cell? _ _ hcg12_0)).trans hcg12_0
 replace HB_w1 := Aside0.mk (below_step HB_w1.out hb)
 replace BKg2 := Aside0.mk (blk_below BKg2.out hb)
 replace HF := Aside0.mk (Kd.R_below HF.out hb)
 replace HMV := Aside0.mk (Kd.R_below HMV.out hb)
 replace BKg12 := Aside0.mk (blk_below BKg12.out hb)
 replace HB := Aside0.mk (below_step HB.out hb)
 clear HT HQ
 clear hb
 refine hK.out _ _ ⟨hcg2_0, hcg2_1, hcg2_2, hcg12_0⟩ (fun hHeld => ?_)
 clear hK K
 refine sN ?_
 refine sP (i := 18) (N := some 86) (lm 27 524287) ?_
 refine sP (i := 19) (N := some 87) (lm 27 1048575) ?_
 refine sP (i := 20) (N := some 88) (lm 27 2097151) ?_
 refine sP (i := 21) (N := some 89) (lm 27 4194303) ?_
 refine sP (i := 22) (N := some 90) (lm 27 8388607) ?_
 refine sP (i := 23) (N := some 91) (lm 27 16777215) ?_
 refine take_ (i := 24) (N := some 92) (v := ?_) (a' := ?_) (lm 27 33554431) rfl rfl (by kernel_rfl) (fun _ _ _ h => h) (Or.inl ⟨by rfl, ?_⟩) hHeld ?_ ?_
 rotate_left
 ·rintro w' ⟨s0, s1, s2, s3⟩
  go_simp
  with_reducible rfl
 rotate_left
 ·simp only [Act.put, List.setIfInBounds_toArray, List.set_cons_zero, List.set_cons_succ, i64_w, i32_w]
  rfl
 refine sP (i := 25) (N := some 93) (lm 27 67108863) ?_
 refine sP (i := 26) (N := some 94) (lm 27 134217727) ?_
 refine done_ (by kernel_rfl) ?_
 try clear hcg2_0 hcg2_1 hcg2_2 hcg12_0
 generalize W8 = W_ at *
 (try have hcg2_0 := sc 0 BKg2)
 (try have hcg2_1 := sc 1 BKg2)
 (try have hcg2_2 := sc 2 BKg2)
 have hcg12_0 := sc 0 BKg12
 go_wp2_with (first | ((with_reducible refine gate_dst (N := 14) rfl ?_); refine sbox (N := 14) #[.slice none 0 0, .slice none 0 0, .int .i64 0] 25 ?_; intro g14 hg W_ hbox hb; (try have NEg2_g14 := Aside0.mk (show g2 < g14 from by rw [hg]; exact blk_lt BKg2.out)); have GEg14 := Aside0.mk (by rw [hg]; exact HB.out.size : w.heap.size ≤ g14); (try have GEg14_w1 := Aside0.mk (by rw [hg]; exact HB_w1.out.size : w1.heap.size ≤ g14)); (try clear hcg2_0 hcg2_1 hcg2_2); (try clear hcg12_0 hcg12_1); (try clear hcg14_0 hcg14_1 hcg14_2); (try replace HB := Aside0.mk (below_step HB.out hb)); (try replace HB_w1 := Aside0.mk (below_step HB_w1.out hb)); (try replace HT := Aside0.mk (HT.out.below hb)); (try replace BKg2 := Aside0.mk (blk_below BKg2.out hb)); (try replace HF := Aside0.mk (Kd.R_below HF.out hb)); (try replace HMV := Aside0.mk (Kd.R_below HMV.out hb)); (try replace BKg12 := Aside0.mk (blk_below BKg12.out hb)); (try replace HQ := Aside0.mk (Kd.R_below HQ.out hb)); (try replace BKg14 := Aside0.mk (blk_below BKg14.out hb)); (try replace HX := Aside0.mk (HX.out.below hb)); (try replace HPO := Aside0.mk (Kd.R_below HPO.out hb)); (try replace HPA := Aside0.mk (Kd.R_below HPA.out hb)); have BKg14 := Aside0.mk hbox; clear hb hbox hg; (try have hcg2_0 := sc 0 BKg2); (try have hcg2_1 := sc 1 BKg2); (try have hcg2_2 := sc 2 BKg2); (try have hcg12_0 := sc 0 BKg12); (try have hcg12_1 := sc 1 BKg12); (try have hcg14_0 := sc 0 BKg14); (try have hcg14_1 := sc 1 BKg14); (try have hcg14_2 := sc 2 BKg14)) | ((with_reducible refine gate_store (t := 25) (p := 14) rfl ?_); go_must (refine wpList_store_row rfl 25 _ _ rfl g14 #[.slice A0 l0.length c0, .slice A1 l1.length c1, .int .i64 wg] rfl rfl 25 (#[.slice none 0 0, .slice none 0 0, .int .i64 0]) BKg14.out rfl rfl (by simp [Value.oneCell']) ?_; (try clear hcg2_0 hcg2_1 hcg2_2); (try clear hcg12_0 hcg12_1); (try clear hcg14_0 hcg14_1 hcg14_2); (try clear HT); (try replace HB_w1 := Aside0.mk (below_setRow HB_w1.out GEg14_w1.out (#[.slice A0 l0.length c0, .slice A1 l1.length c1, .int .i64 wg]))); (try replace BKg2 := Aside0.mk ((setRow_other W_ g14 g2 (#[.slice A0 l0.length c0, .slice A1 l1.length c1, .int .i64 wg]) (by first | exact Nat.ne_of_lt NEg2_g14.out | exact Nat.ne_of_gt NEg14_g2.out)).trans BKg2.out)); (try replace HF := Aside0.mk (row_setRow HF.out BKg14.out (by decide) (#[.slice A0 l0.length c0, .slice A1 l1.length c1, .int .i64 wg]))); (try replace HMV := Aside0.mk (row_setRow HMV.out BKg14.out (by decide) (#[.slice A0 l0.length c0, .slice A1 l1.length c1, .int .i64 wg]))); (try replace BKg12 := Aside0.mk (blk_setRow BKg12.out BKg14.out (by decide) (#[.slice A0 l0.length c0, .slice A1 l1.length c1, .int .i64 wg]))); (try replace HQ := Aside0.mk (row_setRow HQ.out BKg14.out (by decide) (#[.slice A0 l0.length c0, .slice A1 l1.length c1, .int .i64 wg]))); (try replace HX := Aside0.mk (RX.setRow (us := #[.slice A0 l0.length c0, .slice A1 l1.length c1, .int .i64 wg]) HX.out BKg14.out (by decide))); (try replace HPO := Aside0.mk (row_setRow HPO.out BKg14.out (by decide) (#[.slice A0 l0.length c0, .slice A1 l1.length c1, .int .i64 wg]))); (try replace HPA := Aside0.mk (row_setRow HPA.out BKg14.out (by decide) (#[.slice A0 l0.length c0, .slice A1 l1.length c1, .int .i64 wg]))); replace HB := Aside0.mk (below_setRow HB.out GEg14.out (#[.slice A0 l0.length c0, .slice A1 l1.length c1, .int .i64 wg])); replace BKg14 := Aside0.mk (setRow_heap W_ g14 _ (#[.slice A0 l0.length c0, .slice A1 l1.length c1, .int .i64 wg]) _ _ BKg14.out); generalize W_.setRow g14 (#[.slice A0 l0.length c0, .slice A1 l1.length c1, .int .i64 wg]) = W_ at *; (try have hcg2_0 := sc 0 BKg2); (try have hcg2_1 := sc 1 BKg2); (try have hcg2_2 := sc 2 BKg2); (try have hcg12_0 := sc 0 BKg12); (try have hcg12_1 := sc 1 BKg12); (try have hcg14_0 := sc 0 BKg14); (try have hcg14_1 := sc 1 BKg14); (try have hcg14_2 := sc 2 BKg14))) | ((with_reducible refine gate_dst (N := 96) rfl ?_); refine Kd.R_lit (Kd.raw 2) W_.heap.size 71 ?hg (N := 96) ?hd (xs := ([] : List (List Value))) (inner := []) (ok := fun _ => True) (okp := fun _ => True) ?hr ?hp (fun _ hk => hk) trivial (Below.refl _ _) (Nat.le_refl _) (by simp) ?_; (case hd => rfl); (case hg => rfl); (case hr => first | (go_simp; done) | (go_simp; rfl)); (case hp => exact (Reps.none _ _)); intro v8 Wb ho8 hb8 hg_ hnew_; clear hg_ hnew_; have HO8 := Aside0.mk ho8; have HB8 := Aside0.mk hb8; clear ho8 hb8; (try clear hcg2_0 hcg2_1 hcg2_2); (try clear hcg12_0 hcg12_1); (try clear hcg14_0 hcg14_1 hcg14_2); have hcg2_0 : Wb.cell? ⟨g2, 0, none⟩ = some (.slice A0 l0.length c0) := (blk_cell (blk_below BKg2.out HB8.out) 0).trans rfl; have hcg2_1 : Wb.cell? ⟨g2, 1, none⟩ = some (.slice A1 l1.length c1) := (blk_cell (blk_below BKg2.out HB8.out) 1).trans rfl; have hcg2_2 : Wb.cell? ⟨g2, 2, none⟩ = some (.int .i64 wg) := (blk_cell (blk_below BKg2.out HB8.out) 2).trans rfl) | ((with_reducible refine gate_builtin (b := .append) (xs := #[.tmp 96, .tmp 98]) rfl ?_); go_must (at_builtin; refine Kd.R_append_rows (Kd.raw 2) (w0 := W_) W_.heap.size rfl (.tmp 96) (.tmp 98) 23 71 (.agg #[.slice none 0 0, .int .i64 0]) 32 rfl Try.underlying23 info71 rfl (by decide) (by omega) _ [] rowsP _ _ _ (fun _ => True) (fun _ => False) rfl rfl HO8.out (Kd.C_below HRrowsP.out (below_step HB.out HB8.out)) (fun _ _ h => h) (fun _ h => h.elim) (fun _ _ => trivial) HB8.out HB8.out.size (by have := HNrowsP.out; simp; omega) ?_; intro v9 W_ ho hb hg hat; clear hg hat; (try clear hcg2_0 hcg2_1 hcg2_2); (try clear hcg12_0 hcg12_1); (try clear hcg14_0 hcg14_1 hcg14_2); (try clear HT); have hsz_ := HB_w1.out.size; (try replace HB := Aside0.mk (below_step HB.out hb)); (try replace HB_w1 := Aside0.mk (below_step HB_w1.out hb)); (try replace HT := Aside0.mk (HT.out.below hb)); (try replace BKg2 := Aside0.mk (blk_below BKg2.out hb)); (try replace HF := Aside0.mk (Kd.R_below HF.out hb)); (try replace HMV := Aside0.mk (Kd.R_below HMV.out hb)); (try replace BKg12 := Aside0.mk (blk_below BKg12.out hb)); (try replace HQ := Aside0.mk (Kd.R_below HQ.out hb)); (try replace BKg14 := Aside0.mk (blk_below BKg14.out hb)); (try replace HX := Aside0.mk (HX.out.below hb)); (try replace HPO := Aside0.mk (Kd.R_below HPO.out hb)); (try replace HPA := Aside0.mk (Kd.R_below HPA.out hb)); rw [List.nil_append] at ho; obtain ⟨AX, cX, eX_, hX_⟩ := RX.of (d := k71) (w := w) (xs := l1) ho HLrowsP.out HKrowsP.out (by have := HNrowsP.out; omega); subst eX_; have HX := Aside0.mk (hX_.lower hsz_); clear HO8 HB8 ho hb hX_ hsz_; (try have hcg2_0 := sc 0 BKg2); (try have hcg2_1 := sc 1 BKg2); (try have hcg2_2 := sc 2 BKg2); (try have hcg12_0 := sc 0 BKg12); (try have hcg12_1 := sc 1 BKg12); (try have hcg14_0 := sc 0 BKg14); (try have hcg14_1 := sc 1 BKg14); (try have hcg14_2 := sc 2 BKg14); have hfg14_0 := blk_frozen BKg14.out 0; have hfg14_1 := blk_frozen BKg14.out 1; have hfg14_2 := blk_frozen BKg14.out 2)))
 (try clear hfg14_0 hfg14_1 hfg14_2)
 (try clear hcg2_0 hcg2_1 hcg2_2); (try clear hcg12_0 hcg12_1); (try clear hcg14_0 hcg14_1 hcg14_2)
 (try replace HB_w1 := Aside0.mk (HB_w1.out.setCell (p := ⟨g14, 1, none⟩) GEg14_w1.out (.slice AX l1.length cX)))
 (try replace BKg2 := Aside0.mk (blk_far BKg2.out (p := ⟨g14, 1, none⟩) (by show g2 ≠ g14; first | exact Nat.ne_of_lt NEg2_g14.out | exact Nat.ne_of_gt NEg14_g2.out) (.slice AX l1.length cX)))
 (try replace HF := Aside0.mk (row_set (j := 1) HF.out BKg14.out (by decide) (.slice AX l1.length cX)))
 (try replace HMV := Aside0.mk (row_set (j := 1) HMV.out BKg14.out (by decide) (.slice AX l1.length cX)))
 (try replace BKg12 := Aside0.mk (blk_setCell (j := 1) BKg12.out BKg14.out (by decide) (.slice AX l1.length cX)))
 (try replace HQ := Aside0.mk (row_set (j := 1) HQ.out BKg14.out (by decide) (.slice AX l1.length cX)))
 (try replace HX := Aside0.mk (RX.setCell (j := 1) (u := .slice AX l1.length cX) HX.out BKg14.out (by decide)))
 (try replace HPO := Aside0.mk (row_set (j := 1) HPO.out BKg14.out (by decide) (.slice AX l1.length cX)))
 (try replace HPA := Aside0.mk (row_set (j := 1) HPA.out BKg14.out (by decide) (.slice AX l1.length cX)))
 replace HB := Aside0.mk (HB.out.setCell (p := ⟨g14, 1, none⟩) GEg14.out (.slice AX l1.length cX))
 replace BKg14 := Aside0.mk (blk_put BKg14.out 1 (.slice AX l1.length cX) rfl)
 generalize W_.setCell ⟨g14, 1, none⟩ (.slice AX l1.length cX) = W_ at *
 replace HX := Aside0.mk (show RX k71 71 w W_ w1.heap.size AX cX (ys 0) from by rw [HY0.out]; exact HX.out)
 have HFB := HF.out
 have HMB := HMV.out
 obtain ⟨bF, hbF⟩ : ∃ b, RI W_ b (.slice AHF bs.length cHF) bs := ⟨_, HFB⟩
 obtain ⟨bM, hbM⟩ : ∃ b, Kd.R k69 69 W_ b (fun _ => True) (.slice AHMV ms.length cHMV) ms := ⟨_, HMB⟩
 clear HFB HMB HF HMV
 try clear hcg2_0 hcg2_1 hcg2_2
 try clear hcg12_0
 go_loopg [15] ms.length (fun kq v15 w' => ∃ m : Nat, v15 = .int .i64 (m : Int) ∧ Aside0 (m + kq = ms.length) ∧ Aside0 (Below w.heap.size w w') ∧ Aside0 (Below w1.heap.size w1 w') ∧ Aside0 (w'.heap[g2]? = some (.cells #[.slice A0 l0.length c0, .slice A1 l1.length c1, .int .i64 wg] 25 (0, 0))) ∧ Aside0 (RI w' bF (.slice AHF bs.length cHF) bs) ∧ Aside0 (Kd.R k69 69 w' bM (fun _ => True) (.slice AHMV ms.length cHMV) ms) ∧ Aside0 (w'.heap[g12]? = some (.cells #[.int .i64 lo, .int .i64 hi] 55 (0, 0))) ∧ Aside0 (w'.heap[g14]? = some (.cells #[.slice A0 l0.length c0, .slice AX l1.length cX, .int .i64 wg] 25 (0, 0))) ∧ Aside0 (RX k71 71 w w' w1.heap.size AX cX (ys m)))
 case atStart => exact ⟨0, rfl, ⟨Nat.zero_add _⟩, HB, HB_w1, BKg2, ⟨hbF⟩, ⟨hbM⟩, BKg12, BKg14, HX⟩
 case round =>
  clear HB HB_w1 BKg2 BKg12 BKg14 HX hbF hbM
  obtain ⟨m, rfl, HM, HB, HB_w1, BKg2, HF, HMV, BKg12, BKg14, HX⟩ := hrel
  by_cases hlt : m < ms.length
  ·cases gk with
   | zero => have := HM.out; omega
   | succ k1 =>
   have hwm := wrap_succ m _ hlt (by have := HMS.out; omega)
   obtain ⟨pc, hpc, ef0, hyl, efr, eys⟩ := HMVF.out m hlt
   obtain ⟨adm, em, hcm0, hcm1, hcm2⟩ := at_T69 (Kd.R_reads' HMV.out).2.2 (m : Int) (by omega) (by omega)
   subst em
   simp only [Int.toNat_natCast] at hcm0 hcm1 hcm2
   rw [ef0] at hcm0
   obtain ⟨fr, hfr⟩ : ∃ fr, (rd_T69 ms (m : Int)).f1 = fr := ⟨_, rfl⟩
   obtain ⟨tw, hto⟩ : ∃ tw, (rd_T69 ms (m : Int)).f2 = tw := ⟨_, rfl⟩
   rw [hfr] at hcm1 efr
   rw [hto] at hcm2 eys
   have HYS := Aside0.mk eys
   have HYL := Aside0.mk hyl
   have HXLE := Aside0.mk HX.out.le
   have HXSM := Aside0.mk HX.out.sm
   obtain ⟨go, csx, eA, hgo, hbk, hpb⟩ := HX.out.open_ (by omega)
   subst eA
   have BKgo := Aside0.mk hbk
   have GEgo_w1 := Aside0.mk hgo
   have GEgo := Aside0.mk (Nat.le_trans HWSZ.out hgo)
   have hq1 : csx[pc * 2 + 1]? = some (.int .i64 fr) := by
    obtain ⟨c, hc, hcs⟩ := hpb pc ((ys m).getD pc z71) (by rw [List.getD_eq_getElem?_getD, List.getElem?_eq_getElem (by omega)]; rfl)
    obtain ⟨A, n, rfl, _, _⟩ := k71_open hc
    have h := hcs 1 _ rfl
    rw [efr] at h
    exact h
   have HPC := Aside0.mk (hpb.bundle pc (by omega) tw)
   have HIN := Aside0.mk (show posserref03_In.f (pc : Int) 0 (wrap64 ((l1.length : Int) - 1)) = some true from by
    have := HRT.out.n1
    rw [In_f, wrap64_id _ (by omega) (by omega)]
    unfold okIn
    rw [decide_eq_true (by omega), decide_eq_true (by omega)]; rfl)
   have hpx : (pc : Int) < (l1.length : Int) := by omega
   have hff : (fr != fr) = false := by simp
   have hcq1 : wr.cell? ⟨go, pc * 2 + 1, none⟩ = some (.int .i64 fr) := (blk_cell BKgo.out (pc * 2 + 1)).trans hq1
   have hcg2_1 := sc 1 BKg2
   have hcg14_1 := sc 1 BKg14
   clear hbk hgo hpb HX efr eys hyl ef0 hfr hto
   go_wp2
   refine start_ (n := 29) (S := fun w' => w'.cell? (adm.add (m * 3)) = some (.int .i64 (pc : Int)) ∧ w'.cell? ⟨(adm.add (m * 3)).block, (adm.add (m * 3)).off + 1, none⟩ = some (.int .i64 fr) ∧ w'.cell? ⟨(adm.add (m * 3)).block, (adm.add (m * 3)).off + 2, none⟩ = some (.int .i64 tw) ∧ w'.cell? ⟨g2, 1, none⟩ = some (.slice A1 l1.length c1) ∧ w'.cell? ⟨g14, 1, none⟩ = some (.slice (some ⟨go, 0, none⟩) l1.length cX) ∧ w'.cell? ⟨go, pc * 2 + 1, none⟩ = some (.int .i64 fr)) (ds := []) (lm 29 0) (by kernel_rfl) rfl (by kernel_rfl) ⟨hcm0, hcm1, hcm2, hcg2_1, hcg14_1, hcq1⟩ (fun hHeld => ?_)
   have hb := below_drew1 (Below.refl wr.heap.size wr)
   replace HB_w1 := Aside0.mk (below_step HB_w1.out hb)
   replace BKg2 := Aside0.mk (blk_below BKg2.out hb)
   replace HF := Aside0.mk (Kd.R_below HF.out hb)
   replace HMV := Aside0.mk (Kd.R_below HMV.out hb)
   replace BKg12 := Aside0.mk (blk_below BKg12.out hb)
   replace BKg14 := Aside0.mk (blk_below BKg14.out hb)
   replace BKgo := Aside0.mk (blk_below BKgo.out hb)
   replace HB := Aside0.mk (below_step HB.out hb)
   replace hcm0 := (hb.cell (World.block_lt_of_cell? _ _ hcm0)).trans hcm0
   replace hcm1 := (hb.cell (World.block_lt_of_cell? _ _ hcm1)).trans hcm1
   replace hcm2 := (hb.cell (World.block_lt_of_cell? _ _ hcm2)).trans hcm2
   replace hcg2_1 := (hb.cell (World.block_lt_of_cell? _ _ hcg2_1)).trans hcg2_1
   replace hcg14_1 := (hb.cell (World.block_lt_of_cell? _ _ hcg14_1)).trans hcg14_1
   replace hcq1 := (hb.cell (World.block_lt_of_cell? _ _ hcq1)).trans hcq1
   generalize wr.drew = W7 at *
   clear hb
   refine sP (i := 0) (N := some 107) (lm 29 1) ?_
   refine sP (i := 1) (N := some 108) (lm 29 3) ?_
   refine sP (i := 2) (N := some 109) (lm 29 7) ?_
   refine sP (i := 3) (N := some 110) (lm 29 15) ?_
   refine sP (i := 5) (N := some 112) (lm 29 47) ?_
   refine take_ (i := 4) (N := some 111) (v := ?_) (a' := ?_) (lm 29 63) rfl rfl (by kernel_rfl) (fun _ _ _ h => h) (Or.inl ⟨by rfl, ?_⟩) hHeld ?_ ?_
   rotate_left
   ·rintro w' ⟨s0, s1, s2, s3, s4, s5⟩
    go_simp
    with_reducible rfl
   rotate_left
   ·simp only [Act.put, List.setIfInBounds_toArray, List.set_cons_zero, List.set_cons_succ, i64_w, i32_w]
    rfl
   refine take_ (i := 6) (N := some 113) (v := ?_) (a' := ?_) (lm 29 127) rfl rfl (by kernel_rfl) (fun _ _ _ h => h) (Or.inl ⟨by rfl, ?_⟩) hHeld ?_ ?_
   rotate_left
   ·rintro w' ⟨s0, s1, s2, s3, s4, s5⟩
    go_simp
    with_reducible rfl
   rotate_left
   ·simp only [Act.put, List.setIfInBounds_toArray, List.set_cons_zero, List.set_cons_succ, i64_w, i32_w]
    rfl
   refine sP (i := 7) (N := some 114) (lm 29 255) ?_
   refine sP (i := 8) (N := some 115) (lm 29 511) ?_
   refine one_ (i := 9) (N := some 116) (lm 29 1023) rfl rfl (by kernel_rfl) (by decide) (fun K hK => ?_)
   refine goes_ Try.func49 (by kernel_rfl) rfl #[.int .i64 (pc : Int), .int .i64 0, .int .i64 (wrap64 ((l1.length : Int) - 1))] (by rfl) rfl rfl (by simp only [List.map_toArray, List.map_cons, List.map_nil]; rfl) ?_
   with_reducible refine (posserref03_In.calls (pc : Int) 0 (wrap64 ((l1.length : Int) - 1)) true _ HIN.out).mono ?_
   rintro e Wx ⟨rfl, ⟨nd, rfl⟩⟩
   have hb := pw_below_drewN (Below.refl W7.heap.size W7) nd
   replace hcm0 := (hb.cell (World.block_lt_of_cell? _ _ hcm0)).trans hcm0
   replace hcm1 := (hb.cell (World.block_lt_of_cell? _ _ hcm1)).trans hcm1
   replace hcm2 := (hb.cell (World.block_lt_of_cell? _ _ hcm2)).trans hcm2
   replace hcg2_1 := (hb.cell (World.block_lt_of_cell? _ _ hcg2_1)).trans hcg2_1
   replace hcg14_1 := (hb.cell (World.block_lt_of_cell? _ _ hcg14_1)).trans hcg14_1
   replace hcq1 := (hb.cell (World.block_lt_of_cell? _ _ hcq1)).trans hcq1
   replace HB_w1 := Aside0.mk (below_step HB_w1.out hb)
   replace BKg2 := Aside0.mk (blk_below BKg2.out hb)
   replace HF := Aside0.mk (Kd.R_below HF.out hb)
   replace HMV := Aside0.mk (Kd.R_below HMV.out hb)
   replace BKg12 := Aside0.mk (blk_below BKg12.out hb)
   replace BKg14 := Aside0.mk (blk_below BKg14.out hb)
   replace BKgo := Aside0.mk (blk_below BKgo.out hb)
   replace HB := Aside0.mk (below_step HB.out hb)
   clear hb
   generalize W7.drewN nd = W8 at *
   refine ⟨_, rfl, ?_⟩
   refine hK.out _ _ ⟨hcm0, hcm1, hcm2, hcg2_1, hcg14_1, hcq1⟩ (fun hHeld => ?_)
   clear hK K
   refine sN ?_
   refine sP (i := 10) (N := some 117) (lm 29 2047) ?_
   refine sP (i := 11) (N := some 118) (lm 29 4095) ?_
   refine sP (i := 12) (N := some 119) (lm 29 8191) ?_
   refine sP (i := 14) (N := some 121) (lm 29 24575) ?_
   refine sP (i := 15) (N := some 122) (lm 29 57343) ?_
   refine sP (i := 16) (N := some 123) (lm 29 122879) ?_
   refine sP (i := 17) (N := some 124) (lm 29 253951) ?_
   refine sP (i := 22) (N := some 129) (lm 29 4448255) ?_
   refine sP (i := 23) (N := some 130) (lm 29 12836863) ?_
   refine sP (i := 24) (N := some 131) (lm 29 29614079) ?_
   refine sP (i := 25) (N := some 132) (lm 29 63168511) ?_
   refine take_ (i := 13) (N := some 120) (v := ?_) (a' := ?_) (lm 29 63176703) rfl rfl (by kernel_rfl) (fun _ _ _ h => h) (Or.inl ⟨by rfl, ?_⟩) hHeld ?_ ?_
   rotate_left
   ·rintro w' ⟨s0, s1, s2, s3, s4, s5⟩
    go_simp
    with_reducible rfl
   rotate_left
   ·simp only [Act.put, List.setIfInBounds_toArray, List.set_cons_zero, List.set_cons_succ, i64_w, i32_w]
    rfl
   refine take_ (i := 18) (N := some 125) (v := ?_) (a' := ?_) (lm 29 63438847) rfl rfl (by kernel_rfl) (fun _ _ _ h => h) (Or.inl ⟨by rfl, ?_⟩) hHeld ?_ ?_
   rotate_left
   ·rintro w' ⟨s0, s1, s2, s3, s4, s5⟩
    go_simp
    with_reducible rfl
   rotate_left
   ·simp only [Act.put, List.setIfInBounds_toArray, List.set_cons_zero, List.set_cons_succ, i64_w, i32_w]
    rfl
   refine sP (i := 19) (N := some 126) (lm 29 63963135) ?_
   refine sP (i := 20) (N := some 127) (lm 29 65011711) ?_
   refine take_ (i := 21) (N := some 128) (v := ?_) (a' := ?_) (lm 29 67108863) rfl rfl (by kernel_rfl) (fun _ _ _ h => h) (Or.inl ⟨by rfl, ?_⟩) hHeld ?_ ?_
   rotate_left
   ·rintro w' ⟨s0, s1, s2, s3, s4, s5⟩
    go_simp
    with_reducible rfl
   rotate_left
   ·simp only [Act.put, List.setIfInBounds_toArray, List.set_cons_zero, List.set_cons_succ, i64_w, i32_w]
    rfl
   refine take_ (i := 26) (N := some 133) (v := ?_) (a' := ?_) (lm 29 134217727) rfl rfl (by kernel_rfl) (fun _ _ _ h => h) (Or.inl ⟨by rfl, ?_⟩) hHeld ?_ ?_
   rotate_left
   ·rintro w' ⟨s0, s1, s2, s3, s4, s5⟩
    go_simp
    with_reducible rfl
   rotate_left
   ·simp only [Act.put, List.setIfInBounds_toArray, List.set_cons_zero, List.set_cons_succ, i64_w, i32_w]
    rfl
   refine sP (i := 27) (N := some 134) (lm 29 268435455) ?_
   refine sP (i := 28) (N := some 135) (lm 29 536870911) ?_
   refine done_ (by kernel_rfl) ?_
   go_wp2
   refine start_ (n := 15) (S := fun w' => w'.cell? (adm.add (m * 3)) = some (.int .i64 (pc : Int)) ∧ w'.cell? ⟨(adm.add (m * 3)).block, (adm.add (m * 3)).off + 2, none⟩ = some (.int .i64 tw) ∧ w'.cell? ⟨g14, 1, none⟩ = some (.slice (some ⟨go, 0, none⟩) l1.length cX)) (ds := [14]) (lm 15 0) (by kernel_rfl) rfl (by kernel_rfl) ⟨hcm0, hcm2, hcg14_1⟩ (fun hHeld => ?_)
   have hb := below_drew1 (Below.refl W8.heap.size W8)
   replace HB_w1 := Aside0.mk (below_step HB_w1.out hb)
   replace BKg2 := Aside0.mk (blk_below BKg2.out hb)
   replace HF := Aside0.mk (Kd.R_below HF.out hb)
   replace HMV := Aside0.mk (Kd.R_below HMV.out hb)
   replace BKg12 := Aside0.mk (blk_below BKg12.out hb)
   replace BKg14 := Aside0.mk (blk_below BKg14.out hb)
   replace BKgo := Aside0.mk (blk_below BKgo.out hb)
   replace HB := Aside0.mk (below_step HB.out hb)
   replace hcq1 := (hb.cell (World.block_lt_of_cell? _ _ hcq1)).trans hcq1
   replace hcm0 := (hb.cell (World.block_lt_of_cell? _ _ hcm0)).trans hcm0
   replace hcm2 := (hb.cell (World.block_lt_of_cell? _ _ hcm2)).trans hcm2
   replace hcg14_1 := (hb.cell (World.block_lt_of_cell? _ _ hcg14_1)).trans hcg14_1
   generalize W8.drew = W9 at *
   clear hb
   have hfq1 := blk_frozen BKgo.out (pc * 2 + 1)
   refine sP (i := 0) (N := some 136) (lm 15 1) ?_
   refine sP (i := 2) (N := some 138) (lm 15 5) ?_
   refine sP (i := 3) (N := some 139) (lm 15 13) ?_
   refine sP (i := 4) (N := some 140) (lm 15 29) ?_
   refine sP (i := 5) (N := some 141) (lm 15 61) ?_
   refine sP (i := 7) (N := some 143) (lm 15 189) ?_
   refine sP (i := 8) (N := some 144) (lm 15 445) ?_
   refine sP (i := 9) (N := some 145) (lm 15 957) ?_
   refine sP (i := 10) (N := some 146) (lm 15 1981) ?_
   refine take_ (i := 1) (N := some 137) (v := ?_) (a' := ?_) (lm 15 1983) rfl rfl (by kernel_rfl) (fun _ _ _ h => h) (Or.inl ⟨by rfl, ?_⟩) hHeld ?_ ?_
   rotate_left
   ·rintro w' ⟨s0, s1, s2⟩
    go_simp
    with_reducible rfl
   rotate_left
   ·simp only [Act.put, List.setIfInBounds_toArray, List.set_cons_zero, List.set_cons_succ, i64_w, i32_w]
    rfl
   refine take_ (i := 6) (N := some 142) (v := ?_) (a' := ?_) (lm 15 2047) rfl rfl (by kernel_rfl) (fun _ _ _ h => h) (Or.inl ⟨by rfl, ?_⟩) hHeld ?_ ?_
   rotate_left
   ·rintro w' ⟨s0, s1, s2⟩
    go_simp
    with_reducible rfl
   rotate_left
   ·simp only [Act.put, List.setIfInBounds_toArray, List.set_cons_zero, List.set_cons_succ, i64_w, i32_w]
    rfl
   refine take_ (i := 11) (N := some 147) (v := ?_) (a' := ?_) (lm 15 4095) rfl rfl (by kernel_rfl) (fun _ _ _ h => h) (Or.inl ⟨by rfl, ?_⟩) hHeld ?_ ?_
   rotate_left
   ·rintro w' ⟨s0, s1, s2⟩
    go_simp
    with_reducible rfl
   rotate_left
   ·simp only [Act.put, List.setIfInBounds_toArray, List.set_cons_zero, List.set_cons_succ, i64_w, i32_w]
    rfl
   refine sP (i := 12) (N := some 148) (lm 15 8191) ?_
   refine sP (i := 13) (N := some 149) (lm 15 16383) ?_
   refine last_ (i := 14) (N := none) (lm 15 32767) rfl rfl (by kernel_rfl) (by decide) (fun K hK => ?_)
   refine skip_ (w1 := ?_) (by rfl) rfl ?_ ?_
   rotate_left
   ·go_simp
    rfl
   skip
   (try replace HB_w1 := Aside0.mk (HB_w1.out.setCell (p := ⟨go, pc * 2 + 1, none⟩) GEgo_w1.out (.int .i64 tw)))
   (try replace BKg2 := Aside0.mk (blk_setCell (j := pc * 2 + 1) BKg2.out BKgo.out (by decide) (.int .i64 tw)))
   (try replace HF := Aside0.mk (row_set (j := pc * 2 + 1) HF.out BKgo.out (by decide) (.int .i64 tw)))
   (try replace HMV := Aside0.mk (row_set (j := pc * 2 + 1) HMV.out BKgo.out (by decide) (.int .i64 tw)))
   (try replace BKg12 := Aside0.mk (blk_setCell (j := pc * 2 + 1) BKg12.out BKgo.out (by decide) (.int .i64 tw)))
   (try replace BKg14 := Aside0.mk (blk_setCell (j := pc * 2 + 1) BKg14.out BKgo.out (by decide) (.int .i64 tw)))
   replace HB := Aside0.mk (HB.out.setCell (p := ⟨go, pc * 2 + 1, none⟩) GEgo.out (.int .i64 tw))
   replace BKgo := Aside0.mk (blk_put BKgo.out (pc * 2 + 1) (.int .i64 tw) rfl)
   generalize W9.setCell ⟨go, pc * 2 + 1, none⟩ (.int .i64 tw) = W10 at *
   refine hK.out _ _ ?_
   clear hK K
   refine done_ (by kernel_rfl) ?_
   go_wp2
   have HX := Aside0.mk (show RX k71 71 w W10 w1.heap.size (some ⟨go, 0, none⟩) cX (ys (m + 1)) from ⟨by have := HXLE.out; rw [HYS.out, List.length_set]; exact this, by have := HXSM.out; rw [HYS.out, List.length_set]; exact this, .inr ⟨go, _, rfl, GEgo_w1.out, BKgo.out, by rw [HYS.out]; exact HPC.out⟩⟩)
   go_roundg k1
   case measure => omega
   case rel => exact ⟨m + 1, by go_num, ⟨by have := HM.out; omega⟩, HB, HB_w1, BKg2, HF, HMV, BKg12, BKg14, HX⟩
  ·obtain rfl : m = ms.length := by have := HM.out; omega
   obtain ⟨W_, hWW⟩ : ∃ W_ : World, W_ = wr := ⟨_, rfl⟩
   subst hWW
   have eyl := HYLL.out
   replace HX := Aside0.mk (show RX k71 71 w W_ w1.heap.size AX cX yl from by rw [← HYE.out]; exact HX.out)
   replace BKg14 := Aside0.mk (show W_.heap[g14]? = some (.cells #[.slice A0 l0.length c0, .slice AX yl.length cX, .int .i64 wg] 25 (0, 0)) from by have h := BKg14.out; rw [← eyl] at h; exact h)
   clear eyl
   (try have hcg2_0 := sc 0 BKg2)
   (try have hcg2_1 := sc 1 BKg2)
   (try have hcg2_2 := sc 2 BKg2)
   (try have hcg12_0 := sc 0 BKg12)
   (try have hcg12_1 := sc 1 BKg12)
   (try have hcg14_0 := sc 0 BKg14)
   (try have hcg14_1 := sc 1 BKg14)
   (try have hcg14_2 := sc 2 BKg14)
   rcases HFIN.out with hf1 | ⟨hf1, hf2⟩
   focus
    have hfd := decide_eq_true hf1
    have HBF := Aside0.mk trivial
   rotate_left
   focus
    have hfd := decide_eq_false (show ¬ ((ao.length : Int) > lo) by omega)
    have hfd2 : ¬ ((ao.length : Int) > lo) := by omega
    have HBF := Aside0.mk hf2
    clear hf2
   rotate_left
   all_goals (go_wp2_with (first | (go_at_call 23; go_must (first | ((with_reducible refine (tab_c _ (rtabP HRT.out HB.out HX.out HY30.out HYM.out) HL0.out HLY.out).mono ?_); rintro e W_ ⟨B0, d0, B1, d1, rfl, ht, hb⟩; (try clear hcg2_0 hcg2_1 hcg2_2); (try clear hcg12_0 hcg12_1); (try clear hcg14_0 hcg14_1 hcg14_2); (try replace HB := Aside0.mk (below_step HB.out hb)); (try replace HB_w1 := Aside0.mk (below_step HB_w1.out hb)); (try replace HT := Aside0.mk (HT.out.below hb)); (try replace BKg2 := Aside0.mk (blk_below BKg2.out hb)); (try replace HF := Aside0.mk (Kd.R_below HF.out hb)); (try replace HMV := Aside0.mk (Kd.R_below HMV.out hb)); (try replace BKg12 := Aside0.mk (blk_below BKg12.out hb)); (try replace HQ := Aside0.mk (Kd.R_below HQ.out hb)); (try replace BKg14 := Aside0.mk (blk_below BKg14.out hb)); (try replace HX := Aside0.mk (HX.out.below hb)); (try replace HPO := Aside0.mk (Kd.R_below HPO.out hb)); (try replace HPA := Aside0.mk (Kd.R_below HPA.out hb)); (try clear HT); have HT := Aside0.mk ht; clear ht; clear hb; (try have hcg2_0 := sc 0 BKg2); (try have hcg2_1 := sc 1 BKg2); (try have hcg2_2 := sc 2 BKg2); (try have hcg12_0 := sc 0 BKg12); (try have hcg12_1 := sc 1 BKg12); (try have hcg14_0 := sc 0 BKg14); (try have hcg14_1 := sc 1 BKg14); (try have hcg14_2 := sc 2 BKg14)))) | (go_at_call 41; go_must (refine (list_c (Kd.R_reads' HF.out).2.2 HLL.out).mono ?_; rintro e W_ ⟨AQ, cQ, rfl, ho, hb⟩; (try clear hcg2_0 hcg2_1 hcg2_2); (try clear hcg12_0 hcg12_1); (try clear hcg14_0 hcg14_1 hcg14_2); (try replace HB := Aside0.mk (below_step HB.out hb)); (try replace HB_w1 := Aside0.mk (below_step HB_w1.out hb)); (try replace HT := Aside0.mk (HT.out.below hb)); (try replace BKg2 := Aside0.mk (blk_below BKg2.out hb)); (try replace HF := Aside0.mk (Kd.R_below HF.out hb)); (try replace HMV := Aside0.mk (Kd.R_below HMV.out hb)); (try replace BKg12 := Aside0.mk (blk_below BKg12.out hb)); (try replace HQ := Aside0.mk (Kd.R_below HQ.out hb)); (try replace BKg14 := Aside0.mk (blk_below BKg14.out hb)); (try replace HX := Aside0.mk (HX.out.below hb)); (try replace HPO := Aside0.mk (Kd.R_below HPO.out hb)); (try replace HPA := Aside0.mk (Kd.R_below HPA.out hb)); (try clear HQ); have HQ := Aside0.mk ho; clear ho; clear hb; (try have hcg2_0 := sc 0 BKg2); (try have hcg2_1 := sc 1 BKg2); (try have hcg2_2 := sc 2 BKg2); (try have hcg12_0 := sc 0 BKg12); (try have hcg12_1 := sc 1 BKg12); (try have hcg14_0 := sc 0 BKg14); (try have hcg14_1 := sc 1 BKg14); (try have hcg14_2 := sc 2 BKg14))) | (go_at_call 50; go_must (refine (play_c _ HT.out HQ.out HLL.out HCY.out HABY.out rfl HSY.out).mono ?_; rintro e W_ ⟨v1, v2, rfl, ho1, ho2, hb⟩; (try clear hcg2_0 hcg2_1 hcg2_2); (try clear hcg12_0 hcg12_1); (try clear hcg14_0 hcg14_1 hcg14_2); (try replace HB := Aside0.mk (below_step HB.out hb)); (try replace HB_w1 := Aside0.mk (below_step HB_w1.out hb)); (try replace HT := Aside0.mk (HT.out.below hb)); (try replace BKg2 := Aside0.mk (blk_below BKg2.out hb)); (try replace HF := Aside0.mk (Kd.R_below HF.out hb)); (try replace HMV := Aside0.mk (Kd.R_below HMV.out hb)); (try replace BKg12 := Aside0.mk (blk_below BKg12.out hb)); (try replace HQ := Aside0.mk (Kd.R_below HQ.out hb)); (try replace BKg14 := Aside0.mk (blk_below BKg14.out hb)); (try replace HX := Aside0.mk (HX.out.below hb)); (try replace HPO := Aside0.mk (Kd.R_below HPO.out hb)); (try replace HPA := Aside0.mk (Kd.R_below HPA.out hb)); have HPO := Aside0.mk ho1; obtain ⟨AHPO, cHPO, eHPO⟩ := Kd.R_slice HPO.out; subst eHPO; clear ho1; have HPA := Aside0.mk ho2; obtain ⟨AHPA, cHPA, eHPA⟩ := Kd.R_slice HPA.out; subst eHPA; clear ho2; clear hb; (try have hcg2_0 := sc 0 BKg2); (try have hcg2_1 := sc 1 BKg2); (try have hcg2_2 := sc 2 BKg2); (try have hcg12_0 := sc 0 BKg12); (try have hcg12_1 := sc 1 BKg12); (try have hcg14_0 := sc 0 BKg14); (try have hcg14_1 := sc 1 BKg14); (try have hcg14_2 := sc 2 BKg14))) | (go_at_call 43; go_must (refine (posserref03_Astray.calls k A0 c0 l0 A1 c1 l1 wg Ao co ot ao _ (HRT.out.below HB.out).r0 HC0.out (HRT.out.below HB.out).r1 HC1.out (Kd.C_below CO.out HB_w1.out) LO.out HAO.out).mono ?_; rintro e W_ ⟨v_, rfl, ho, hb⟩; (try clear hcg2_0 hcg2_1 hcg2_2); (try clear hcg12_0 hcg12_1); (try clear hcg14_0 hcg14_1 hcg14_2); (try replace HB := Aside0.mk (below_step HB.out hb)); (try replace HB_w1 := Aside0.mk (below_step HB_w1.out hb)); (try replace HT := Aside0.mk (HT.out.below hb)); (try replace BKg2 := Aside0.mk (blk_below BKg2.out hb)); (try replace HF := Aside0.mk (Kd.R_below HF.out hb)); (try replace HMV := Aside0.mk (Kd.R_below HMV.out hb)); (try replace BKg12 := Aside0.mk (blk_below BKg12.out hb)); (try replace HQ := Aside0.mk (Kd.R_below HQ.out hb)); (try replace BKg14 := Aside0.mk (blk_below BKg14.out hb)); (try replace HX := Aside0.mk (HX.out.below hb)); (try replace HPO := Aside0.mk (Kd.R_below HPO.out hb)); (try replace HPA := Aside0.mk (Kd.R_below HPA.out hb)); obtain ⟨A9, c9, e9⟩ := Kd.R_slice ho; subst e9; clear ho; clear hb; (try have hcg2_0 := sc 0 BKg2); (try have hcg2_1 := sc 1 BKg2); (try have hcg2_2 := sc 2 BKg2); (try have hcg12_0 := sc 0 BKg12); (try have hcg12_1 := sc 1 BKg12); (try have hcg14_0 := sc 0 BKg14); (try have hcg14_1 := sc 1 BKg14); (try have hcg14_2 := sc 2 BKg14))) | (go_at_call 51; go_must (refine (posserref03_Before.calls k Ao co ot AHF cHF bs false _ (Kd.C_below CO.out HB_w1.out) LO.out (Kd.R_reads' HF.out).2.2 (Kd.R_reads' HF.out).2.1 HBF.out).mono ?_; rintro e Wq ⟨rfl, ⟨nd, rfl⟩⟩; have hb := pw_below_drewN (Below.refl W_.heap.size W_) nd; (try clear hcg2_0 hcg2_1 hcg2_2); (try clear hcg12_0 hcg12_1); (try clear hcg14_0 hcg14_1 hcg14_2); (try replace HB := Aside0.mk (below_step HB.out hb)); (try replace HB_w1 := Aside0.mk (below_step HB_w1.out hb)); (try replace HT := Aside0.mk (HT.out.below hb)); (try replace BKg2 := Aside0.mk (blk_below BKg2.out hb)); (try replace HF := Aside0.mk (Kd.R_below HF.out hb)); (try replace HMV := Aside0.mk (Kd.R_below HMV.out hb)); (try replace BKg12 := Aside0.mk (blk_below BKg12.out hb)); (try replace HQ := Aside0.mk (Kd.R_below HQ.out hb)); (try replace BKg14 := Aside0.mk (blk_below BKg14.out hb)); (try replace HX := Aside0.mk (HX.out.below hb)); (try replace HPO := Aside0.mk (Kd.R_below HPO.out hb)); (try replace HPA := Aside0.mk (Kd.R_below HPA.out hb)); skip; clear hb; generalize W_.drewN nd = W_ at *; (try have hcg2_0 := sc 0 BKg2); (try have hcg2_1 := sc 1 BKg2); (try have hcg2_2 := sc 2 BKg2); (try have hcg12_0 := sc 0 BKg12); (try have hcg12_1 := sc 1 BKg12); (try have hcg14_0 := sc 0 BKg14); (try have hcg14_1 := sc 1 BKg14); (try have hcg14_2 := sc 2 BKg14))) | (go_at_call 21; go_must (refine (awake_calls _).mono ?_; rintro e W_ ⟨rfl, hb⟩; (try clear hcg2_0 hcg2_1 hcg2_2); (try clear hcg12_0 hcg12_1); (try clear hcg14_0 hcg14_1 hcg14_2); (try replace HB := Aside0.mk (below_step HB.out hb)); (try replace HB_w1 := Aside0.mk (below_step HB_w1.out hb)); (try replace HT := Aside0.mk (HT.out.below hb)); (try replace BKg2 := Aside0.mk (blk_below BKg2.out hb)); (try replace HF := Aside0.mk (Kd.R_below HF.out hb)); (try replace HMV := Aside0.mk (Kd.R_below HMV.out hb)); (try replace BKg12 := Aside0.mk (blk_below BKg12.out hb)); (try replace HQ := Aside0.mk (Kd.R_below HQ.out hb)); (try replace BKg14 := Aside0.mk (blk_below BKg14.out hb)); (try replace HX := Aside0.mk (HX.out.below hb)); (try replace HPO := Aside0.mk (Kd.R_below HPO.out hb)); (try replace HPA := Aside0.mk (Kd.R_below HPA.out hb)); skip; clear hb; (try have hcg2_0 := sc 0 BKg2); (try have hcg2_1 := sc 1 BKg2); (try have hcg2_2 := sc 2 BKg2); (try have hcg12_0 := sc 0 BKg12); (try have hcg12_1 := sc 1 BKg12); (try have hcg14_0 := sc 0 BKg14); (try have hcg14_1 := sc 1 BKg14); (try have hcg14_2 := sc 2 BKg14)))))
   all_goals go_ret
   all_goals exact ⟨rfl, HB.out⟩
end Go.Proofs.Ytnbbbeghgomnoaa.X
namespace Go.Proofs.Ytnbbbeghgomnoaa.X
open Go.RowKit Go.Proofs.YtnbbbeghgomnoaaW.PrintWords Go.Proofs.YtnbbbeghgomnoaaW.PrintLast Go.Proofs.YtnbbbeghgomnoaaW.PrintMore
theorem are_mem_ {L0 : List S109} {L1 : List S110} {x : List Int} (h : x ∈ allL L0 L1) : areB L0 L1 x = true := by
  obtain ⟨h1, h2⟩ := (allL_mem L0 L1 x).1 h
  unfold areB ownB
  rw [Bool.and_eq_true, decide_eq_true_eq, List.all_eq_true]
  refine ⟨h1, fun i hi => ?_⟩
  have hi' : i < L1.length := by rw [← h1]; exact List.mem_range.1 hi
  exact List.contains_iff_mem.2 (h2 i hi')
theorem BundleNoFewer_walk (A0 : Option Addr) (c0 : Nat) (l0 : List S85) (A1 : Option Addr) (c1 : Nat) (l1 : List S71) (wg a1 : Int) (W : World) (C0 : Kd.C k85 W A0 l0.length l0) (g0 : l0.length ≤ c0) (C1 : Kd.C k71 W A1 l1.length l1) (g1 : l1.length ≤ c1) (w1 : (Lit.int .u16 a1).wf = true) :
    Calls Try.prog 9 #[.agg #[.slice A0 l0.length c0, .slice A1 l1.length c1, .int .i64 wg], .int .u16 a1] W fun e w' => e = .returned (.bool true) ∧ Below W.heap.size W w' := by
  obtain ⟨b0, b1⟩ := u16_rng w1
  rcases rdy_cases l0 l1 wg with ⟨K, hK⟩ | ⟨hv, hc, K, hK⟩
  · exact NoFewer_no K wg a1 C0 g0 C1 g1 (hK K (Nat.le_refl _))
  · obtain ⟨L, hL⟩ := sure_ev wg hv.thn
    have hn0 := hv.n0
    have hn1 := hv.n1
    rcases ask_cases hc with ⟨he, _⟩ | ⟨he, hts⟩
    · have hs := hL (K + L) (by omega)
      dsimp only at hs
      rw [if_neg (by omega), he] at hs
      exact NoFewer_err (K + L) wg a1 C0 g0 C1 g1 hv.thn rfl rfl (hK (K + L) (by omega)) he hs
    · have htp : (truthsL (l0.map cvW) (l1.map cvP) wg).length ≠ 0 := fun h => hts (List.length_eq_zero_iff.1 h)
      have hpl : a1.toNat % (truthsL (l0.map cvW) (l1.map cvP) wg).length < (truthsL (l0.map cvW) (l1.map cvP) wg).length := Nat.mod_lt _ (by omega)
      have ep := tmod_nat a1 ((truthsL (l0.map cvW) (l1.map cvP) wg).length : Int) b0 b1 (by omega)
      rw [Int.toNat_natCast] at ep
      generalize a1.toNat % (truthsL (l0.map cvW) (l1.map cvP) wg).length = p at hpl ep
      obtain ⟨ot, hot⟩ : ∃ ot, (truthsL (l0.map cvW) (l1.map cvP) wg).getD p [] = ot := ⟨_, rfl⟩
      have hotm : ot ∈ truthsL (l0.map cvW) (l1.map cvP) wg := by rw [← hot]; exact getD_mem _ _ _ hpl
      obtain ⟨hbm, hbl⟩ := best_spec hts
      obtain ⟨bs, hbs⟩ : ∃ bs, bestL (l1.map cvP) (truthsL (l0.map cvW) (l1.map cvP) wg) = bs := ⟨_, rfl⟩
      rw [hbs] at hbm hbl
      have hba := truths_mem hbm
      obtain ⟨hblen, hbo⟩ := (allL_mem _ _ _).1 hba
      obtain ⟨hotlen, _⟩ := (allL_mem _ _ _).1 (truths_mem hotm)
      rw [List.length_map] at hblen hotlen
      have hown := fun i (hi : i < (l1.map cvP).length) => truths_own hbm i hi
      have sp := boundsL_spec (fun x => lostN (l1.map cvP) (pad x)) hts
      obtain ⟨⟨lo, hi⟩, hbd⟩ : ∃ r, boundsL (fun x => lostN (l1.map cvP) (pad x)) (truthsL (l0.map cvW) (l1.map cvP) wg) = r := ⟨_, rfl⟩
      rw [hbd] at sp
      obtain ⟨sp1, ⟨xa, ma, ea⟩, _⟩ := sp
      dsimp only at ea
      have hlo : lostN (l1.map cvP) (pad bs) = lo := by
        have h1 := (sp1 bs hbm).1
        have h2 := (hbl xa ma).1
        dsimp only at h1
        omega
      obtain ⟨js, hjs⟩ : ∃ js, (List.range (l1.map cvP).length).filter (off (l1.map cvP) (pad bs)) = js := ⟨_, rfl⟩
      have hjl : ∀ j ∈ js, j < l1.length := fun j hj => by
        rw [← hjs] at hj
        have := List.mem_range.1 (List.mem_filter.1 hj).1
        rwa [List.length_map] at this
      have hoff : ∀ i, i < l1.length → (i ∈ js ↔ (l1.getD i z71).f1 ≠ pad bs i) := fun i hi => by
        rw [← hjs, List.mem_filter, List.mem_range, List.length_map]
        unfold off
        rw [cvP_getD, Bool.not_eq_true', decide_eq_false_iff_not]
        exact ⟨fun h => h.2, fun h => ⟨hi, h⟩⟩
      obtain ⟨ms, hms⟩ : ∃ ms, js.map (fun j : Nat => moveL (l1.map cvP) bs (j : Int)) = ms := ⟨_, rfl⟩
      have hmv : movesL (l1.map cvP) (bestL (l1.map cvP) (truthsL (l0.map cvW) (l1.map cvP) wg)) = ms := by
        rw [hbs, ← hms]
        unfold movesL sel
        rw [hjs, List.map_map]; rfl
      have hml : ms.length = js.length := by rw [← hms, List.length_map]
      have hjn : js.length ≤ l1.length := by
        rw [← hjs]
        refine Nat.le_trans (List.length_filter_le _ _) ?_
        rw [List.length_range, List.length_map]; exact Nat.le_refl _
      have hsl : (ms.length : Int) = lo := by
        rw [← hlo, hml, ← hjs]
        unfold lostN sel
        simp only [List.length_map]
      have hnd : js.Nodup := by rw [← hjs]; exact List.Pairwise.filter _ List.nodup_range
      have spec := moved_spec l1 (pad bs) js hjl
      obtain ⟨yl, hyl⟩ : ∃ yl, moved l1 (pad bs) (js.take ms.length) = yl := ⟨_, rfl⟩
      have hyS := spec ms.length (by omega)
      rw [hyl, hml, List.take_length] at hyS
      have hyb : ∀ i, i < l1.length → (yl.getD i z71).f1 = pad bs i := fun i hi => by
        rw [hyS.2 i]
        by_cases h : i ∈ js
        · rw [if_pos h]
        · rw [if_neg h]
          by_cases h2 : (l1.getD i z71).f1 = pad bs i
          · exact h2
          · exact absurd ((hoff i hi).2 h2) h
      have hyf : ∀ i, (yl.getD i z71).f0 = (l1.getD i z71).f0 := fun i => by
        rw [hyS.2 i]
        split <;> rfl
      have hSm : Same (l1.map cvP) (yl.map cvP) := ⟨by rw [List.length_map, List.length_map, hyS.1], fun i => by rw [cvP_getD, cvP_getD]; exact hyf i⟩
      have hcy : checkT (l0.map cvW) (yl.map cvP) wg = 0 := by
        refine checkT_of (hSm.val (checkT_zero hc) fun i hi => ?_)
        rw [List.length_map, hyS.1] at hi
        rw [cvP_getD]
        show okIn (yl.getD i z71).f1 0 _ = true
        rw [hyb i hi]
        obtain ⟨o1, o2⟩ := hown i (by rw [List.length_map]; exact hi)
        unfold okIn
        rw [decide_eq_true o1, decide_eq_true (by omega)]; rfl
      have haby : areB (l0.map cvW) (yl.map cvP) bs = true := are_mem_ (by rw [hSm.all]; exact hba)
      have hsy : sel (off (yl.map cvP) (pad bs)) (yl.map cvP).length = [] := by
        apply List.eq_nil_iff_forall_not_mem.2
        intro v hvm
        obtain ⟨j, hj, hb, _⟩ := (sel_mem _ _ _).1 hvm
        rw [List.length_map, hyS.1] at hj
        unfold off at hb
        rw [cvP_getD, Bool.not_eq_true', decide_eq_false_iff_not] at hb
        exact hb (hyb j hj)
      have hym : ∀ z ∈ yl, z.f0.length ≤ 30 := fun z hz => by
        obtain ⟨i, hi, rfl⟩ := List.mem_iff_getElem.1 hz
        have hi' : i < l1.length := by rw [← hyS.1]; exact hi
        have h := hyf i
        rw [List.getD_eq_getElem?_getD, List.getElem?_eq_getElem hi] at h
        have h : (yl[i]).f0 = (l1.getD i z71).f0 := h
        rw [h]
        exact hv.thn.ms _ (getD_mem l1 i z71 hi')
      obtain ⟨M, hM⟩ := RAstray_ev (l0 := l0) (l1 := l1) wg hv.thn.n1 ot hotlen
      obtain ⟨N, hN⟩ := Before_ev ot bs (by omega) (by omega)
      obtain ⟨k, hk⟩ : ∃ k, k = K + L + M + N := ⟨_, rfl⟩
      have e1 := hK k (by omega)
      have e2 := hL k (by omega)
      have e3 := hM k (by omega)
      have e4 := hN k (by omega)
      dsimp only at e2 e3 e4
      rw [if_pos he] at e2
      have hot2 := hbl ot hotm
      have hlt : ((sel (off (l1.map cvP) (pad ot)) (l1.map cvP).length).length : Int) = lostN (l1.map cvP) (pad ot) := rfl
      refine NoFewer_ok (ys := fun m => moved l1 (pad bs) (js.take m)) (hi := hi) k wg a1 C0 g0 C1 g1 hv.thn rfl rfl e1 he hc e2 ep hpl hot hbs hmv hbd (by omega) (are_mem_ hba) ((List.mem_filter.1 hbm).2) (by omega) hsl rfl hyl hyS.1 hym (by omega) ?_ rfl hcy haby hsy e3 (by rw [hlt]; omega) ?_
      · intro m hm
        have hmj : m < js.length := by omega
        obtain ⟨s1, s2⟩ := spec m (by omega)
        have er : rd_T69 ms (m : Int) = moveL (l1.map cvP) bs ((js[m] : Nat) : Int) := by
          unfold rd_T69
          rw [Int.toNat_natCast, ← hms, List.getD_eq_getElem?_getD, List.getElem?_map, List.getElem?_eq_getElem hmj]; rfl
        have hlt2 := hjl _ (List.getElem_mem hmj)
        refine ⟨js[m], hlt2, by rw [er]; rfl, s1, ?_, ?_⟩
        · rw [er]
          have hnm : js[m] ∉ js.take m := by
            intro h
            obtain ⟨i, hi, e⟩ := List.mem_iff_getElem.1 h
            rw [List.length_take] at hi
            rw [List.getElem_take] at e
            have := (List.getElem_inj hnd).1 e
            omega
          show ((moved l1 (pad bs) (js.take m)).getD js[m] z71).f1 = _
          rw [s2 js[m], if_neg hnm]
          unfold moveL
          rw [Int.toNat_natCast, cvP_getD]; rfl
        · rw [er]
          unfold moveL
          rw [Int.toNat_natCast]
          exact moved_succ l1 (pad bs) js m hmj
      · by_cases h : lostN (l1.map cvP) (pad ot) = lo
        · right
          refine ⟨by rw [hlt]; omega, ?_⟩
          rw [e4, hot2.2 (by omega)]
        · left
          rw [hlt]
          omega
end Go.Proofs.Ytnbbbeghgomnoaa.X
namespace Go.Proofs.Ytnbbbeghgomnoaa.bundleNoFewer
open Go.ChangeShapes Go.WideShapes Go.ChangeAt Go.RowKit
open Go.ChangeMaps (open_string shut_string)
open Go.Proofs.Ytnbbbeghgomnoaa.X
theorem own : ownKnob Try.prog.godebug = none := by kernel_rfl
theorem laidOut : laidOutB Try.prog = true := by kernel_rfl
set_option maxRecDepth 100000 in
theorem lifted (os : Os) (started : os.Started) (H : Type) (enc : TypeId × Value → H) :
    ReturnsInHanded {} Try.checked os 9 .any (Rows.bundleNoFewerSpec.pre6 enc Try.prog Try.f9 Rows.bundleNoFewerRow.domain false) (Rows.bundleNoFewerSpec.post enc Try.prog Try.f9 false true false false) := by
  refine returnsInHanded_of_change_sized (C := Try.checked) own started (by kernel_rfl) Try.func9
    (ChangeSpec.witness6 (enc := enc) (C := Try.checked) false ⟨#[], #[.agg #[.slice none 0 0, .slice none 0 0, .int .i64 0], .int .u16 0], []⟩ 8 (by kernel_rfl) (by kernel_rfl) (by kernel_rfl) (by kernel_rfl)) ?_
  intro W base args ds gs before hval0 hW hcnd hsz0 _
  have hsz : (DataW.weightsEach Try.prog (Try.f9.params.toList ++ Rows.bundleNoFewerSpec.plain.varTypes Try.prog) (ds ++ gs)).all (· ≤ reachBytes) = true := hsz0
  have hval : ∀ (j : Nat) t v, Try.f9.params[j]? = some t → args[j]? = some v → Value.okWide Try.prog W .any base t v := hval0
  have hW' := hW
  obtain ⟨p, q, hA0, hV, rfl, hfz, hnd⟩ := hW
  have hA : DataW.TrodAll enc Try.prog W 0 (fun _ => true) true Try.f9.params.toList args.toList ds p := hA0
  rw [Try.params9] at hA hval hsz
  obtain ⟨v0, vs0, d0, ds0, p0, q0, hargs, rfl, rfl, h0, r0⟩ := trodAll_cons hA
  obtain ⟨v1, vs1, d1, ds1, p1, q1, rfl, rfl, rfl, h1, r1⟩ := trodAll_cons r0
  obtain ⟨rfl, rfl, rfl⟩ := trodAll_nil r1
  obtain rfl : args = #[v0, v1] := by cases args; simp_all
  obtain ⟨rfl, rfl⟩ := trodVars_none hV
  have k0 := h0
  have lt0 : ∀ x ∈ p0, x.block < W.heap.size := by obtain ⟨m, hm⟩ := k0; exact DataW.trod_lt m _ _ _ hm
  obtain ⟨A0, c0, l0, A1, c1, l1, wg, rfl, C0, g0, C1, g1⟩ := open_table (hval 0 25 v0 rfl rfl) h0
  obtain ⟨a1, rfl, rfl, rfl, w1⟩ := open_int Try.underlying76 (hval 1 76 v1 rfl rfl) h1
  clear hA0 hval0 hsz0 hsz
  refine (BundleNoFewer_walk A0 c0 l0 A1 c1 l1 wg a1 W C0 g0 C1 g1 w1).mono fun e W' ⟨he, bel⟩ => ?_
  subst he
  exact ⟨_, rfl, _, _, _, [], _, [], hW', trodAll_mk1 (shut_bool Try.underlying4 _), (trodAll_cons_mk (Below.trod laidOut (by kernel_rfl) (of_decide_eq_true (by kernel_rfl)) k0 bel lt0) (trodAll_cons_mk (shut_int Try.underlying76 w1) trodAll_mk0)), rfl, bel.frame _, fun h => by cases h⟩
theorem over : Rows.bundleNoFewerRow.holds Try.pinned (OpenSpec.ofChange Rows.bundleNoFewerSpec) :=
  OpenClaim.holds_of_wide 9 Try.f9 rfl rfl rfl rfl rfl rfl rfl ⟨rfl, rfl, rfl, rfl, rfl⟩ rfl rfl rfl rfl rfl (by kernel_rfl) Try.func9 (by kernel_rfl)
    (of_decide_eq_true (by kernel_rfl)) (by unfold Func.isWrapper; first | (rw [if_pos (by decide +kernel)]; kernel_rfl) | (rw [if_neg (by decide +kernel)]; exact ⟨rfl, rfl⟩))
    (fun os started H enc _ => lifted os started H enc)
theorem proved : Rows.BundleNoFewerSaid := over
end Go.Proofs.Ytnbbbeghgomnoaa.bundleNoFewer
namespace Go.Proofs.Ytnbbbeghgomnoaa
theorem bundleNoFewer_holds : Rows.BundleNoFewerSaid := bundleNoFewer.proved
#print axioms bundleNoFewer_holds
end Go.Proofs.Ytnbbbeghgomnoaa
