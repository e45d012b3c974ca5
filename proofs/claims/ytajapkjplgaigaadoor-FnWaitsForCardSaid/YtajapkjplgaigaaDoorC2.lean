/- The law 'FnWaitsFor' holds for every input: its card. No condition but the row's own. -/
import Derived.Test.YtajapkjplgaigaaDoorC20
import Derived.Test.YtajapkjplgaigaaDoorC22
import Derived.Test.YtajapkjplgaigaaDoorC2WMore
import Derived.IntWalk
import Derived.Laws.BitsLemmas
import Derived.Test.YtajapkjplgaigaaDoorC21
import Derived.Test.YtajapkjplgaigaaDoorRows
import Derived.WalkKit
import Derived.ProofKit
import Derived.OpenShut
import Derived.ShutString
import Derived.ChangeOld
import Derived.Below
import Derived.SizedLaws
import Derived.Test.YtajapkjplgaigaaDoorC2WSized
import Derived.Test.YtajapkjplgaigaaDoorCards
import Derived.Test.YtajapkjplgaigaaDoorTie
import Derived.Deep.DeepHandedRow
import Derived.Lib.LaidTab
section
namespace Go.Proofs.YtajapkjplgaigaaDoor.P
open Go.RowKit Go.Proofs.YtajapkjplgaigaaDoorW.PrintWords Go.Proofs.YtajapkjplgaigaaDoorW.PrintLast Go.Proofs.YtajapkjplgaigaaDoorW.PrintMore
attribute [local go_sem] max2_int min2_int max_two min_two max_three min_three max_four min_four   -- for this text's walks alone
set_option linter.unusedVariables false
set_option linter.unusedSimpArgs false
mutual
def laws_FnWaitsFor.j0 : Nat → List (S39) → List Int → Int → List Int → Bool → Option (Bool)
 | 0, _, _, _, _, _ => none
 | k + 1, x3, x4, x5, x6, x43 => if x43 = true then ((spec_WaitsFor.f k x3 x4 x5).bind fun t468 => ((laws_equalInts.f k x6 t468).bind fun t471 => (some t471))) else (laws_FnWaitsFor.l0 k x3 x4 x5 x6 0)
def laws_FnWaitsFor.l0 : Nat → List (S39) → List Int → Int → List Int → Int → Option (Bool)
 | 0, _, _, _, _, _ => none
 | k + 1, x3, x4, x5, x6, x7 => if x7 < (x6.length : Int) then (if 0 ≤ x5 then (if x5 < (x3.length : Int) then (if 0 ≤ x7 then ((laws_isIn.f k ((rd_T39 x3 x5).f1) (rd x6 x7)).bind fun t479 => (if t479 = true then ((laws_isIn.f k x4 (rd x6 x7)).bind fun t481 => (if t481 = true then (some false) else (laws_FnWaitsFor.l0 k x3 x4 x5 x6 (wrap64 (x7 + 1))))) else (some false))) else (none)) else (none)) else (none)) else ((laws_isIn.f k x4 x5).bind fun t472 => (if t472 = true then (some (((x6.length : Int) == 0) == true)) else ((impl_ReadyTasks.f x3 x4).bind fun t473 => ((laws_isIn.f k t473 x5).bind fun t476 => (some (((x6.length : Int) == 0) == t476))))))
end
def laws_FnWaitsFor.f (k : Nat) (l0 : List Int) : Option (Bool) := if (l0.length : Int) > 1048576 then (some true) else ((spec_DrawWaitsFor.f k l0).bind fun bt453 => ((impl_WaitsFor.f bt453.1 bt453.2.1 bt453.2.2).bind fun t460 => ((spec_WaitsFor.f k bt453.1 bt453.2.1 bt453.2.2).bind fun t463 => ((laws_equalInts.f k t460 t463).bind fun t466 => (if t466 = true then ((impl_ValidDone.f bt453.1 bt453.2.1).bind fun t467 => (if t467 = true then (if bt453.2.2 < 0 then (laws_FnWaitsFor.j0 k bt453.1 bt453.2.1 bt453.2.2 t460 true) else (laws_FnWaitsFor.j0 k bt453.1 bt453.2.1 bt453.2.2 t460 (decide (bt453.2.2 ≥ (bt453.1.length : Int))))) else (laws_FnWaitsFor.j0 k bt453.1 bt453.2.1 bt453.2.2 t460 true))) else (laws_FnWaitsFor.j0 k bt453.1 bt453.2.1 bt453.2.2 t460 true))))))
set_option maxHeartbeats 8000000 in
set_option maxRecDepth 100000 in
theorem laws_FnWaitsFor.calls (k : Nat) (A0 : Option Addr) (c0 : Nat) (l0 : List Int) (r : Bool) (w : World) (hr0 : Kd.C (Kd.int .u8) w A0 l0.length l0) (hc0 : l0.length ≤ c0) (h : laws_FnWaitsFor.f k l0 = some r) (hTab0 : TabOK w) :
  Calls Tryd.prog 4 #[.slice A0 l0.length c0] w fun e w' => e = .returned (.bool r) ∧ Below w.heap.size w w' := by
 have hTab := Aside0.mk hTab0
 clear hTab0
 have HR0 := Aside0.mk hr0
 have HC0 := Aside0.mk hc0
 clear hr0 hc0
 have HB := Aside0.mk (Below.refl w.heap.size w)
 have H : (if (l0.length : Int) > 1048576 then (some true) else ((spec_DrawWaitsFor.f k l0).bind fun bt453 => ((impl_WaitsFor.f bt453.1 bt453.2.1 bt453.2.2).bind fun t460 => ((spec_WaitsFor.f k bt453.1 bt453.2.1 bt453.2.2).bind fun t463 => ((laws_equalInts.f k t460 t463).bind fun t466 => (if t466 = true then ((impl_ValidDone.f bt453.1 bt453.2.1).bind fun t467 => (if t467 = true then (if bt453.2.2 < 0 then (laws_FnWaitsFor.j0 k bt453.1 bt453.2.1 bt453.2.2 t460 true) else (laws_FnWaitsFor.j0 k bt453.1 bt453.2.1 bt453.2.2 t460 (decide (bt453.2.2 ≥ (bt453.1.length : Int))))) else (laws_FnWaitsFor.j0 k bt453.1 bt453.2.1 bt453.2.2 t460 true))) else (laws_FnWaitsFor.j0 k bt453.1 bt453.2.1 bt453.2.2 t460 true))))))) = some r := h
 clear h
 by_cases c2 : (l0.length : Int) > 1048576
 ·rw [if_pos c2] at H
  have c2b0 : decide (1048576 < (l0.length : Int)) = true := decide_eq_true c2
  have c2b1 : decide (1048576 < l0.length) = true := decide_eq_true (by omega)
  clear c2
  obtain rfl := Option.some.inj H
  go_enter Tryd.func4, Tryd.ntmps4
  go_wp2
  repeat (go_quiet (fail); try go_wp2)
  go_ret
  exact ⟨by first | rfl | (simp [errW_none, errW_some] <;> rfl) | (simp [*, errW_none, errW_some] <;> rfl), by repeat (first | (with_reducible first | exact HB.out | apply below_alloc | apply pw_below_drewN | apply below_drew1) | exact HB.out)⟩
 ·rw [if_neg c2] at H
  have c2b0 : decide (1048576 < (l0.length : Int)) = false := decide_eq_false c2
  have c2b1 : decide (1048576 < l0.length) = false := decide_eq_false (by omega)
  clear c2
  replace H := Option.bind_eq_some_iff.mp H
  obtain ⟨⟨t453, t456, t459⟩, A30, H⟩ := H
  replace H : ((impl_WaitsFor.f t453 t456 t459).bind fun t460 => ((spec_WaitsFor.f k t453 t456 t459).bind fun t463 => ((laws_equalInts.f k t460 t463).bind fun t466 => (if t466 = true then ((impl_ValidDone.f t453 t456).bind fun t467 => (if t467 = true then (if t459 < 0 then (laws_FnWaitsFor.j0 k t453 t456 t459 t460 true) else (laws_FnWaitsFor.j0 k t453 t456 t459 t460 (decide (t459 ≥ (t453.length : Int))))) else (laws_FnWaitsFor.j0 k t453 t456 t459 t460 true))) else (laws_FnWaitsFor.j0 k t453 t456 t459 t460 true))))) = some r := H
  have A3 := Aside0.mk A30
  clear A30
  replace H := Option.bind_eq_some_iff.mp H
  obtain ⟨t460, A40, H⟩ := H
  replace H : ((spec_WaitsFor.f k t453 t456 t459).bind fun t463 => ((laws_equalInts.f k t460 t463).bind fun t466 => (if t466 = true then ((impl_ValidDone.f t453 t456).bind fun t467 => (if t467 = true then (if t459 < 0 then (laws_FnWaitsFor.j0 k t453 t456 t459 t460 true) else (laws_FnWaitsFor.j0 k t453 t456 t459 t460 (decide (t459 ≥ (t453.length : Int))))) else (laws_FnWaitsFor.j0 k t453 t456 t459 t460 true))) else (laws_FnWaitsFor.j0 k t453 t456 t459 t460 true)))) = some r := H
  have A4 := Aside0.mk A40
  clear A40
  have HC5 := Aside0.mk H
  clear H
  go_enter Tryd.func4, Tryd.ntmps4
  go_upto_region 5 with (first | (go_at_call 17; (with_reducible refine (spec_DrawWaitsFor.calls k _ _ l0 t453 t456 t459 _ ?side1 ?side2 A3.out).mono ?_); (case side1 => repeat (first | exact HR0.out | (with_reducible refine Kd.C_alloc ?_ _) | (with_reducible refine Kd.C_drewN ?_ _) | (with_reducible refine Kd.C_drew ?_))); (case side2 => exact HC0.out); rintro e w6 ⟨v454, v457, rfl, ho0, ho1, hb⟩; have n0_ := Aside0.mk (Kd.N_lower (Kd.N_mono (ok' := fun k_ => some k_ ≠ (v457 : Value).ownBlock) ho0 (fun k_ hk_ => hk_.2)) (below_size (by repeat (first | (with_reducible first | exact HB.out | apply below_alloc | apply pw_below_drewN | apply below_drew1) | exact HB.out)))); have n1_ := Aside0.mk (Kd.Q_lower (Kd.Q_mono (ok' := fun k_ => True) ho1 (fun _ hk_ => trivial)) (below_size (by repeat (first | (with_reducible first | exact HB.out | apply below_alloc | apply pw_below_drewN | apply below_drew1) | exact HB.out)))); have n2_ := Aside0.mk (below_step (by repeat (first | (with_reducible first | exact HB.out | apply below_alloc | apply pw_below_drewN | apply below_drew1) | exact HB.out)) hb); clear HB; have HO455 := n0_; have HO458 := n1_; have HB := n2_; clear n0_ n1_ n2_; (try clear hb); (try clear hb2); (try clear hk); (try clear hi); (try clear ho0); (try clear ho1); obtain ⟨Ao7, co7, eo7⟩ := Kd.N_slice HO455.out; subst eo7; obtain ⟨Ao8, co8, eo8, _⟩ := Kd.Q_slice HO458.out; subst eo8) | (go_at_call 18; (with_reducible refine (impl_WaitsFor.calls _ _ t453 _ _ t456 t459 t460 _ ?side1 ?side2 ?side3 ?side4 A4.out ?sideTab).mono ?_); (case sideTab => exact TabOK.below hTab.out (by repeat (first | (with_reducible first | exact HB.out | apply below_alloc | apply pw_below_drewN | apply below_drew1) | exact HB.out))); (case side1 => repeat (first | exact (Kd.N_reads' HO455.out).2.2 | (with_reducible refine Kd.C_alloc ?_ _) | (with_reducible refine Kd.C_drewN ?_ _) | (with_reducible refine Kd.C_drew ?_))); (case side2 => exact (Kd.N_reads' HO455.out).2.1); (case side3 => repeat (first | exact (Kd.Q_reads' HO458.out).2.2 | (with_reducible refine Kd.C_alloc ?_ _) | (with_reducible refine Kd.C_drewN ?_ _) | (with_reducible refine Kd.C_drew ?_))); (case side4 => exact (Kd.Q_reads' HO458.out).2.1); rintro e w9 ⟨v461, rfl, ho0, hb⟩; have n0_ := Aside0.mk (Kd.N_elder' (by (with_reducible repeat (first | apply Kd.N_alloc | apply Kd.N_drewN | apply Kd.N_drew)); exact HO455.out) (Kd.R_base ho0) hb); have n1_ := Aside0.mk (Kd.Q_elder' (by (with_reducible repeat (first | apply Kd.Q_alloc | apply Kd.Q_drewN | apply Kd.Q_drew)); exact HO458.out) (Kd.R_base ho0) hb); have n2_ := Aside0.mk (Kd.R_lower (Kd.R_new' ho0 (Kd.Q_lt (by (with_reducible repeat (first | apply Kd.Q_alloc | apply Kd.Q_drewN | apply Kd.Q_drew)); exact HO458.out))) (below_size (by repeat (first | (with_reducible first | exact HB.out | apply below_alloc | apply pw_below_drewN | apply below_drew1) | exact HB.out)))); have n3_ := Aside0.mk (below_step (by repeat (first | (with_reducible first | exact HB.out | apply below_alloc | apply pw_below_drewN | apply below_drew1) | exact HB.out)) hb); clear HO455; clear HO458; clear HB; have HO455 := n0_; have HO458 := n1_; have HO462 := n2_; have HB := n3_; clear n0_ n1_ n2_ n3_; (try clear hb); (try clear hb2); (try clear hk); (try clear hi); (try clear ho0)))
  repeat (go_quiet (first | (go_at_call 17; (with_reducible refine (spec_DrawWaitsFor.calls k _ _ l0 t453 t456 t459 _ ?side1 ?side2 A3.out).mono ?_); (case side1 => repeat (first | exact HR0.out | (with_reducible refine Kd.C_alloc ?_ _) | (with_reducible refine Kd.C_drewN ?_ _) | (with_reducible refine Kd.C_drew ?_))); (case side2 => exact HC0.out); rintro e w6 ⟨v454, v457, rfl, ho0, ho1, hb⟩; have n0_ := Aside0.mk (Kd.N_lower (Kd.N_mono (ok' := fun k_ => some k_ ≠ (v457 : Value).ownBlock) ho0 (fun k_ hk_ => hk_.2)) (below_size (by repeat (first | (with_reducible first | exact HB.out | apply below_alloc | apply pw_below_drewN | apply below_drew1) | exact HB.out)))); have n1_ := Aside0.mk (Kd.Q_lower (Kd.Q_mono (ok' := fun k_ => True) ho1 (fun _ hk_ => trivial)) (below_size (by repeat (first | (with_reducible first | exact HB.out | apply below_alloc | apply pw_below_drewN | apply below_drew1) | exact HB.out)))); have n2_ := Aside0.mk (below_step (by repeat (first | (with_reducible first | exact HB.out | apply below_alloc | apply pw_below_drewN | apply below_drew1) | exact HB.out)) hb); clear HB; have HO455 := n0_; have HO458 := n1_; have HB := n2_; clear n0_ n1_ n2_; (try clear hb); (try clear hb2); (try clear hk); (try clear hi); (try clear ho0); (try clear ho1); obtain ⟨Ao7, co7, eo7⟩ := Kd.N_slice HO455.out; subst eo7; obtain ⟨Ao8, co8, eo8, _⟩ := Kd.Q_slice HO458.out; subst eo8) | (go_at_call 18; (with_reducible refine (impl_WaitsFor.calls _ _ t453 _ _ t456 t459 t460 _ ?side1 ?side2 ?side3 ?side4 A4.out ?sideTab).mono ?_); (case sideTab => exact TabOK.below hTab.out (by repeat (first | (with_reducible first | exact HB.out | apply below_alloc | apply pw_below_drewN | apply below_drew1) | exact HB.out))); (case side1 => repeat (first | exact (Kd.N_reads' HO455.out).2.2 | (with_reducible refine Kd.C_alloc ?_ _) | (with_reducible refine Kd.C_drewN ?_ _) | (with_reducible refine Kd.C_drew ?_))); (case side2 => exact (Kd.N_reads' HO455.out).2.1); (case side3 => repeat (first | exact (Kd.Q_reads' HO458.out).2.2 | (with_reducible refine Kd.C_alloc ?_ _) | (with_reducible refine Kd.C_drewN ?_ _) | (with_reducible refine Kd.C_drew ?_))); (case side4 => exact (Kd.Q_reads' HO458.out).2.1); rintro e w9 ⟨v461, rfl, ho0, hb⟩; have n0_ := Aside0.mk (Kd.N_elder' (by (with_reducible repeat (first | apply Kd.N_alloc | apply Kd.N_drewN | apply Kd.N_drew)); exact HO455.out) (Kd.R_base ho0) hb); have n1_ := Aside0.mk (Kd.Q_elder' (by (with_reducible repeat (first | apply Kd.Q_alloc | apply Kd.Q_drewN | apply Kd.Q_drew)); exact HO458.out) (Kd.R_base ho0) hb); have n2_ := Aside0.mk (Kd.R_lower (Kd.R_new' ho0 (Kd.Q_lt (by (with_reducible repeat (first | apply Kd.Q_alloc | apply Kd.Q_drewN | apply Kd.Q_drew)); exact HO458.out))) (below_size (by repeat (first | (with_reducible first | exact HB.out | apply below_alloc | apply pw_below_drewN | apply below_drew1) | exact HB.out)))); have n3_ := Aside0.mk (below_step (by repeat (first | (with_reducible first | exact HB.out | apply below_alloc | apply pw_below_drewN | apply below_drew1) | exact HB.out)) hb); clear HO455; clear HO458; clear HB; have HO455 := n0_; have HO458 := n1_; have HO462 := n2_; have HB := n3_; clear n0_ n1_ n2_ n3_; (try clear hb); (try clear hb2); (try clear hk); (try clear hi); (try clear ho0))); go_upto_region 5 with (first | (go_at_call 17; (with_reducible refine (spec_DrawWaitsFor.calls k _ _ l0 t453 t456 t459 _ ?side1 ?side2 A3.out).mono ?_); (case side1 => repeat (first | exact HR0.out | (with_reducible refine Kd.C_alloc ?_ _) | (with_reducible refine Kd.C_drewN ?_ _) | (with_reducible refine Kd.C_drew ?_))); (case side2 => exact HC0.out); rintro e w6 ⟨v454, v457, rfl, ho0, ho1, hb⟩; have n0_ := Aside0.mk (Kd.N_lower (Kd.N_mono (ok' := fun k_ => some k_ ≠ (v457 : Value).ownBlock) ho0 (fun k_ hk_ => hk_.2)) (below_size (by repeat (first | (with_reducible first | exact HB.out | apply below_alloc | apply pw_below_drewN | apply below_drew1) | exact HB.out)))); have n1_ := Aside0.mk (Kd.Q_lower (Kd.Q_mono (ok' := fun k_ => True) ho1 (fun _ hk_ => trivial)) (below_size (by repeat (first | (with_reducible first | exact HB.out | apply below_alloc | apply pw_below_drewN | apply below_drew1) | exact HB.out)))); have n2_ := Aside0.mk (below_step (by repeat (first | (with_reducible first | exact HB.out | apply below_alloc | apply pw_below_drewN | apply below_drew1) | exact HB.out)) hb); clear HB; have HO455 := n0_; have HO458 := n1_; have HB := n2_; clear n0_ n1_ n2_; (try clear hb); (try clear hb2); (try clear hk); (try clear hi); (try clear ho0); (try clear ho1); obtain ⟨Ao7, co7, eo7⟩ := Kd.N_slice HO455.out; subst eo7; obtain ⟨Ao8, co8, eo8, _⟩ := Kd.Q_slice HO458.out; subst eo8) | (go_at_call 18; (with_reducible refine (impl_WaitsFor.calls _ _ t453 _ _ t456 t459 t460 _ ?side1 ?side2 ?side3 ?side4 A4.out ?sideTab).mono ?_); (case sideTab => exact TabOK.below hTab.out (by repeat (first | (with_reducible first | exact HB.out | apply below_alloc | apply pw_below_drewN | apply below_drew1) | exact HB.out))); (case side1 => repeat (first | exact (Kd.N_reads' HO455.out).2.2 | (with_reducible refine Kd.C_alloc ?_ _) | (with_reducible refine Kd.C_drewN ?_ _) | (with_reducible refine Kd.C_drew ?_))); (case side2 => exact (Kd.N_reads' HO455.out).2.1); (case side3 => repeat (first | exact (Kd.Q_reads' HO458.out).2.2 | (with_reducible refine Kd.C_alloc ?_ _) | (with_reducible refine Kd.C_drewN ?_ _) | (with_reducible refine Kd.C_drew ?_))); (case side4 => exact (Kd.Q_reads' HO458.out).2.1); rintro e w9 ⟨v461, rfl, ho0, hb⟩; have n0_ := Aside0.mk (Kd.N_elder' (by (with_reducible repeat (first | apply Kd.N_alloc | apply Kd.N_drewN | apply Kd.N_drew)); exact HO455.out) (Kd.R_base ho0) hb); have n1_ := Aside0.mk (Kd.Q_elder' (by (with_reducible repeat (first | apply Kd.Q_alloc | apply Kd.Q_drewN | apply Kd.Q_drew)); exact HO458.out) (Kd.R_base ho0) hb); have n2_ := Aside0.mk (Kd.R_lower (Kd.R_new' ho0 (Kd.Q_lt (by (with_reducible repeat (first | apply Kd.Q_alloc | apply Kd.Q_drewN | apply Kd.Q_drew)); exact HO458.out))) (below_size (by repeat (first | (with_reducible first | exact HB.out | apply below_alloc | apply pw_below_drewN | apply below_drew1) | exact HB.out)))); have n3_ := Aside0.mk (below_step (by repeat (first | (with_reducible first | exact HB.out | apply below_alloc | apply pw_below_drewN | apply below_drew1) | exact HB.out)) hb); clear HO455; clear HO458; clear HB; have HO455 := n0_; have HO458 := n1_; have HO462 := n2_; have HB := n3_; clear n0_ n1_ n2_ n3_; (try clear hb); (try clear hb2); (try clear hk); (try clear hi); (try clear ho0))))
  (try simp only [Act.put, List.setIfInBounds_toArray, List.set_cons_zero, List.set_cons_succ])
  go_cut [43] (fun v43 wc => ∃ (kq : Nat) (x43_4 : Bool), v43 = .bool x43_4 ∧ Aside0 (laws_FnWaitsFor.j0 kq t453 t456 t459 t460 x43_4 = some r) ∧ Aside0 (kq ≤ k) ∧ Aside0 (Kd.N k39 39 wc w.heap.size (fun k_ => some k_ ≠ ((.slice Ao8 t456.length co8) : Value).ownBlock ∧ some k_ ≠ (v461 : Value).ownBlock) (.slice Ao7 t453.length co7) t453) ∧ Aside0 (Kd.Q (Kd.int .i64) 3 wc w.heap.size (fun k_ => some k_ ≠ (v461 : Value).ownBlock) (.slice Ao8 t456.length co8) t456) ∧ Aside0 (Kd.R (Kd.int .i64) 3 wc w.heap.size (fun k_ => some k_ ≠ ((.slice Ao8 t456.length co8) : Value).ownBlock) v461 t460) ∧ Aside0 (Below w.heap.size w wc))
  case first =>
   have H := HC5.out
   clear HC5
   replace H := Option.bind_eq_some_iff.mp H
   obtain ⟨t463, A100, H⟩ := H
   replace H : ((laws_equalInts.f k t460 t463).bind fun t466 => (if t466 = true then ((impl_ValidDone.f t453 t456).bind fun t467 => (if t467 = true then (if t459 < 0 then (laws_FnWaitsFor.j0 k t453 t456 t459 t460 true) else (laws_FnWaitsFor.j0 k t453 t456 t459 t460 (decide (t459 ≥ (t453.length : Int))))) else (laws_FnWaitsFor.j0 k t453 t456 t459 t460 true))) else (laws_FnWaitsFor.j0 k t453 t456 t459 t460 true))) = some r := H
   have A10 := Aside0.mk A100
   clear A100
   replace H := Option.bind_eq_some_iff.mp H
   obtain ⟨t466, A110, H⟩ := H
   replace H : (if t466 = true then ((impl_ValidDone.f t453 t456).bind fun t467 => (if t467 = true then (if t459 < 0 then (laws_FnWaitsFor.j0 k t453 t456 t459 t460 true) else (laws_FnWaitsFor.j0 k t453 t456 t459 t460 (decide (t459 ≥ (t453.length : Int))))) else (laws_FnWaitsFor.j0 k t453 t456 t459 t460 true))) else (laws_FnWaitsFor.j0 k t453 t456 t459 t460 true)) = some r := H
   have A11 := Aside0.mk A110
   clear A110
   by_cases c12 : t466 = true
   ·subst c12
    have H1 : ((impl_ValidDone.f t453 t456).bind fun t467 => (if t467 = true then (if t459 < 0 then (laws_FnWaitsFor.j0 k t453 t456 t459 t460 true) else (laws_FnWaitsFor.j0 k t453 t456 t459 t460 (decide (t459 ≥ (t453.length : Int))))) else (laws_FnWaitsFor.j0 k t453 t456 t459 t460 true))) = some r := by rw [if_pos rfl] at H; exact H
    clear H
    have H := H1
    clear H1
    replace H := Option.bind_eq_some_iff.mp H
    obtain ⟨t467, A130, H⟩ := H
    replace H : (if t467 = true then (if t459 < 0 then (laws_FnWaitsFor.j0 k t453 t456 t459 t460 true) else (laws_FnWaitsFor.j0 k t453 t456 t459 t460 (decide (t459 ≥ (t453.length : Int))))) else (laws_FnWaitsFor.j0 k t453 t456 t459 t460 true)) = some r := H
    have A13 := Aside0.mk A130
    clear A130
    by_cases c14 : t467 = true
    ·subst c14
     have H1 : (if t459 < 0 then (laws_FnWaitsFor.j0 k t453 t456 t459 t460 true) else (laws_FnWaitsFor.j0 k t453 t456 t459 t460 (decide (t459 ≥ (t453.length : Int))))) = some r := by rw [if_pos rfl] at H; exact H
     clear H
     have H := H1
     clear H1
     by_cases c15 : t459 < 0
     ·rw [if_pos c15] at H
      have c15b0 : decide (t459 < 0) = true := decide_eq_true c15
      clear c15
      (first | rw [c15b0] | (simp only [i64_w, i32_w]; rw [c15b0]) | skip)
      have H' := Aside0.mk H
      clear H
      go_wp2_with (first | (go_at_call 20; (with_reducible refine (spec_WaitsFor.calls k _ _ t453 _ _ t456 t459 t463 _ ?side1 ?side2 ?side3 ?side4 A10.out).mono ?_); (case side1 => repeat (first | exact (Kd.N_reads' HO455.out).2.2 | (with_reducible refine Kd.C_alloc ?_ _) | (with_reducible refine Kd.C_drewN ?_ _) | (with_reducible refine Kd.C_drew ?_))); (case side2 => exact (Kd.N_reads' HO455.out).2.1); (case side3 => repeat (first | exact (Kd.Q_reads' HO458.out).2.2 | (with_reducible refine Kd.C_alloc ?_ _) | (with_reducible refine Kd.C_drewN ?_ _) | (with_reducible refine Kd.C_drew ?_))); (case side4 => exact (Kd.Q_reads' HO458.out).2.1); rintro e w16 ⟨v464, rfl, ho0, hb⟩; have n0_ := Aside0.mk (Kd.N_elder' (by (with_reducible repeat (first | apply Kd.N_alloc | apply Kd.N_drewN | apply Kd.N_drew)); exact HO455.out) (Kd.R_base ho0) hb); have n1_ := Aside0.mk (Kd.Q_elder' (by (with_reducible repeat (first | apply Kd.Q_alloc | apply Kd.Q_drewN | apply Kd.Q_drew)); exact HO458.out) (Kd.R_base ho0) hb); have n2_ := Aside0.mk (Kd.R_elder' (by (with_reducible repeat (first | apply Kd.R_alloc | apply Kd.R_drewN | apply Kd.R_drew)); exact HO462.out) (Kd.R_base ho0) hb); have n3_ := Aside0.mk (Kd.R_lower (Kd.R_new' (Kd.R_new' ho0 (Kd.Q_lt (by (with_reducible repeat (first | apply Kd.Q_alloc | apply Kd.Q_drewN | apply Kd.Q_drew)); exact HO458.out))) (Kd.R_lt (by (with_reducible repeat (first | apply Kd.R_alloc | apply Kd.R_drewN | apply Kd.R_drew)); exact HO462.out))) (below_size (by repeat (first | (with_reducible first | exact HB.out | apply below_alloc | apply pw_below_drewN | apply below_drew1) | exact HB.out)))); have n4_ := Aside0.mk (below_step (by repeat (first | (with_reducible first | exact HB.out | apply below_alloc | apply pw_below_drewN | apply below_drew1) | exact HB.out)) hb); clear HO455; clear HO458; clear HO462; clear HB; have HO455 := n0_; have HO458 := n1_; have HO462 := n2_; have HO465 := n3_; have HB := n4_; clear n0_ n1_ n2_ n3_ n4_; (try clear hb); (try clear hb2); (try clear hk); (try clear hi); (try clear ho0); obtain ⟨Ao17, co17, eo17⟩ := Kd.R_slice HO462.out; subst eo17; obtain ⟨Ao18, co18, eo18⟩ := Kd.R_slice HO465.out; subst eo18) | (go_at_call 19; (with_reducible refine (laws_equalInts.calls k _ _ t460 _ _ t463 true _ ?side1 ?side2 ?side3 ?side4 A11.out).mono ?_); (case side1 => repeat (first | exact (Kd.R_reads' HO462.out).2.2 | (with_reducible refine Kd.C_alloc ?_ _) | (with_reducible refine Kd.C_drewN ?_ _) | (with_reducible refine Kd.C_drew ?_))); (case side2 => exact (Kd.R_reads' HO462.out).2.1); (case side3 => repeat (first | exact (Kd.R_reads' HO465.out).2.2 | (with_reducible refine Kd.C_alloc ?_ _) | (with_reducible refine Kd.C_drewN ?_ _) | (with_reducible refine Kd.C_drew ?_))); (case side4 => exact (Kd.R_reads' HO465.out).2.1); rintro e w' ⟨rfl, ⟨nd, rfl⟩⟩; (try first | exact ⟨rfl, _, World.drewN_drewN _ _ _⟩ | exact ⟨rfl, _, Eq.trans (World.drewN_drewN _ _ _) (congrArg (World.drewN _) (Nat.add_assoc _ _ _))⟩)) | (go_at_call 21; (with_reducible refine (impl_ValidDone.calls _ _ t453 _ _ t456 true _ ?side1 ?side2 ?side3 ?side4 A13.out ?sideTab).mono ?_); (case sideTab => exact TabOK.below hTab.out (by repeat (first | (with_reducible first | exact HB.out | apply below_alloc | apply pw_below_drewN | apply below_drew1) | exact HB.out))); (case side1 => repeat (first | exact (Kd.N_reads' HO455.out).2.2 | (with_reducible refine Kd.C_alloc ?_ _) | (with_reducible refine Kd.C_drewN ?_ _) | (with_reducible refine Kd.C_drew ?_))); (case side2 => exact (Kd.N_reads' HO455.out).2.1); (case side3 => repeat (first | exact (Kd.Q_reads' HO458.out).2.2 | (with_reducible refine Kd.C_alloc ?_ _) | (with_reducible refine Kd.C_drewN ?_ _) | (with_reducible refine Kd.C_drew ?_))); (case side4 => exact (Kd.Q_reads' HO458.out).2.1); rintro e w19 ⟨rfl, hb⟩; have n0_ := Aside0.mk (Kd.N_below (by (with_reducible repeat (first | apply Kd.N_alloc | apply Kd.N_drewN | apply Kd.N_drew)); exact HO455.out) hb); have n1_ := Aside0.mk (Kd.Q_below (by (with_reducible repeat (first | apply Kd.Q_alloc | apply Kd.Q_drewN | apply Kd.Q_drew)); exact HO458.out) hb); have n2_ := Aside0.mk (Kd.R_below (by (with_reducible repeat (first | apply Kd.R_alloc | apply Kd.R_drewN | apply Kd.R_drew)); exact HO462.out) hb); have n3_ := Aside0.mk (Kd.R_below (by (with_reducible repeat (first | apply Kd.R_alloc | apply Kd.R_drewN | apply Kd.R_drew)); exact HO465.out) hb); have n4_ := Aside0.mk (below_step (by repeat (first | (with_reducible first | exact HB.out | apply below_alloc | apply pw_below_drewN | apply below_drew1) | exact HB.out)) hb); clear HO455; clear HO458; clear HO462; clear HO465; clear HB; have HO455 := n0_; have HO458 := n1_; have HO462 := n2_; have HO465 := n3_; have HB := n4_; clear n0_ n1_ n2_ n3_ n4_; (try clear hb); (try clear hb2); (try clear hk); (try clear hi)))
      repeat (go_quiet (first | (go_at_call 20; (with_reducible refine (spec_WaitsFor.calls k _ _ t453 _ _ t456 t459 t463 _ ?side1 ?side2 ?side3 ?side4 A10.out).mono ?_); (case side1 => repeat (first | exact (Kd.N_reads' HO455.out).2.2 | (with_reducible refine Kd.C_alloc ?_ _) | (with_reducible refine Kd.C_drewN ?_ _) | (with_reducible refine Kd.C_drew ?_))); (case side2 => exact (Kd.N_reads' HO455.out).2.1); (case side3 => repeat (first | exact (Kd.Q_reads' HO458.out).2.2 | (with_reducible refine Kd.C_alloc ?_ _) | (with_reducible refine Kd.C_drewN ?_ _) | (with_reducible refine Kd.C_drew ?_))); (case side4 => exact (Kd.Q_reads' HO458.out).2.1); rintro e w16 ⟨v464, rfl, ho0, hb⟩; have n0_ := Aside0.mk (Kd.N_elder' (by (with_reducible repeat (first | apply Kd.N_alloc | apply Kd.N_drewN | apply Kd.N_drew)); exact HO455.out) (Kd.R_base ho0) hb); have n1_ := Aside0.mk (Kd.Q_elder' (by (with_reducible repeat (first | apply Kd.Q_alloc | apply Kd.Q_drewN | apply Kd.Q_drew)); exact HO458.out) (Kd.R_base ho0) hb); have n2_ := Aside0.mk (Kd.R_elder' (by (with_reducible repeat (first | apply Kd.R_alloc | apply Kd.R_drewN | apply Kd.R_drew)); exact HO462.out) (Kd.R_base ho0) hb); have n3_ := Aside0.mk (Kd.R_lower (Kd.R_new' (Kd.R_new' ho0 (Kd.Q_lt (by (with_reducible repeat (first | apply Kd.Q_alloc | apply Kd.Q_drewN | apply Kd.Q_drew)); exact HO458.out))) (Kd.R_lt (by (with_reducible repeat (first | apply Kd.R_alloc | apply Kd.R_drewN | apply Kd.R_drew)); exact HO462.out))) (below_size (by repeat (first | (with_reducible first | exact HB.out | apply below_alloc | apply pw_below_drewN | apply below_drew1) | exact HB.out)))); have n4_ := Aside0.mk (below_step (by repeat (first | (with_reducible first | exact HB.out | apply below_alloc | apply pw_below_drewN | apply below_drew1) | exact HB.out)) hb); clear HO455; clear HO458; clear HO462; clear HB; have HO455 := n0_; have HO458 := n1_; have HO462 := n2_; have HO465 := n3_; have HB := n4_; clear n0_ n1_ n2_ n3_ n4_; (try clear hb); (try clear hb2); (try clear hk); (try clear hi); (try clear ho0); obtain ⟨Ao17, co17, eo17⟩ := Kd.R_slice HO462.out; subst eo17; obtain ⟨Ao18, co18, eo18⟩ := Kd.R_slice HO465.out; subst eo18) | (go_at_call 19; (with_reducible refine (laws_equalInts.calls k _ _ t460 _ _ t463 true _ ?side1 ?side2 ?side3 ?side4 A11.out).mono ?_); (case side1 => repeat (first | exact (Kd.R_reads' HO462.out).2.2 | (with_reducible refine Kd.C_alloc ?_ _) | (with_reducible refine Kd.C_drewN ?_ _) | (with_reducible refine Kd.C_drew ?_))); (case side2 => exact (Kd.R_reads' HO462.out).2.1); (case side3 => repeat (first | exact (Kd.R_reads' HO465.out).2.2 | (with_reducible refine Kd.C_alloc ?_ _) | (with_reducible refine Kd.C_drewN ?_ _) | (with_reducible refine Kd.C_drew ?_))); (case side4 => exact (Kd.R_reads' HO465.out).2.1); rintro e w' ⟨rfl, ⟨nd, rfl⟩⟩; (try first | exact ⟨rfl, _, World.drewN_drewN _ _ _⟩ | exact ⟨rfl, _, Eq.trans (World.drewN_drewN _ _ _) (congrArg (World.drewN _) (Nat.add_assoc _ _ _))⟩)) | (go_at_call 21; (with_reducible refine (impl_ValidDone.calls _ _ t453 _ _ t456 true _ ?side1 ?side2 ?side3 ?side4 A13.out ?sideTab).mono ?_); (case sideTab => exact TabOK.below hTab.out (by repeat (first | (with_reducible first | exact HB.out | apply below_alloc | apply pw_below_drewN | apply below_drew1) | exact HB.out))); (case side1 => repeat (first | exact (Kd.N_reads' HO455.out).2.2 | (with_reducible refine Kd.C_alloc ?_ _) | (with_reducible refine Kd.C_drewN ?_ _) | (with_reducible refine Kd.C_drew ?_))); (case side2 => exact (Kd.N_reads' HO455.out).2.1); (case side3 => repeat (first | exact (Kd.Q_reads' HO458.out).2.2 | (with_reducible refine Kd.C_alloc ?_ _) | (with_reducible refine Kd.C_drewN ?_ _) | (with_reducible refine Kd.C_drew ?_))); (case side4 => exact (Kd.Q_reads' HO458.out).2.1); rintro e w19 ⟨rfl, hb⟩; have n0_ := Aside0.mk (Kd.N_below (by (with_reducible repeat (first | apply Kd.N_alloc | apply Kd.N_drewN | apply Kd.N_drew)); exact HO455.out) hb); have n1_ := Aside0.mk (Kd.Q_below (by (with_reducible repeat (first | apply Kd.Q_alloc | apply Kd.Q_drewN | apply Kd.Q_drew)); exact HO458.out) hb); have n2_ := Aside0.mk (Kd.R_below (by (with_reducible repeat (first | apply Kd.R_alloc | apply Kd.R_drewN | apply Kd.R_drew)); exact HO462.out) hb); have n3_ := Aside0.mk (Kd.R_below (by (with_reducible repeat (first | apply Kd.R_alloc | apply Kd.R_drewN | apply Kd.R_drew)); exact HO465.out) hb); have n4_ := Aside0.mk (below_step (by repeat (first | (with_reducible first | exact HB.out | apply below_alloc | apply pw_below_drewN | apply below_drew1) | exact HB.out)) hb); clear HO455; clear HO458; clear HO462; clear HO465; clear HB; have HO455 := n0_; have HO458 := n1_; have HO462 := n2_; have HO465 := n3_; have HB := n4_; clear n0_ n1_ n2_ n3_ n4_; (try clear hb); (try clear hb2); (try clear hk); (try clear hi))); try go_wp2_with (first | (go_at_call 20; (with_reducible refine (spec_WaitsFor.calls k _ _ t453 _ _ t456 t459 t463 _ ?side1 ?side2 ?side3 ?side4 A10.out).mono ?_); (case side1 => repeat (first | exact (Kd.N_reads' HO455.out).2.2 | (with_reducible refine Kd.C_alloc ?_ _) | (with_reducible refine Kd.C_drewN ?_ _) | (with_reducible refine Kd.C_drew ?_))); (case side2 => exact (Kd.N_reads' HO455.out).2.1); (case side3 => repeat (first | exact (Kd.Q_reads' HO458.out).2.2 | (with_reducible refine Kd.C_alloc ?_ _) | (with_reducible refine Kd.C_drewN ?_ _) | (with_reducible refine Kd.C_drew ?_))); (case side4 => exact (Kd.Q_reads' HO458.out).2.1); rintro e w16 ⟨v464, rfl, ho0, hb⟩; have n0_ := Aside0.mk (Kd.N_elder' (by (with_reducible repeat (first | apply Kd.N_alloc | apply Kd.N_drewN | apply Kd.N_drew)); exact HO455.out) (Kd.R_base ho0) hb); have n1_ := Aside0.mk (Kd.Q_elder' (by (with_reducible repeat (first | apply Kd.Q_alloc | apply Kd.Q_drewN | apply Kd.Q_drew)); exact HO458.out) (Kd.R_base ho0) hb); have n2_ := Aside0.mk (Kd.R_elder' (by (with_reducible repeat (first | apply Kd.R_alloc | apply Kd.R_drewN | apply Kd.R_drew)); exact HO462.out) (Kd.R_base ho0) hb); have n3_ := Aside0.mk (Kd.R_lower (Kd.R_new' (Kd.R_new' ho0 (Kd.Q_lt (by (with_reducible repeat (first | apply Kd.Q_alloc | apply Kd.Q_drewN | apply Kd.Q_drew)); exact HO458.out))) (Kd.R_lt (by (with_reducible repeat (first | apply Kd.R_alloc | apply Kd.R_drewN | apply Kd.R_drew)); exact HO462.out))) (below_size (by repeat (first | (with_reducible first | exact HB.out | apply below_alloc | apply pw_below_drewN | apply below_drew1) | exact HB.out)))); have n4_ := Aside0.mk (below_step (by repeat (first | (with_reducible first | exact HB.out | apply below_alloc | apply pw_below_drewN | apply below_drew1) | exact HB.out)) hb); clear HO455; clear HO458; clear HO462; clear HB; have HO455 := n0_; have HO458 := n1_; have HO462 := n2_; have HO465 := n3_; have HB := n4_; clear n0_ n1_ n2_ n3_ n4_; (try clear hb); (try clear hb2); (try clear hk); (try clear hi); (try clear ho0); obtain ⟨Ao17, co17, eo17⟩ := Kd.R_slice HO462.out; subst eo17; obtain ⟨Ao18, co18, eo18⟩ := Kd.R_slice HO465.out; subst eo18) | (go_at_call 19; (with_reducible refine (laws_equalInts.calls k _ _ t460 _ _ t463 true _ ?side1 ?side2 ?side3 ?side4 A11.out).mono ?_); (case side1 => repeat (first | exact (Kd.R_reads' HO462.out).2.2 | (with_reducible refine Kd.C_alloc ?_ _) | (with_reducible refine Kd.C_drewN ?_ _) | (with_reducible refine Kd.C_drew ?_))); (case side2 => exact (Kd.R_reads' HO462.out).2.1); (case side3 => repeat (first | exact (Kd.R_reads' HO465.out).2.2 | (with_reducible refine Kd.C_alloc ?_ _) | (with_reducible refine Kd.C_drewN ?_ _) | (with_reducible refine Kd.C_drew ?_))); (case side4 => exact (Kd.R_reads' HO465.out).2.1); rintro e w' ⟨rfl, ⟨nd, rfl⟩⟩; (try first | exact ⟨rfl, _, World.drewN_drewN _ _ _⟩ | exact ⟨rfl, _, Eq.trans (World.drewN_drewN _ _ _) (congrArg (World.drewN _) (Nat.add_assoc _ _ _))⟩)) | (go_at_call 21; (with_reducible refine (impl_ValidDone.calls _ _ t453 _ _ t456 true _ ?side1 ?side2 ?side3 ?side4 A13.out ?sideTab).mono ?_); (case sideTab => exact TabOK.below hTab.out (by repeat (first | (with_reducible first | exact HB.out | apply below_alloc | apply pw_below_drewN | apply below_drew1) | exact HB.out))); (case side1 => repeat (first | exact (Kd.N_reads' HO455.out).2.2 | (with_reducible refine Kd.C_alloc ?_ _) | (with_reducible refine Kd.C_drewN ?_ _) | (with_reducible refine Kd.C_drew ?_))); (case side2 => exact (Kd.N_reads' HO455.out).2.1); (case side3 => repeat (first | exact (Kd.Q_reads' HO458.out).2.2 | (with_reducible refine Kd.C_alloc ?_ _) | (with_reducible refine Kd.C_drewN ?_ _) | (with_reducible refine Kd.C_drew ?_))); (case side4 => exact (Kd.Q_reads' HO458.out).2.1); rintro e w19 ⟨rfl, hb⟩; have n0_ := Aside0.mk (Kd.N_below (by (with_reducible repeat (first | apply Kd.N_alloc | apply Kd.N_drewN | apply Kd.N_drew)); exact HO455.out) hb); have n1_ := Aside0.mk (Kd.Q_below (by (with_reducible repeat (first | apply Kd.Q_alloc | apply Kd.Q_drewN | apply Kd.Q_drew)); exact HO458.out) hb); have n2_ := Aside0.mk (Kd.R_below (by (with_reducible repeat (first | apply Kd.R_alloc | apply Kd.R_drewN | apply Kd.R_drew)); exact HO462.out) hb); have n3_ := Aside0.mk (Kd.R_below (by (with_reducible repeat (first | apply Kd.R_alloc | apply Kd.R_drewN | apply Kd.R_drew)); exact HO465.out) hb); have n4_ := Aside0.mk (below_step (by repeat (first | (with_reducible first | exact HB.out | apply below_alloc | apply pw_below_drewN | apply below_drew1) | exact HB.out)) hb); clear HO455; clear HO458; clear HO462; clear HO465; clear HB; have HO455 := n0_; have HO458 := n1_; have HO462 := n2_; have HO465 := n3_; have HB := n4_; clear n0_ n1_ n2_ n3_ n4_; (try clear hb); (try clear hb2); (try clear hk); (try clear hi))))
      go_meet
      case rel => exact ⟨_, (true), (by first | rfl | (simp; done) | (simp [*]; done)), H', ⟨by first | omega | exact Nat.le_refl _⟩, ⟨by (with_reducible repeat (first | apply Kd.N_alloc | apply Kd.N_drewN | apply Kd.N_drew)); exact Kd.N_mono HO455.out (fun _ hk => ⟨hk.1.1, hk.1.2⟩)⟩, ⟨by (with_reducible repeat (first | apply Kd.Q_alloc | apply Kd.Q_drewN | apply Kd.Q_drew)); exact Kd.Q_mono HO458.out (fun _ hk => hk.1.2)⟩, ⟨by (with_reducible repeat (first | apply Kd.R_alloc | apply Kd.R_drewN | apply Kd.R_drew)); exact Kd.R_mono HO462.out (fun _ hk => hk.1.2)⟩, ⟨by repeat (first | (with_reducible first | exact HB.out | apply below_alloc | apply pw_below_drewN | apply below_drew1) | exact HB.out)⟩⟩
     ·rw [if_neg c15] at H
      have c15b0 : decide (t459 < 0) = false := decide_eq_false c15
      clear c15
      (first | rw [c15b0] | (simp only [i64_w, i32_w]; rw [c15b0]) | skip)
      have H' := Aside0.mk H
      clear H
      go_wp2_with (first | (go_at_call 20; (with_reducible refine (spec_WaitsFor.calls k _ _ t453 _ _ t456 t459 t463 _ ?side1 ?side2 ?side3 ?side4 A10.out).mono ?_); (case side1 => repeat (first | exact (Kd.N_reads' HO455.out).2.2 | (with_reducible refine Kd.C_alloc ?_ _) | (with_reducible refine Kd.C_drewN ?_ _) | (with_reducible refine Kd.C_drew ?_))); (case side2 => exact (Kd.N_reads' HO455.out).2.1); (case side3 => repeat (first | exact (Kd.Q_reads' HO458.out).2.2 | (with_reducible refine Kd.C_alloc ?_ _) | (with_reducible refine Kd.C_drewN ?_ _) | (with_reducible refine Kd.C_drew ?_))); (case side4 => exact (Kd.Q_reads' HO458.out).2.1); rintro e w20 ⟨v464, rfl, ho0, hb⟩; have n0_ := Aside0.mk (Kd.N_elder' (by (with_reducible repeat (first | apply Kd.N_alloc | apply Kd.N_drewN | apply Kd.N_drew)); exact HO455.out) (Kd.R_base ho0) hb); have n1_ := Aside0.mk (Kd.Q_elder' (by (with_reducible repeat (first | apply Kd.Q_alloc | apply Kd.Q_drewN | apply Kd.Q_drew)); exact HO458.out) (Kd.R_base ho0) hb); have n2_ := Aside0.mk (Kd.R_elder' (by (with_reducible repeat (first | apply Kd.R_alloc | apply Kd.R_drewN | apply Kd.R_drew)); exact HO462.out) (Kd.R_base ho0) hb); have n3_ := Aside0.mk (Kd.R_lower (Kd.R_new' (Kd.R_new' ho0 (Kd.Q_lt (by (with_reducible repeat (first | apply Kd.Q_alloc | apply Kd.Q_drewN | apply Kd.Q_drew)); exact HO458.out))) (Kd.R_lt (by (with_reducible repeat (first | apply Kd.R_alloc | apply Kd.R_drewN | apply Kd.R_drew)); exact HO462.out))) (below_size (by repeat (first | (with_reducible first | exact HB.out | apply below_alloc | apply pw_below_drewN | apply below_drew1) | exact HB.out)))); have n4_ := Aside0.mk (below_step (by repeat (first | (with_reducible first | exact HB.out | apply below_alloc | apply pw_below_drewN | apply below_drew1) | exact HB.out)) hb); clear HO455; clear HO458; clear HO462; clear HB; have HO455 := n0_; have HO458 := n1_; have HO462 := n2_; have HO465 := n3_; have HB := n4_; clear n0_ n1_ n2_ n3_ n4_; (try clear hb); (try clear hb2); (try clear hk); (try clear hi); (try clear ho0); obtain ⟨Ao21, co21, eo21⟩ := Kd.R_slice HO462.out; subst eo21; obtain ⟨Ao22, co22, eo22⟩ := Kd.R_slice HO465.out; subst eo22) | (go_at_call 19; (with_reducible refine (laws_equalInts.calls k _ _ t460 _ _ t463 true _ ?side1 ?side2 ?side3 ?side4 A11.out).mono ?_); (case side1 => repeat (first | exact (Kd.R_reads' HO462.out).2.2 | (with_reducible refine Kd.C_alloc ?_ _) | (with_reducible refine Kd.C_drewN ?_ _) | (with_reducible refine Kd.C_drew ?_))); (case side2 => exact (Kd.R_reads' HO462.out).2.1); (case side3 => repeat (first | exact (Kd.R_reads' HO465.out).2.2 | (with_reducible refine Kd.C_alloc ?_ _) | (with_reducible refine Kd.C_drewN ?_ _) | (with_reducible refine Kd.C_drew ?_))); (case side4 => exact (Kd.R_reads' HO465.out).2.1); rintro e w' ⟨rfl, ⟨nd, rfl⟩⟩; (try first | exact ⟨rfl, _, World.drewN_drewN _ _ _⟩ | exact ⟨rfl, _, Eq.trans (World.drewN_drewN _ _ _) (congrArg (World.drewN _) (Nat.add_assoc _ _ _))⟩)) | (go_at_call 21; (with_reducible refine (impl_ValidDone.calls _ _ t453 _ _ t456 true _ ?side1 ?side2 ?side3 ?side4 A13.out ?sideTab).mono ?_); (case sideTab => exact TabOK.below hTab.out (by repeat (first | (with_reducible first | exact HB.out | apply below_alloc | apply pw_below_drewN | apply below_drew1) | exact HB.out))); (case side1 => repeat (first | exact (Kd.N_reads' HO455.out).2.2 | (with_reducible refine Kd.C_alloc ?_ _) | (with_reducible refine Kd.C_drewN ?_ _) | (with_reducible refine Kd.C_drew ?_))); (case side2 => exact (Kd.N_reads' HO455.out).2.1); (case side3 => repeat (first | exact (Kd.Q_reads' HO458.out).2.2 | (with_reducible refine Kd.C_alloc ?_ _) | (with_reducible refine Kd.C_drewN ?_ _) | (with_reducible refine Kd.C_drew ?_))); (case side4 => exact (Kd.Q_reads' HO458.out).2.1); rintro e w23 ⟨rfl, hb⟩; have n0_ := Aside0.mk (Kd.N_below (by (with_reducible repeat (first | apply Kd.N_alloc | apply Kd.N_drewN | apply Kd.N_drew)); exact HO455.out) hb); have n1_ := Aside0.mk (Kd.Q_below (by (with_reducible repeat (first | apply Kd.Q_alloc | apply Kd.Q_drewN | apply Kd.Q_drew)); exact HO458.out) hb); have n2_ := Aside0.mk (Kd.R_below (by (with_reducible repeat (first | apply Kd.R_alloc | apply Kd.R_drewN | apply Kd.R_drew)); exact HO462.out) hb); have n3_ := Aside0.mk (Kd.R_below (by (with_reducible repeat (first | apply Kd.R_alloc | apply Kd.R_drewN | apply Kd.R_drew)); exact HO465.out) hb); have n4_ := Aside0.mk (below_step (by repeat (first | (with_reducible first | exact HB.out | apply below_alloc | apply pw_below_drewN | apply below_drew1) | exact HB.out)) hb); clear HO455; clear HO458; clear HO462; clear HO465; clear HB; have HO455 := n0_; have HO458 := n1_; have HO462 := n2_; have HO465 := n3_; have HB := n4_; clear n0_ n1_ n2_ n3_ n4_; (try clear hb); (try clear hb2); (try clear hk); (try clear hi)))
      repeat (go_quiet (first | (go_at_call 20; (with_reducible refine (spec_WaitsFor.calls k _ _ t453 _ _ t456 t459 t463 _ ?side1 ?side2 ?side3 ?side4 A10.out).mono ?_); (case side1 => repeat (first | exact (Kd.N_reads' HO455.out).2.2 | (with_reducible refine Kd.C_alloc ?_ _) | (with_reducible refine Kd.C_drewN ?_ _) | (with_reducible refine Kd.C_drew ?_))); (case side2 => exact (Kd.N_reads' HO455.out).2.1); (case side3 => repeat (first | exact (Kd.Q_reads' HO458.out).2.2 | (with_reducible refine Kd.C_alloc ?_ _) | (with_reducible refine Kd.C_drewN ?_ _) | (with_reducible refine Kd.C_drew ?_))); (case side4 => exact (Kd.Q_reads' HO458.out).2.1); rintro e w20 ⟨v464, rfl, ho0, hb⟩; have n0_ := Aside0.mk (Kd.N_elder' (by (with_reducible repeat (first | apply Kd.N_alloc | apply Kd.N_drewN | apply Kd.N_drew)); exact HO455.out) (Kd.R_base ho0) hb); have n1_ := Aside0.mk (Kd.Q_elder' (by (with_reducible repeat (first | apply Kd.Q_alloc | apply Kd.Q_drewN | apply Kd.Q_drew)); exact HO458.out) (Kd.R_base ho0) hb); have n2_ := Aside0.mk (Kd.R_elder' (by (with_reducible repeat (first | apply Kd.R_alloc | apply Kd.R_drewN | apply Kd.R_drew)); exact HO462.out) (Kd.R_base ho0) hb); have n3_ := Aside0.mk (Kd.R_lower (Kd.R_new' (Kd.R_new' ho0 (Kd.Q_lt (by (with_reducible repeat (first | apply Kd.Q_alloc | apply Kd.Q_drewN | apply Kd.Q_drew)); exact HO458.out))) (Kd.R_lt (by (with_reducible repeat (first | apply Kd.R_alloc | apply Kd.R_drewN | apply Kd.R_drew)); exact HO462.out))) (below_size (by repeat (first | (with_reducible first | exact HB.out | apply below_alloc | apply pw_below_drewN | apply below_drew1) | exact HB.out)))); have n4_ := Aside0.mk (below_step (by repeat (first | (with_reducible first | exact HB.out | apply below_alloc | apply pw_below_drewN | apply below_drew1) | exact HB.out)) hb); clear HO455; clear HO458; clear HO462; clear HB; have HO455 := n0_; have HO458 := n1_; have HO462 := n2_; have HO465 := n3_; have HB := n4_; clear n0_ n1_ n2_ n3_ n4_; (try clear hb); (try clear hb2); (try clear hk); (try clear hi); (try clear ho0); obtain ⟨Ao21, co21, eo21⟩ := Kd.R_slice HO462.out; subst eo21; obtain ⟨Ao22, co22, eo22⟩ := Kd.R_slice HO465.out; subst eo22) | (go_at_call 19; (with_reducible refine (laws_equalInts.calls k _ _ t460 _ _ t463 true _ ?side1 ?side2 ?side3 ?side4 A11.out).mono ?_); (case side1 => repeat (first | exact (Kd.R_reads' HO462.out).2.2 | (with_reducible refine Kd.C_alloc ?_ _) | (with_reducible refine Kd.C_drewN ?_ _) | (with_reducible refine Kd.C_drew ?_))); (case side2 => exact (Kd.R_reads' HO462.out).2.1); (case side3 => repeat (first | exact (Kd.R_reads' HO465.out).2.2 | (with_reducible refine Kd.C_alloc ?_ _) | (with_reducible refine Kd.C_drewN ?_ _) | (with_reducible refine Kd.C_drew ?_))); (case side4 => exact (Kd.R_reads' HO465.out).2.1); rintro e w' ⟨rfl, ⟨nd, rfl⟩⟩; (try first | exact ⟨rfl, _, World.drewN_drewN _ _ _⟩ | exact ⟨rfl, _, Eq.trans (World.drewN_drewN _ _ _) (congrArg (World.drewN _) (Nat.add_assoc _ _ _))⟩)) | (go_at_call 21; (with_reducible refine (impl_ValidDone.calls _ _ t453 _ _ t456 true _ ?side1 ?side2 ?side3 ?side4 A13.out ?sideTab).mono ?_); (case sideTab => exact TabOK.below hTab.out (by repeat (first | (with_reducible first | exact HB.out | apply below_alloc | apply pw_below_drewN | apply below_drew1) | exact HB.out))); (case side1 => repeat (first | exact (Kd.N_reads' HO455.out).2.2 | (with_reducible refine Kd.C_alloc ?_ _) | (with_reducible refine Kd.C_drewN ?_ _) | (with_reducible refine Kd.C_drew ?_))); (case side2 => exact (Kd.N_reads' HO455.out).2.1); (case side3 => repeat (first | exact (Kd.Q_reads' HO458.out).2.2 | (with_reducible refine Kd.C_alloc ?_ _) | (with_reducible refine Kd.C_drewN ?_ _) | (with_reducible refine Kd.C_drew ?_))); (case side4 => exact (Kd.Q_reads' HO458.out).2.1); rintro e w23 ⟨rfl, hb⟩; have n0_ := Aside0.mk (Kd.N_below (by (with_reducible repeat (first | apply Kd.N_alloc | apply Kd.N_drewN | apply Kd.N_drew)); exact HO455.out) hb); have n1_ := Aside0.mk (Kd.Q_below (by (with_reducible repeat (first | apply Kd.Q_alloc | apply Kd.Q_drewN | apply Kd.Q_drew)); exact HO458.out) hb); have n2_ := Aside0.mk (Kd.R_below (by (with_reducible repeat (first | apply Kd.R_alloc | apply Kd.R_drewN | apply Kd.R_drew)); exact HO462.out) hb); have n3_ := Aside0.mk (Kd.R_below (by (with_reducible repeat (first | apply Kd.R_alloc | apply Kd.R_drewN | apply Kd.R_drew)); exact HO465.out) hb); have n4_ := Aside0.mk (below_step (by repeat (first | (with_reducible first | exact HB.out | apply below_alloc | apply pw_below_drewN | apply below_drew1) | exact HB.out)) hb); clear HO455; clear HO458; clear HO462; clear HO465; clear HB; have HO455 := n0_; have HO458 := n1_; have HO462 := n2_; have HO465 := n3_; have HB := n4_; clear n0_ n1_ n2_ n3_ n4_; (try clear hb); (try clear hb2); (try clear hk); (try clear hi))); try go_wp2_with (first | (go_at_call 20; (with_reducible refine (spec_WaitsFor.calls k _ _ t453 _ _ t456 t459 t463 _ ?side1 ?side2 ?side3 ?side4 A10.out).mono ?_); (case side1 => repeat (first | exact (Kd.N_reads' HO455.out).2.2 | (with_reducible refine Kd.C_alloc ?_ _) | (with_reducible refine Kd.C_drewN ?_ _) | (with_reducible refine Kd.C_drew ?_))); (case side2 => exact (Kd.N_reads' HO455.out).2.1); (case side3 => repeat (first | exact (Kd.Q_reads' HO458.out).2.2 | (with_reducible refine Kd.C_alloc ?_ _) | (with_reducible refine Kd.C_drewN ?_ _) | (with_reducible refine Kd.C_drew ?_))); (case side4 => exact (Kd.Q_reads' HO458.out).2.1); rintro e w20 ⟨v464, rfl, ho0, hb⟩; have n0_ := Aside0.mk (Kd.N_elder' (by (with_reducible repeat (first | apply Kd.N_alloc | apply Kd.N_drewN | apply Kd.N_drew)); exact HO455.out) (Kd.R_base ho0) hb); have n1_ := Aside0.mk (Kd.Q_elder' (by (with_reducible repeat (first | apply Kd.Q_alloc | apply Kd.Q_drewN | apply Kd.Q_drew)); exact HO458.out) (Kd.R_base ho0) hb); have n2_ := Aside0.mk (Kd.R_elder' (by (with_reducible repeat (first | apply Kd.R_alloc | apply Kd.R_drewN | apply Kd.R_drew)); exact HO462.out) (Kd.R_base ho0) hb); have n3_ := Aside0.mk (Kd.R_lower (Kd.R_new' (Kd.R_new' ho0 (Kd.Q_lt (by (with_reducible repeat (first | apply Kd.Q_alloc | apply Kd.Q_drewN | apply Kd.Q_drew)); exact HO458.out))) (Kd.R_lt (by (with_reducible repeat (first | apply Kd.R_alloc | apply Kd.R_drewN | apply Kd.R_drew)); exact HO462.out))) (below_size (by repeat (first | (with_reducible first | exact HB.out | apply below_alloc | apply pw_below_drewN | apply below_drew1) | exact HB.out)))); have n4_ := Aside0.mk (below_step (by repeat (first | (with_reducible first | exact HB.out | apply below_alloc | apply pw_below_drewN | apply below_drew1) | exact HB.out)) hb); clear HO455; clear HO458; clear HO462; clear HB; have HO455 := n0_; have HO458 := n1_; have HO462 := n2_; have HO465 := n3_; have HB := n4_; clear n0_ n1_ n2_ n3_ n4_; (try clear hb); (try clear hb2); (try clear hk); (try clear hi); (try clear ho0); obtain ⟨Ao21, co21, eo21⟩ := Kd.R_slice HO462.out; subst eo21; obtain ⟨Ao22, co22, eo22⟩ := Kd.R_slice HO465.out; subst eo22) | (go_at_call 19; (with_reducible refine (laws_equalInts.calls k _ _ t460 _ _ t463 true _ ?side1 ?side2 ?side3 ?side4 A11.out).mono ?_); (case side1 => repeat (first | exact (Kd.R_reads' HO462.out).2.2 | (with_reducible refine Kd.C_alloc ?_ _) | (with_reducible refine Kd.C_drewN ?_ _) | (with_reducible refine Kd.C_drew ?_))); (case side2 => exact (Kd.R_reads' HO462.out).2.1); (case side3 => repeat (first | exact (Kd.R_reads' HO465.out).2.2 | (with_reducible refine Kd.C_alloc ?_ _) | (with_reducible refine Kd.C_drewN ?_ _) | (with_reducible refine Kd.C_drew ?_))); (case side4 => exact (Kd.R_reads' HO465.out).2.1); rintro e w' ⟨rfl, ⟨nd, rfl⟩⟩; (try first | exact ⟨rfl, _, World.drewN_drewN _ _ _⟩ | exact ⟨rfl, _, Eq.trans (World.drewN_drewN _ _ _) (congrArg (World.drewN _) (Nat.add_assoc _ _ _))⟩)) | (go_at_call 21; (with_reducible refine (impl_ValidDone.calls _ _ t453 _ _ t456 true _ ?side1 ?side2 ?side3 ?side4 A13.out ?sideTab).mono ?_); (case sideTab => exact TabOK.below hTab.out (by repeat (first | (with_reducible first | exact HB.out | apply below_alloc | apply pw_below_drewN | apply below_drew1) | exact HB.out))); (case side1 => repeat (first | exact (Kd.N_reads' HO455.out).2.2 | (with_reducible refine Kd.C_alloc ?_ _) | (with_reducible refine Kd.C_drewN ?_ _) | (with_reducible refine Kd.C_drew ?_))); (case side2 => exact (Kd.N_reads' HO455.out).2.1); (case side3 => repeat (first | exact (Kd.Q_reads' HO458.out).2.2 | (with_reducible refine Kd.C_alloc ?_ _) | (with_reducible refine Kd.C_drewN ?_ _) | (with_reducible refine Kd.C_drew ?_))); (case side4 => exact (Kd.Q_reads' HO458.out).2.1); rintro e w23 ⟨rfl, hb⟩; have n0_ := Aside0.mk (Kd.N_below (by (with_reducible repeat (first | apply Kd.N_alloc | apply Kd.N_drewN | apply Kd.N_drew)); exact HO455.out) hb); have n1_ := Aside0.mk (Kd.Q_below (by (with_reducible repeat (first | apply Kd.Q_alloc | apply Kd.Q_drewN | apply Kd.Q_drew)); exact HO458.out) hb); have n2_ := Aside0.mk (Kd.R_below (by (with_reducible repeat (first | apply Kd.R_alloc | apply Kd.R_drewN | apply Kd.R_drew)); exact HO462.out) hb); have n3_ := Aside0.mk (Kd.R_below (by (with_reducible repeat (first | apply Kd.R_alloc | apply Kd.R_drewN | apply Kd.R_drew)); exact HO465.out) hb); have n4_ := Aside0.mk (below_step (by repeat (first | (with_reducible first | exact HB.out | apply below_alloc | apply pw_below_drewN | apply below_drew1) | exact HB.out)) hb); clear HO455; clear HO458; clear HO462; clear HO465; clear HB; have HO455 := n0_; have HO458 := n1_; have HO462 := n2_; have HO465 := n3_; have HB := n4_; clear n0_ n1_ n2_ n3_ n4_; (try clear hb); (try clear hb2); (try clear hk); (try clear hi))))
      go_meet
      case rel => exact ⟨_, (decide (t459 ≥ (t453.length : Int))), (by first | rfl | (simp; done) | (simp [*]; done)), H', ⟨by first | omega | exact Nat.le_refl _⟩, ⟨by (with_reducible repeat (first | apply Kd.N_alloc | apply Kd.N_drewN | apply Kd.N_drew)); exact Kd.N_mono HO455.out (fun _ hk => ⟨hk.1.1, hk.1.2⟩)⟩, ⟨by (with_reducible repeat (first | apply Kd.Q_alloc | apply Kd.Q_drewN | apply Kd.Q_drew)); exact Kd.Q_mono HO458.out (fun _ hk => hk.1.2)⟩, ⟨by (with_reducible repeat (first | apply Kd.R_alloc | apply Kd.R_drewN | apply Kd.R_drew)); exact Kd.R_mono HO462.out (fun _ hk => hk.1.2)⟩, ⟨by repeat (first | (with_reducible first | exact HB.out | apply below_alloc | apply pw_below_drewN | apply below_drew1) | exact HB.out)⟩⟩
    ·replace c14 := Bool.eq_false_iff.mpr c14
     subst c14
     have H1 : (laws_FnWaitsFor.j0 k t453 t456 t459 t460 true) = some r := by rw [if_neg (show ¬ (false = true) by decide)] at H; exact H
     clear H
     have H := H1
     clear H1
     have H' := Aside0.mk H
     clear H
     go_wp2_with (first | (go_at_call 20; (with_reducible refine (spec_WaitsFor.calls k _ _ t453 _ _ t456 t459 t463 _ ?side1 ?side2 ?side3 ?side4 A10.out).mono ?_); (case side1 => repeat (first | exact (Kd.N_reads' HO455.out).2.2 | (with_reducible refine Kd.C_alloc ?_ _) | (with_reducible refine Kd.C_drewN ?_ _) | (with_reducible refine Kd.C_drew ?_))); (case side2 => exact (Kd.N_reads' HO455.out).2.1); (case side3 => repeat (first | exact (Kd.Q_reads' HO458.out).2.2 | (with_reducible refine Kd.C_alloc ?_ _) | (with_reducible refine Kd.C_drewN ?_ _) | (with_reducible refine Kd.C_drew ?_))); (case side4 => exact (Kd.Q_reads' HO458.out).2.1); rintro e w24 ⟨v464, rfl, ho0, hb⟩; have n0_ := Aside0.mk (Kd.N_elder' (by (with_reducible repeat (first | apply Kd.N_alloc | apply Kd.N_drewN | apply Kd.N_drew)); exact HO455.out) (Kd.R_base ho0) hb); have n1_ := Aside0.mk (Kd.Q_elder' (by (with_reducible repeat (first | apply Kd.Q_alloc | apply Kd.Q_drewN | apply Kd.Q_drew)); exact HO458.out) (Kd.R_base ho0) hb); have n2_ := Aside0.mk (Kd.R_elder' (by (with_reducible repeat (first | apply Kd.R_alloc | apply Kd.R_drewN | apply Kd.R_drew)); exact HO462.out) (Kd.R_base ho0) hb); have n3_ := Aside0.mk (Kd.R_lower (Kd.R_new' (Kd.R_new' ho0 (Kd.Q_lt (by (with_reducible repeat (first | apply Kd.Q_alloc | apply Kd.Q_drewN | apply Kd.Q_drew)); exact HO458.out))) (Kd.R_lt (by (with_reducible repeat (first | apply Kd.R_alloc | apply Kd.R_drewN | apply Kd.R_drew)); exact HO462.out))) (below_size (by repeat (first | (with_reducible first | exact HB.out | apply below_alloc | apply pw_below_drewN | apply below_drew1) | exact HB.out)))); have n4_ := Aside0.mk (below_step (by repeat (first | (with_reducible first | exact HB.out | apply below_alloc | apply pw_below_drewN | apply below_drew1) | exact HB.out)) hb); clear HO455; clear HO458; clear HO462; clear HB; have HO455 := n0_; have HO458 := n1_; have HO462 := n2_; have HO465 := n3_; have HB := n4_; clear n0_ n1_ n2_ n3_ n4_; (try clear hb); (try clear hb2); (try clear hk); (try clear hi); (try clear ho0); obtain ⟨Ao25, co25, eo25⟩ := Kd.R_slice HO462.out; subst eo25; obtain ⟨Ao26, co26, eo26⟩ := Kd.R_slice HO465.out; subst eo26) | (go_at_call 19; (with_reducible refine (laws_equalInts.calls k _ _ t460 _ _ t463 true _ ?side1 ?side2 ?side3 ?side4 A11.out).mono ?_); (case side1 => repeat (first | exact (Kd.R_reads' HO462.out).2.2 | (with_reducible refine Kd.C_alloc ?_ _) | (with_reducible refine Kd.C_drewN ?_ _) | (with_reducible refine Kd.C_drew ?_))); (case side2 => exact (Kd.R_reads' HO462.out).2.1); (case side3 => repeat (first | exact (Kd.R_reads' HO465.out).2.2 | (with_reducible refine Kd.C_alloc ?_ _) | (with_reducible refine Kd.C_drewN ?_ _) | (with_reducible refine Kd.C_drew ?_))); (case side4 => exact (Kd.R_reads' HO465.out).2.1); rintro e w' ⟨rfl, ⟨nd, rfl⟩⟩; (try first | exact ⟨rfl, _, World.drewN_drewN _ _ _⟩ | exact ⟨rfl, _, Eq.trans (World.drewN_drewN _ _ _) (congrArg (World.drewN _) (Nat.add_assoc _ _ _))⟩)) | (go_at_call 21; (with_reducible refine (impl_ValidDone.calls _ _ t453 _ _ t456 false _ ?side1 ?side2 ?side3 ?side4 A13.out ?sideTab).mono ?_); (case sideTab => exact TabOK.below hTab.out (by repeat (first | (with_reducible first | exact HB.out | apply below_alloc | apply pw_below_drewN | apply below_drew1) | exact HB.out))); (case side1 => repeat (first | exact (Kd.N_reads' HO455.out).2.2 | (with_reducible refine Kd.C_alloc ?_ _) | (with_reducible refine Kd.C_drewN ?_ _) | (with_reducible refine Kd.C_drew ?_))); (case side2 => exact (Kd.N_reads' HO455.out).2.1); (case side3 => repeat (first | exact (Kd.Q_reads' HO458.out).2.2 | (with_reducible refine Kd.C_alloc ?_ _) | (with_reducible refine Kd.C_drewN ?_ _) | (with_reducible refine Kd.C_drew ?_))); (case side4 => exact (Kd.Q_reads' HO458.out).2.1); rintro e w27 ⟨rfl, hb⟩; have n0_ := Aside0.mk (Kd.N_below (by (with_reducible repeat (first | apply Kd.N_alloc | apply Kd.N_drewN | apply Kd.N_drew)); exact HO455.out) hb); have n1_ := Aside0.mk (Kd.Q_below (by (with_reducible repeat (first | apply Kd.Q_alloc | apply Kd.Q_drewN | apply Kd.Q_drew)); exact HO458.out) hb); have n2_ := Aside0.mk (Kd.R_below (by (with_reducible repeat (first | apply Kd.R_alloc | apply Kd.R_drewN | apply Kd.R_drew)); exact HO462.out) hb); have n3_ := Aside0.mk (Kd.R_below (by (with_reducible repeat (first | apply Kd.R_alloc | apply Kd.R_drewN | apply Kd.R_drew)); exact HO465.out) hb); have n4_ := Aside0.mk (below_step (by repeat (first | (with_reducible first | exact HB.out | apply below_alloc | apply pw_below_drewN | apply below_drew1) | exact HB.out)) hb); clear HO455; clear HO458; clear HO462; clear HO465; clear HB; have HO455 := n0_; have HO458 := n1_; have HO462 := n2_; have HO465 := n3_; have HB := n4_; clear n0_ n1_ n2_ n3_ n4_; (try clear hb); (try clear hb2); (try clear hk); (try clear hi)))
     repeat (go_quiet (first | (go_at_call 20; (with_reducible refine (spec_WaitsFor.calls k _ _ t453 _ _ t456 t459 t463 _ ?side1 ?side2 ?side3 ?side4 A10.out).mono ?_); (case side1 => repeat (first | exact (Kd.N_reads' HO455.out).2.2 | (with_reducible refine Kd.C_alloc ?_ _) | (with_reducible refine Kd.C_drewN ?_ _) | (with_reducible refine Kd.C_drew ?_))); (case side2 => exact (Kd.N_reads' HO455.out).2.1); (case side3 => repeat (first | exact (Kd.Q_reads' HO458.out).2.2 | (with_reducible refine Kd.C_alloc ?_ _) | (with_reducible refine Kd.C_drewN ?_ _) | (with_reducible refine Kd.C_drew ?_))); (case side4 => exact (Kd.Q_reads' HO458.out).2.1); rintro e w24 ⟨v464, rfl, ho0, hb⟩; have n0_ := Aside0.mk (Kd.N_elder' (by (with_reducible repeat (first | apply Kd.N_alloc | apply Kd.N_drewN | apply Kd.N_drew)); exact HO455.out) (Kd.R_base ho0) hb); have n1_ := Aside0.mk (Kd.Q_elder' (by (with_reducible repeat (first | apply Kd.Q_alloc | apply Kd.Q_drewN | apply Kd.Q_drew)); exact HO458.out) (Kd.R_base ho0) hb); have n2_ := Aside0.mk (Kd.R_elder' (by (with_reducible repeat (first | apply Kd.R_alloc | apply Kd.R_drewN | apply Kd.R_drew)); exact HO462.out) (Kd.R_base ho0) hb); have n3_ := Aside0.mk (Kd.R_lower (Kd.R_new' (Kd.R_new' ho0 (Kd.Q_lt (by (with_reducible repeat (first | apply Kd.Q_alloc | apply Kd.Q_drewN | apply Kd.Q_drew)); exact HO458.out))) (Kd.R_lt (by (with_reducible repeat (first | apply Kd.R_alloc | apply Kd.R_drewN | apply Kd.R_drew)); exact HO462.out))) (below_size (by repeat (first | (with_reducible first | exact HB.out | apply below_alloc | apply pw_below_drewN | apply below_drew1) | exact HB.out)))); have n4_ := Aside0.mk (below_step (by repeat (first | (with_reducible first | exact HB.out | apply below_alloc | apply pw_below_drewN | apply below_drew1) | exact HB.out)) hb); clear HO455; clear HO458; clear HO462; clear HB; have HO455 := n0_; have HO458 := n1_; have HO462 := n2_; have HO465 := n3_; have HB := n4_; clear n0_ n1_ n2_ n3_ n4_; (try clear hb); (try clear hb2); (try clear hk); (try clear hi); (try clear ho0); obtain ⟨Ao25, co25, eo25⟩ := Kd.R_slice HO462.out; subst eo25; obtain ⟨Ao26, co26, eo26⟩ := Kd.R_slice HO465.out; subst eo26) | (go_at_call 19; (with_reducible refine (laws_equalInts.calls k _ _ t460 _ _ t463 true _ ?side1 ?side2 ?side3 ?side4 A11.out).mono ?_); (case side1 => repeat (first | exact (Kd.R_reads' HO462.out).2.2 | (with_reducible refine Kd.C_alloc ?_ _) | (with_reducible refine Kd.C_drewN ?_ _) | (with_reducible refine Kd.C_drew ?_))); (case side2 => exact (Kd.R_reads' HO462.out).2.1); (case side3 => repeat (first | exact (Kd.R_reads' HO465.out).2.2 | (with_reducible refine Kd.C_alloc ?_ _) | (with_reducible refine Kd.C_drewN ?_ _) | (with_reducible refine Kd.C_drew ?_))); (case side4 => exact (Kd.R_reads' HO465.out).2.1); rintro e w' ⟨rfl, ⟨nd, rfl⟩⟩; (try first | exact ⟨rfl, _, World.drewN_drewN _ _ _⟩ | exact ⟨rfl, _, Eq.trans (World.drewN_drewN _ _ _) (congrArg (World.drewN _) (Nat.add_assoc _ _ _))⟩)) | (go_at_call 21; (with_reducible refine (impl_ValidDone.calls _ _ t453 _ _ t456 false _ ?side1 ?side2 ?side3 ?side4 A13.out ?sideTab).mono ?_); (case sideTab => exact TabOK.below hTab.out (by repeat (first | (with_reducible first | exact HB.out | apply below_alloc | apply pw_below_drewN | apply below_drew1) | exact HB.out))); (case side1 => repeat (first | exact (Kd.N_reads' HO455.out).2.2 | (with_reducible refine Kd.C_alloc ?_ _) | (with_reducible refine Kd.C_drewN ?_ _) | (with_reducible refine Kd.C_drew ?_))); (case side2 => exact (Kd.N_reads' HO455.out).2.1); (case side3 => repeat (first | exact (Kd.Q_reads' HO458.out).2.2 | (with_reducible refine Kd.C_alloc ?_ _) | (with_reducible refine Kd.C_drewN ?_ _) | (with_reducible refine Kd.C_drew ?_))); (case side4 => exact (Kd.Q_reads' HO458.out).2.1); rintro e w27 ⟨rfl, hb⟩; have n0_ := Aside0.mk (Kd.N_below (by (with_reducible repeat (first | apply Kd.N_alloc | apply Kd.N_drewN | apply Kd.N_drew)); exact HO455.out) hb); have n1_ := Aside0.mk (Kd.Q_below (by (with_reducible repeat (first | apply Kd.Q_alloc | apply Kd.Q_drewN | apply Kd.Q_drew)); exact HO458.out) hb); have n2_ := Aside0.mk (Kd.R_below (by (with_reducible repeat (first | apply Kd.R_alloc | apply Kd.R_drewN | apply Kd.R_drew)); exact HO462.out) hb); have n3_ := Aside0.mk (Kd.R_below (by (with_reducible repeat (first | apply Kd.R_alloc | apply Kd.R_drewN | apply Kd.R_drew)); exact HO465.out) hb); have n4_ := Aside0.mk (below_step (by repeat (first | (with_reducible first | exact HB.out | apply below_alloc | apply pw_below_drewN | apply below_drew1) | exact HB.out)) hb); clear HO455; clear HO458; clear HO462; clear HO465; clear HB; have HO455 := n0_; have HO458 := n1_; have HO462 := n2_; have HO465 := n3_; have HB := n4_; clear n0_ n1_ n2_ n3_ n4_; (try clear hb); (try clear hb2); (try clear hk); (try clear hi))); try go_wp2_with (first | (go_at_call 20; (with_reducible refine (spec_WaitsFor.calls k _ _ t453 _ _ t456 t459 t463 _ ?side1 ?side2 ?side3 ?side4 A10.out).mono ?_); (case side1 => repeat (first | exact (Kd.N_reads' HO455.out).2.2 | (with_reducible refine Kd.C_alloc ?_ _) | (with_reducible refine Kd.C_drewN ?_ _) | (with_reducible refine Kd.C_drew ?_))); (case side2 => exact (Kd.N_reads' HO455.out).2.1); (case side3 => repeat (first | exact (Kd.Q_reads' HO458.out).2.2 | (with_reducible refine Kd.C_alloc ?_ _) | (with_reducible refine Kd.C_drewN ?_ _) | (with_reducible refine Kd.C_drew ?_))); (case side4 => exact (Kd.Q_reads' HO458.out).2.1); rintro e w24 ⟨v464, rfl, ho0, hb⟩; have n0_ := Aside0.mk (Kd.N_elder' (by (with_reducible repeat (first | apply Kd.N_alloc | apply Kd.N_drewN | apply Kd.N_drew)); exact HO455.out) (Kd.R_base ho0) hb); have n1_ := Aside0.mk (Kd.Q_elder' (by (with_reducible repeat (first | apply Kd.Q_alloc | apply Kd.Q_drewN | apply Kd.Q_drew)); exact HO458.out) (Kd.R_base ho0) hb); have n2_ := Aside0.mk (Kd.R_elder' (by (with_reducible repeat (first | apply Kd.R_alloc | apply Kd.R_drewN | apply Kd.R_drew)); exact HO462.out) (Kd.R_base ho0) hb); have n3_ := Aside0.mk (Kd.R_lower (Kd.R_new' (Kd.R_new' ho0 (Kd.Q_lt (by (with_reducible repeat (first | apply Kd.Q_alloc | apply Kd.Q_drewN | apply Kd.Q_drew)); exact HO458.out))) (Kd.R_lt (by (with_reducible repeat (first | apply Kd.R_alloc | apply Kd.R_drewN | apply Kd.R_drew)); exact HO462.out))) (below_size (by repeat (first | (with_reducible first | exact HB.out | apply below_alloc | apply pw_below_drewN | apply below_drew1) | exact HB.out)))); have n4_ := Aside0.mk (below_step (by repeat (first | (with_reducible first | exact HB.out | apply below_alloc | apply pw_below_drewN | apply below_drew1) | exact HB.out)) hb); clear HO455; clear HO458; clear HO462; clear HB; have HO455 := n0_; have HO458 := n1_; have HO462 := n2_; have HO465 := n3_; have HB := n4_; clear n0_ n1_ n2_ n3_ n4_; (try clear hb); (try clear hb2); (try clear hk); (try clear hi); (try clear ho0); obtain ⟨Ao25, co25, eo25⟩ := Kd.R_slice HO462.out; subst eo25; obtain ⟨Ao26, co26, eo26⟩ := Kd.R_slice HO465.out; subst eo26) | (go_at_call 19; (with_reducible refine (laws_equalInts.calls k _ _ t460 _ _ t463 true _ ?side1 ?side2 ?side3 ?side4 A11.out).mono ?_); (case side1 => repeat (first | exact (Kd.R_reads' HO462.out).2.2 | (with_reducible refine Kd.C_alloc ?_ _) | (with_reducible refine Kd.C_drewN ?_ _) | (with_reducible refine Kd.C_drew ?_))); (case side2 => exact (Kd.R_reads' HO462.out).2.1); (case side3 => repeat (first | exact (Kd.R_reads' HO465.out).2.2 | (with_reducible refine Kd.C_alloc ?_ _) | (with_reducible refine Kd.C_drewN ?_ _) | (with_reducible refine Kd.C_drew ?_))); (case side4 => exact (Kd.R_reads' HO465.out).2.1); rintro e w' ⟨rfl, ⟨nd, rfl⟩⟩; (try first | exact ⟨rfl, _, World.drewN_drewN _ _ _⟩ | exact ⟨rfl, _, Eq.trans (World.drewN_drewN _ _ _) (congrArg (World.drewN _) (Nat.add_assoc _ _ _))⟩)) | (go_at_call 21; (with_reducible refine (impl_ValidDone.calls _ _ t453 _ _ t456 false _ ?side1 ?side2 ?side3 ?side4 A13.out ?sideTab).mono ?_); (case sideTab => exact TabOK.below hTab.out (by repeat (first | (with_reducible first | exact HB.out | apply below_alloc | apply pw_below_drewN | apply below_drew1) | exact HB.out))); (case side1 => repeat (first | exact (Kd.N_reads' HO455.out).2.2 | (with_reducible refine Kd.C_alloc ?_ _) | (with_reducible refine Kd.C_drewN ?_ _) | (with_reducible refine Kd.C_drew ?_))); (case side2 => exact (Kd.N_reads' HO455.out).2.1); (case side3 => repeat (first | exact (Kd.Q_reads' HO458.out).2.2 | (with_reducible refine Kd.C_alloc ?_ _) | (with_reducible refine Kd.C_drewN ?_ _) | (with_reducible refine Kd.C_drew ?_))); (case side4 => exact (Kd.Q_reads' HO458.out).2.1); rintro e w27 ⟨rfl, hb⟩; have n0_ := Aside0.mk (Kd.N_below (by (with_reducible repeat (first | apply Kd.N_alloc | apply Kd.N_drewN | apply Kd.N_drew)); exact HO455.out) hb); have n1_ := Aside0.mk (Kd.Q_below (by (with_reducible repeat (first | apply Kd.Q_alloc | apply Kd.Q_drewN | apply Kd.Q_drew)); exact HO458.out) hb); have n2_ := Aside0.mk (Kd.R_below (by (with_reducible repeat (first | apply Kd.R_alloc | apply Kd.R_drewN | apply Kd.R_drew)); exact HO462.out) hb); have n3_ := Aside0.mk (Kd.R_below (by (with_reducible repeat (first | apply Kd.R_alloc | apply Kd.R_drewN | apply Kd.R_drew)); exact HO465.out) hb); have n4_ := Aside0.mk (below_step (by repeat (first | (with_reducible first | exact HB.out | apply below_alloc | apply pw_below_drewN | apply below_drew1) | exact HB.out)) hb); clear HO455; clear HO458; clear HO462; clear HO465; clear HB; have HO455 := n0_; have HO458 := n1_; have HO462 := n2_; have HO465 := n3_; have HB := n4_; clear n0_ n1_ n2_ n3_ n4_; (try clear hb); (try clear hb2); (try clear hk); (try clear hi))))
     go_meet
     case rel => exact ⟨_, (true), (by first | rfl | (simp; done) | (simp [*]; done)), H', ⟨by first | omega | exact Nat.le_refl _⟩, ⟨by (with_reducible repeat (first | apply Kd.N_alloc | apply Kd.N_drewN | apply Kd.N_drew)); exact Kd.N_mono HO455.out (fun _ hk => ⟨hk.1.1, hk.1.2⟩)⟩, ⟨by (with_reducible repeat (first | apply Kd.Q_alloc | apply Kd.Q_drewN | apply Kd.Q_drew)); exact Kd.Q_mono HO458.out (fun _ hk => hk.1.2)⟩, ⟨by (with_reducible repeat (first | apply Kd.R_alloc | apply Kd.R_drewN | apply Kd.R_drew)); exact Kd.R_mono HO462.out (fun _ hk => hk.1.2)⟩, ⟨by repeat (first | (with_reducible first | exact HB.out | apply below_alloc | apply pw_below_drewN | apply below_drew1) | exact HB.out)⟩⟩
   ·replace c12 := Bool.eq_false_iff.mpr c12
    subst c12
    have H1 : (laws_FnWaitsFor.j0 k t453 t456 t459 t460 true) = some r := by rw [if_neg (show ¬ (false = true) by decide)] at H; exact H
    clear H
    have H := H1
    clear H1
    have H' := Aside0.mk H
    clear H
    go_wp2_with (first | (go_at_call 20; (with_reducible refine (spec_WaitsFor.calls k _ _ t453 _ _ t456 t459 t463 _ ?side1 ?side2 ?side3 ?side4 A10.out).mono ?_); (case side1 => repeat (first | exact (Kd.N_reads' HO455.out).2.2 | (with_reducible refine Kd.C_alloc ?_ _) | (with_reducible refine Kd.C_drewN ?_ _) | (with_reducible refine Kd.C_drew ?_))); (case side2 => exact (Kd.N_reads' HO455.out).2.1); (case side3 => repeat (first | exact (Kd.Q_reads' HO458.out).2.2 | (with_reducible refine Kd.C_alloc ?_ _) | (with_reducible refine Kd.C_drewN ?_ _) | (with_reducible refine Kd.C_drew ?_))); (case side4 => exact (Kd.Q_reads' HO458.out).2.1); rintro e w28 ⟨v464, rfl, ho0, hb⟩; have n0_ := Aside0.mk (Kd.N_elder' (by (with_reducible repeat (first | apply Kd.N_alloc | apply Kd.N_drewN | apply Kd.N_drew)); exact HO455.out) (Kd.R_base ho0) hb); have n1_ := Aside0.mk (Kd.Q_elder' (by (with_reducible repeat (first | apply Kd.Q_alloc | apply Kd.Q_drewN | apply Kd.Q_drew)); exact HO458.out) (Kd.R_base ho0) hb); have n2_ := Aside0.mk (Kd.R_elder' (by (with_reducible repeat (first | apply Kd.R_alloc | apply Kd.R_drewN | apply Kd.R_drew)); exact HO462.out) (Kd.R_base ho0) hb); have n3_ := Aside0.mk (Kd.R_lower (Kd.R_new' (Kd.R_new' ho0 (Kd.Q_lt (by (with_reducible repeat (first | apply Kd.Q_alloc | apply Kd.Q_drewN | apply Kd.Q_drew)); exact HO458.out))) (Kd.R_lt (by (with_reducible repeat (first | apply Kd.R_alloc | apply Kd.R_drewN | apply Kd.R_drew)); exact HO462.out))) (below_size (by repeat (first | (with_reducible first | exact HB.out | apply below_alloc | apply pw_below_drewN | apply below_drew1) | exact HB.out)))); have n4_ := Aside0.mk (below_step (by repeat (first | (with_reducible first | exact HB.out | apply below_alloc | apply pw_below_drewN | apply below_drew1) | exact HB.out)) hb); clear HO455; clear HO458; clear HO462; clear HB; have HO455 := n0_; have HO458 := n1_; have HO462 := n2_; have HO465 := n3_; have HB := n4_; clear n0_ n1_ n2_ n3_ n4_; (try clear hb); (try clear hb2); (try clear hk); (try clear hi); (try clear ho0); obtain ⟨Ao29, co29, eo29⟩ := Kd.R_slice HO462.out; subst eo29; obtain ⟨Ao30, co30, eo30⟩ := Kd.R_slice HO465.out; subst eo30) | (go_at_call 19; (with_reducible refine (laws_equalInts.calls k _ _ t460 _ _ t463 false _ ?side1 ?side2 ?side3 ?side4 A11.out).mono ?_); (case side1 => repeat (first | exact (Kd.R_reads' HO462.out).2.2 | (with_reducible refine Kd.C_alloc ?_ _) | (with_reducible refine Kd.C_drewN ?_ _) | (with_reducible refine Kd.C_drew ?_))); (case side2 => exact (Kd.R_reads' HO462.out).2.1); (case side3 => repeat (first | exact (Kd.R_reads' HO465.out).2.2 | (with_reducible refine Kd.C_alloc ?_ _) | (with_reducible refine Kd.C_drewN ?_ _) | (with_reducible refine Kd.C_drew ?_))); (case side4 => exact (Kd.R_reads' HO465.out).2.1); rintro e w' ⟨rfl, ⟨nd, rfl⟩⟩; (try first | exact ⟨rfl, _, World.drewN_drewN _ _ _⟩ | exact ⟨rfl, _, Eq.trans (World.drewN_drewN _ _ _) (congrArg (World.drewN _) (Nat.add_assoc _ _ _))⟩)))
    repeat (go_quiet (first | (go_at_call 20; (with_reducible refine (spec_WaitsFor.calls k _ _ t453 _ _ t456 t459 t463 _ ?side1 ?side2 ?side3 ?side4 A10.out).mono ?_); (case side1 => repeat (first | exact (Kd.N_reads' HO455.out).2.2 | (with_reducible refine Kd.C_alloc ?_ _) | (with_reducible refine Kd.C_drewN ?_ _) | (with_reducible refine Kd.C_drew ?_))); (case side2 => exact (Kd.N_reads' HO455.out).2.1); (case side3 => repeat (first | exact (Kd.Q_reads' HO458.out).2.2 | (with_reducible refine Kd.C_alloc ?_ _) | (with_reducible refine Kd.C_drewN ?_ _) | (with_reducible refine Kd.C_drew ?_))); (case side4 => exact (Kd.Q_reads' HO458.out).2.1); rintro e w28 ⟨v464, rfl, ho0, hb⟩; have n0_ := Aside0.mk (Kd.N_elder' (by (with_reducible repeat (first | apply Kd.N_alloc | apply Kd.N_drewN | apply Kd.N_drew)); exact HO455.out) (Kd.R_base ho0) hb); have n1_ := Aside0.mk (Kd.Q_elder' (by (with_reducible repeat (first | apply Kd.Q_alloc | apply Kd.Q_drewN | apply Kd.Q_drew)); exact HO458.out) (Kd.R_base ho0) hb); have n2_ := Aside0.mk (Kd.R_elder' (by (with_reducible repeat (first | apply Kd.R_alloc | apply Kd.R_drewN | apply Kd.R_drew)); exact HO462.out) (Kd.R_base ho0) hb); have n3_ := Aside0.mk (Kd.R_lower (Kd.R_new' (Kd.R_new' ho0 (Kd.Q_lt (by (with_reducible repeat (first | apply Kd.Q_alloc | apply Kd.Q_drewN | apply Kd.Q_drew)); exact HO458.out))) (Kd.R_lt (by (with_reducible repeat (first | apply Kd.R_alloc | apply Kd.R_drewN | apply Kd.R_drew)); exact HO462.out))) (below_size (by repeat (first | (with_reducible first | exact HB.out | apply below_alloc | apply pw_below_drewN | apply below_drew1) | exact HB.out)))); have n4_ := Aside0.mk (below_step (by repeat (first | (with_reducible first | exact HB.out | apply below_alloc | apply pw_below_drewN | apply below_drew1) | exact HB.out)) hb); clear HO455; clear HO458; clear HO462; clear HB; have HO455 := n0_; have HO458 := n1_; have HO462 := n2_; have HO465 := n3_; have HB := n4_; clear n0_ n1_ n2_ n3_ n4_; (try clear hb); (try clear hb2); (try clear hk); (try clear hi); (try clear ho0); obtain ⟨Ao29, co29, eo29⟩ := Kd.R_slice HO462.out; subst eo29; obtain ⟨Ao30, co30, eo30⟩ := Kd.R_slice HO465.out; subst eo30) | (go_at_call 19; (with_reducible refine (laws_equalInts.calls k _ _ t460 _ _ t463 false _ ?side1 ?side2 ?side3 ?side4 A11.out).mono ?_); (case side1 => repeat (first | exact (Kd.R_reads' HO462.out).2.2 | (with_reducible refine Kd.C_alloc ?_ _) | (with_reducible refine Kd.C_drewN ?_ _) | (with_reducible refine Kd.C_drew ?_))); (case side2 => exact (Kd.R_reads' HO462.out).2.1); (case side3 => repeat (first | exact (Kd.R_reads' HO465.out).2.2 | (with_reducible refine Kd.C_alloc ?_ _) | (with_reducible refine Kd.C_drewN ?_ _) | (with_reducible refine Kd.C_drew ?_))); (case side4 => exact (Kd.R_reads' HO465.out).2.1); rintro e w' ⟨rfl, ⟨nd, rfl⟩⟩; (try first | exact ⟨rfl, _, World.drewN_drewN _ _ _⟩ | exact ⟨rfl, _, Eq.trans (World.drewN_drewN _ _ _) (congrArg (World.drewN _) (Nat.add_assoc _ _ _))⟩))); try go_wp2_with (first | (go_at_call 20; (with_reducible refine (spec_WaitsFor.calls k _ _ t453 _ _ t456 t459 t463 _ ?side1 ?side2 ?side3 ?side4 A10.out).mono ?_); (case side1 => repeat (first | exact (Kd.N_reads' HO455.out).2.2 | (with_reducible refine Kd.C_alloc ?_ _) | (with_reducible refine Kd.C_drewN ?_ _) | (with_reducible refine Kd.C_drew ?_))); (case side2 => exact (Kd.N_reads' HO455.out).2.1); (case side3 => repeat (first | exact (Kd.Q_reads' HO458.out).2.2 | (with_reducible refine Kd.C_alloc ?_ _) | (with_reducible refine Kd.C_drewN ?_ _) | (with_reducible refine Kd.C_drew ?_))); (case side4 => exact (Kd.Q_reads' HO458.out).2.1); rintro e w28 ⟨v464, rfl, ho0, hb⟩; have n0_ := Aside0.mk (Kd.N_elder' (by (with_reducible repeat (first | apply Kd.N_alloc | apply Kd.N_drewN | apply Kd.N_drew)); exact HO455.out) (Kd.R_base ho0) hb); have n1_ := Aside0.mk (Kd.Q_elder' (by (with_reducible repeat (first | apply Kd.Q_alloc | apply Kd.Q_drewN | apply Kd.Q_drew)); exact HO458.out) (Kd.R_base ho0) hb); have n2_ := Aside0.mk (Kd.R_elder' (by (with_reducible repeat (first | apply Kd.R_alloc | apply Kd.R_drewN | apply Kd.R_drew)); exact HO462.out) (Kd.R_base ho0) hb); have n3_ := Aside0.mk (Kd.R_lower (Kd.R_new' (Kd.R_new' ho0 (Kd.Q_lt (by (with_reducible repeat (first | apply Kd.Q_alloc | apply Kd.Q_drewN | apply Kd.Q_drew)); exact HO458.out))) (Kd.R_lt (by (with_reducible repeat (first | apply Kd.R_alloc | apply Kd.R_drewN | apply Kd.R_drew)); exact HO462.out))) (below_size (by repeat (first | (with_reducible first | exact HB.out | apply below_alloc | apply pw_below_drewN | apply below_drew1) | exact HB.out)))); have n4_ := Aside0.mk (below_step (by repeat (first | (with_reducible first | exact HB.out | apply below_alloc | apply pw_below_drewN | apply below_drew1) | exact HB.out)) hb); clear HO455; clear HO458; clear HO462; clear HB; have HO455 := n0_; have HO458 := n1_; have HO462 := n2_; have HO465 := n3_; have HB := n4_; clear n0_ n1_ n2_ n3_ n4_; (try clear hb); (try clear hb2); (try clear hk); (try clear hi); (try clear ho0); obtain ⟨Ao29, co29, eo29⟩ := Kd.R_slice HO462.out; subst eo29; obtain ⟨Ao30, co30, eo30⟩ := Kd.R_slice HO465.out; subst eo30) | (go_at_call 19; (with_reducible refine (laws_equalInts.calls k _ _ t460 _ _ t463 false _ ?side1 ?side2 ?side3 ?side4 A11.out).mono ?_); (case side1 => repeat (first | exact (Kd.R_reads' HO462.out).2.2 | (with_reducible refine Kd.C_alloc ?_ _) | (with_reducible refine Kd.C_drewN ?_ _) | (with_reducible refine Kd.C_drew ?_))); (case side2 => exact (Kd.R_reads' HO462.out).2.1); (case side3 => repeat (first | exact (Kd.R_reads' HO465.out).2.2 | (with_reducible refine Kd.C_alloc ?_ _) | (with_reducible refine Kd.C_drewN ?_ _) | (with_reducible refine Kd.C_drew ?_))); (case side4 => exact (Kd.R_reads' HO465.out).2.1); rintro e w' ⟨rfl, ⟨nd, rfl⟩⟩; (try first | exact ⟨rfl, _, World.drewN_drewN _ _ _⟩ | exact ⟨rfl, _, Eq.trans (World.drewN_drewN _ _ _) (congrArg (World.drewN _) (Nat.add_assoc _ _ _))⟩))))
    go_meet
    case rel => exact ⟨_, (true), (by first | rfl | (simp; done) | (simp [*]; done)), H', ⟨by first | omega | exact Nat.le_refl _⟩, ⟨by (with_reducible repeat (first | apply Kd.N_alloc | apply Kd.N_drewN | apply Kd.N_drew)); exact Kd.N_mono HO455.out (fun _ hk => ⟨hk.1.1, hk.1.2⟩)⟩, ⟨by (with_reducible repeat (first | apply Kd.Q_alloc | apply Kd.Q_drewN | apply Kd.Q_drew)); exact Kd.Q_mono HO458.out (fun _ hk => hk.1.2)⟩, ⟨by (with_reducible repeat (first | apply Kd.R_alloc | apply Kd.R_drewN | apply Kd.R_drew)); exact Kd.R_mono HO462.out (fun _ hk => hk.1.2)⟩, ⟨by repeat (first | (with_reducible first | exact HB.out | apply below_alloc | apply pw_below_drewN | apply below_drew1) | exact HB.out)⟩⟩
  case rest =>
   clear HC5
   try clear c1
   try clear c2
   try clear c2b0
   try clear c2b1
   try clear p2
   try clear c4
   try clear c12
   try clear c14
   try clear c15
   try clear c15b0
   obtain ⟨kq, x43_4, rfl, HA, HJ4, HO_3, HO_4, HO_6, HB⟩ := hcut
   cases kq with
   | zero => exact absurd HA.out (by simp [laws_FnWaitsFor.j0])
   | succ kj4 =>
    have H := HA.out
    clear HA
    simp only [laws_FnWaitsFor.j0] at H
    by_cases c31 : x43_4 = true
    ·subst c31
     have H1 : ((spec_WaitsFor.f kj4 t453 t456 t459).bind fun t468 => ((laws_equalInts.f kj4 t460 t468).bind fun t471 => (some t471))) = some r := by rw [if_pos rfl] at H; exact H
     clear H
     have H := H1
     clear H1
     replace H := Option.bind_eq_some_iff.mp H
     obtain ⟨t468, A320, H⟩ := H
     replace H : ((laws_equalInts.f kj4 t460 t468).bind fun t471 => (some t471)) = some r := H
     have A32 := Aside0.mk A320
     clear A320
     replace H := Option.bind_eq_some_iff.mp H
     obtain ⟨t471, A330, H⟩ := H
     replace H : (some t471) = some r := H
     have A33 := Aside0.mk A330
     clear A330
     obtain rfl := Option.some.inj H
     go_wp2_with (first | (go_at_call 20; (with_reducible refine (spec_WaitsFor.calls kj4 _ _ t453 _ _ t456 t459 t468 _ ?side1 ?side2 ?side3 ?side4 A32.out).mono ?_); (case side1 => repeat (first | exact (Kd.N_reads' HO_3.out).2.2 | (with_reducible refine Kd.C_alloc ?_ _) | (with_reducible refine Kd.C_drewN ?_ _) | (with_reducible refine Kd.C_drew ?_))); (case side2 => exact (Kd.N_reads' HO_3.out).2.1); (case side3 => repeat (first | exact (Kd.Q_reads' HO_4.out).2.2 | (with_reducible refine Kd.C_alloc ?_ _) | (with_reducible refine Kd.C_drewN ?_ _) | (with_reducible refine Kd.C_drew ?_))); (case side4 => exact (Kd.Q_reads' HO_4.out).2.1); rintro e w34 ⟨v469, rfl, ho0, hb⟩; have n0_ := Aside0.mk (Kd.N_elder' (by (with_reducible repeat (first | apply Kd.N_alloc | apply Kd.N_drewN | apply Kd.N_drew)); exact HO_3.out) (Kd.R_base ho0) hb); have n1_ := Aside0.mk (Kd.Q_elder' (by (with_reducible repeat (first | apply Kd.Q_alloc | apply Kd.Q_drewN | apply Kd.Q_drew)); exact HO_4.out) (Kd.R_base ho0) hb); have n2_ := Aside0.mk (Kd.R_elder' (by (with_reducible repeat (first | apply Kd.R_alloc | apply Kd.R_drewN | apply Kd.R_drew)); exact HO_6.out) (Kd.R_base ho0) hb); have n3_ := Aside0.mk (Kd.R_lower (Kd.R_new' (Kd.R_new' ho0 (Kd.Q_lt (by (with_reducible repeat (first | apply Kd.Q_alloc | apply Kd.Q_drewN | apply Kd.Q_drew)); exact HO_4.out))) (Kd.R_lt (by (with_reducible repeat (first | apply Kd.R_alloc | apply Kd.R_drewN | apply Kd.R_drew)); exact HO_6.out))) (below_size (by repeat (first | (with_reducible first | exact HB.out | apply below_alloc | apply pw_below_drewN | apply below_drew1) | exact HB.out)))); have n4_ := Aside0.mk (below_step (by repeat (first | (with_reducible first | exact HB.out | apply below_alloc | apply pw_below_drewN | apply below_drew1) | exact HB.out)) hb); clear HO_3; clear HO_4; clear HO_6; clear HB; have HO_3 := n0_; have HO_4 := n1_; have HO_6 := n2_; have HO470 := n3_; have HB := n4_; clear n0_ n1_ n2_ n3_ n4_; (try clear hb); (try clear hb2); (try clear hk); (try clear hi); (try clear ho0); obtain ⟨Ao35, co35, eo35⟩ := Kd.R_slice HO_6.out; subst eo35; obtain ⟨Ao36, co36, eo36⟩ := Kd.R_slice HO470.out; subst eo36) | (go_at_call 19; (with_reducible refine (laws_equalInts.calls kj4 _ _ t460 _ _ t468 t471 _ ?side1 ?side2 ?side3 ?side4 A33.out).mono ?_); (case side1 => repeat (first | exact (Kd.R_reads' HO_6.out).2.2 | (with_reducible refine Kd.C_alloc ?_ _) | (with_reducible refine Kd.C_drewN ?_ _) | (with_reducible refine Kd.C_drew ?_))); (case side2 => exact (Kd.R_reads' HO_6.out).2.1); (case side3 => repeat (first | exact (Kd.R_reads' HO470.out).2.2 | (with_reducible refine Kd.C_alloc ?_ _) | (with_reducible refine Kd.C_drewN ?_ _) | (with_reducible refine Kd.C_drew ?_))); (case side4 => exact (Kd.R_reads' HO470.out).2.1); rintro e w' ⟨rfl, ⟨nd, rfl⟩⟩; (try first | exact ⟨rfl, _, World.drewN_drewN _ _ _⟩ | exact ⟨rfl, _, Eq.trans (World.drewN_drewN _ _ _) (congrArg (World.drewN _) (Nat.add_assoc _ _ _))⟩)))
     repeat (go_quiet (first | (go_at_call 20; (with_reducible refine (spec_WaitsFor.calls kj4 _ _ t453 _ _ t456 t459 t468 _ ?side1 ?side2 ?side3 ?side4 A32.out).mono ?_); (case side1 => repeat (first | exact (Kd.N_reads' HO_3.out).2.2 | (with_reducible refine Kd.C_alloc ?_ _) | (with_reducible refine Kd.C_drewN ?_ _) | (with_reducible refine Kd.C_drew ?_))); (case side2 => exact (Kd.N_reads' HO_3.out).2.1); (case side3 => repeat (first | exact (Kd.Q_reads' HO_4.out).2.2 | (with_reducible refine Kd.C_alloc ?_ _) | (with_reducible refine Kd.C_drewN ?_ _) | (with_reducible refine Kd.C_drew ?_))); (case side4 => exact (Kd.Q_reads' HO_4.out).2.1); rintro e w34 ⟨v469, rfl, ho0, hb⟩; have n0_ := Aside0.mk (Kd.N_elder' (by (with_reducible repeat (first | apply Kd.N_alloc | apply Kd.N_drewN | apply Kd.N_drew)); exact HO_3.out) (Kd.R_base ho0) hb); have n1_ := Aside0.mk (Kd.Q_elder' (by (with_reducible repeat (first | apply Kd.Q_alloc | apply Kd.Q_drewN | apply Kd.Q_drew)); exact HO_4.out) (Kd.R_base ho0) hb); have n2_ := Aside0.mk (Kd.R_elder' (by (with_reducible repeat (first | apply Kd.R_alloc | apply Kd.R_drewN | apply Kd.R_drew)); exact HO_6.out) (Kd.R_base ho0) hb); have n3_ := Aside0.mk (Kd.R_lower (Kd.R_new' (Kd.R_new' ho0 (Kd.Q_lt (by (with_reducible repeat (first | apply Kd.Q_alloc | apply Kd.Q_drewN | apply Kd.Q_drew)); exact HO_4.out))) (Kd.R_lt (by (with_reducible repeat (first | apply Kd.R_alloc | apply Kd.R_drewN | apply Kd.R_drew)); exact HO_6.out))) (below_size (by repeat (first | (with_reducible first | exact HB.out | apply below_alloc | apply pw_below_drewN | apply below_drew1) | exact HB.out)))); have n4_ := Aside0.mk (below_step (by repeat (first | (with_reducible first | exact HB.out | apply below_alloc | apply pw_below_drewN | apply below_drew1) | exact HB.out)) hb); clear HO_3; clear HO_4; clear HO_6; clear HB; have HO_3 := n0_; have HO_4 := n1_; have HO_6 := n2_; have HO470 := n3_; have HB := n4_; clear n0_ n1_ n2_ n3_ n4_; (try clear hb); (try clear hb2); (try clear hk); (try clear hi); (try clear ho0); obtain ⟨Ao35, co35, eo35⟩ := Kd.R_slice HO_6.out; subst eo35; obtain ⟨Ao36, co36, eo36⟩ := Kd.R_slice HO470.out; subst eo36) | (go_at_call 19; (with_reducible refine (laws_equalInts.calls kj4 _ _ t460 _ _ t468 t471 _ ?side1 ?side2 ?side3 ?side4 A33.out).mono ?_); (case side1 => repeat (first | exact (Kd.R_reads' HO_6.out).2.2 | (with_reducible refine Kd.C_alloc ?_ _) | (with_reducible refine Kd.C_drewN ?_ _) | (with_reducible refine Kd.C_drew ?_))); (case side2 => exact (Kd.R_reads' HO_6.out).2.1); (case side3 => repeat (first | exact (Kd.R_reads' HO470.out).2.2 | (with_reducible refine Kd.C_alloc ?_ _) | (with_reducible refine Kd.C_drewN ?_ _) | (with_reducible refine Kd.C_drew ?_))); (case side4 => exact (Kd.R_reads' HO470.out).2.1); rintro e w' ⟨rfl, ⟨nd, rfl⟩⟩; (try first | exact ⟨rfl, _, World.drewN_drewN _ _ _⟩ | exact ⟨rfl, _, Eq.trans (World.drewN_drewN _ _ _) (congrArg (World.drewN _) (Nat.add_assoc _ _ _))⟩))); try go_wp2_with (first | (go_at_call 20; (with_reducible refine (spec_WaitsFor.calls kj4 _ _ t453 _ _ t456 t459 t468 _ ?side1 ?side2 ?side3 ?side4 A32.out).mono ?_); (case side1 => repeat (first | exact (Kd.N_reads' HO_3.out).2.2 | (with_reducible refine Kd.C_alloc ?_ _) | (with_reducible refine Kd.C_drewN ?_ _) | (with_reducible refine Kd.C_drew ?_))); (case side2 => exact (Kd.N_reads' HO_3.out).2.1); (case side3 => repeat (first | exact (Kd.Q_reads' HO_4.out).2.2 | (with_reducible refine Kd.C_alloc ?_ _) | (with_reducible refine Kd.C_drewN ?_ _) | (with_reducible refine Kd.C_drew ?_))); (case side4 => exact (Kd.Q_reads' HO_4.out).2.1); rintro e w34 ⟨v469, rfl, ho0, hb⟩; have n0_ := Aside0.mk (Kd.N_elder' (by (with_reducible repeat (first | apply Kd.N_alloc | apply Kd.N_drewN | apply Kd.N_drew)); exact HO_3.out) (Kd.R_base ho0) hb); have n1_ := Aside0.mk (Kd.Q_elder' (by (with_reducible repeat (first | apply Kd.Q_alloc | apply Kd.Q_drewN | apply Kd.Q_drew)); exact HO_4.out) (Kd.R_base ho0) hb); have n2_ := Aside0.mk (Kd.R_elder' (by (with_reducible repeat (first | apply Kd.R_alloc | apply Kd.R_drewN | apply Kd.R_drew)); exact HO_6.out) (Kd.R_base ho0) hb); have n3_ := Aside0.mk (Kd.R_lower (Kd.R_new' (Kd.R_new' ho0 (Kd.Q_lt (by (with_reducible repeat (first | apply Kd.Q_alloc | apply Kd.Q_drewN | apply Kd.Q_drew)); exact HO_4.out))) (Kd.R_lt (by (with_reducible repeat (first | apply Kd.R_alloc | apply Kd.R_drewN | apply Kd.R_drew)); exact HO_6.out))) (below_size (by repeat (first | (with_reducible first | exact HB.out | apply below_alloc | apply pw_below_drewN | apply below_drew1) | exact HB.out)))); have n4_ := Aside0.mk (below_step (by repeat (first | (with_reducible first | exact HB.out | apply below_alloc | apply pw_below_drewN | apply below_drew1) | exact HB.out)) hb); clear HO_3; clear HO_4; clear HO_6; clear HB; have HO_3 := n0_; have HO_4 := n1_; have HO_6 := n2_; have HO470 := n3_; have HB := n4_; clear n0_ n1_ n2_ n3_ n4_; (try clear hb); (try clear hb2); (try clear hk); (try clear hi); (try clear ho0); obtain ⟨Ao35, co35, eo35⟩ := Kd.R_slice HO_6.out; subst eo35; obtain ⟨Ao36, co36, eo36⟩ := Kd.R_slice HO470.out; subst eo36) | (go_at_call 19; (with_reducible refine (laws_equalInts.calls kj4 _ _ t460 _ _ t468 t471 _ ?side1 ?side2 ?side3 ?side4 A33.out).mono ?_); (case side1 => repeat (first | exact (Kd.R_reads' HO_6.out).2.2 | (with_reducible refine Kd.C_alloc ?_ _) | (with_reducible refine Kd.C_drewN ?_ _) | (with_reducible refine Kd.C_drew ?_))); (case side2 => exact (Kd.R_reads' HO_6.out).2.1); (case side3 => repeat (first | exact (Kd.R_reads' HO470.out).2.2 | (with_reducible refine Kd.C_alloc ?_ _) | (with_reducible refine Kd.C_drewN ?_ _) | (with_reducible refine Kd.C_drew ?_))); (case side4 => exact (Kd.R_reads' HO470.out).2.1); rintro e w' ⟨rfl, ⟨nd, rfl⟩⟩; (try first | exact ⟨rfl, _, World.drewN_drewN _ _ _⟩ | exact ⟨rfl, _, Eq.trans (World.drewN_drewN _ _ _) (congrArg (World.drewN _) (Nat.add_assoc _ _ _))⟩))))
     go_ret
     exact ⟨by first | rfl | (simp [errW_none, errW_some] <;> rfl) | (simp [*, errW_none, errW_some] <;> rfl), by repeat (first | (with_reducible first | exact HB.out | apply below_alloc | apply pw_below_drewN | apply below_drew1) | exact HB.out)⟩
    ·replace c31 := Bool.eq_false_iff.mpr c31
     subst c31
     have H1 : (laws_FnWaitsFor.l0 kj4 t453 t456 t459 t460 0) = some r := by rw [if_neg (show ¬ (false = true) by decide)] at H; exact H
     clear H
     have H := H1
     clear H1
     have H' := Aside0.mk H
     clear H
     go_wp2
     repeat (go_quiet (fail); try go_wp2)
     go_loopg [7] kj4 (fun kq v7 w' => ∃ (x7_2 : Int), v7 = .int .i64 x7_2 ∧ Aside0 (laws_FnWaitsFor.l0 kq t453 t456 t459 t460 x7_2 = some r) ∧ Aside0 (kq ≤ kj4) ∧ Aside0 (Kd.N k39 39 w' w.heap.size (fun k_ => some k_ ≠ ((.slice Ao8 t456.length co8) : Value).ownBlock ∧ some k_ ≠ (v461 : Value).ownBlock) (.slice Ao7 t453.length co7) t453) ∧ Aside0 (Kd.Q (Kd.int .i64) 3 w' w.heap.size (fun k_ => some k_ ≠ (v461 : Value).ownBlock) (.slice Ao8 t456.length co8) t456) ∧ Aside0 (Kd.R (Kd.int .i64) 3 w' w.heap.size (fun k_ => some k_ ≠ ((.slice Ao8 t456.length co8) : Value).ownBlock) v461 t460) ∧ Aside0 (Below w.heap.size w w'))
     case atStart => exact ⟨(0), (by first | rfl | (simp; done) | (simp [*]; done)), H', ⟨Nat.le_refl _⟩, ⟨by (with_reducible repeat (first | apply Kd.N_alloc | apply Kd.N_drewN | apply Kd.N_drew)); exact HO_3.out⟩, ⟨by (with_reducible repeat (first | apply Kd.Q_alloc | apply Kd.Q_drewN | apply Kd.Q_drew)); exact HO_4.out⟩, ⟨by (with_reducible repeat (first | apply Kd.R_alloc | apply Kd.R_drewN | apply Kd.R_drew)); exact HO_6.out⟩, ⟨by repeat (first | (with_reducible first | exact HB.out | apply below_alloc | apply pw_below_drewN | apply below_drew1) | exact HB.out)⟩⟩
     case round =>
      clear H'
      try clear c1
      try clear c2
      try clear c2b0
      try clear c2b1
      try clear p2
      try clear c3
      try clear c4
      try clear c12
      try clear c14
      try clear c15
      try clear c15b0
      try clear c31
      try clear p2
      obtain ⟨x7_2, rfl, HA, HK2, HO_3, HO_4, HO_6, HB⟩ := hrel
      cases gk with
      | zero => exact absurd HA.out (by simp [laws_FnWaitsFor.l0])
      | succ k2 =>
       have H := HA.out
       clear HA
       simp only [laws_FnWaitsFor.l0] at H
       by_cases c37 : x7_2 < (t460.length : Int)
       ·rw [if_pos c37] at H
        have c37b0 : decide (x7_2 < (t460.length : Int)) = true := decide_eq_true c37
        clear c37
        by_cases c38 : 0 ≤ t459
        ·rw [if_pos c38] at H
         have c38b0 : decide (0 ≤ t459) = true := decide_eq_true c38
         clear c38
         by_cases c39 : t459 < (t453.length : Int)
         ·rw [if_pos c39] at H
          have c39b0 : decide (t459 < (t453.length : Int)) = true := decide_eq_true c39
          clear c39
          by_cases c40 : 0 ≤ x7_2
          ·rw [if_pos c40] at H
           have c40b0 : decide (0 ≤ x7_2) = true := decide_eq_true c40
           clear c40
           replace H := Option.bind_eq_some_iff.mp H
           obtain ⟨t479, A410, H⟩ := H
           replace H : (if t479 = true then ((laws_isIn.f k2 t456 (rd t460 x7_2)).bind fun t481 => (if t481 = true then (some false) else (laws_FnWaitsFor.l0 k2 t453 t456 t459 t460 (wrap64 (x7_2 + 1))))) else (some false)) = some r := H
           have A41 := Aside0.mk A410
           clear A410
           by_cases c42 : t479 = true
           ·subst c42
            have H1 : ((laws_isIn.f k2 t456 (rd t460 x7_2)).bind fun t481 => (if t481 = true then (some false) else (laws_FnWaitsFor.l0 k2 t453 t456 t459 t460 (wrap64 (x7_2 + 1))))) = some r := by rw [if_pos rfl] at H; exact H
            clear H
            have H := H1
            clear H1
            replace H := Option.bind_eq_some_iff.mp H
            obtain ⟨t481, A430, H⟩ := H
            replace H : (if t481 = true then (some false) else (laws_FnWaitsFor.l0 k2 t453 t456 t459 t460 (wrap64 (x7_2 + 1)))) = some r := H
            have A43 := Aside0.mk A430
            clear A430
            by_cases c44 : t481 = true
            ·subst c44
             have H1 : (some false) = some r := by rw [if_pos rfl] at H; exact H
             clear H
             have H := H1
             clear H1
             obtain rfl := Option.some.inj H
             obtain ⟨Ao45, co45, eo45⟩ := Kd.R_slice HO_6.out
             subst eo45
             have p477 : 0 ≤ (t459 : Int) := of_decide_eq_true (by first | (with_reducible assumption) | assumption)
             have q477 : t459 < (t453.length : Int) := of_decide_eq_true (by first | (with_reducible assumption) | assumption)
             obtain ⟨ad477, A477_1, c477_1, e477, hx477_0, hx477_1, hx477_2, hx477_3, hl477_1, hi477_1⟩ := at_T39 (Kd.N_reads' HO_3.out).2.2 t459 p477 q477
             cases e477
             obtain ⟨ce477, hce477, hMe477, hcc477⟩ := Kd.N_get HO_3.out z39 t459 p477 (by first | exact q477 | exact of_decide_eq_true (by first | (with_reducible assumption) | assumption) | (have e_ := (Kd.N_reads' HO_3.out).1; omega))
             obtain ⟨ua477_1, uc477_1, rfl, ul477_1, ge477_1⟩ := k39_openF hMe477
             have hv477_1 := hcc477 1 _ rfl
             rw [add_field _ _ 1 (by omega)] at hv477_1
             replace hv477_1 := Option.some.inj (hv477_1.symm.trans hx477_1)
             injection hv477_1 with hva_ hvn_ hvc_
             rw [hva_] at ge477_1
             rw [hvc_] at ul477_1
             have HL477_1 := Aside0.mk (show Kd.V (Kd.int .i64) 3 _ w.heap.size _ _ ((rd_T39 t453 t459).f1) from Kd.V_mk ul477_1 ge477_1)
             clear hva_ hvn_ hvc_ ge477_1 ul477_1
             clear hcc477 hce477
             have HR477_1 := Aside0.mk hi477_1
             have HC477_1 := Aside0.mk hl477_1
             clear hi477_1 hl477_1
             replace p477 := eq_true p477
             replace q477 := eq_true q477
             have p478 : 0 ≤ (x7_2 : Int) := of_decide_eq_true (by first | (with_reducible assumption) | assumption)
             have q478 : x7_2 < (t460.length : Int) := of_decide_eq_true (by first | (with_reducible assumption) | assumption)
             obtain ⟨ad478, e478, hx478_0⟩ := Kd.at_int (Kd.R_reads' HO_6.out).2.2 x7_2 p478 q478
             cases e478
             replace p478 := eq_true p478
             replace q478 := eq_true q478
             go_wp2_with (first | (go_at_call 22; (with_reducible refine (laws_isIn.calls k2 _ _ ((rd_T39 t453 t459).f1) (rd t460 x7_2) true _ ?side1 ?side2 A41.out).mono ?_); (case side1 => repeat (first | exact (by repeat (first | (with_reducible exact HR477_1.out) | (with_reducible refine Kd.C_alloc ?_ _) | (with_reducible refine Kd.C_drewN ?_ _) | (with_reducible refine Kd.C_drew ?_) | exact HR477_1.out)) | (with_reducible refine Kd.C_alloc ?_ _) | (with_reducible refine Kd.C_drewN ?_ _) | (with_reducible refine Kd.C_drew ?_))); (case side2 => exact HC477_1.out); rintro e w' ⟨rfl, ⟨nd, rfl⟩⟩; (try first | exact ⟨rfl, _, World.drewN_drewN _ _ _⟩ | exact ⟨rfl, _, Eq.trans (World.drewN_drewN _ _ _) (congrArg (World.drewN _) (Nat.add_assoc _ _ _))⟩); have p480 : 0 ≤ (x7_2 : Int) := of_decide_eq_true (by first | (with_reducible assumption) | assumption); have q480 : x7_2 < (t460.length : Int) := of_decide_eq_true (by first | (with_reducible assumption) | assumption); obtain ⟨ad480, e480, hx480_0⟩ := Kd.at_int (Kd.R_reads' HO_6.out).2.2 x7_2 p480 q480; obtain rfl : ad478 = ad480 := (by injection e480); replace p480 := eq_true p480; replace q480 := eq_true q480) | (go_at_call 22; (with_reducible refine (laws_isIn.calls k2 _ _ t456 (rd t460 x7_2) true _ ?side1 ?side2 A43.out).mono ?_); (case side1 => repeat (first | exact (Kd.Q_reads' HO_4.out).2.2 | (with_reducible refine Kd.C_alloc ?_ _) | (with_reducible refine Kd.C_drewN ?_ _) | (with_reducible refine Kd.C_drew ?_))); (case side2 => exact (Kd.Q_reads' HO_4.out).2.1); rintro e w' ⟨rfl, ⟨nd, rfl⟩⟩; (try first | exact ⟨rfl, _, World.drewN_drewN _ _ _⟩ | exact ⟨rfl, _, Eq.trans (World.drewN_drewN _ _ _) (congrArg (World.drewN _) (Nat.add_assoc _ _ _))⟩)))
             repeat (go_quiet (first | (go_at_call 22; (with_reducible refine (laws_isIn.calls k2 _ _ ((rd_T39 t453 t459).f1) (rd t460 x7_2) true _ ?side1 ?side2 A41.out).mono ?_); (case side1 => repeat (first | exact (by repeat (first | (with_reducible exact HR477_1.out) | (with_reducible refine Kd.C_alloc ?_ _) | (with_reducible refine Kd.C_drewN ?_ _) | (with_reducible refine Kd.C_drew ?_) | exact HR477_1.out)) | (with_reducible refine Kd.C_alloc ?_ _) | (with_reducible refine Kd.C_drewN ?_ _) | (with_reducible refine Kd.C_drew ?_))); (case side2 => exact HC477_1.out); rintro e w' ⟨rfl, ⟨nd, rfl⟩⟩; (try first | exact ⟨rfl, _, World.drewN_drewN _ _ _⟩ | exact ⟨rfl, _, Eq.trans (World.drewN_drewN _ _ _) (congrArg (World.drewN _) (Nat.add_assoc _ _ _))⟩); have p480 : 0 ≤ (x7_2 : Int) := of_decide_eq_true (by first | (with_reducible assumption) | assumption); have q480 : x7_2 < (t460.length : Int) := of_decide_eq_true (by first | (with_reducible assumption) | assumption); obtain ⟨ad480, e480, hx480_0⟩ := Kd.at_int (Kd.R_reads' HO_6.out).2.2 x7_2 p480 q480; obtain rfl : ad478 = ad480 := (by injection e480); replace p480 := eq_true p480; replace q480 := eq_true q480) | (go_at_call 22; (with_reducible refine (laws_isIn.calls k2 _ _ t456 (rd t460 x7_2) true _ ?side1 ?side2 A43.out).mono ?_); (case side1 => repeat (first | exact (Kd.Q_reads' HO_4.out).2.2 | (with_reducible refine Kd.C_alloc ?_ _) | (with_reducible refine Kd.C_drewN ?_ _) | (with_reducible refine Kd.C_drew ?_))); (case side2 => exact (Kd.Q_reads' HO_4.out).2.1); rintro e w' ⟨rfl, ⟨nd, rfl⟩⟩; (try first | exact ⟨rfl, _, World.drewN_drewN _ _ _⟩ | exact ⟨rfl, _, Eq.trans (World.drewN_drewN _ _ _) (congrArg (World.drewN _) (Nat.add_assoc _ _ _))⟩))); try go_wp2_with (first | (go_at_call 22; (with_reducible refine (laws_isIn.calls k2 _ _ ((rd_T39 t453 t459).f1) (rd t460 x7_2) true _ ?side1 ?side2 A41.out).mono ?_); (case side1 => repeat (first | exact (by repeat (first | (with_reducible exact HR477_1.out) | (with_reducible refine Kd.C_alloc ?_ _) | (with_reducible refine Kd.C_drewN ?_ _) | (with_reducible refine Kd.C_drew ?_) | exact HR477_1.out)) | (with_reducible refine Kd.C_alloc ?_ _) | (with_reducible refine Kd.C_drewN ?_ _) | (with_reducible refine Kd.C_drew ?_))); (case side2 => exact HC477_1.out); rintro e w' ⟨rfl, ⟨nd, rfl⟩⟩; (try first | exact ⟨rfl, _, World.drewN_drewN _ _ _⟩ | exact ⟨rfl, _, Eq.trans (World.drewN_drewN _ _ _) (congrArg (World.drewN _) (Nat.add_assoc _ _ _))⟩); have p480 : 0 ≤ (x7_2 : Int) := of_decide_eq_true (by first | (with_reducible assumption) | assumption); have q480 : x7_2 < (t460.length : Int) := of_decide_eq_true (by first | (with_reducible assumption) | assumption); obtain ⟨ad480, e480, hx480_0⟩ := Kd.at_int (Kd.R_reads' HO_6.out).2.2 x7_2 p480 q480; obtain rfl : ad478 = ad480 := (by injection e480); replace p480 := eq_true p480; replace q480 := eq_true q480) | (go_at_call 22; (with_reducible refine (laws_isIn.calls k2 _ _ t456 (rd t460 x7_2) true _ ?side1 ?side2 A43.out).mono ?_); (case side1 => repeat (first | exact (Kd.Q_reads' HO_4.out).2.2 | (with_reducible refine Kd.C_alloc ?_ _) | (with_reducible refine Kd.C_drewN ?_ _) | (with_reducible refine Kd.C_drew ?_))); (case side2 => exact (Kd.Q_reads' HO_4.out).2.1); rintro e w' ⟨rfl, ⟨nd, rfl⟩⟩; (try first | exact ⟨rfl, _, World.drewN_drewN _ _ _⟩ | exact ⟨rfl, _, Eq.trans (World.drewN_drewN _ _ _) (congrArg (World.drewN _) (Nat.add_assoc _ _ _))⟩))))
             go_ret
             exact ⟨by first | rfl | (simp [errW_none, errW_some] <;> rfl) | (simp [*, errW_none, errW_some] <;> rfl), by repeat (first | (with_reducible first | exact HB.out | apply below_alloc | apply pw_below_drewN | apply below_drew1) | exact HB.out)⟩
            ·replace c44 := Bool.eq_false_iff.mpr c44
             subst c44
             have H1 : (laws_FnWaitsFor.l0 k2 t453 t456 t459 t460 (wrap64 (x7_2 + 1))) = some r := by rw [if_neg (show ¬ (false = true) by decide)] at H; exact H
             clear H
             have H := H1
             clear H1
             have H' := Aside0.mk H
             clear H
             obtain ⟨Ao46, co46, eo46⟩ := Kd.R_slice HO_6.out
             subst eo46
             have p477 : 0 ≤ (t459 : Int) := of_decide_eq_true (by first | (with_reducible assumption) | assumption)
             have q477 : t459 < (t453.length : Int) := of_decide_eq_true (by first | (with_reducible assumption) | assumption)
             obtain ⟨ad477, A477_1, c477_1, e477, hx477_0, hx477_1, hx477_2, hx477_3, hl477_1, hi477_1⟩ := at_T39 (Kd.N_reads' HO_3.out).2.2 t459 p477 q477
             cases e477
             obtain ⟨ce477, hce477, hMe477, hcc477⟩ := Kd.N_get HO_3.out z39 t459 p477 (by first | exact q477 | exact of_decide_eq_true (by first | (with_reducible assumption) | assumption) | (have e_ := (Kd.N_reads' HO_3.out).1; omega))
             obtain ⟨ua477_1, uc477_1, rfl, ul477_1, ge477_1⟩ := k39_openF hMe477
             have hv477_1 := hcc477 1 _ rfl
             rw [add_field _ _ 1 (by omega)] at hv477_1
             replace hv477_1 := Option.some.inj (hv477_1.symm.trans hx477_1)
             injection hv477_1 with hva_ hvn_ hvc_
             rw [hva_] at ge477_1
             rw [hvc_] at ul477_1
             have HL477_1 := Aside0.mk (show Kd.V (Kd.int .i64) 3 _ w.heap.size _ _ ((rd_T39 t453 t459).f1) from Kd.V_mk ul477_1 ge477_1)
             clear hva_ hvn_ hvc_ ge477_1 ul477_1
             clear hcc477 hce477
             have HR477_1 := Aside0.mk hi477_1
             have HC477_1 := Aside0.mk hl477_1
             clear hi477_1 hl477_1
             replace p477 := eq_true p477
             replace q477 := eq_true q477
             have p478 : 0 ≤ (x7_2 : Int) := of_decide_eq_true (by first | (with_reducible assumption) | assumption)
             have q478 : x7_2 < (t460.length : Int) := of_decide_eq_true (by first | (with_reducible assumption) | assumption)
             obtain ⟨ad478, e478, hx478_0⟩ := Kd.at_int (Kd.R_reads' HO_6.out).2.2 x7_2 p478 q478
             cases e478
             replace p478 := eq_true p478
             replace q478 := eq_true q478
             go_wp2_with (first | (go_at_call 22; (with_reducible refine (laws_isIn.calls k2 _ _ ((rd_T39 t453 t459).f1) (rd t460 x7_2) true _ ?side1 ?side2 A41.out).mono ?_); (case side1 => repeat (first | exact (by repeat (first | (with_reducible exact HR477_1.out) | (with_reducible refine Kd.C_alloc ?_ _) | (with_reducible refine Kd.C_drewN ?_ _) | (with_reducible refine Kd.C_drew ?_) | exact HR477_1.out)) | (with_reducible refine Kd.C_alloc ?_ _) | (with_reducible refine Kd.C_drewN ?_ _) | (with_reducible refine Kd.C_drew ?_))); (case side2 => exact HC477_1.out); rintro e w' ⟨rfl, ⟨nd, rfl⟩⟩; (try first | exact ⟨rfl, _, World.drewN_drewN _ _ _⟩ | exact ⟨rfl, _, Eq.trans (World.drewN_drewN _ _ _) (congrArg (World.drewN _) (Nat.add_assoc _ _ _))⟩); have p480 : 0 ≤ (x7_2 : Int) := of_decide_eq_true (by first | (with_reducible assumption) | assumption); have q480 : x7_2 < (t460.length : Int) := of_decide_eq_true (by first | (with_reducible assumption) | assumption); obtain ⟨ad480, e480, hx480_0⟩ := Kd.at_int (Kd.R_reads' HO_6.out).2.2 x7_2 p480 q480; obtain rfl : ad478 = ad480 := (by injection e480); replace p480 := eq_true p480; replace q480 := eq_true q480) | (go_at_call 22; (with_reducible refine (laws_isIn.calls k2 _ _ t456 (rd t460 x7_2) false _ ?side1 ?side2 A43.out).mono ?_); (case side1 => repeat (first | exact (Kd.Q_reads' HO_4.out).2.2 | (with_reducible refine Kd.C_alloc ?_ _) | (with_reducible refine Kd.C_drewN ?_ _) | (with_reducible refine Kd.C_drew ?_))); (case side2 => exact (Kd.Q_reads' HO_4.out).2.1); rintro e w' ⟨rfl, ⟨nd, rfl⟩⟩; (try first | exact ⟨rfl, _, World.drewN_drewN _ _ _⟩ | exact ⟨rfl, _, Eq.trans (World.drewN_drewN _ _ _) (congrArg (World.drewN _) (Nat.add_assoc _ _ _))⟩)))
             repeat (go_quiet (first | (go_at_call 22; (with_reducible refine (laws_isIn.calls k2 _ _ ((rd_T39 t453 t459).f1) (rd t460 x7_2) true _ ?side1 ?side2 A41.out).mono ?_); (case side1 => repeat (first | exact (by repeat (first | (with_reducible exact HR477_1.out) | (with_reducible refine Kd.C_alloc ?_ _) | (with_reducible refine Kd.C_drewN ?_ _) | (with_reducible refine Kd.C_drew ?_) | exact HR477_1.out)) | (with_reducible refine Kd.C_alloc ?_ _) | (with_reducible refine Kd.C_drewN ?_ _) | (with_reducible refine Kd.C_drew ?_))); (case side2 => exact HC477_1.out); rintro e w' ⟨rfl, ⟨nd, rfl⟩⟩; (try first | exact ⟨rfl, _, World.drewN_drewN _ _ _⟩ | exact ⟨rfl, _, Eq.trans (World.drewN_drewN _ _ _) (congrArg (World.drewN _) (Nat.add_assoc _ _ _))⟩); have p480 : 0 ≤ (x7_2 : Int) := of_decide_eq_true (by first | (with_reducible assumption) | assumption); have q480 : x7_2 < (t460.length : Int) := of_decide_eq_true (by first | (with_reducible assumption) | assumption); obtain ⟨ad480, e480, hx480_0⟩ := Kd.at_int (Kd.R_reads' HO_6.out).2.2 x7_2 p480 q480; obtain rfl : ad478 = ad480 := (by injection e480); replace p480 := eq_true p480; replace q480 := eq_true q480) | (go_at_call 22; (with_reducible refine (laws_isIn.calls k2 _ _ t456 (rd t460 x7_2) false _ ?side1 ?side2 A43.out).mono ?_); (case side1 => repeat (first | exact (Kd.Q_reads' HO_4.out).2.2 | (with_reducible refine Kd.C_alloc ?_ _) | (with_reducible refine Kd.C_drewN ?_ _) | (with_reducible refine Kd.C_drew ?_))); (case side2 => exact (Kd.Q_reads' HO_4.out).2.1); rintro e w' ⟨rfl, ⟨nd, rfl⟩⟩; (try first | exact ⟨rfl, _, World.drewN_drewN _ _ _⟩ | exact ⟨rfl, _, Eq.trans (World.drewN_drewN _ _ _) (congrArg (World.drewN _) (Nat.add_assoc _ _ _))⟩))); try go_wp2_with (first | (go_at_call 22; (with_reducible refine (laws_isIn.calls k2 _ _ ((rd_T39 t453 t459).f1) (rd t460 x7_2) true _ ?side1 ?side2 A41.out).mono ?_); (case side1 => repeat (first | exact (by repeat (first | (with_reducible exact HR477_1.out) | (with_reducible refine Kd.C_alloc ?_ _) | (with_reducible refine Kd.C_drewN ?_ _) | (with_reducible refine Kd.C_drew ?_) | exact HR477_1.out)) | (with_reducible refine Kd.C_alloc ?_ _) | (with_reducible refine Kd.C_drewN ?_ _) | (with_reducible refine Kd.C_drew ?_))); (case side2 => exact HC477_1.out); rintro e w' ⟨rfl, ⟨nd, rfl⟩⟩; (try first | exact ⟨rfl, _, World.drewN_drewN _ _ _⟩ | exact ⟨rfl, _, Eq.trans (World.drewN_drewN _ _ _) (congrArg (World.drewN _) (Nat.add_assoc _ _ _))⟩); have p480 : 0 ≤ (x7_2 : Int) := of_decide_eq_true (by first | (with_reducible assumption) | assumption); have q480 : x7_2 < (t460.length : Int) := of_decide_eq_true (by first | (with_reducible assumption) | assumption); obtain ⟨ad480, e480, hx480_0⟩ := Kd.at_int (Kd.R_reads' HO_6.out).2.2 x7_2 p480 q480; obtain rfl : ad478 = ad480 := (by injection e480); replace p480 := eq_true p480; replace q480 := eq_true q480) | (go_at_call 22; (with_reducible refine (laws_isIn.calls k2 _ _ t456 (rd t460 x7_2) false _ ?side1 ?side2 A43.out).mono ?_); (case side1 => repeat (first | exact (Kd.Q_reads' HO_4.out).2.2 | (with_reducible refine Kd.C_alloc ?_ _) | (with_reducible refine Kd.C_drewN ?_ _) | (with_reducible refine Kd.C_drew ?_))); (case side2 => exact (Kd.Q_reads' HO_4.out).2.1); rintro e w' ⟨rfl, ⟨nd, rfl⟩⟩; (try first | exact ⟨rfl, _, World.drewN_drewN _ _ _⟩ | exact ⟨rfl, _, Eq.trans (World.drewN_drewN _ _ _) (congrArg (World.drewN _) (Nat.add_assoc _ _ _))⟩))))
             go_roundg k2
             case measure => have := HJ4.out; have := HK2.out; omega
             case rel => exact ⟨(wrap64 (x7_2 + 1)), (by first | rfl | (simp; done) | (simp [*]; done)), H', ⟨by have := HJ4.out; have := HK2.out; omega⟩, ⟨by (with_reducible repeat (first | apply Kd.N_alloc | apply Kd.N_drewN | apply Kd.N_drew)); exact HO_3.out⟩, ⟨by (with_reducible repeat (first | apply Kd.Q_alloc | apply Kd.Q_drewN | apply Kd.Q_drew)); exact HO_4.out⟩, ⟨by (with_reducible repeat (first | apply Kd.R_alloc | apply Kd.R_drewN | apply Kd.R_drew)); exact HO_6.out⟩, ⟨by repeat (first | (with_reducible first | exact HB.out | apply below_alloc | apply pw_below_drewN | apply below_drew1) | exact HB.out)⟩⟩
           ·replace c42 := Bool.eq_false_iff.mpr c42
            subst c42
            have H1 : (some false) = some r := by rw [if_neg (show ¬ (false = true) by decide)] at H; exact H
            clear H
            have H := H1
            clear H1
            obtain rfl := Option.some.inj H
            obtain ⟨Ao47, co47, eo47⟩ := Kd.R_slice HO_6.out
            subst eo47
            have p477 : 0 ≤ (t459 : Int) := of_decide_eq_true (by first | (with_reducible assumption) | assumption)
            have q477 : t459 < (t453.length : Int) := of_decide_eq_true (by first | (with_reducible assumption) | assumption)
            obtain ⟨ad477, A477_1, c477_1, e477, hx477_0, hx477_1, hx477_2, hx477_3, hl477_1, hi477_1⟩ := at_T39 (Kd.N_reads' HO_3.out).2.2 t459 p477 q477
            cases e477
            obtain ⟨ce477, hce477, hMe477, hcc477⟩ := Kd.N_get HO_3.out z39 t459 p477 (by first | exact q477 | exact of_decide_eq_true (by first | (with_reducible assumption) | assumption) | (have e_ := (Kd.N_reads' HO_3.out).1; omega))
            obtain ⟨ua477_1, uc477_1, rfl, ul477_1, ge477_1⟩ := k39_openF hMe477
            have hv477_1 := hcc477 1 _ rfl
            rw [add_field _ _ 1 (by omega)] at hv477_1
            replace hv477_1 := Option.some.inj (hv477_1.symm.trans hx477_1)
            injection hv477_1 with hva_ hvn_ hvc_
            rw [hva_] at ge477_1
            rw [hvc_] at ul477_1
            have HL477_1 := Aside0.mk (show Kd.V (Kd.int .i64) 3 _ w.heap.size _ _ ((rd_T39 t453 t459).f1) from Kd.V_mk ul477_1 ge477_1)
            clear hva_ hvn_ hvc_ ge477_1 ul477_1
            clear hcc477 hce477
            have HR477_1 := Aside0.mk hi477_1
            have HC477_1 := Aside0.mk hl477_1
            clear hi477_1 hl477_1
            replace p477 := eq_true p477
            replace q477 := eq_true q477
            have p478 : 0 ≤ (x7_2 : Int) := of_decide_eq_true (by first | (with_reducible assumption) | assumption)
            have q478 : x7_2 < (t460.length : Int) := of_decide_eq_true (by first | (with_reducible assumption) | assumption)
            obtain ⟨ad478, e478, hx478_0⟩ := Kd.at_int (Kd.R_reads' HO_6.out).2.2 x7_2 p478 q478
            cases e478
            replace p478 := eq_true p478
            replace q478 := eq_true q478
            go_wp2_with (first | (go_at_call 22; (with_reducible refine (laws_isIn.calls k2 _ _ ((rd_T39 t453 t459).f1) (rd t460 x7_2) false _ ?side1 ?side2 A41.out).mono ?_); (case side1 => repeat (first | exact (by repeat (first | (with_reducible exact HR477_1.out) | (with_reducible refine Kd.C_alloc ?_ _) | (with_reducible refine Kd.C_drewN ?_ _) | (with_reducible refine Kd.C_drew ?_) | exact HR477_1.out)) | (with_reducible refine Kd.C_alloc ?_ _) | (with_reducible refine Kd.C_drewN ?_ _) | (with_reducible refine Kd.C_drew ?_))); (case side2 => exact HC477_1.out); rintro e w' ⟨rfl, ⟨nd, rfl⟩⟩; (try first | exact ⟨rfl, _, World.drewN_drewN _ _ _⟩ | exact ⟨rfl, _, Eq.trans (World.drewN_drewN _ _ _) (congrArg (World.drewN _) (Nat.add_assoc _ _ _))⟩)))
            repeat (go_quiet (first | (go_at_call 22; (with_reducible refine (laws_isIn.calls k2 _ _ ((rd_T39 t453 t459).f1) (rd t460 x7_2) false _ ?side1 ?side2 A41.out).mono ?_); (case side1 => repeat (first | exact (by repeat (first | (with_reducible exact HR477_1.out) | (with_reducible refine Kd.C_alloc ?_ _) | (with_reducible refine Kd.C_drewN ?_ _) | (with_reducible refine Kd.C_drew ?_) | exact HR477_1.out)) | (with_reducible refine Kd.C_alloc ?_ _) | (with_reducible refine Kd.C_drewN ?_ _) | (with_reducible refine Kd.C_drew ?_))); (case side2 => exact HC477_1.out); rintro e w' ⟨rfl, ⟨nd, rfl⟩⟩; (try first | exact ⟨rfl, _, World.drewN_drewN _ _ _⟩ | exact ⟨rfl, _, Eq.trans (World.drewN_drewN _ _ _) (congrArg (World.drewN _) (Nat.add_assoc _ _ _))⟩))); try go_wp2_with (first | (go_at_call 22; (with_reducible refine (laws_isIn.calls k2 _ _ ((rd_T39 t453 t459).f1) (rd t460 x7_2) false _ ?side1 ?side2 A41.out).mono ?_); (case side1 => repeat (first | exact (by repeat (first | (with_reducible exact HR477_1.out) | (with_reducible refine Kd.C_alloc ?_ _) | (with_reducible refine Kd.C_drewN ?_ _) | (with_reducible refine Kd.C_drew ?_) | exact HR477_1.out)) | (with_reducible refine Kd.C_alloc ?_ _) | (with_reducible refine Kd.C_drewN ?_ _) | (with_reducible refine Kd.C_drew ?_))); (case side2 => exact HC477_1.out); rintro e w' ⟨rfl, ⟨nd, rfl⟩⟩; (try first | exact ⟨rfl, _, World.drewN_drewN _ _ _⟩ | exact ⟨rfl, _, Eq.trans (World.drewN_drewN _ _ _) (congrArg (World.drewN _) (Nat.add_assoc _ _ _))⟩))))
            go_ret
            exact ⟨by first | rfl | (simp [errW_none, errW_some] <;> rfl) | (simp [*, errW_none, errW_some] <;> rfl), by repeat (first | (with_reducible first | exact HB.out | apply below_alloc | apply pw_below_drewN | apply below_drew1) | exact HB.out)⟩
          ·rw [if_neg c40] at H
           exact absurd H (by simp)
         ·rw [if_neg c39] at H
          exact absurd H (by simp)
        ·rw [if_neg c38] at H
         exact absurd H (by simp)
       ·rw [if_neg c37] at H
        have c37b0 : decide (x7_2 < (t460.length : Int)) = false := decide_eq_false c37
        clear c37
        replace H := Option.bind_eq_some_iff.mp H
        obtain ⟨t472, A480, H⟩ := H
        replace H : (if t472 = true then (some (((t460.length : Int) == 0) == true)) else ((impl_ReadyTasks.f t453 t456).bind fun t473 => ((laws_isIn.f k2 t473 t459).bind fun t476 => (some (((t460.length : Int) == 0) == t476))))) = some r := H
        have A48 := Aside0.mk A480
        clear A480
        by_cases c49 : t472 = true
        ·subst c49
         have H1 : (some (((t460.length : Int) == 0) == true)) = some r := by rw [if_pos rfl] at H; exact H
         clear H
         have H := H1
         clear H1
         obtain rfl := Option.some.inj H
         obtain ⟨Ao50, co50, eo50⟩ := Kd.R_slice HO_6.out
         subst eo50
         go_wp2_with (first | (go_at_call 22; (with_reducible refine (laws_isIn.calls k2 _ _ t456 t459 true _ ?side1 ?side2 A48.out).mono ?_); (case side1 => repeat (first | exact (Kd.Q_reads' HO_4.out).2.2 | (with_reducible refine Kd.C_alloc ?_ _) | (with_reducible refine Kd.C_drewN ?_ _) | (with_reducible refine Kd.C_drew ?_))); (case side2 => exact (Kd.Q_reads' HO_4.out).2.1); rintro e w' ⟨rfl, ⟨nd, rfl⟩⟩; (try first | exact ⟨rfl, _, World.drewN_drewN _ _ _⟩ | exact ⟨rfl, _, Eq.trans (World.drewN_drewN _ _ _) (congrArg (World.drewN _) (Nat.add_assoc _ _ _))⟩)))
         repeat (go_quiet (first | (go_at_call 22; (with_reducible refine (laws_isIn.calls k2 _ _ t456 t459 true _ ?side1 ?side2 A48.out).mono ?_); (case side1 => repeat (first | exact (Kd.Q_reads' HO_4.out).2.2 | (with_reducible refine Kd.C_alloc ?_ _) | (with_reducible refine Kd.C_drewN ?_ _) | (with_reducible refine Kd.C_drew ?_))); (case side2 => exact (Kd.Q_reads' HO_4.out).2.1); rintro e w' ⟨rfl, ⟨nd, rfl⟩⟩; (try first | exact ⟨rfl, _, World.drewN_drewN _ _ _⟩ | exact ⟨rfl, _, Eq.trans (World.drewN_drewN _ _ _) (congrArg (World.drewN _) (Nat.add_assoc _ _ _))⟩))); try go_wp2_with (first | (go_at_call 22; (with_reducible refine (laws_isIn.calls k2 _ _ t456 t459 true _ ?side1 ?side2 A48.out).mono ?_); (case side1 => repeat (first | exact (Kd.Q_reads' HO_4.out).2.2 | (with_reducible refine Kd.C_alloc ?_ _) | (with_reducible refine Kd.C_drewN ?_ _) | (with_reducible refine Kd.C_drew ?_))); (case side2 => exact (Kd.Q_reads' HO_4.out).2.1); rintro e w' ⟨rfl, ⟨nd, rfl⟩⟩; (try first | exact ⟨rfl, _, World.drewN_drewN _ _ _⟩ | exact ⟨rfl, _, Eq.trans (World.drewN_drewN _ _ _) (congrArg (World.drewN _) (Nat.add_assoc _ _ _))⟩))))
         go_ret
         exact ⟨by first | rfl | (simp [errW_none, errW_some] <;> rfl) | (simp [*, errW_none, errW_some] <;> rfl), by repeat (first | (with_reducible first | exact HB.out | apply below_alloc | apply pw_below_drewN | apply below_drew1) | exact HB.out)⟩
        ·replace c49 := Bool.eq_false_iff.mpr c49
         subst c49
         have H1 : ((impl_ReadyTasks.f t453 t456).bind fun t473 => ((laws_isIn.f k2 t473 t459).bind fun t476 => (some (((t460.length : Int) == 0) == t476)))) = some r := by rw [if_neg (show ¬ (false = true) by decide)] at H; exact H
         clear H
         have H := H1
         clear H1
         replace H := Option.bind_eq_some_iff.mp H
         obtain ⟨t473, A510, H⟩ := H
         replace H : ((laws_isIn.f k2 t473 t459).bind fun t476 => (some (((t460.length : Int) == 0) == t476))) = some r := H
         have A51 := Aside0.mk A510
         clear A510
         replace H := Option.bind_eq_some_iff.mp H
         obtain ⟨t476, A520, H⟩ := H
         replace H : (some (((t460.length : Int) == 0) == t476)) = some r := H
         have A52 := Aside0.mk A520
         clear A520
         obtain rfl := Option.some.inj H
         obtain ⟨Ao53, co53, eo53⟩ := Kd.R_slice HO_6.out
         subst eo53
         go_wp2_with (first | (go_at_call 22; (with_reducible refine (laws_isIn.calls k2 _ _ t456 t459 false _ ?side1 ?side2 A48.out).mono ?_); (case side1 => repeat (first | exact (Kd.Q_reads' HO_4.out).2.2 | (with_reducible refine Kd.C_alloc ?_ _) | (with_reducible refine Kd.C_drewN ?_ _) | (with_reducible refine Kd.C_drew ?_))); (case side2 => exact (Kd.Q_reads' HO_4.out).2.1); rintro e w' ⟨rfl, ⟨nd, rfl⟩⟩; (try first | exact ⟨rfl, _, World.drewN_drewN _ _ _⟩ | exact ⟨rfl, _, Eq.trans (World.drewN_drewN _ _ _) (congrArg (World.drewN _) (Nat.add_assoc _ _ _))⟩)) | (go_at_call 15; (with_reducible refine (impl_ReadyTasks.calls _ _ t453 _ _ t456 t473 _ ?side1 ?side2 ?side3 ?side4 A51.out ?sideTab).mono ?_); (case sideTab => exact TabOK.below hTab.out (by repeat (first | (with_reducible first | exact HB.out | apply below_alloc | apply pw_below_drewN | apply below_drew1) | exact HB.out))); (case side1 => repeat (first | exact (Kd.N_reads' HO_3.out).2.2 | (with_reducible refine Kd.C_alloc ?_ _) | (with_reducible refine Kd.C_drewN ?_ _) | (with_reducible refine Kd.C_drew ?_))); (case side2 => exact (Kd.N_reads' HO_3.out).2.1); (case side3 => repeat (first | exact (Kd.Q_reads' HO_4.out).2.2 | (with_reducible refine Kd.C_alloc ?_ _) | (with_reducible refine Kd.C_drewN ?_ _) | (with_reducible refine Kd.C_drew ?_))); (case side4 => exact (Kd.Q_reads' HO_4.out).2.1); rintro e w54 ⟨v474, rfl, ho0, hb⟩; have n0_ := Aside0.mk (Kd.N_elder' (by (with_reducible repeat (first | apply Kd.N_alloc | apply Kd.N_drewN | apply Kd.N_drew)); exact HO_3.out) (Kd.R_base ho0) hb); have n1_ := Aside0.mk (Kd.Q_elder' (by (with_reducible repeat (first | apply Kd.Q_alloc | apply Kd.Q_drewN | apply Kd.Q_drew)); exact HO_4.out) (Kd.R_base ho0) hb); have n2_ := Aside0.mk (Kd.R_elder' (by (with_reducible repeat (first | apply Kd.R_alloc | apply Kd.R_drewN | apply Kd.R_drew)); exact HO_6.out) (Kd.R_base ho0) hb); have n3_ := Aside0.mk (Kd.R_lower (Kd.R_new' (Kd.R_new' ho0 (Kd.Q_lt (by (with_reducible repeat (first | apply Kd.Q_alloc | apply Kd.Q_drewN | apply Kd.Q_drew)); exact HO_4.out))) (Kd.R_lt (by (with_reducible repeat (first | apply Kd.R_alloc | apply Kd.R_drewN | apply Kd.R_drew)); exact HO_6.out))) (below_size (by repeat (first | (with_reducible first | exact HB.out | apply below_alloc | apply pw_below_drewN | apply below_drew1) | exact HB.out)))); have n4_ := Aside0.mk (below_step (by repeat (first | (with_reducible first | exact HB.out | apply below_alloc | apply pw_below_drewN | apply below_drew1) | exact HB.out)) hb); clear HO_3; clear HO_4; clear HO_6; clear HB; have HO_3 := n0_; have HO_4 := n1_; have HO_6 := n2_; have HO475 := n3_; have HB := n4_; clear n0_ n1_ n2_ n3_ n4_; (try clear hb); (try clear hb2); (try clear hk); (try clear hi); (try clear ho0); obtain ⟨Ao55, co55, eo55⟩ := Kd.R_slice HO475.out; subst eo55) | (go_at_call 22; (with_reducible refine (laws_isIn.calls k2 _ _ t473 t459 t476 _ ?side1 ?side2 A52.out).mono ?_); (case side1 => repeat (first | exact (Kd.R_reads' HO475.out).2.2 | (with_reducible refine Kd.C_alloc ?_ _) | (with_reducible refine Kd.C_drewN ?_ _) | (with_reducible refine Kd.C_drew ?_))); (case side2 => exact (Kd.R_reads' HO475.out).2.1); rintro e w' ⟨rfl, ⟨nd, rfl⟩⟩; (try first | exact ⟨rfl, _, World.drewN_drewN _ _ _⟩ | exact ⟨rfl, _, Eq.trans (World.drewN_drewN _ _ _) (congrArg (World.drewN _) (Nat.add_assoc _ _ _))⟩)))
         repeat (go_quiet (first | (go_at_call 22; (with_reducible refine (laws_isIn.calls k2 _ _ t456 t459 false _ ?side1 ?side2 A48.out).mono ?_); (case side1 => repeat (first | exact (Kd.Q_reads' HO_4.out).2.2 | (with_reducible refine Kd.C_alloc ?_ _) | (with_reducible refine Kd.C_drewN ?_ _) | (with_reducible refine Kd.C_drew ?_))); (case side2 => exact (Kd.Q_reads' HO_4.out).2.1); rintro e w' ⟨rfl, ⟨nd, rfl⟩⟩; (try first | exact ⟨rfl, _, World.drewN_drewN _ _ _⟩ | exact ⟨rfl, _, Eq.trans (World.drewN_drewN _ _ _) (congrArg (World.drewN _) (Nat.add_assoc _ _ _))⟩)) | (go_at_call 15; (with_reducible refine (impl_ReadyTasks.calls _ _ t453 _ _ t456 t473 _ ?side1 ?side2 ?side3 ?side4 A51.out ?sideTab).mono ?_); (case sideTab => exact TabOK.below hTab.out (by repeat (first | (with_reducible first | exact HB.out | apply below_alloc | apply pw_below_drewN | apply below_drew1) | exact HB.out))); (case side1 => repeat (first | exact (Kd.N_reads' HO_3.out).2.2 | (with_reducible refine Kd.C_alloc ?_ _) | (with_reducible refine Kd.C_drewN ?_ _) | (with_reducible refine Kd.C_drew ?_))); (case side2 => exact (Kd.N_reads' HO_3.out).2.1); (case side3 => repeat (first | exact (Kd.Q_reads' HO_4.out).2.2 | (with_reducible refine Kd.C_alloc ?_ _) | (with_reducible refine Kd.C_drewN ?_ _) | (with_reducible refine Kd.C_drew ?_))); (case side4 => exact (Kd.Q_reads' HO_4.out).2.1); rintro e w54 ⟨v474, rfl, ho0, hb⟩; have n0_ := Aside0.mk (Kd.N_elder' (by (with_reducible repeat (first | apply Kd.N_alloc | apply Kd.N_drewN | apply Kd.N_drew)); exact HO_3.out) (Kd.R_base ho0) hb); have n1_ := Aside0.mk (Kd.Q_elder' (by (with_reducible repeat (first | apply Kd.Q_alloc | apply Kd.Q_drewN | apply Kd.Q_drew)); exact HO_4.out) (Kd.R_base ho0) hb); have n2_ := Aside0.mk (Kd.R_elder' (by (with_reducible repeat (first | apply Kd.R_alloc | apply Kd.R_drewN | apply Kd.R_drew)); exact HO_6.out) (Kd.R_base ho0) hb); have n3_ := Aside0.mk (Kd.R_lower (Kd.R_new' (Kd.R_new' ho0 (Kd.Q_lt (by (with_reducible repeat (first | apply Kd.Q_alloc | apply Kd.Q_drewN | apply Kd.Q_drew)); exact HO_4.out))) (Kd.R_lt (by (with_reducible repeat (first | apply Kd.R_alloc | apply Kd.R_drewN | apply Kd.R_drew)); exact HO_6.out))) (below_size (by repeat (first | (with_reducible first | exact HB.out | apply below_alloc | apply pw_below_drewN | apply below_drew1) | exact HB.out)))); have n4_ := Aside0.mk (below_step (by repeat (first | (with_reducible first | exact HB.out | apply below_alloc | apply pw_below_drewN | apply below_drew1) | exact HB.out)) hb); clear HO_3; clear HO_4; clear HO_6; clear HB; have HO_3 := n0_; have HO_4 := n1_; have HO_6 := n2_; have HO475 := n3_; have HB := n4_; clear n0_ n1_ n2_ n3_ n4_; (try clear hb); (try clear hb2); (try clear hk); (try clear hi); (try clear ho0); obtain ⟨Ao55, co55, eo55⟩ := Kd.R_slice HO475.out; subst eo55) | (go_at_call 22; (with_reducible refine (laws_isIn.calls k2 _ _ t473 t459 t476 _ ?side1 ?side2 A52.out).mono ?_); (case side1 => repeat (first | exact (Kd.R_reads' HO475.out).2.2 | (with_reducible refine Kd.C_alloc ?_ _) | (with_reducible refine Kd.C_drewN ?_ _) | (with_reducible refine Kd.C_drew ?_))); (case side2 => exact (Kd.R_reads' HO475.out).2.1); rintro e w' ⟨rfl, ⟨nd, rfl⟩⟩; (try first | exact ⟨rfl, _, World.drewN_drewN _ _ _⟩ | exact ⟨rfl, _, Eq.trans (World.drewN_drewN _ _ _) (congrArg (World.drewN _) (Nat.add_assoc _ _ _))⟩))); try go_wp2_with (first | (go_at_call 22; (with_reducible refine (laws_isIn.calls k2 _ _ t456 t459 false _ ?side1 ?side2 A48.out).mono ?_); (case side1 => repeat (first | exact (Kd.Q_reads' HO_4.out).2.2 | (with_reducible refine Kd.C_alloc ?_ _) | (with_reducible refine Kd.C_drewN ?_ _) | (with_reducible refine Kd.C_drew ?_))); (case side2 => exact (Kd.Q_reads' HO_4.out).2.1); rintro e w' ⟨rfl, ⟨nd, rfl⟩⟩; (try first | exact ⟨rfl, _, World.drewN_drewN _ _ _⟩ | exact ⟨rfl, _, Eq.trans (World.drewN_drewN _ _ _) (congrArg (World.drewN _) (Nat.add_assoc _ _ _))⟩)) | (go_at_call 15; (with_reducible refine (impl_ReadyTasks.calls _ _ t453 _ _ t456 t473 _ ?side1 ?side2 ?side3 ?side4 A51.out ?sideTab).mono ?_); (case sideTab => exact TabOK.below hTab.out (by repeat (first | (with_reducible first | exact HB.out | apply below_alloc | apply pw_below_drewN | apply below_drew1) | exact HB.out))); (case side1 => repeat (first | exact (Kd.N_reads' HO_3.out).2.2 | (with_reducible refine Kd.C_alloc ?_ _) | (with_reducible refine Kd.C_drewN ?_ _) | (with_reducible refine Kd.C_drew ?_))); (case side2 => exact (Kd.N_reads' HO_3.out).2.1); (case side3 => repeat (first | exact (Kd.Q_reads' HO_4.out).2.2 | (with_reducible refine Kd.C_alloc ?_ _) | (with_reducible refine Kd.C_drewN ?_ _) | (with_reducible refine Kd.C_drew ?_))); (case side4 => exact (Kd.Q_reads' HO_4.out).2.1); rintro e w54 ⟨v474, rfl, ho0, hb⟩; have n0_ := Aside0.mk (Kd.N_elder' (by (with_reducible repeat (first | apply Kd.N_alloc | apply Kd.N_drewN | apply Kd.N_drew)); exact HO_3.out) (Kd.R_base ho0) hb); have n1_ := Aside0.mk (Kd.Q_elder' (by (with_reducible repeat (first | apply Kd.Q_alloc | apply Kd.Q_drewN | apply Kd.Q_drew)); exact HO_4.out) (Kd.R_base ho0) hb); have n2_ := Aside0.mk (Kd.R_elder' (by (with_reducible repeat (first | apply Kd.R_alloc | apply Kd.R_drewN | apply Kd.R_drew)); exact HO_6.out) (Kd.R_base ho0) hb); have n3_ := Aside0.mk (Kd.R_lower (Kd.R_new' (Kd.R_new' ho0 (Kd.Q_lt (by (with_reducible repeat (first | apply Kd.Q_alloc | apply Kd.Q_drewN | apply Kd.Q_drew)); exact HO_4.out))) (Kd.R_lt (by (with_reducible repeat (first | apply Kd.R_alloc | apply Kd.R_drewN | apply Kd.R_drew)); exact HO_6.out))) (below_size (by repeat (first | (with_reducible first | exact HB.out | apply below_alloc | apply pw_below_drewN | apply below_drew1) | exact HB.out)))); have n4_ := Aside0.mk (below_step (by repeat (first | (with_reducible first | exact HB.out | apply below_alloc | apply pw_below_drewN | apply below_drew1) | exact HB.out)) hb); clear HO_3; clear HO_4; clear HO_6; clear HB; have HO_3 := n0_; have HO_4 := n1_; have HO_6 := n2_; have HO475 := n3_; have HB := n4_; clear n0_ n1_ n2_ n3_ n4_; (try clear hb); (try clear hb2); (try clear hk); (try clear hi); (try clear ho0); obtain ⟨Ao55, co55, eo55⟩ := Kd.R_slice HO475.out; subst eo55) | (go_at_call 22; (with_reducible refine (laws_isIn.calls k2 _ _ t473 t459 t476 _ ?side1 ?side2 A52.out).mono ?_); (case side1 => repeat (first | exact (Kd.R_reads' HO475.out).2.2 | (with_reducible refine Kd.C_alloc ?_ _) | (with_reducible refine Kd.C_drewN ?_ _) | (with_reducible refine Kd.C_drew ?_))); (case side2 => exact (Kd.R_reads' HO475.out).2.1); rintro e w' ⟨rfl, ⟨nd, rfl⟩⟩; (try first | exact ⟨rfl, _, World.drewN_drewN _ _ _⟩ | exact ⟨rfl, _, Eq.trans (World.drewN_drewN _ _ _) (congrArg (World.drewN _) (Nat.add_assoc _ _ _))⟩))))
         go_ret
         exact ⟨by first | rfl | (simp [errW_none, errW_some] <;> rfl) | (simp [*, errW_none, errW_some] <;> rfl), by repeat (first | (with_reducible first | exact HB.out | apply below_alloc | apply pw_below_drewN | apply below_drew1) | exact HB.out)⟩
def laws_FnWaitsFor.Pure : Prop := ∀ (l0 : List Int), l0.length ≤ maxLen → l0.length * 1 ≤ 140737488351232 → (∀ x ∈ l0, (Lit.int .u8 x).wf = true) → ∃ k, laws_FnWaitsFor.f k l0 = some true
theorem laws_FnWaitsFor.walk (P : laws_FnWaitsFor.Pure) (a0 : Option Addr) (len0 cap0 : Nat) (z0 : List Int) (w : World) (w0 : (a0 = none ∧ len0 = 0 ∧ cap0 = 0 ∧ z0 = []) ∨ ∃ x, a0 = some x ∧ len0 ≤ cap0 ∧ cap0 ≤ maxLen ∧ z0.length = cap0 ∧ (∀ i, i < z0.length → w.cell? (x.add i) = some (.int .u8 (z0.getD i 0))) ∧ ∀ n ∈ z0, (Lit.int .u8 n).wf = true) (y0 : len0 * 1 ≤ 140737488351232) (hTab0 : TabOK w) :
  Calls Tryd.prog 4 #[.slice a0 len0 cap0] w fun e w' => e = .returned (.bool true) ∧ Below w.heap.size w w' := by
 obtain ⟨l0, rfl, hr0, hm0, hw0, hc0⟩ := ReadsInt.ofRowC w0
 obtain ⟨k, h⟩ := P l0 hm0 y0 hw0
 refine (laws_FnWaitsFor.calls k _ _ l0 true w (Kd.C_of_reads (d := (0 : Int)) (h1 := fun _ => rfl) hr0) hc0 h hTab0).mono ?_
 rintro e w' ⟨rfl, hd⟩
 exact ⟨rfl, hd⟩
end Go.Proofs.YtajapkjplgaigaaDoor.P
end
section
namespace Go.Proofs.YtajapkjplgaigaaDoor.P
open Go.RowKit Go.Proofs.YtajapkjplgaigaaDoorW.PrintWords Go.Proofs.YtajapkjplgaigaaDoorW.PrintLast Go.Proofs.YtajapkjplgaigaaDoorW.PrintMore
set_option linter.unusedVariables false
set_option linter.unusedSimpArgs false
def Ev {α : Type} (f : Nat → Option α) (x : α) : Prop := ∃ K, ∀ k, K ≤ k → f k = some x
section
variable {α β : Type} {f f' : Nat → Option α} {x : α} {y : β}
theorem Ev.get (h : Ev f x) : ∃ k, f k = some x := by
 obtain ⟨K, h⟩ := h
 exact ⟨K, h K (Nat.le_refl _)⟩
theorem Ev.pure (x : α) : Ev (fun _ => some x) x := ⟨0, fun _ _ => rfl⟩
theorem Ev.eq {o : Option α} (h : o = some x) : Ev (fun _ => o) x := ⟨0, fun _ _ => h⟩
theorem Ev.bind {g : Nat → α → Option β} (hf : Ev f x) (hg : Ev (fun k => g k x) y) : Ev (fun k => (f k).bind (g k)) y := by
 obtain ⟨K, hf⟩ := hf
 obtain ⟨L, hg⟩ := hg
 exact ⟨max K L, fun k hk => by show (f k).bind (g k) = some y; rw [hf k (by omega)]; exact hg k (by omega)⟩
theorem Ev.pos {c : Prop} [Decidable c] (hc : c) (h : Ev f x) : Ev (fun k => if c then f k else f' k) x := by
 obtain ⟨K, h⟩ := h
 exact ⟨K, fun k hk => (if_pos hc).trans (h k hk)⟩
theorem Ev.neg {c : Prop} [Decidable c] (hc : ¬ c) (h : Ev f' x) : Ev (fun k => if c then f k else f' k) x := by
 obtain ⟨K, h⟩ := h
 exact ⟨K, fun k hk => (if_neg hc).trans (h k hk)⟩
theorem Ev.ite {c : Prop} [Decidable c] (h : c → Ev f x) (h' : ¬ c → Ev f' x) : Ev (fun k => if c then f k else f' k) x := by
 by_cases hc : c
 ·exact Ev.pos hc (h hc)
 ·exact Ev.neg hc (h' hc)
theorem Ev.succ (h : Ev (fun k => f (k + 1)) x) : Ev f x := by
 obtain ⟨K, h⟩ := h
 exact ⟨K + 1, fun k hk => by
  obtain ⟨j, rfl⟩ : ∃ j, k = j + 1 := ⟨k - 1, by omega⟩
  exact h j (by omega)⟩
end
theorem w64 {n : Int} (h : -9223372036854775808 ≤ n) (h' : n ≤ 9223372036854775807) : wrap64 n = n := by unfold wrap64; omega
theorem w64n (n : Nat) (h : n < 4611686018427387904) : wrap64 ((n : Int) + 1) = ((n + 1 : Nat) : Int) := by rw [w64 (by omega) (by omega)]; omega
theorem snoc_eq {α : Type} (pre : List α) (x : α) (r : List α) : pre ++ x :: r = (pre ++ [x]) ++ r := by simp
theorem len_lt {α : Type} (pre : List α) (x : α) (r : List α) : (pre.length : Int) < ((pre ++ x :: r).length : Int) := by simp only [List.length_append, List.length_cons]; omega
theorem len_nlt {α : Type} (pre : List α) : ¬ (pre.length : Int) < ((pre ++ []).length : Int) := by simp
theorem len_next {α : Type} (pre : List α) (x : α) (h : pre.length < 4611686018427387904) : wrap64 ((pre.length : Int) + 1) = ((pre ++ [x]).length : Int) := by rw [w64n _ h]; simp
theorem rdm (pre : List Int) (x : Int) (r : List Int) : rd (pre ++ x :: r) (pre.length : Int) = x := by simp [rd]
end Go.Proofs.YtajapkjplgaigaaDoor.P
end
section
namespace Go.Proofs.YtajapkjplgaigaaDoor.P
open Go.RowKit Go.Shelf Go.Proofs.YtajapkjplgaigaaDoorW.PrintWords Go.Proofs.YtajapkjplgaigaaDoorW.PrintLast Go.Proofs.YtajapkjplgaigaaDoorW.PrintMore
set_option linter.unusedVariables false
set_option linter.unusedSimpArgs false
def inB (a b x : Int) : Bool := decide (a ≤ x ∧ x ≤ b)
theorem inRange_eq (x a b : Int) : spec_inRange.f x a b = some (inB a b x) := by
 unfold spec_inRange.f inB
 by_cases h : a ≤ x
 ·rw [if_pos h]; simp [h]
 ·rw [if_neg h]; simp [h]
theorem allIn_go (a b : Int) : ∀ (r pre : List Int), pre.length + r.length < 4611686018427387904 → Ev (fun k => spec_allIn.l0 k (pre ++ r) a b (pre.length : Int)) (r.all (inB a b))
 | [], pre, _ => by
  refine Ev.succ ?_
  simp only [spec_allIn.l0]
  exact Ev.neg (len_nlt pre) (Ev.pure _)
 | x :: r, pre, h => by
  refine Ev.succ ?_
  simp only [spec_allIn.l0]
  refine Ev.pos (len_lt _ _ _) (Ev.pos (by omega) (Ev.bind (Ev.eq (inRange_eq _ _ _)) ?_))
  rw [rdm]
  have hl : pre.length < 4611686018427387904 := by simp only [List.length_cons] at h; omega
  refine Ev.ite (fun hc => ?_) (fun hc => ?_)
  ·rw [len_next pre x hl, snoc_eq, List.all_cons, hc, Bool.true_and]
   exact allIn_go a b r (pre ++ [x]) (by simp only [List.length_append, List.length_cons, List.length_nil] at h ⊢; omega)
  ·rw [List.all_cons, Bool.eq_false_iff.2 hc, Bool.false_and]
   exact Ev.pure _
theorem allIn_ev (l : List Int) (a b : Int) (h : l.length < 4611686018427387904) : Ev (fun k => spec_allIn.f k l a b) (l.all (inB a b)) := allIn_go a b l [] (by simpa using h)
def ascB : List Int → Bool
 | x :: y :: r => decide (x < y) && ascB (y :: r)
 | _ => true
theorem ascends_go : ∀ (r pre : List Int) (x : Int), pre.length + r.length + 1 < 4611686018427387904 → Ev (fun k => spec_ascends.l0 k (pre ++ x :: r) ((pre.length : Int) + 1)) (ascB (x :: r))
 | [], pre, x, _ => by
  refine Ev.succ ?_
  simp only [spec_ascends.l0]
  exact Ev.neg (by simp) (Ev.pure _)
 | y :: r, pre, x, h => by
  have hl : pre.length < 4611686018427387904 := by simp only [List.length_cons] at h; omega
  have h1 : wrap64 ((pre.length : Int) + 1 - 1) = (pre.length : Int) := by rw [w64 (by omega) (by omega)]; omega
  have h2 : rd (pre ++ x :: y :: r) ((pre.length : Int) + 1) = y := by
   simp [rd]
  refine Ev.succ ?_
  simp only [spec_ascends.l0, h1, h2, rdm]
  refine Ev.pos (by simp only [List.length_append, List.length_cons]; omega) (Ev.pos (by omega) (Ev.pos (by omega) (Ev.pos (len_lt _ _ _) (Ev.ite (fun hc => ?_) (fun hc => ?_)))))
  ·rw [ascB, decide_eq_false (by omega), Bool.false_and]
   exact Ev.pure _
  ·have h3 : wrap64 ((pre.length : Int) + 1 + 1) = ((pre ++ [x]).length : Int) + 1 := by
    simp only [List.length_append, List.length_cons, List.length_nil] at h ⊢
    rw [w64 (by omega) (by omega)]; omega
   rw [h3, snoc_eq, ascB, decide_eq_true (by omega : x < y), Bool.true_and]
   exact ascends_go r (pre ++ [x]) y (by simp only [List.length_append, List.length_cons, List.length_nil] at h ⊢; omega)
theorem ascends_ev (l : List Int) (h : l.length < 4611686018427387904) : Ev (fun k => spec_ascends.f k l) (ascB l) := by
 cases l with
 | nil =>
  unfold spec_ascends.f
  refine Ev.succ ?_
  simp only [spec_ascends.l0]
  exact Ev.neg (by simp) (Ev.pure _)
 | cons x r => exact ascends_go r [] x (by simp only [List.length_cons, List.length_nil] at h ⊢; omega)
def taskB (n : Nat) (t : TT) : Bool := inB 1 20 t.f0 && inB 0 2 t.f2 && inB 1 4 t.f3 && t.f1.all (inB 0 ((n : Int) - 1)) && ascB t.f1
theorem validTask_ev (n : Nat) (t : TT) (hn : n < 4611686018427387904) (h : t.f1.length < 4611686018427387904) : Ev (fun k => spec_validTask.f k t.f0 t.f1 t.f2 t.f3 (n : Int)) (taskB n t) := by
 unfold spec_validTask.f taskB
 have hw : wrap64 ((n : Int) - 1) = (n : Int) - 1 := w64 (by omega) (by omega)
 rw [hw]
 refine Ev.bind (Ev.eq (inRange_eq _ _ _)) (Ev.ite (fun h0 => ?_) (fun h0 => ?_))
 ·refine Ev.bind (Ev.eq (inRange_eq _ _ _)) (Ev.ite (fun h1 => ?_) (fun h1 => ?_))
  ·refine Ev.bind (Ev.eq (inRange_eq _ _ _)) (Ev.ite (fun h2 => ?_) (fun h2 => ?_))
   ·refine Ev.bind (allIn_ev _ _ _ h) (Ev.ite (fun h3 => ?_) (fun h3 => ?_))
    ·rw [h0, h1, h2, h3]
     exact Ev.bind (ascends_ev _ h) (Ev.pure _)
    ·rw [Bool.eq_false_iff.2 h3]; simp only [Bool.and_false, Bool.false_and]; exact Ev.pure _
   ·rw [Bool.eq_false_iff.2 h2]; simp only [Bool.and_false, Bool.false_and]; exact Ev.pure _
  ·rw [Bool.eq_false_iff.2 h1]; simp only [Bool.and_false, Bool.false_and]; exact Ev.pure _
 ·rw [Bool.eq_false_iff.2 h0]; simp only [Bool.and_false, Bool.false_and]; exact Ev.pure _
def Small (ts : List TT) : Prop := ts.length < 1099511627776 ∧ ∀ t ∈ ts, t.f1.length < 1099511627776
theorem rdT (pre : List TT) (x : TT) (r : List TT) : rd_T39 (pre ++ x :: r) (pre.length : Int) = x := by simp [rd_T39]
def fineB (ts : List TT) : Bool := ts.all (taskB ts.length) && decide (ts.length ≤ 8)
theorem tasksFine_go (ts : List TT) (hs : Small ts) : ∀ (r pre : List TT), pre ++ r = ts → Ev (fun k => spec_tasksFine.l0 k ts (pre.length : Int)) (r.all (taskB ts.length) && decide (ts.length ≤ 8))
 | [], pre, he => by
  subst he
  refine Ev.succ ?_
  simp only [spec_tasksFine.l0]
  refine Ev.neg (len_nlt pre) ?_
  simp only [List.all_nil, Bool.true_and]
  refine Ev.eq ?_
  congr 1
  exact decide_eq_decide.2 (by omega)
 | x :: r, pre, he => by
  have hl := hs.1
  have hx := hs.2 x (by rw [← he]; simp)
  have h1 : rd_T39 ts (pre.length : Int) = x := by rw [← he]; exact rdT pre x r
  have h2 : (pre.length : Int) < (ts.length : Int) := by rw [← he]; exact len_lt _ _ _
  refine Ev.succ ?_
  simp only [spec_tasksFine.l0, h1]
  refine Ev.pos h2 (Ev.pos (by omega) (Ev.bind (validTask_ev ts.length x (by omega) (by omega)) (Ev.ite (fun hc => ?_) (fun hc => ?_))))
  ·rw [len_next pre x (by omega), List.all_cons, hc, Bool.true_and]
   exact tasksFine_go ts hs r (pre ++ [x]) (by rw [← he]; simp)
  ·rw [List.all_cons, Bool.eq_false_iff.2 hc, Bool.false_and, Bool.false_and]
   exact Ev.pure _
theorem tasksFine_ev (ts : List TT) (hs : Small ts) : Ev (fun k => spec_tasksFine.f k ts) (fineB ts) := tasksFine_go ts hs ts [] rfl
theorem isIn_go (n : Int) : ∀ (r pre : List Int), pre.length + r.length < 4611686018427387904 → Ev (fun k => spec_isIn.l0 k (pre ++ r) n (pre.length : Int)) (decide (n ∈ r))
 | [], pre, _ => by
  refine Ev.succ ?_
  simp only [spec_isIn.l0]
  exact Ev.neg (len_nlt pre) (Ev.eq (by simp))
 | x :: r, pre, h => by
  have hl : pre.length < 4611686018427387904 := by simp only [List.length_cons] at h; omega
  refine Ev.succ ?_
  simp only [spec_isIn.l0, rdm]
  refine Ev.pos (len_lt _ _ _) (Ev.pos (by omega) (Ev.ite (fun hc => ?_) (fun hc => ?_)))
  ·rw [decide_eq_true (by rw [hc]; exact List.mem_cons_self)]
   exact Ev.pure _
  ·rw [len_next pre x hl, snoc_eq, show decide (n ∈ x :: r) = decide (n ∈ r) from decide_eq_decide.2 (by rw [List.mem_cons]; exact ⟨fun h => h.resolve_left (fun e => hc e.symm), Or.inr⟩)]
   exact isIn_go n r (pre ++ [x]) (by simp only [List.length_append, List.length_cons, List.length_nil] at h ⊢; omega)
theorem isIn_ev (l : List Int) (n : Int) (h : l.length < 4611686018427387904) : Ev (fun k => spec_isIn.f k l n) (decide (n ∈ l)) := isIn_go n l [] (by simpa using h)
def subL (needs done : List Int) : Bool := needs.all fun x => decide (x ∈ done)
theorem allDone_go (done : List Int) (hd : done.length < 4611686018427387904) : ∀ (r pre : List Int), pre.length + r.length < 4611686018427387904 → Ev (fun k => spec_allDone.l0 k (pre ++ r) done (pre.length : Int)) (subL r done)
 | [], pre, _ => by
  refine Ev.succ ?_
  simp only [spec_allDone.l0]
  exact Ev.neg (len_nlt pre) (Ev.pure _)
 | x :: r, pre, h => by
  have hl : pre.length < 4611686018427387904 := by simp only [List.length_cons] at h; omega
  refine Ev.succ ?_
  simp only [spec_allDone.l0, rdm]
  refine Ev.pos (len_lt _ _ _) (Ev.pos (by omega) (Ev.bind (isIn_ev _ _ hd) (Ev.ite (fun hc => ?_) (fun hc => ?_))))
  ·rw [len_next pre x hl, snoc_eq, subL, List.all_cons, hc, Bool.true_and]
   exact allDone_go done hd r (pre ++ [x]) (by simp only [List.length_append, List.length_cons, List.length_nil] at h ⊢; omega)
  ·rw [subL, List.all_cons, Bool.eq_false_iff.2 hc, Bool.false_and]
   exact Ev.pure _
theorem allDone_ev (l done : List Int) (h : l.length < 4611686018427387904) (hd : done.length < 4611686018427387904) : Ev (fun k => spec_allDone.f k l done) (subL l done) := allDone_go done hd l [] (by simpa using h)
end Go.Proofs.YtajapkjplgaigaaDoor.P
end
section
namespace Go.Proofs.YtajapkjplgaigaaDoor.P
open Go.RowKit Go.Shelf Go.Proofs.YtajapkjplgaigaaDoorW.PrintWords Go.Proofs.YtajapkjplgaigaaDoorW.PrintLast Go.Proofs.YtajapkjplgaigaaDoorW.PrintMore
set_option linter.unusedVariables false
set_option linter.unusedSimpArgs false
def maskL (l : List Int) : Nat := l.foldl (fun s i => s ||| 2 ^ i.toNat) 0
theorem mask_bit (l : List Int) : ∀ (s : Nat) (j : Nat), (∀ x ∈ l, 0 ≤ x) → (l.foldl (fun s i => s ||| 2 ^ i.toNat) s).testBit j = (s.testBit j || decide ((j : Int) ∈ l)) := by
 induction l with
 | nil => intro s j _; simp
 | cons x r ih =>
  intro s j h
  have hx := h x List.mem_cons_self
  rw [List.foldl_cons, ih _ _ (fun y hy => h y (List.mem_cons_of_mem _ hy)), Nat.testBit_or, Nat.testBit_two_pow, Bool.or_assoc]
  congr 1
  rw [← Bool.decide_or]
  refine decide_eq_decide.2 ?_
  rw [List.mem_cons]
  constructor
  ·rintro (h1 | h1)
   ·exact Or.inl (by omega)
   ·exact Or.inr h1
  ·rintro (h1 | h1)
   ·exact Or.inl (by omega)
   ·exact Or.inr h1
theorem maskL_bit {l : List Int} (h : ∀ x ∈ l, 0 ≤ x) (j : Nat) : (maskL l).testBit j = decide ((j : Int) ∈ l) := by
 unfold maskL; rw [mask_bit l 0 j h]; simp
theorem setGo_eq (n : Nat) : ∀ (l : List Int) (last : Int) (s : Nat), -1 ≤ last → setGo n l last s = if (ascB (last :: l) && l.all (inB 0 ((n : Int) - 1))) = true then some (l.foldl (fun s i => s ||| 2 ^ i.toNat) s) else none
 | [], last, s, h => by simp [setGo, ascB]
 | i :: r, last, s, h => by
  unfold setGo
  by_cases hc : last + 1 ≤ i ∧ i < n
  ·rw [if_pos hc, setGo_eq n r i _ (by omega)]
   rw [ascB, List.all_cons, decide_eq_true (by omega : last < i), Bool.true_and, show inB 0 ((n : Int) - 1) i = true from decide_eq_true (by omega), Bool.true_and]
   rfl
  ·rw [if_neg hc, if_neg]
   intro h2
   rw [ascB, List.all_cons] at h2
   simp only [Bool.and_eq_true, decide_eq_true_eq, inB] at h2
   omega
theorem ascB_neg {l : List Int} (h : ∀ x ∈ l, 0 ≤ x) : ascB (-1 :: l) = ascB l := by
 cases l with
 | nil => rfl
 | cons x r => rw [ascB, decide_eq_true (by have := h x List.mem_cons_self; omega), Bool.true_and]
theorem setP_eq (l : List Int) (n : Nat) : setP l n = if (ascB l && l.all (inB 0 ((n : Int) - 1))) = true then some (maskL l) else none := by
 unfold setP
 rw [setGo_eq n l (-1) 0 (by omega)]
 by_cases hA : l.all (inB 0 ((n : Int) - 1)) = true
 ·have h0 : ∀ x ∈ l, 0 ≤ x := fun x hx => by
   have := List.all_eq_true.1 hA x hx
   simp only [inB, decide_eq_true_eq] at this
   exact this.1
  rw [ascB_neg h0]; rfl
 ·rw [Bool.eq_false_iff.2 hA, Bool.and_false, Bool.and_false]; rfl
theorem taskP_eq (n : Nat) (t : TT) : taskP n t = if taskB n t = true then some (maskL t.f1) else none := by
 unfold taskP taskB
 rw [setP_eq]
 by_cases h1 : (ascB t.f1 && t.f1.all (inB 0 ((n : Int) - 1))) = true
 ·rw [if_pos h1]
  have h2 := Bool.and_eq_true_iff.1 h1
  rw [h2.1, h2.2]
  simp only [Bool.and_true, inB, Bool.and_eq_true, decide_eq_true_eq, and_assoc]
 ·rw [if_neg h1, if_neg]
  intro h
  simp only [Bool.and_eq_true] at h h1
  exact h1 ⟨h.2, h.1.2⟩
theorem needsGo_eq (n : Nat) : ∀ (r : List TT) (acc : List Nat), needsGo n r acc = if r.all (taskB n) = true then some (acc ++ r.map fun t => maskL t.f1) else none
 | [], acc => by simp [needsGo]
 | t :: r, acc => by
  unfold needsGo
  rw [taskP_eq]
  by_cases h : taskB n t = true
  ·rw [if_pos h]
   show needsGo n r (acc ++ [maskL t.f1]) = _
   rw [needsGo_eq n r, List.all_cons, h, Bool.true_and, List.map_cons, List.append_assoc]
   rfl
  ·rw [if_neg h, List.all_cons, Bool.eq_false_iff.2 h, Bool.false_and]
   rfl
def needsM (ts : List TT) : List Nat := ts.map fun t => maskL t.f1
theorem needsP_eq (ts : List TT) : needsP ts = if fineB ts = true then some (needsM ts) else none := by
 unfold needsP fineB
 by_cases h : ts.length > 8
 ·rw [if_pos h, decide_eq_false (by omega), Bool.and_false]; rfl
 ·rw [if_neg h, needsGo_eq, decide_eq_true (by omega : ts.length ≤ 8), Bool.and_true]; rfl
theorem fine_task {ts : List TT} (h : fineB ts = true) {i : Nat} (hi : i < ts.length) : taskB ts.length ts[i] = true := by
 have := (Bool.and_eq_true_iff.1 h).1
 exact List.all_eq_true.1 this _ (List.getElem_mem hi)
theorem fine_len {ts : List TT} (h : fineB ts = true) : ts.length ≤ 8 := of_decide_eq_true (Bool.and_eq_true_iff.1 h).2
theorem task_mem {n : Nat} {t : TT} (h : taskB n t = true) : (∀ x ∈ t.f1, 0 ≤ x ∧ x < n) ∧ ascB t.f1 = true := by
 unfold taskB at h
 simp only [Bool.and_eq_true] at h
 refine ⟨fun x hx => ?_, h.2⟩
 have := List.all_eq_true.1 h.1.2 x hx
 simp only [inB, decide_eq_true_eq] at this
 omega
theorem needsM_get (ts : List TT) (i : Nat) (hi : i < ts.length) : (needsM ts).getD i 0 = maskL (ts[i].f1) := by
 simp [needsM, List.getD_eq_getElem?_getD, List.getElem?_map, List.getElem?_eq_getElem hi]
theorem rdT_at (ts : List TT) (i : Nat) (hi : i < ts.length) : rd_T39 ts (i : Int) = ts[i] := by
 simp [rd_T39, List.getElem?_eq_getElem hi]
theorem sub_eq {l done : List Int} (hl : ∀ x ∈ l, 0 ≤ x) (s : Nat) (hs : ∀ j, s.testBit j = decide ((j : Int) ∈ done)) : (maskL l &&& s == maskL l) = subL l done := by
 rw [Bool.eq_iff_iff]
 unfold subL
 rw [List.all_eq_true, beq_iff_eq]
 constructor
 ·intro h x hx
  have hx0 := hl x hx
  have h1 : (maskL l).testBit x.toNat = true := by rw [maskL_bit hl, decide_eq_true]; rwa [Int.toNat_of_nonneg hx0]
  rw [← h, Nat.testBit_and, hs, Bool.and_eq_true] at h1
  have h2 := of_decide_eq_true h1.2
  rw [Int.toNat_of_nonneg hx0] at h2
  exact decide_eq_true h2
 ·intro h
  refine Nat.eq_of_testBit_eq fun j => ?_
  rw [Nat.testBit_and, hs, maskL_bit hl]
  by_cases hj : (j : Int) ∈ l
  ·have := h _ hj
   rw [this, Bool.and_true]
  ·rw [decide_eq_false hj, Bool.false_and]
theorem canP_eq {ts : List TT} (hf : fineB ts = true) {done : List Int} {s : Nat} (hs : ∀ j, s.testBit j = decide ((j : Int) ∈ done)) {i : Nat} (hi : i < ts.length) :
  canP (needsM ts) s i = (!decide ((i : Int) ∈ done) && subL ts[i].f1 done) := by
 unfold canP
 rw [needsM_get ts i hi, sub_eq (fun x hx => ((task_mem (fine_task hf hi)).1 x hx).1) s hs, hs]
def findFrom (p : Nat → Bool) (n j : Nat) : Option Nat := ((List.range n).drop j).find? p
theorem findFrom_step (p : Nat → Bool) (n j : Nat) (h : j < n) : findFrom p n j = if p j then some j else findFrom p n (j + 1) := by
 unfold findFrom
 rw [List.drop_eq_getElem_cons (by simpa using h), List.find?_cons, List.getElem_range]
 cases p j <;> rfl
theorem findFrom_end (p : Nat → Bool) (n : Nat) : findFrom p n n = none := by
 unfold findFrom
 rw [List.drop_eq_nil_of_le (by simp)]; rfl
theorem top_l1 (ts : List TT) (hs : Small ts) (hf : fineB ts = true) (out : List Nat) (s : Nat) (hb : ∀ j, s.testBit j = decide (((j : Nat) : Int) ∈ nI out)) (hl : out.length ≤ 8) (r : List Int)
  (hnone : firstP (needsM ts) s = none → r = nI out)
  (hsome : ∀ i, firstP (needsM ts) s = some i → Ev (fun k => spec_topOrder.l0 k ts (nI (out ++ [i]))) r) :
  ∀ (m j : Nat), j + m = ts.length → findFrom (canP (needsM ts) s) ts.length j = firstP (needsM ts) s → Ev (fun k => spec_topOrder.l1 k ts (nI out) (-1) (j : Int)) r := by
 have hlen : ts.length ≤ 8 := fine_len hf
 have hnl : (nI out).length = out.length := nI_length out
 intro m
 induction m with
 | zero =>
  intro j hj hfind
  have hjn : j = ts.length := by omega
  subst hjn
  rw [findFrom_end] at hfind
  refine Ev.succ ?_
  simp only [spec_topOrder.l1]
  refine Ev.neg (by omega) (Ev.succ ?_)
  simp only [spec_topOrder.j2]
  refine Ev.neg (by simp) (Ev.pos (by omega) ?_)
  rw [hnone hfind.symm]
  exact Ev.pure _
 | succ m ih =>
  intro j hj hfind
  have hjl : j < ts.length := by omega
  have hw : wrap64 ((j : Int) + 1) = ((j + 1 : Nat) : Int) := w64n j (by omega)
  rw [findFrom_step _ _ _ hjl, canP_eq hf hb hjl] at hfind
  refine Ev.succ ?_
  simp only [spec_topOrder.l1]
  refine Ev.pos (by omega) (Ev.succ ?_)
  simp only [spec_topOrder.j2]
  refine Ev.pos (by simp) (Ev.bind (isIn_ev _ _ (by omega)) (Ev.ite (fun hc => ?_) (fun hc => ?_)))
  ·rw [hc] at hfind
   simp only [Bool.not_true, Bool.false_and] at hfind
   rw [hw]
   exact ih (j + 1) (by omega) hfind
  ·rw [Bool.eq_false_iff.2 hc] at hfind
   simp only [Bool.not_false, Bool.true_and] at hfind
   rw [rdT_at ts j hjl, hw]
   have h1 := hs.2 ts[j] (List.getElem_mem hjl)
   refine Ev.pos (by omega) (Ev.pos (by omega) (Ev.bind (allDone_ev _ _ (by omega) (by omega)) (Ev.ite (fun hd => ?_) (fun hd => ?_))))
   ·rw [if_pos hd] at hfind
    refine Ev.succ ?_
    simp only [spec_topOrder.l1]
    have hgo : Ev (fun k => spec_topOrder.j2 k ts (nI out) (j : Int) ((j + 1 : Nat) : Int) false) r := by
     refine Ev.succ ?_
     simp only [spec_topOrder.j2]
     refine Ev.neg (by simp) (Ev.neg (by omega) (Ev.pos (by omega) ?_))
     have := hsome j hfind.symm
     simpa [nI] using this
    refine Ev.ite (fun h2 => ?_) (fun h2 => hgo)
    rw [decide_eq_false (by omega)]
    exact hgo
   ·rw [if_neg hd] at hfind
    exact ih (j + 1) (by omega) hfind
theorem nodup_len : ∀ (a b : List Nat), a.Nodup → (∀ x ∈ a, x ∈ b) → a.length ≤ b.length
 | [], b, _, _ => Nat.zero_le _
 | x :: a, b, h, hs => by
  have hx : x ∈ b := hs x List.mem_cons_self
  have h1 := nodup_len a (b.erase x) (List.nodup_cons.1 h).2 (fun y hy => (List.mem_erase_of_ne (fun (e : y = x) => (List.nodup_cons.1 h).1 (by rw [← e]; exact hy))).2 (hs y (List.mem_cons_of_mem _ hy)))
  rw [List.length_erase_of_mem hx] at h1
  have : 0 < b.length := List.length_pos_of_mem hx
  rw [List.length_cons]
  omega
structure OrdOk (n : Nat) (out : List Nat) (s : Nat) : Prop where
 nd : out.Nodup
 lt : ∀ i ∈ out, i < n
 bit : ∀ j, s.testBit j = decide (j ∈ out)
theorem mem_nI {out : List Nat} {j : Nat} : ((j : Nat) : Int) ∈ nI out ↔ j ∈ out := by
 unfold nI
 rw [List.mem_map]
 exact ⟨fun ⟨x, hx, he⟩ => by rwa [show j = x by omega], fun h => ⟨j, h, rfl⟩⟩
theorem OrdOk.bits {n : Nat} {out : List Nat} {s : Nat} (h : OrdOk n out s) (j : Nat) : s.testBit j = decide (((j : Nat) : Int) ∈ nI out) := by
 rw [h.bit]; exact decide_eq_decide.2 mem_nI.symm
theorem OrdOk.len {n : Nat} {out : List Nat} {s : Nat} (h : OrdOk n out s) : out.length ≤ n := by
 have := nodup_len out (List.range n) h.nd (fun i hi => List.mem_range.2 (h.lt i hi))
 simpa using this
theorem OrdOk.add {n : Nat} {out : List Nat} {s i : Nat} (h : OrdOk n out s) (hi : i < n) (hn : s.testBit i = false) : OrdOk n (out ++ [i]) (s ||| 2 ^ i) := by
 have hni : i ∉ out := fun hm => by rw [h.bit, decide_eq_true hm] at hn; cases hn
 refine ⟨List.nodup_append.2 ⟨h.nd, by simp, fun a ha b hb => by rw [List.mem_singleton] at hb; subst hb; exact fun e => hni (e ▸ ha)⟩, fun j hj => ?_, fun j => ?_⟩
 ·rcases List.mem_append.1 hj with hj | hj
  ·exact h.lt j hj
  ·rw [List.mem_singleton.1 hj]; exact hi
 ·rw [Nat.testBit_or, h.bit, Nat.testBit_two_pow, ← Bool.decide_or]
  refine decide_eq_decide.2 ?_
  rw [List.mem_append, List.mem_singleton]
  exact or_congr Iff.rfl eq_comm
theorem firstP_can {nd : List Nat} {s i : Nat} (h : firstP nd s = some i) : i < nd.length ∧ canP nd s i = true := by
 refine ⟨firstP_lt h, ?_⟩
 have := List.find?_some h
 exact this
theorem OrdOk.full {n : Nat} {out : List Nat} {s : Nat} (h : OrdOk n out s) (hl : out.length = n) (nd : List Nat) (hnl : nd.length = n) : firstP nd s = none := by
 cases hf : firstP nd s with
 | none => rfl
 | some i =>
  obtain ⟨h1, h2⟩ := firstP_can hf
  have h3 : s.testBit i = false := by unfold canP at h2; simp only [Bool.and_eq_true, Bool.not_eq_true'] at h2; exact h2.1
  have h4 := (h.add (by omega) h3).len
  simp only [List.length_append, List.length_cons, List.length_nil] at h4
  omega
theorem orderGo_none {nd : List Nat} {s : List Nat × Nat} (h : firstP nd s.2 = none) : ∀ m, orderGo nd m s = s
 | 0 => rfl
 | m + 1 => by
  have : orderStep nd s = s := by unfold orderStep; rw [h]
  rw [orderGo, this]
  exact orderGo_none h m
theorem top_l0 (ts : List TT) (hs : Small ts) (hf : fineB ts = true) : ∀ (m : Nat) (out : List Nat) (s : Nat), OrdOk ts.length out s → out.length + m = ts.length →
  Ev (fun k => spec_topOrder.l0 k ts (nI out)) (nI (orderGo (needsM ts) m (out, s)).1) ∧ OrdOk ts.length (orderGo (needsM ts) m (out, s)).1 (orderGo (needsM ts) m (out, s)).2 := by
 have hlen : ts.length ≤ 8 := fine_len hf
 have hnl : (needsM ts).length = ts.length := by simp [needsM]
 intro m
 induction m with
 | zero =>
  intro out s ho hm
  have hno := ho.full (by omega) (needsM ts) hnl
  refine ⟨?_, by simpa [orderGo] using ho⟩
  refine Ev.succ ?_
  simp only [spec_topOrder.l0, orderGo]
  exact top_l1 ts hs hf out s ho.bits (by omega) _ (fun _ => rfl) (fun i hi => by rw [hno] at hi; cases hi) ts.length 0 (by omega) (by unfold findFrom firstP; rw [List.drop_zero, hnl])
 | succ m ih =>
  intro out s ho hm
  cases hfi : firstP (needsM ts) s with
  | none =>
   rw [orderGo_none (s := (out, s)) hfi]
   refine ⟨?_, ho⟩
   refine Ev.succ ?_
   simp only [spec_topOrder.l0]
   exact top_l1 ts hs hf out s ho.bits (by omega) _ (fun _ => rfl) (fun i hi => by rw [hfi] at hi; cases hi) ts.length 0 (by omega) (by unfold findFrom firstP; rw [List.drop_zero, hnl])
  | some i =>
   obtain ⟨h1, h2⟩ := firstP_can hfi
   have h3 : s.testBit i = false := by unfold canP at h2; simp only [Bool.and_eq_true, Bool.not_eq_true'] at h2; exact h2.1
   have hstep : orderStep (needsM ts) (out, s) = (out ++ [i], s ||| 2 ^ i) := by unfold orderStep; simp only [hfi]
   rw [orderGo, hstep]
   obtain ⟨e1, e2⟩ := ih (out ++ [i]) (s ||| 2 ^ i) (ho.add (by omega) h3) (by simp only [List.length_append, List.length_cons, List.length_nil]; omega)
   refine ⟨?_, e2⟩
   refine Ev.succ ?_
   simp only [spec_topOrder.l0]
   exact top_l1 ts hs hf out s ho.bits (by omega) _ (fun h => by rw [hfi] at h; cases h) (fun i' hi => by rw [hfi] at hi; injection hi with hi; subst hi; exact e1) ts.length 0 (by omega) (by unfold findFrom firstP; rw [List.drop_zero, hnl])
theorem ordOk_nil (n : Nat) : OrdOk n [] 0 := ⟨List.nodup_nil, fun i hi => (by cases hi), fun j => (by simp)⟩
theorem topOrder_ev (ts : List TT) (hs : Small ts) (hf : fineB ts = true) : Ev (fun k => spec_topOrder.f k ts) (nI (orderP (needsM ts)).1) ∧ OrdOk ts.length (orderP (needsM ts)).1 (orderP (needsM ts)).2 := by
 have h := top_l0 ts hs hf ts.length [] 0 (ordOk_nil _) (by simp)
 unfold orderP
 have hnl : (needsM ts).length = ts.length := by simp [needsM]
 rw [hnl]
 exact h
theorem OrdOk.all {n : Nat} {out : List Nat} {s : Nat} (h : OrdOk n out s) : out.length = n ↔ s = 2 ^ n - 1 := by
 constructor
 ·intro hl
  refine Nat.eq_of_testBit_eq fun j => ?_
  rw [h.bit, Nat.testBit_two_pow_sub_one]
  refine decide_eq_decide.2 ⟨fun hj => h.lt j hj, fun hj => ?_⟩
  by_cases hm : j ∈ out
  ·exact hm
  ·have h4 := (h.add hj (by rw [h.bit, decide_eq_false hm])).len
   simp only [List.length_append, List.length_cons, List.length_nil] at h4
   omega
 ·intro he
  have := nodup_len (List.range n) out List.nodup_range (fun j hj => by
   have h1 := h.bit j
   rw [he, Nat.testBit_two_pow_sub_one, decide_eq_true (List.mem_range.1 hj)] at h1
   exact of_decide_eq_true h1.symm)
  rw [List.length_range] at this
  have := h.len
  omega
theorem graphP_some (ts : List TT) : (graphP ts).isSome = (fineB ts && decide ((orderP (needsM ts)).2 = 2 ^ ts.length - 1)) := by
 unfold graphP
 rw [needsP_eq]
 cases hf : fineB ts with
 | false => rfl
 | true =>
  simp only [if_true, Bool.true_and]
  by_cases h : (orderP (needsM ts)).2 = 2 ^ ts.length - 1
  ·rw [if_pos h, decide_eq_true h]; rfl
  ·rw [if_neg h, decide_eq_false h]; rfl
theorem graphP_fine {ts : List TT} {G : GrN} (h : graphP ts = some G) : fineB ts = true ∧ G.nd = needsM ts ∧ G.ts = ts := by
 obtain ⟨h1, h2, _⟩ := graphP_ok h
 rw [needsP_eq] at h2
 by_cases hf : fineB ts = true
 ·rw [if_pos hf] at h2
  injection h2 with h2
  exact ⟨hf, h2.symm, h1⟩
 ·rw [if_neg hf] at h2; cases h2
theorem validGraph_ev (ts : List TT) (hs : Small ts) : Ev (fun k => spec_validGraph.f k ts) (graphP ts).isSome := by
 unfold spec_validGraph.f
 rw [graphP_some]
 refine Ev.bind (tasksFine_ev ts hs) (Ev.ite (fun hf => ?_) (fun hf => ?_))
 ·obtain ⟨h1, h2⟩ := topOrder_ev ts hs hf
  refine Ev.bind h1 (Ev.eq ?_)
  congr 1
  rw [hf, Bool.true_and, nI_length, Bool.eq_iff_iff, beq_iff_eq, decide_eq_true_iff, ← h2.all]
  omega
 ·rw [Bool.eq_false_iff.2 hf]
  exact Ev.pure _
end Go.Proofs.YtajapkjplgaigaaDoor.P
end
section
namespace Go.Proofs.YtajapkjplgaigaaDoor.P
open Go.RowKit Go.Shelf Go.Proofs.YtajapkjplgaigaaDoorW.PrintWords Go.Proofs.YtajapkjplgaigaaDoorW.PrintLast Go.Proofs.YtajapkjplgaigaaDoorW.PrintMore
set_option linter.unusedVariables false
set_option linter.unusedSimpArgs false
def keepsL (ts : List TT) (done : List Int) (d : Int) : Bool := subL (rd_T39 ts d).f1 done
theorem small_rd {ts : List TT} (hs : Small ts) (i : Int) : (rd_T39 ts i).f1.length < 1099511627776 := by
 unfold rd_T39
 rw [List.getD_eq_getElem?_getD]
 cases h : ts[i.toNat]? with
 | none => simp [z39]
 | some t => exact hs.2 t (List.mem_of_getElem? h)
theorem validDone_go (ts : List TT) (hs : Small ts) (done : List Int) (hd : done.length < 1099511627776) (hr : ∀ x ∈ done, 0 ≤ x ∧ x < ts.length) : ∀ (r pre : List Int), pre ++ r = done → Ev (fun k => spec_validDone.l0 k ts done (pre.length : Int)) (r.all (keepsL ts done))
 | [], pre, he => by
  subst he
  refine Ev.succ ?_
  simp only [spec_validDone.l0]
  exact Ev.neg (len_nlt pre) (Ev.pure _)
 | x :: r, pre, he => by
  have hx := hr x (by rw [← he]; simp)
  have h1 : rd done (pre.length : Int) = x := by rw [← he]; exact rdm pre x r
  have h2 : (pre.length : Int) < (done.length : Int) := by rw [← he]; exact len_lt _ _ _
  refine Ev.succ ?_
  simp only [spec_validDone.l0, h1]
  refine Ev.pos h2 (Ev.pos (by omega) (Ev.pos hx.1 (Ev.pos hx.2 (Ev.bind (allDone_ev _ _ (by have := small_rd hs x; omega) (by omega)) (Ev.ite (fun hc => ?_) (fun hc => ?_))))))
  ·rw [len_next pre x (by omega), List.all_cons, show keepsL ts done x = true from hc, Bool.true_and]
   exact validDone_go ts hs done hd hr r (pre ++ [x]) (by rw [← he]; simp)
  ·rw [List.all_cons, show keepsL ts done x = false from Bool.eq_false_iff.2 hc, Bool.false_and]
   exact Ev.pure _
def doneB (ts : List TT) (done : List Int) : Bool := (graphP ts).isSome && ascB done && done.all (inB 0 ((ts.length : Int) - 1)) && done.all (keepsL ts done)
theorem inB_all {l : List Int} {n : Nat} (h : l.all (inB 0 ((n : Int) - 1)) = true) : ∀ x ∈ l, 0 ≤ x ∧ x < n := fun x hx => by
 have := List.all_eq_true.1 h x hx
 simp only [inB, decide_eq_true_eq] at this
 omega
theorem validDone_evB (ts : List TT) (hs : Small ts) (done : List Int) (hd : done.length < 1099511627776) : Ev (fun k => spec_validDone.f k ts done) (doneB ts done) := by
 unfold spec_validDone.f doneB
 have hl := hs.1
 rw [w64 (n := (ts.length : Int) - 1) (by omega) (by omega)]
 refine Ev.bind (validGraph_ev ts hs) (Ev.ite (fun h0 => ?_) (fun h0 => ?_))
 ·refine Ev.bind (ascends_ev done (by omega)) (Ev.ite (fun h1 => ?_) (fun h1 => ?_))
  ·refine Ev.bind (allIn_ev done _ _ (by omega)) (Ev.succ ?_)
   simp only [spec_validDone.j0]
   rw [h0, h1]
   refine Ev.ite (fun h2 => ?_) (fun h2 => ?_)
   ·rw [show done.all (inB 0 ((ts.length : Int) - 1)) = false by simpa using h2]
    exact Ev.pure _
   ·have h3 : done.all (inB 0 ((ts.length : Int) - 1)) = true := by simpa using h2
    rw [h3]
    exact validDone_go ts hs done hd (inB_all h3) done [] rfl
  ·rw [Bool.eq_false_iff.2 h1, Bool.and_false, Bool.false_and, Bool.false_and]
   refine Ev.succ ?_
   simp only [spec_validDone.j0]
   exact Ev.pos (by simp) (Ev.pure _)
 ·rw [Bool.eq_false_iff.2 h0, Bool.false_and, Bool.false_and, Bool.false_and]
  refine Ev.succ ?_
  simp only [spec_validDone.j0]
  exact Ev.pos (by simp) (Ev.pure _)
theorem closedP_eq {ts : List TT} (hf : fineB ts = true) {done : List Int} (hr : ∀ x ∈ done, 0 ≤ x ∧ x < ts.length) : closedP (needsM ts) (maskL done) = done.all (keepsL ts done) := by
 have h0 : ∀ x ∈ done, 0 ≤ x := fun x hx => (hr x hx).1
 have hlen := fine_len hf
 have hone : ∀ (i : Nat), i < ts.length → ((needsM ts).getD i 0 &&& maskL done == (needsM ts).getD i 0) = keepsL ts done (i : Int) := fun i hi => by
  rw [needsM_get ts i hi, keepsL, rdT_at ts i hi]
  exact sub_eq (fun x hx => ((task_mem (fine_task hf hi)).1 x hx).1) _ (maskL_bit h0)
 unfold closedP
 rw [Bool.eq_iff_iff, List.all_eq_true, List.all_eq_true]
 constructor
 ·intro h x hx
  have hx1 := hr x hx
  have := h x.toNat (mem_bitsN.2 ⟨by omega, by rw [maskL_bit h0]; exact decide_eq_true (by rw [Int.toNat_of_nonneg hx1.1]; exact hx)⟩)
  rw [hone _ (by omega), Int.toNat_of_nonneg hx1.1] at this
  exact this
 ·intro h i hi
  have h1 := (mem_bitsN.1 hi).2
  rw [maskL_bit h0] at h1
  have h2 := of_decide_eq_true h1
  rw [hone _ (by have := hr _ h2; omega)]
  exact h _ h2
structure DoneOk (ts : List TT) (done : List Int) (G : GrN) (s : Nat) : Prop where
 g : graphP ts = some G
 fine : fineB ts = true
 nd : G.nd = needsM ts
 gts : G.ts = ts
 s : s = maskL done
 asc : ascB done = true
 rng : ∀ x ∈ done, 0 ≤ x ∧ x < ts.length
 keeps : done.all (keepsL ts done) = true
theorem DoneOk.bit {ts : List TT} {done : List Int} {G : GrN} {s : Nat} (h : DoneOk ts done G s) (j : Nat) : s.testBit j = decide ((j : Int) ∈ done) := by
 rw [h.s]; exact maskL_bit (fun x hx => (h.rng x hx).1) j
theorem DoneOk.n8 {ts : List TT} {done : List Int} {G : GrN} {s : Nat} (h : DoneOk ts done G s) : ts.length ≤ 8 := fine_len h.fine
theorem doneP_eq (ts : List TT) (done : List Int) : (doneP ts done = none ∧ doneB ts done = false) ∨ ∃ G s, doneP ts done = some (G, s) ∧ doneB ts done = true ∧ DoneOk ts done G s := by
 unfold doneP doneB
 cases hg : graphP ts with
 | none => exact Or.inl ⟨rfl, rfl⟩
 | some G =>
  obtain ⟨hf, hnd, hts⟩ := graphP_fine hg
  simp only [Option.isSome_some, Bool.true_and]
  rw [setP_eq]
  by_cases h1 : (ascB done && done.all (inB 0 ((ts.length : Int) - 1))) = true
  ·rw [if_pos h1, h1, Bool.true_and]
   have h2 := Bool.and_eq_true_iff.1 h1
   have hr := inB_all h2.2
   have hc := closedP_eq hf hr
   rw [← hnd] at hc
   simp only
   rw [hc]
   by_cases h3 : done.all (keepsL ts done) = true
   ·rw [if_pos h3, h3]
    exact Or.inr ⟨G, maskL done, rfl, rfl, hg, hf, hnd, hts, rfl, h2.1, hr, h3⟩
   ·rw [if_neg h3, Bool.eq_false_iff.2 h3]
    exact Or.inl ⟨rfl, rfl⟩
  ·rw [if_neg h1, Bool.eq_false_iff.2 h1, Bool.false_and]
   exact Or.inl ⟨rfl, rfl⟩
theorem DoneOk.doneP {ts : List TT} {done : List Int} {G : GrN} {s : Nat} (h : DoneOk ts done G s) : doneP ts done = some (G, s) := by
 rcases doneP_eq ts done with ⟨_, h2⟩ | ⟨G', s', h1, _, h2⟩
 ·unfold doneB at h2
  have ha : done.all (inB 0 ((ts.length : Int) - 1)) = true := List.all_eq_true.2 fun x hx => by
   have := h.rng x hx
   exact decide_eq_true (by omega)
  rw [h.g, h.asc, ha, h.keeps] at h2
  cases h2
 ·have e1 : G' = G := by have := h2.g; rw [h.g] at this; injection this with this; exact this.symm
  have e2 : s' = s := h2.s.trans h.s.symm
  rw [h1, e1, e2]
theorem validDone_ev (ts : List TT) (hs : Small ts) (done : List Int) (hd : done.length < 1099511627776) : Ev (fun k => spec_validDone.f k ts done) (doneP ts done).isSome := by
 have h := validDone_evB ts hs done hd
 rcases doneP_eq ts done with ⟨h1, h2⟩ | ⟨G, s, h1, h2, _⟩
 ·rw [h1, Option.isSome_none, ← h2]; exact h
 ·rw [h1, Option.isSome_some, ← h2]; exact h
def pickN (p : Nat → Bool) (n : Nat) : List Nat := (List.range n).filter p
theorem bits_pick {m n : Nat} (hn : n ≤ 8) (hm : m < 2 ^ n) (p : Nat → Bool) (h : ∀ i, i < n → m.testBit i = p i) : bitsN m = pickN p n := by
 unfold bitsN pickN
 obtain ⟨c, rfl⟩ : ∃ c, c = 8 - n := ⟨_, rfl⟩
 have h8 : (8 : Nat) = n + (8 - n) := by omega
 rw [h8, List.range_add, List.filter_append]
 have h2 : ((List.range (8 - n)).map (n + ·)).filter (fun i => m.testBit i) = [] := by
  refine List.filter_eq_nil_iff.2 fun x hx => ?_
  obtain ⟨y, _, rfl⟩ := List.mem_map.1 hx
  rw [Nat.testBit_lt_two_pow (Nat.lt_of_lt_of_le hm (Nat.pow_le_pow_right (by omega) (by omega)))]
  simp
 rw [h2, List.append_nil]
 exact List.filter_congr fun x hx => h x (List.mem_range.1 hx)
theorem pickN_len (p : Nat → Bool) (n : Nat) : (pickN p n).length ≤ n := by
 have := List.length_filter_le p (List.range n)
 simpa [pickN] using this
def pR (ts : List TT) (done : List Int) (i : Nat) : Bool := !decide ((i : Int) ∈ done) && subL (rd_T39 ts (i : Int)).f1 done
theorem ready_go (ts : List TT) (hs : Small ts) (done : List Int) (hd : done.length < 1099511627776) : ∀ (m j : Nat) (acc : List Int), j + m = ts.length → acc.length ≤ j →
  Ev (fun k => spec_ready.l0 k ts done acc (j : Int)) (acc ++ nI ((List.range' j m).filter (pR ts done)))
 | 0, j, acc, hj, _ => by
  refine Ev.succ ?_
  simp only [spec_ready.l0]
  refine Ev.neg (by omega) (Ev.eq ?_)
  simp [nI]
 | m + 1, j, acc, hj, ha => by
  have hl := hs.1
  have hw : wrap64 ((j : Int) + 1) = ((j + 1 : Nat) : Int) := w64n j (by omega)
  refine Ev.succ ?_
  simp only [spec_ready.l0, hw]
  rw [List.range'_succ, List.filter_cons]
  refine Ev.pos (by omega) (Ev.bind (isIn_ev _ _ (by omega)) (Ev.ite (fun hc => ?_) (fun hc => ?_)))
  ·rw [if_neg (by unfold pR; rw [hc]; simp)]
   exact ready_go ts hs done hd m (j + 1) acc (by omega) (by omega)
  ·refine Ev.pos (by omega) (Ev.bind (allDone_ev _ _ (by have := small_rd hs (j : Int); omega) (by omega)) (Ev.ite (fun h2 => ?_) (fun h2 => ?_)))
   ·rw [if_pos (by unfold pR; rw [Bool.eq_false_iff.2 hc, h2]; rfl)]
    refine Ev.pos (by omega) ?_
    have := ready_go ts hs done hd m (j + 1) (acc ++ [(j : Int)]) (by omega) (by simp only [List.length_append, List.length_cons, List.length_nil]; omega)
    rw [List.append_assoc] at this
    exact this
   ·rw [if_neg (by unfold pR; rw [Bool.eq_false_iff.2 h2]; simp)]
    exact ready_go ts hs done hd m (j + 1) acc (by omega) (by omega)
def readyL (ts : List TT) (done : List Int) : List Int := nI (pickN (pR ts done) ts.length)
theorem ready_ev (ts : List TT) (hs : Small ts) (done : List Int) (hd : done.length < 1099511627776) : Ev (fun k => spec_ready.f k ts done) (readyL ts done) := by
 have := ready_go ts hs done hd ts.length 0 [] (by omega) (by simp)
 unfold readyL pickN
 rw [List.range_eq_range']
 exact this
theorem readyStep_bit (nd : List Nat) (s : Nat) : ∀ (l : List Nat) (o j : Nat), (l.foldl (readyStepN nd s) o).testBit j = (o.testBit j || (decide (j ∈ l) && canP nd s j))
 | [], o, j => by simp
 | i :: l, o, j => by
  rw [List.foldl_cons, readyStep_bit nd s l, readyStepN]
  by_cases hc : canP nd s i = true
  ·rw [if_pos hc, Nat.testBit_or, Nat.testBit_two_pow, Bool.or_assoc]
   congr 1
   by_cases hij : i = j
   ·subst hij
    rw [hc]
    simp
   ·rw [decide_eq_false hij, Bool.false_or]
    congr 1
    refine decide_eq_decide.2 ?_
    rw [List.mem_cons]
    exact ⟨Or.inr, fun h => h.resolve_left (fun e => hij e.symm)⟩
  ·rw [if_neg hc]
   congr 1
   by_cases hij : j = i
   ·subst hij
    rw [Bool.eq_false_iff.2 hc]
    simp
   ·congr 1
    refine decide_eq_decide.2 ?_
    rw [List.mem_cons]
    exact ⟨Or.inr, fun h => h.resolve_left hij⟩
theorem readyN_bit (nd : List Nat) (s j : Nat) : (readyN nd s).testBit j = (decide (j < nd.length) && canP nd s j) := by
 unfold readyN
 rw [readyStep_bit, Nat.zero_testBit, Bool.false_or]
 congr 1
 exact decide_eq_decide.2 List.mem_range
theorem needsM_len (ts : List TT) : (needsM ts).length = ts.length := by simp [needsM]
theorem DoneOk.lt {ts : List TT} {done : List Int} {G : GrN} {s : Nat} (h : DoneOk ts done G s) : s < 2 ^ ts.length := (doneP_ok h.doneP).2.2.2.2.2
theorem DoneOk.can {ts : List TT} {done : List Int} {G : GrN} {s : Nat} (h : DoneOk ts done G s) (i : Nat) (hi : i < ts.length) : canP G.nd s i = pR ts done i := by
 rw [h.nd, canP_eq h.fine h.bit hi, pR, rdT_at ts i hi]
theorem DoneOk.rbit {ts : List TT} {done : List Int} {G : GrN} {s : Nat} (h : DoneOk ts done G s) (i : Nat) (hi : i < ts.length) : (readyN G.nd s).testBit i = pR ts done i := by
 rw [readyN_bit, h.can i hi, h.nd, needsM_len, decide_eq_true hi, Bool.true_and]
theorem ivs_nI (l : List Nat) : ivs l = nI l := rfl
theorem readyN_lt {nd : List Nat} {s n : Nat} (hl : nd.length = n) : readyN nd s < 2 ^ n := by
 refine Nat.lt_pow_two_of_testBit _ fun i hi => ?_
 rw [readyN_bit, decide_eq_false (by omega), Bool.false_and]
theorem DoneOk.ready {ts : List TT} {done : List Int} {G : GrN} {s : Nat} (h : DoneOk ts done G s) : ivs (bitsN (readyN G.nd s)) = readyL ts done := by
 unfold readyL
 rw [ivs_nI, bits_pick h.n8 (readyN_lt (by rw [h.nd, needsM_len])) (pR ts done) h.rbit]
theorem ReadyTasks_ev (ts : List TT) (hs : Small ts) (done : List Int) (hd : done.length < 1099511627776) : ∃ r, Ev (fun k => spec_ReadyTasks.f k ts done) r ∧ impl_ReadyTasks.f ts done = some r ∧ r.length ≤ 8 := by
 unfold spec_ReadyTasks.f impl_ReadyTasks.f
 have hv := validDone_ev ts hs done hd
 rcases doneP_eq ts done with ⟨h1, _⟩ | ⟨G, s, h1, _, h2⟩
 ·rw [h1] at hv ⊢
  exact ⟨[], Ev.bind hv (Ev.neg (by simp) (Ev.pure _)), rfl, by simp⟩
 ·rw [h1] at hv ⊢
  refine ⟨readyL ts done, Ev.bind hv (Ev.pos rfl (Ev.bind (ready_ev ts hs done hd) (Ev.pure _))), ?_, ?_⟩
  ·simp only [h2.ready]
  ·have := pickN_len (pR ts done) ts.length
   have h8 := h2.n8
   unfold readyL
   rw [nI_length]; omega
def pF (done : List Int) (at_ : Int) (i : Nat) : Bool := decide ((i : Int) = at_) || decide ((i : Int) ∈ done)
theorem finish_go (ts : List TT) (hs : Small ts) (done : List Int) (hd : done.length < 1099511627776) (at_ : Int) : ∀ (m j : Nat) (acc : List Int), j + m = ts.length → acc.length ≤ j →
  Ev (fun k => spec_FinishTask.l0 k ts done at_ acc (j : Int)) (acc ++ nI ((List.range' j m).filter (pF done at_)), true)
 | 0, j, acc, hj, _ => by
  refine Ev.succ ?_
  simp only [spec_FinishTask.l0]
  refine Ev.neg (by omega) (Ev.eq ?_)
  simp [nI]
 | m + 1, j, acc, hj, ha => by
  have hl := hs.1
  have hw : wrap64 ((j : Int) + 1) = ((j + 1 : Nat) : Int) := w64n j (by omega)
  have hadd : Ev (fun k => spec_FinishTask.l0 k ts done at_ (acc ++ [(j : Int)]) ((j + 1 : Nat) : Int)) (acc ++ nI (j :: (List.range' (j + 1) m).filter (pF done at_)), true) := by
   have := finish_go ts hs done hd at_ m (j + 1) (acc ++ [(j : Int)]) (by omega) (by simp only [List.length_append, List.length_cons, List.length_nil]; omega)
   rw [List.append_assoc] at this
   exact this
  refine Ev.succ ?_
  simp only [spec_FinishTask.l0, hw]
  rw [List.range'_succ, List.filter_cons]
  refine Ev.pos (by omega) (Ev.ite (fun hc => ?_) (fun hc => ?_))
  ·rw [if_pos (by unfold pF; rw [decide_eq_true hc]; rfl)]
   exact Ev.pos (by omega) hadd
  ·refine Ev.bind (isIn_ev _ _ (by omega)) (Ev.ite (fun h2 => ?_) (fun h2 => ?_))
   ·rw [if_pos (by unfold pF; rw [h2]; simp)]
    exact Ev.pos (by omega) hadd
   ·rw [if_neg (by unfold pF; rw [decide_eq_false hc, Bool.eq_false_iff.2 h2]; simp)]
    exact finish_go ts hs done hd at_ m (j + 1) acc (by omega) (by omega)
def finishL (ts : List TT) (done : List Int) (at_ : Int) : List Int := nI (pickN (pF done at_) ts.length)
theorem mem_readyL {ts : List TT} {done : List Int} {x : Int} : x ∈ readyL ts done ↔ (0 ≤ x ∧ x < ts.length) ∧ pR ts done x.toNat = true := by
 unfold readyL pickN nI
 rw [List.mem_map]
 constructor
 ·rintro ⟨i, hi, rfl⟩
  rw [List.mem_filter, List.mem_range] at hi
  exact ⟨by omega, by simpa using hi.2⟩
 ·rintro ⟨h1, h2⟩
  exact ⟨x.toNat, List.mem_filter.2 ⟨List.mem_range.2 (by omega), h2⟩, by omega⟩
theorem DoneOk.finishP {ts : List TT} {done : List Int} {G : GrN} {s : Nat} (h : DoneOk ts done G s) (at_ : Int) : finishP ts done at_ = if at_ ∈ readyL ts done then some (finishL ts done at_) else none := by
 unfold Go.Proofs.YtajapkjplgaigaaDoor.P.finishP
 rw [h.doneP]
 simp only
 by_cases hr : 0 ≤ at_ ∧ at_ < ts.length
 ·rw [if_pos hr, h.rbit at_.toNat (by omega)]
  by_cases hp : pR ts done at_.toNat = true
  ·rw [if_pos hp, if_pos (mem_readyL.2 ⟨hr, hp⟩)]
   congr 1
   unfold finishL
   rw [ivs_nI, bits_pick h.n8 (m := s ||| 2 ^ at_.toNat) (Nat.or_lt_two_pow h.lt (Nat.pow_lt_pow_right (by omega) (by omega))) (pF done at_) (fun i hi => ?_)]
   rw [Nat.testBit_or, Nat.testBit_two_pow, h.bit, pF, Bool.or_comm]
   congr 1
   exact decide_eq_decide.2 (by omega)
  ·rw [if_neg hp, if_neg (fun hm => hp (mem_readyL.1 hm).2)]
 ·rw [if_neg hr, if_neg (fun hm => hr (mem_readyL.1 hm).1)]
theorem FinishTask_ev (ts : List TT) (hs : Small ts) (done : List Int) (hd : done.length < 1099511627776) (at_ : Int) : ∃ r, Ev (fun k => spec_FinishTask.f k ts done at_) r ∧ impl_FinishTask.f ts done at_ = some r ∧ r.1.length ≤ 8 := by
 have hv := validDone_ev ts hs done hd
 have hrd := ready_ev ts hs done hd
 rcases doneP_eq ts done with ⟨h1, _⟩ | ⟨G, s, h1, _, h2⟩
 ·rw [h1] at hv
  refine ⟨([], false), ?_, by unfold impl_FinishTask.f finishP; rw [h1], by simp⟩
  unfold spec_FinishTask.f
  refine Ev.bind (Ev.pure _) (Ev.bind hv (Ev.neg (by simp) (Ev.succ ?_)))
  simp only [spec_FinishTask.j0]
  exact Ev.pos (by simp) (Ev.pure _)
 ·rw [h1] at hv
  have h8 := h2.n8
  have hlr : (readyL ts done).length ≤ 8 := by
   have := pickN_len (pR ts done) ts.length
   unfold readyL
   rw [nI_length]; omega
  by_cases hm : at_ ∈ readyL ts done
  ·refine ⟨(finishL ts done at_, true), ?_, by unfold impl_FinishTask.f; rw [h2.finishP at_, if_pos hm], ?_⟩
   ·unfold spec_FinishTask.f
    refine Ev.bind (Ev.pure _) (Ev.bind hv (Ev.pos rfl (Ev.bind hrd (Ev.bind (isIn_ev _ _ (by omega)) (Ev.succ ?_)))))
    simp only [spec_FinishTask.j0]
    refine Ev.neg (by simp [hm]) ?_
    have := finish_go ts hs done hd at_ ts.length 0 [] (by omega) (by simp)
    unfold finishL pickN
    rw [List.range_eq_range']
    exact this
   ·have := pickN_len (pF done at_) ts.length
    show (finishL ts done at_).length ≤ 8
    unfold finishL
    rw [nI_length]; omega
  ·refine ⟨([], false), ?_, by unfold impl_FinishTask.f; rw [h2.finishP at_, if_neg hm], by simp⟩
   unfold spec_FinishTask.f
   refine Ev.bind (Ev.pure _) (Ev.bind hv (Ev.pos rfl (Ev.bind hrd (Ev.bind (isIn_ev _ _ (by omega)) (Ev.succ ?_)))))
   simp only [spec_FinishTask.j0]
   exact Ev.pos (by simp [hm]) (Ev.pure _)
end Go.Proofs.YtajapkjplgaigaaDoor.P
end
section
namespace Go.Proofs.YtajapkjplgaigaaDoor.P
open Go.RowKit Go.Shelf Go.Proofs.YtajapkjplgaigaaDoorW.PrintWords Go.Proofs.YtajapkjplgaigaaDoorW.PrintLast Go.Proofs.YtajapkjplgaigaaDoorW.PrintMore
set_option linter.unusedVariables false
set_option linter.unusedSimpArgs false
structure RdOk (B : List Int) : Prop where
 len : B.length ≤ 2000
 byte : ∀ x ∈ B, 0 ≤ x ∧ x ≤ 255
theorem RdOk.at {B : List Int} (hB : RdOk B) (i : Int) : 0 ≤ rd B i ∧ rd B i ≤ 255 := by
 unfold rd
 rw [List.getD_eq_getElem?_getD]
 cases h : B[i.toNat]? with
 | none => simp
 | some x => exact hB.byte x (List.mem_of_getElem? h)
def Dr {α : Type} (m p : Int) (good : α → Prop) (f : Nat → Option (α × Int)) : Prop := ∃ r q, Ev f (r, q) ∧ good r ∧ p ≤ q ∧ q ≤ p + m
section
variable {α β : Type} {good good' : α → Prop} {goodb : β → Prop} {m m' n p : Int} {f : Nat → Option (α × Int)}
theorem Dr.mono (h : Dr m p good f) (hm : m ≤ m') (hg : ∀ r, good r → good' r) : Dr m' p good' f := by
 obtain ⟨r, q, h1, h2, h3, h4⟩ := h
 exact ⟨r, q, h1, hg r h2, h3, by omega⟩
theorem Dr.bind {g : Nat → α × Int → Option (β × Int)} (hf : Dr m p good f) (hg : ∀ r q, good r → p ≤ q → q ≤ p + m → Dr n q goodb (fun k => g k (r, q))) : Dr (m + n) p goodb (fun k => (f k).bind (g k)) := by
 obtain ⟨r, q, h1, h2, h3, h4⟩ := hf
 obtain ⟨r', q', e1, e2, e3, e4⟩ := hg r q h2 h3 h4
 exact ⟨r', q', h1.bind e1, e2, by omega, by omega⟩
theorem Dr.bind0 {γ : Type} {f : Nat → Option γ} {x : γ} {g : Nat → γ → Option (β × Int)} (hf : Ev f x) (hg : Dr m p goodb (fun k => g k x)) : Dr m p goodb (fun k => (f k).bind (g k)) := by
 obtain ⟨r', q', e1, e2, e3, e4⟩ := hg
 exact ⟨r', q', hf.bind e1, e2, e3, e4⟩
theorem Dr.pure {r : α} {q : Int} (h : good r) (h1 : p ≤ q) (h2 : q ≤ p + m) : Dr m p good (fun _ => some (r, q)) := ⟨r, q, Ev.pure _, h, h1, h2⟩
theorem Dr.here {r : α} {q : Int} (h : good r) (h0 : 0 ≤ m) : Dr m q good (fun _ => some (r, q)) := ⟨r, q, Ev.pure _, h, Int.le_refl _, by omega⟩
theorem Dr.succ {f : Nat → Option (α × Int)} (h : Dr m p good (fun k => f (k + 1))) : Dr m p good f := by
 obtain ⟨r, q, h1, h2⟩ := h
 exact ⟨r, q, h1.succ, h2⟩
theorem Dr.pos {c : Prop} [Decidable c] {g : Nat → Option (α × Int)} (hc : c) (h : Dr m p good f) : Dr m p good (fun k => if c then f k else g k) := by
 obtain ⟨r, q, h1, h2⟩ := h
 exact ⟨r, q, h1.pos hc, h2⟩
theorem Dr.neg {c : Prop} [Decidable c] {g : Nat → Option (α × Int)} (hc : ¬ c) (h : Dr m p good f) : Dr m p good (fun k => if c then g k else f k) := by
 obtain ⟨r, q, h1, h2⟩ := h
 exact ⟨r, q, h1.neg hc, h2⟩
theorem Dr.ite {c : Prop} [Decidable c] {g : Nat → Option (α × Int)} (h : c → Dr m p good f) (h' : ¬ c → Dr m p good g) : Dr m p good (fun k => if c then f k else g k) := by
 by_cases hc : c
 ·exact Dr.pos hc (h hc)
 ·exact Dr.neg hc (h' hc)
end
theorem xor64_nn (a b : Nat) (ha : a < 2 ^ 62) (hb : b < 2 ^ 62) : 0 ≤ Go.bits .xor .i64 (a : Int) (b : Int) ∧ Go.bits .xor .i64 (a : Int) (b : Int) < 2 ^ 62 := by
 have h1 : (BitVec.ofInt 64 (a : Int)).toNat = a := by
  rw [BitVec.ofInt_natCast, BitVec.toNat_ofNat]; exact Nat.mod_eq_of_lt (by omega)
 have h2 : (BitVec.ofInt 64 (b : Int)).toNat = b := by
  rw [BitVec.ofInt_natCast, BitVec.toNat_ofNat]; exact Nat.mod_eq_of_lt (by omega)
 have h3 : Go.bits .xor .i64 (a : Int) (b : Int) = IntKind.i64.wrap ((a ^^^ b : Nat) : Int) := by
  show IntKind.i64.wrap ((BitVec.ofInt 64 (a : Int) ^^^ BitVec.ofInt 64 (b : Int)).toNat : Int) = _
  rw [BitVec.toNat_xor, h1, h2]
 have h4 : a ^^^ b < 2 ^ 62 := Nat.xor_lt_two_pow ha hb
 rw [h3, IntKind.wrap_i64]
 omega
theorem tmod_in {a n : Int} (ha : 0 ≤ a) (hn : 1 ≤ n) : 0 ≤ Int.tmod a n ∧ Int.tmod a n < n := ⟨Int.tmod_nonneg _ ha, Int.tmod_lt_of_pos _ (by omega)⟩
theorem pick_ev {B : List Int} (hB : RdOk B) (n p : Int) (hp : 0 ≤ p) (hp' : p ≤ 1000000) : Dr 1 p (fun r => 0 ≤ r ∧ (1 ≤ n → r < n) ∧ (n < 1 → r = 0)) (fun k => spec_reader_pick.f k B p n) := by
 have hlen := hB.len
 have e1 : wrap64 (p + 1) = p + 1 := w64 (by omega) (by omega)
 have e2 : wrap64 (p + 1 - 1) = p := by rw [w64 (by omega) (by omega)]; omega
 have e3 : wrap64 (p * 7) = p * 7 := w64 (by omega) (by omega)
 have e4 : wrap64 (p * 7 + 3) = p * 7 + 3 := w64 (by omega) (by omega)
 unfold spec_reader_pick.f
 rw [e1]
 refine Dr.ite (fun hn => ?_) (fun hn => ?_)
 ·refine Dr.succ ?_
  simp only [spec_reader_pick.j0]
  exact Dr.pos (by simp) (Dr.pure ⟨by omega, by omega, fun _ => rfl⟩ (by omega) (by omega))
 ·refine Dr.succ ?_
  simp only [spec_reader_pick.j0, e2]
  refine Dr.ite (fun h0 => Dr.pure ⟨by omega, by omega, by omega⟩ (by omega) (by omega)) (fun h0 => ?_)
  have hB0 : 0 < B.length := by
   rcases Nat.eq_zero_or_pos B.length with h | h
   ·exact absurd (by rw [h]; rfl) h0
   ·exact h
  refine Dr.ite (fun h1 => ?_) (fun h1 => ?_)
  ·refine Dr.pos hp (Dr.neg (by omega) ?_)
   have hb := hB.at p
   rw [w64 (by omega) (by omega)]
   have ht := tmod_in hb.1 (by omega : 1 ≤ n)
   exact Dr.pure ⟨ht.1, fun _ => ht.2, by omega⟩ (by omega) (by omega)
  ·have t1 := tmod_in hp (by omega : (1 : Int) ≤ B.length)
   have t2 := tmod_in (by omega : 0 ≤ p * 7 + 3) (by omega : (1 : Int) ≤ B.length)
   simp only [e3, e4]
   refine Dr.neg (by omega) (Dr.pos t1.1 (Dr.pos t1.2 (Dr.pos t2.1 (Dr.pos t2.2 (Dr.neg (by omega) ?_)))))
   have b1 := hB.at (Int.tmod p (B.length : Int))
   have b2 := hB.at (Int.tmod (p * 7 + 3) (B.length : Int))
   obtain ⟨x1, hx1⟩ : ∃ x, x = rd B (Int.tmod p (B.length : Int)) := ⟨_, rfl⟩
   obtain ⟨x2, hx2⟩ : ∃ x, x = rd B (Int.tmod (p * 7 + 3) (B.length : Int)) := ⟨_, rfl⟩
   obtain ⟨d, hd⟩ : ∃ x, x = Int.tdiv p (B.length : Int) := ⟨_, rfl⟩
   have d0 : 0 ≤ d := by rw [hd]; exact Int.tdiv_nonneg hp (by omega)
   have d1 : d ≤ p := by rw [hd, Int.tdiv_eq_ediv_of_nonneg hp]; exact Int.ediv_le_self _ hp
   rw [← hx1] at b1 ⊢
   rw [← hx2] at b2 ⊢
   rw [← hd]
   simp only [w64 (n := x1) (by omega) (by omega), w64 (n := x2) (by omega) (by omega), w64 (n := x1 * 131) (by omega) (by omega), w64 (n := x2 * 1117) (by omega) (by omega), w64 (n := p * 29) (by omega) (by omega), w64 (n := d) (by omega) (by omega), w64 (n := d * 53) (by omega) (by omega),
    w64 (n := x1 * 131 + x2 * 1117) (by omega) (by omega), w64 (n := x1 * 131 + x2 * 1117 + p * 29) (by omega) (by omega), w64 (n := x1 * 131 + x2 * 1117 + p * 29 + d * 53) (by omega) (by omega)]
   obtain ⟨s, hs⟩ : ∃ s : Nat, x1 * 131 + x2 * 1117 + p * 29 + d * 53 = (s : Int) := ⟨(x1 * 131 + x2 * 1117 + p * 29 + d * 53).toNat, by omega⟩
   have hs2 : s < 1000000000000 := by omega
   rw [hs]
   have hdiv : wrap64 (Int.tdiv (s : Int) 64) = ((s / 64 : Nat) : Int) := by
    rw [Int.tdiv_eq_ediv_of_nonneg (by omega), w64 (by omega) (by omega)]; omega
   rw [hdiv]
   have hx := xor64_nn s (s / 64) (by omega) (by omega)
   have ht := tmod_in hx.1 (by omega : 1 ≤ n)
   exact Dr.pure ⟨ht.1, fun _ => ht.2, by omega⟩ (by omega) (by omega)
theorem one_ev {B : List Int} (hB : RdOk B) (l : List Int) (p : Int) (hl : 0 < l.length) (hp : 0 ≤ p) (hp' : p ≤ 1000000) : Dr 1 p (fun r => r ∈ l) (fun k => spec_reader_one.f k B p l) := by
 unfold spec_reader_one.f
 refine ((pick_ev hB (l.length : Int) p hp hp').bind (n := 0) (fun r q hr h1 h2 => ?_)).mono (by omega) (fun _ h => h)
 have h3 := hr.2.1 (by omega)
 refine Dr.pos hr.1 (Dr.pos h3 (Dr.here ?_ (by omega)))
 unfold rd
 rw [List.getD_eq_getElem?_getD, List.getElem?_eq_getElem (by omega)]
 exact List.getElem_mem _
theorem copyInts_eq (l : List Int) (h : l.length < 1099511627776) : spec_copyInts.f l = some l := by
 unfold spec_copyInts.f
 simp only [Option.bind_some]
 rw [if_pos (by simp; omega)]
 rfl
theorem spoil_ev {B : List Int} (hB : RdOk B) (l : List Int) (n p : Int) (hl : l.length ≤ 1000) (hp : 0 ≤ p) (hp' : p ≤ 900000) : Dr 3 p (fun r => r.length ≤ l.length + 1) (fun k => spec_reader_spoil.f k B p l n) := by
 unfold spec_reader_spoil.f
 refine Dr.bind0 (Ev.eq (copyInts_eq l (by omega))) (((pick_ev hB 20 p hp (by omega)).bind (n := 2) (fun r q hr h1 h2 => ?_)).mono (by omega) (fun _ h => h))
 refine Dr.ite (fun _ => Dr.pos (by omega) (Dr.here (by simp) (by omega))) (fun _ => Dr.ite (fun _ => ?_) (fun _ => Dr.ite (fun _ => ?_) (fun _ => Dr.here (by simp) (by omega))))
 ·exact Dr.ite (fun h => Dr.pos (by omega) (Dr.here (by simp; omega) (by omega))) (fun _ => Dr.here (by simp) (by omega))
 ·refine Dr.ite (fun h => ?_) (fun _ => Dr.here (by simp) (by omega))
  refine ((pick_ev hB (l.length : Int) q (by omega) (by omega)).bind (n := 1) (fun r2 q2 hr2 h3 h4 => ?_)).mono (by omega) (fun _ h => h)
  refine ((one_ev hB _ q2 (by simp) (by omega) (by omega)).bind (n := 0) (fun r3 q3 hr3 h5 h6 => ?_)).mono (by omega) (fun _ h => h)
  exact Dr.pos hr2.1 (Dr.pos (hr2.2.1 (by omega)) (Dr.here (by simp) (by omega)))
def GB (L M : Nat) (ts : List TT) : Prop := ts.length ≤ L ∧ ∀ t ∈ ts, t.f1.length ≤ M
theorem GB.small {L M : Nat} {ts : List TT} (h : GB L M ts) (hL : L ≤ 1000) (hM : M ≤ 1000) : Small ts := ⟨by have := h.1; omega, fun t ht => by have := h.2 t ht; omega⟩
theorem GB.snoc {L M : Nat} {ts : List TT} {t : TT} (h : GB L M ts) (ht : t.f1.length ≤ M) : GB (L + 1) M (ts ++ [t]) :=
 ⟨by have := h.1; simp; omega, fun x hx => by
  rcases List.mem_append.1 hx with hx | hx
  ·exact h.2 x hx
  ·rw [List.mem_singleton.1 hx]; exact ht⟩
theorem GB.set {L M : Nat} {ts : List TT} {t : TT} {i : Nat} (h : GB L M ts) (ht : t.f1.length ≤ M) : GB L M (ts.set i t) :=
 ⟨by have := h.1; simp; omega, fun x hx => by
  rcases List.mem_or_eq_of_mem_set hx with hx | hx
  ·exact h.2 x hx
  ·rw [hx]; exact ht⟩
theorem GB.mono {L M L' M' : Nat} {ts : List TT} (h : GB L M ts) (hL : L ≤ L') (hM : M ≤ M') : GB L' M' ts := ⟨by have := h.1; omega, fun x hx => by have := h.2 x hx; omega⟩
theorem GB.rd {L M : Nat} {ts : List TT} (h : GB L M ts) (i : Int) : (rd_T39 ts i).f1.length ≤ M := by
 unfold rd_T39
 rw [List.getD_eq_getElem?_getD]
 cases hh : ts[i.toNat]? with
 | none => simp [z39]
 | some t => exact h.2 t (List.mem_of_getElem? hh)
theorem turned_l1 (Q : List TT → Prop) (g : List TT) (out : List TT) (last i : Int) (a b c : Int) (nd : List Int) (hn : nd.length ≤ 1000)
  (hgo : ∀ acc : List Int, acc.length ≤ nd.length → ∃ r : List TT, Ev (fun k => spec_turned.l0 k g (out ++ [⟨a, acc, b, c⟩]) last (wrap64 (i - 1))) r ∧ Q r) (ho : out.length ≤ 1000) :
  ∀ (m : Nat) (acc : List Int), m ≤ nd.length → acc.length + m ≤ nd.length → ∃ r : List TT, Ev (fun k => spec_turned.l1 k g out last i acc ((m : Int) - 1) a nd b c) r ∧ Q r
 | 0, acc, _, ha => by
  obtain ⟨r, h1, h2⟩ := hgo acc (by omega)
  refine ⟨r, Ev.succ ?_, h2⟩
  simp only [spec_turned.l1]
  exact Ev.neg (by omega) (Ev.pos (by omega) h1)
 | m + 1, acc, hm, ha => by
  have hw : wrap64 (((m + 1 : Nat) : Int) - 1 - 1) = (m : Int) - 1 := by rw [w64 (by omega) (by omega)]; omega
  obtain ⟨r, h1, h2⟩ := turned_l1 Q g out last i a b c nd hn hgo ho m (acc ++ [wrap64 (last - Go.Proofs.YtajapkjplgaigaaDoorW.PrintWords.rd nd (((m + 1 : Nat) : Int) - 1))]) (by omega) (by simp only [List.length_append, List.length_cons, List.length_nil]; omega)
  refine ⟨r, Ev.succ ?_, h2⟩
  simp only [spec_turned.l1, hw]
  exact Ev.pos (by omega) (Ev.pos (by omega) (Ev.pos (by omega) (Ev.pos (by omega) h1)))
theorem turned_l0 (L M : Nat) (hL : L ≤ 1000) (hM : M ≤ 1000) (g : List TT) (hg : GB L M g) (last : Int) : ∀ (m : Nat) (out : List TT), m ≤ g.length → GB (g.length - m) M out → ∃ r, Ev (fun k => spec_turned.l0 k g out last ((m : Int) - 1)) r ∧ GB L M r
 | 0, out, _, ho => by
  refine ⟨out, Ev.succ ?_, ho.mono (by have := hg.1; omega) (Nat.le_refl _)⟩
  simp only [spec_turned.l0]
  exact Ev.neg (by omega) (Ev.pure _)
 | m + 1, out, hm, ho => by
  have hgl := hg.1
  have hol := ho.1
  have hrd := hg.rd (((m + 1 : Nat) : Int) - 1)
  have hw : wrap64 (((m + 1 : Nat) : Int) - 1 - 1) = (m : Int) - 1 := by rw [w64 (by omega) (by omega)]; omega
  obtain ⟨t, ht⟩ : ∃ t, t = rd_T39 g (((m + 1 : Nat) : Int) - 1) := ⟨_, rfl⟩
  rw [← ht] at hrd
  have hw2 : wrap64 ((t.f1.length : Int) - 1) = (t.f1.length : Int) - 1 := w64 (by omega) (by omega)
  obtain ⟨r, h1, h2⟩ := turned_l1 (GB L M) g out last (((m + 1 : Nat) : Int) - 1) t.f0 t.f2 t.f3 t.f1 (by omega) (fun acc ha => by
   rw [hw]
   exact turned_l0 L M hL hM g hg last m _ (by omega) ((ho.snoc (t := ⟨t.f0, acc, t.f2, t.f3⟩) (by show acc.length ≤ M; omega)).mono (by omega) (Nat.le_refl _))) (by omega) t.f1.length [] (Nat.le_refl _) (by simp)
  refine ⟨r, Ev.succ ?_, h2⟩
  simp only [spec_turned.l0, ← ht, hw2]
  exact Ev.pos (by omega) (Ev.pos (by omega) (Ev.pos (by omega) h1))
theorem turned_ev (L M : Nat) (hL : L ≤ 1000) (hM : M ≤ 1000) (g : List TT) (hg : GB L M g) : ∃ r, Ev (fun k => spec_turned.f k g) r ∧ GB L M r := by
 unfold spec_turned.f
 have hgl := hg.1
 rw [w64 (by omega) (by omega)]
 exact turned_l0 L M hL hM g hg _ g.length [] (Nat.le_refl _) ⟨by simp, fun t ht => by cases ht⟩
theorem some_l1 {B : List Int} (hB : RdOk B) (M : Int) (hM : 0 ≤ M) (good : List TT → Prop) (g : List TT) (hg : g.length ≤ 8) (n : Int) (a b c : Int) (E : Int) (hE : E ≤ 10000)
  (hgo : ∀ (acc : List Int) (q : Int), acc.length ≤ g.length → 0 ≤ q → q ≤ E → Dr M q good (fun k => spec_someGraph.l0 k (g ++ [⟨a, acc, b, c⟩]) (wrap64 (n - 1)) B q)) :
  ∀ (m j : Nat) (acc : List Int) (p : Int), j + m = g.length → acc.length ≤ j → 0 ≤ p → p + m ≤ E → Dr (m + M) p good (fun k => spec_someGraph.l1 k g n (j : Int) B p a acc b c)
 | 0, j, acc, p, hj, ha, hp, hp' => by
  refine Dr.succ ?_
  simp only [spec_someGraph.l1]
  exact Dr.neg (by omega) (Dr.pos (by omega) ((hgo acc p (by omega) hp (by omega)).mono (by omega) (fun _ h => h)))
 | m + 1, j, acc, p, hj, ha, hp, hp' => by
  have hw : wrap64 ((j : Int) + 1) = ((j + 1 : Nat) : Int) := w64n j (by omega)
  refine Dr.succ ?_
  simp only [spec_someGraph.l1, hw]
  refine Dr.pos (by omega) (((pick_ev hB 3 p hp (by omega)).bind (n := m + M) (fun r q hr h1 h2 => ?_)).mono (by omega) (fun _ h => h))
  exact Dr.ite (fun _ => Dr.pos (by omega) (some_l1 hB M hM good g hg n a b c E hE hgo m (j + 1) _ q (by omega) (by simp only [List.length_append, List.length_cons, List.length_nil]; omega) (by omega) (by omega))) (fun _ => some_l1 hB M hM good g hg n a b c E hE hgo m (j + 1) acc q (by omega) (by omega) (by omega) (by omega))
theorem some_l0 {B : List Int} (hB : RdOk B) : ∀ (n : Nat) (g : List TT) (p : Int), g.length + n ≤ 8 → GB 8 8 g → 0 ≤ p → p + 11 * n ≤ 5000 → Dr (11 * n + 1) p (GB 8 8) (fun k => spec_someGraph.l0 k g (n : Int) B p)
 | 0, g, p, hn, hg, hp, hp' => by
  refine Dr.succ ?_
  simp only [spec_someGraph.l0]
  refine Dr.neg (by omega) (Dr.ite (fun h => ?_) (fun h => Dr.here hg (by omega)))
  refine ((pick_ev hB 4 p hp (by omega)).bind (n := 0) (fun r q hr h1 h2 => ?_)).mono (by omega) (fun _ h => h)
  obtain ⟨t, h3, h4⟩ := turned_ev 8 8 (by omega) (by omega) g hg
  exact Dr.ite (fun _ => Dr.bind0 h3 (Dr.here h4 (by omega))) (fun _ => Dr.here hg (by omega))
 | n + 1, g, p, hn, hg, hp, hp' => by
  have hw : wrap64 (((n + 1 : Nat) : Int) - 1) = (n : Int) := by rw [w64 (by omega) (by omega)]; omega
  refine Dr.succ ?_
  simp only [spec_someGraph.l0]
  refine Dr.pos (by omega) (((one_ev hB _ p (by simp) hp (by omega)).bind (n := 2 + (8 + (11 * n + 1))) (fun r q hr h1 h2 => ?_)).mono (by omega) (fun _ h => h))
  refine ((pick_ev hB 3 q (by omega) (by omega)).bind (n := 1 + (8 + (11 * n + 1))) (fun r2 q2 hr2 h3 h4 => ?_)).mono (by omega) (fun _ h => h)
  refine ((pick_ev hB 4 q2 (by omega) (by omega)).bind (n := 8 + (11 * n + 1)) (fun r3 q3 hr3 h5 h6 => ?_)).mono (by omega) (fun _ h => h)
  refine (some_l1 hB (11 * n + 1) (by omega) (GB 8 8) g (by omega) ((n + 1 : Nat) : Int) r r2 (wrap64 (1 + r3)) (q3 + g.length) (by omega) (fun acc q4 ha h7 h8 => ?_) g.length 0 [] q3 (by omega) (by simp) (by omega) (by omega)).mono (by omega) (fun _ h => h)
  rw [hw]
  exact some_l0 hB n _ q4 (by simp; omega) ⟨by simp; omega, (hg.snoc (t := ⟨r, acc, r2, wrap64 (1 + r3)⟩) (by show acc.length ≤ 8; omega)).2⟩ h7 (by omega)
theorem someGraph_ev {B : List Int} (hB : RdOk B) (p : Int) (hp : 0 ≤ p) (hp' : p ≤ 1000) : Dr 100 p (GB 8 8) (fun k => spec_someGraph.f k B p 8) := by
 unfold spec_someGraph.f
 refine ((one_ev hB _ p (by simp) hp (by omega)).bind (n := 99) (fun r q hr h1 h2 => ?_)).mono (by omega) (fun _ h => h)
 obtain ⟨n, hn, hn8⟩ : ∃ n : Nat, mn 8 r = (n : Int) ∧ n ≤ 8 := by
  simp only [List.mem_cons, List.not_mem_nil, or_false] at hr
  unfold mn
  rcases hr with h | h | h | h | h | h | h | h <;> subst h
  ·exact ⟨4, by decide, by omega⟩
  ·exact ⟨5, by decide, by omega⟩
  ·exact ⟨3, by decide, by omega⟩
  ·exact ⟨6, by decide, by omega⟩
  ·exact ⟨2, by decide, by omega⟩
  ·exact ⟨1, by decide, by omega⟩
  ·exact ⟨0, by decide, by omega⟩
  ·exact ⟨8, by decide, by omega⟩
 rw [hn]
 exact (some_l0 hB n [] q (by simpa using hn8) ⟨by simp, fun t ht => by cases ht⟩ (by omega) (by omega)).mono (by omega) (fun _ h => h)
theorem anyGraph_ev {B : List Int} (hB : RdOk B) (p : Int) (hp : 0 ≤ p) (hp' : p ≤ 100) : Dr 300 p (GB 16 16) (fun k => spec_anyGraph.f k B p) := by
 unfold spec_anyGraph.f
 refine ((someGraph_ev hB p hp (by omega)).bind (n := 200) (fun g q hg h1 h2 => ?_)).mono (by omega) (fun _ h => h)
 have hg16 := hg.mono (L' := 16) (M' := 16) (by omega) (by omega)
 have hgl := hg.1
 refine Dr.ite (fun _ => Dr.here hg16 (by omega)) (fun h0 => ?_)
 have h0' : ¬ (g.length : Int) = 0 := h0
 refine ((pick_ev hB (g.length : Int) q (by omega) (by omega)).bind (n := 199) (fun a q2 ha h3 h4 => ?_)).mono (by omega) (fun _ h => h)
 have ha2 := ha.2.1 (by omega)
 refine ((pick_ev hB 24 q2 (by omega) (by omega)).bind (n := 198) (fun b q3 hb h5 h6 => ?_)).mono (by omega) (fun _ h => h)
 have hrd := hg.rd a
 refine Dr.ite (fun _ => ?_) (fun _ => Dr.ite (fun _ => ?_) (fun _ => Dr.ite (fun _ => ?_) (fun _ => Dr.ite (fun _ => ?_) (fun _ => Dr.ite (fun _ => ?_) (fun _ => Dr.here hg16 (by omega))))))
 ·refine ((one_ev hB _ q3 (by simp) (by omega) (by omega)).bind (n := 0) (fun r q4 hr h7 h8 => ?_)).mono (by omega) (fun _ h => h)
  exact Dr.pos ha.1 (Dr.pos ha2 (Dr.here (hg16.set (by show _ ≤ 16; dsimp only; omega)) (by omega)))
 ·refine Dr.pos ha.1 (Dr.pos ha2 (Dr.bind0 (Ev.pure _) ?_))
  refine ((pick_ev hB (g.length : Int) q3 (by omega) (by omega)).bind (n := 3) (fun r q4 hr h7 h8 => ?_)).mono (by omega) (fun _ h => h)
  refine Dr.bind0 (Ev.pure _) (Dr.pos (by simp only [List.length_cons, List.length_nil]; omega) ?_)
  refine ((spoil_ev hB _ 8 q4 (by simp only [List.length_append, List.length_cons, List.length_nil]; omega) (by omega) (by omega)).bind (n := 0) (fun r2 q5 hr2 h9 h10 => ?_)).mono (by omega) (fun _ h => h)
  simp only [List.length_append, List.length_cons, List.length_nil] at hr2
  exact Dr.here (hg16.set (by show r2.length ≤ 16; omega)) (by omega)
 ·refine ((one_ev hB _ q3 (by simp) (by omega) (by omega)).bind (n := 0) (fun r q4 hr h7 h8 => ?_)).mono (by omega) (fun _ h => h)
  exact Dr.pos ha.1 (Dr.pos ha2 (Dr.here (hg16.set (by show _ ≤ 16; dsimp only; omega)) (by omega)))
 ·refine ((one_ev hB _ q3 (by simp) (by omega) (by omega)).bind (n := 0) (fun r q4 hr h7 h8 => ?_)).mono (by omega) (fun _ h => h)
  exact Dr.pos ha.1 (Dr.pos ha2 (Dr.here (hg16.set (by show _ ≤ 16; dsimp only; omega)) (by omega)))
 ·refine ((someGraph_ev hB q3 (by omega) (by omega)).bind (n := 0) (fun r q4 hr h7 h8 => ?_)).mono (by omega) (fun _ h => h)
  have hrl := hr.1
  refine Dr.pos (by show g.length + r.length < _; omega) (Dr.here (show GB 16 16 (g ++ r) from ⟨by simp; omega, fun t ht => ?_⟩) (by omega))
  rcases List.mem_append.1 ht with ht | ht
  ·have := hg.2 t ht; omega
  ·have := hr.2 t ht; omega
theorem newReader_ev (l : List Int) (hb : ∀ x ∈ l, (Lit.int .u8 x).wf = true) : ∃ B : List Int, spec_newReader.f l = some (B, 0) ∧ RdOk B := by
 have hbyte : ∀ x ∈ l, 0 ≤ x ∧ x ≤ 255 := fun x hx => by
  have := hb x hx
  have h2 : (decide (IntKind.u8.min ≤ x) && decide (x ≤ IntKind.u8.max)) = true := this
  rw [Bool.and_eq_true, decide_eq_true_eq, decide_eq_true_eq] at h2
  exact h2
 unfold spec_newReader.f
 by_cases h : (l.length : Int) > 2000
 ·rw [if_pos h, if_pos (by omega)]
  exact ⟨_, rfl, by simp; omega, fun x hx => hbyte x (List.mem_of_mem_take hx)⟩
 ·rw [if_neg h]
  exact ⟨_, rfl, by omega, hbyte⟩
end Go.Proofs.YtajapkjplgaigaaDoor.P
end
section
namespace Go.Proofs.YtajapkjplgaigaaDoor.P
open Go.RowKit Go.Shelf Go.Proofs.YtajapkjplgaigaaDoorW.PrintWords Go.Proofs.YtajapkjplgaigaaDoorW.PrintLast Go.Proofs.YtajapkjplgaigaaDoorW.PrintMore
attribute [local go_sem] Oper.semAt_some
set_option linter.unusedVariables false
set_option linter.unusedSimpArgs false
def totI (ts : List TT) (xs : List Nat) : Int := xs.foldl (fun (a : Int) (i : Nat) => a + (rd_T39 ts (i : Int)).f0) 0
def allN (n : Nat) : Nat := 2 ^ n - 1
def progressP (ts : List TT) (done : List Int) : Int := match doneP ts done with
 | none => -1
 | some (G, s) => if ts.length = 0 then 1000 else (1000 * totI ts (bitsN s)) / totI ts (bitsN (allN ts.length))
def impl_ProgressOf.f (l0 : List TT) (l1 : List Int) : Option (Int) := some (progressP l0 l1)
end Go.Proofs.YtajapkjplgaigaaDoor.P
end
section
namespace Go.Proofs.YtajapkjplgaigaaDoor.P
open Go.RowKit Go.Proofs.YtajapkjplgaigaaDoorW.PrintWords Go.Proofs.YtajapkjplgaigaaDoorW.PrintLast Go.Proofs.YtajapkjplgaigaaDoorW.PrintMore
attribute [local go_sem] max2_int min2_int max_two min_two max_three min_three max_four min_four   -- for this text's walks alone
set_option linter.unusedVariables false
set_option linter.unusedSimpArgs false
def spec_toInt.f (a0 : Bool) : Option (Int) := if a0 = true then (some 1) else (some 0)
end Go.Proofs.YtajapkjplgaigaaDoor.P
end
section
namespace Go.Proofs.YtajapkjplgaigaaDoor.P
open Go.RowKit Go.Proofs.YtajapkjplgaigaaDoorW.PrintWords Go.Proofs.YtajapkjplgaigaaDoorW.PrintLast Go.Proofs.YtajapkjplgaigaaDoorW.PrintMore
attribute [local go_sem] max2_int min2_int max_two min_two max_three min_three max_four min_four   -- for this text's walks alone
set_option linter.unusedVariables false
set_option linter.unusedSimpArgs false
def spec_ProgressOf.l0 : Nat → List (S39) → List Int → Int → Int → Int → Option (Int)
 | 0, _, _, _, _, _ => none
 | k + 1, x0, x1, x5, x6, x7 => if x7 < (x0.length : Int) then (if 0 ≤ x7 then ((spec_isIn.f k x1 x7).bind fun t363 => ((spec_toInt.f t363).bind fun t364 => (spec_ProgressOf.l0 k x0 x1 (wrap64 (x5 + (wrap64 (((rd_T39 x0 x7).f0) * t364)))) (wrap64 (x6 + ((rd_T39 x0 x7).f0))) (wrap64 (x7 + 1))))) else (none)) else (if x6 = 0 then (some 1000) else (some (wrap64 (Int.tdiv (wrap64 (1000 * x5)) x6))))
def spec_ProgressOf.f (k : Nat) (l0 : List (S39)) (l1 : List Int) : Option (Int) := (spec_validDone.f k l0 l1).bind fun t360 => (if t360 = true then (spec_ProgressOf.l0 k l0 l1 0 0 0) else (some (-1)))
end Go.Proofs.YtajapkjplgaigaaDoor.P
end
section
namespace Go.Proofs.YtajapkjplgaigaaDoor.P
open Go.RowKit Go.Shelf Go.Proofs.YtajapkjplgaigaaDoorW.PrintWords Go.Proofs.YtajapkjplgaigaaDoorW.PrintLast Go.Proofs.YtajapkjplgaigaaDoorW.PrintMore
set_option linter.unusedVariables false
set_option linter.unusedSimpArgs false
theorem someDone_l0 {B : List Int} (hB : RdOk B) (g : List TT) (hg : GB 16 16 g) : ∀ (n : Nat) (done : List Int) (p : Int), done.length ≤ 8 → 0 ≤ p → p + n ≤ 10000 → Dr (n + 3) p (fun r => r.length ≤ 9) (fun k => spec_someDone.l0 k g done (n : Int) B p)
 | 0, done, p, hd, hp, hp' => by
  refine Dr.succ ?_
  simp only [spec_someDone.l0]
  refine Dr.neg (by omega) (((spoil_ev hB done 8 p (by omega) hp (by omega)).bind (n := 0) (fun r q hr h1 h2 => ?_)).mono (by omega) (fun _ h => h))
  exact Dr.here (by show r.length ≤ 9; omega) (by omega)
 | n + 1, done, p, hd, hp, hp' => by
  have hw : wrap64 (((n + 1 : Nat) : Int) - 1) = (n : Int) := by rw [w64 (by omega) (by omega)]; omega
  have hs := hg.small (by omega) (by omega)
  obtain ⟨r, e1, _, hr8⟩ := ReadyTasks_ev g hs done (by omega)
  have hno : ∀ q, p ≤ q → q ≤ p + 1 → Dr (n + 3) q (fun r => r.length ≤ 9) (fun k => spec_someDone.l0 k g done (n : Int) B q) := fun q h1 h2 => someDone_l0 hB g hg n done q hd (by omega) (by omega)
  refine Dr.succ ?_
  simp only [spec_someDone.l0, hw]
  refine Dr.pos (by omega) (Dr.bind0 e1 (Dr.ite (fun h => ?_) (fun h => (hno p (by omega) (by omega)).mono (by omega) (fun _ h => h))))
  refine ((pick_ev hB (r.length : Int) p (by omega) (by omega)).bind (n := n + 3) (fun a q ha h1 h2 => ?_)).mono (by omega) (fun _ h => h)
  obtain ⟨f, e2, _, hf8⟩ := FinishTask_ev g hs done (by omega) (rd r a)
  refine Dr.pos ha.1 (Dr.pos (ha.2.1 (by omega)) (Dr.bind0 e2 (Dr.ite (fun _ => ?_) (fun _ => hno q (by omega) (by omega)))))
  exact someDone_l0 hB g hg n f.1 q hf8 (by omega) (by omega)
theorem someDone_ev {B : List Int} (hB : RdOk B) (g : List TT) (hg : GB 16 16 g) (p : Int) (hp : 0 ≤ p) (hp' : p ≤ 5000) : Dr 30 p (fun r => r.length ≤ 9) (fun k => spec_someDone.f k B p g) := by
 unfold spec_someDone.f
 have hgl := hg.1
 rw [w64 (n := (g.length : Int) + 1) (by omega) (by omega)]
 refine ((pick_ev hB ((g.length : Int) + 1) p hp (by omega)).bind (n := 25) (fun r q hr h1 h2 => ?_)).mono (by omega) (fun _ h => h)
 have h3 := hr.2.1 (by omega)
 obtain ⟨n, rfl⟩ : ∃ n : Nat, r = (n : Int) := ⟨r.toNat, by omega⟩
 exact (someDone_l0 hB g hg n [] q (by simp) (by omega) (by omega)).mono (by omega) (fun _ h => h)
def sumP (ts : List TT) (p : Nat → Bool) (l : List Nat) : Int := l.foldl (fun (a : Int) (i : Nat) => if p i then a + (rd_T39 ts (i : Int)).f0 else a) 0
def inD (done : List Int) (i : Nat) : Bool := decide ((i : Int) ∈ done)
def progL (ts : List TT) (done : List Int) : Int := if ts.length = 0 then 1000 else (1000 * sumP ts (inD done) (List.range ts.length)) / sumP ts (fun _ => true) (List.range ts.length)
end Go.Proofs.YtajapkjplgaigaaDoor.P
end
section
namespace Go.Proofs.YtajapkjplgaigaaDoor.P
open Go.RowKit Go.Shelf Go.Proofs.YtajapkjplgaigaaDoorW.PrintWords Go.Proofs.YtajapkjplgaigaaDoorW.PrintLast Go.Proofs.YtajapkjplgaigaaDoorW.PrintMore
set_option linter.unusedVariables false
set_option linter.unusedSimpArgs false
theorem someAt_ev {B : List Int} (hB : RdOk B) (g : List TT) (p : Int) (hg : g.length ≤ 1000) (hp : 0 ≤ p) (hp' : p ≤ 10000) : Dr 2 p (fun r => -1 ≤ r ∧ r ≤ 1000) (fun k => spec_someAt.f k B p g) := by
 unfold spec_someAt.f
 refine ((pick_ev hB 10 p hp (by omega)).bind (n := 1) (fun r q hr h1 h2 => ?_)).mono (by omega) (fun _ h => h)
 refine Dr.ite (fun _ => ?_) (fun _ => ?_)
 ·refine ((one_ev hB _ q (by simp) (by omega) (by omega)).bind (n := 0) (fun r2 q2 hr2 h3 h4 => ?_)).mono (by omega) (fun _ h => h)
  refine Dr.here ?_ (by omega)
  simp only [List.mem_cons, List.not_mem_nil, or_false] at hr2
  show -1 ≤ r2 ∧ r2 ≤ 1000
  omega
 ·have hm : 1 ≤ mx 1 (g.length : Int) ∧ mx 1 (g.length : Int) ≤ 1000 := by unfold mx; split <;> omega
  refine ((pick_ev hB (mx 1 (g.length : Int)) q (by omega) (by omega)).bind (n := 0) (fun r2 q2 hr2 h3 h4 => ?_)).mono (by omega) (fun _ h => h)
  refine Dr.here ?_ (by omega)
  have := hr2.2.1 hm.1
  show -1 ≤ r2 ∧ r2 ≤ 1000
  omega
theorem pairwise_asc : ∀ (l : List Int), ascB l = true → l.Pairwise (· < ·)
 | [], _ => List.Pairwise.nil
 | [x], _ => List.pairwise_singleton _ _
 | x :: y :: r, h => by
  rw [ascB, Bool.and_eq_true, decide_eq_true_eq] at h
  have h2 := pairwise_asc (y :: r) h.2
  refine List.pairwise_cons.2 ⟨fun z hz => ?_, h2⟩
  rcases List.mem_cons.1 hz with rfl | hz
  ·exact h.1
  ·have := (List.pairwise_cons.1 h2).1 z hz
   omega
theorem asc_ext : ∀ (a b : List Int), a.Pairwise (· < ·) → b.Pairwise (· < ·) → (∀ x, x ∈ a ↔ x ∈ b) → a = b
 | [], [], _, _, _ => rfl
 | [], y :: b, _, _, h => absurd ((h y).2 List.mem_cons_self) List.not_mem_nil
 | x :: a, [], _, _, h => absurd ((h x).1 List.mem_cons_self) List.not_mem_nil
 | x :: a, y :: b, ha, hb, h => by
  have ha2 := List.pairwise_cons.1 ha
  have hb2 := List.pairwise_cons.1 hb
  have hxy : x = y := by
   rcases List.mem_cons.1 ((h x).1 List.mem_cons_self) with e | e
   ·exact e
   ·rcases List.mem_cons.1 ((h y).2 List.mem_cons_self) with e2 | e2
    ·exact e2.symm
    ·have := hb2.1 x e
     have := ha2.1 y e2
     omega
  subst hxy
  rw [asc_ext a b ha2.2 hb2.2 (fun z => ⟨fun hz => ?_, fun hz => ?_⟩)]
  ·rcases List.mem_cons.1 ((h z).1 (List.mem_cons_of_mem _ hz)) with e | e
   ·have := ha2.1 z hz
    omega
   ·exact e
  ·rcases List.mem_cons.1 ((h z).2 (List.mem_cons_of_mem _ hz)) with e | e
   ·have := hb2.1 z hz
    omega
   ·exact e
theorem nI_pick_pairwise (p : Nat → Bool) (n : Nat) : (nI (pickN p n)).Pairwise (· < ·) := by
 unfold nI pickN
 rw [List.pairwise_map]
 exact (List.Pairwise.filter _ List.pairwise_lt_range).imp (fun h => by omega)
theorem mem_nI_pick {p : Nat → Bool} {n : Nat} {x : Int} : x ∈ nI (pickN p n) ↔ (0 ≤ x ∧ x < n) ∧ p x.toNat = true := by
 unfold pickN nI
 rw [List.mem_map]
 constructor
 ·rintro ⟨i, hi, rfl⟩
  rw [List.mem_filter, List.mem_range] at hi
  exact ⟨by omega, by simpa using hi.2⟩
 ·rintro ⟨h1, h2⟩
  exact ⟨x.toNat, List.mem_filter.2 ⟨List.mem_range.2 (by omega), h2⟩, by omega⟩
def waitL (needs done : List Int) : List Int := needs.filter fun x => !decide (x ∈ done)
theorem waits_go (ts : List TT) (done : List Int) (hd : done.length < 1099511627776) (a : Int) (h0 : 0 ≤ a) (h1 : a < ts.length) (hn : (rd_T39 ts a).f1.length < 1099511627776) : ∀ (r pre acc : List Int), pre ++ r = (rd_T39 ts a).f1 → acc.length ≤ pre.length →
  Ev (fun k => spec_WaitsFor.l0 k ts done a acc (pre.length : Int)) (acc ++ waitL r done)
 | [], pre, acc, he, _ => by
  refine Ev.succ ?_
  simp only [spec_WaitsFor.l0]
  rw [← he]
  exact Ev.pos h0 (Ev.pos h1 (Ev.neg (len_nlt pre) (Ev.eq (by simp [waitL]))))
 | x :: r, pre, acc, he, ha => by
  have h2 : rd (rd_T39 ts a).f1 (pre.length : Int) = x := by rw [← he]; exact rdm pre x r
  have h3 : (pre.length : Int) < ((rd_T39 ts a).f1.length : Int) := by rw [← he]; exact len_lt _ _ _
  have hpl : pre.length < 1099511627776 := by omega
  have hs : pre ++ [x] ++ r = (rd_T39 ts a).f1 := by rw [← he]; simp
  refine Ev.succ ?_
  simp only [spec_WaitsFor.l0, h2]
  refine Ev.pos h0 (Ev.pos h1 (Ev.pos h3 (Ev.pos (by omega) (Ev.bind (isIn_ev _ _ (by omega)) (Ev.ite (fun hc => ?_) (fun hc => ?_))))))
  ·rw [len_next pre x (by omega), show waitL (x :: r) done = waitL r done by unfold waitL; rw [List.filter_cons, hc]; rfl]
   exact waits_go ts done hd a h0 h1 hn r (pre ++ [x]) acc hs (by simp; omega)
  ·rw [len_next pre x (by omega), show waitL (x :: r) done = x :: waitL r done by unfold waitL; rw [List.filter_cons, Bool.eq_false_iff.2 hc]; rfl]
   refine Ev.pos (by omega) ?_
   have := waits_go ts done hd a h0 h1 hn r (pre ++ [x]) (acc ++ [x]) hs (by simp; omega)
   rw [List.append_assoc] at this
   exact this
theorem DoneOk.needs {ts : List TT} {done : List Int} {G : GrN} {s : Nat} (h : DoneOk ts done G s) {a : Int} (h0 : 0 ≤ a) (h1 : a < ts.length) :
  ascB (rd_T39 ts a).f1 = true ∧ ∀ x ∈ (rd_T39 ts a).f1, 0 ≤ x ∧ x < ts.length := by
 have e : rd_T39 ts a = ts[a.toNat] := by
  have := rdT_at ts a.toNat (by omega)
  rwa [Int.toNat_of_nonneg h0] at this
 rw [e]
 have := task_mem (fine_task h.fine (i := a.toNat) (by omega))
 exact ⟨this.2, this.1⟩
theorem DoneOk.waits {ts : List TT} {done : List Int} {G : GrN} {s : Nat} (h : DoneOk ts done G s) {a : Int} (h0 : 0 ≤ a) (h1 : a < ts.length) :
  ivs (bitsN (diffN (G.nd.getD a.toNat 0) s)) = waitL (rd_T39 ts a).f1 done := by
 have hn := h.needs h0 h1
 have e : rd_T39 ts a = ts[a.toNat] := by
  have := rdT_at ts a.toNat (by omega)
  rwa [Int.toNat_of_nonneg h0] at this
 have hgd : G.nd.getD a.toNat 0 = maskL (rd_T39 ts a).f1 := by rw [h.nd, needsM_get ts _ (by omega), e]
 rw [hgd, ivs_nI]
 have hlt : maskL (rd_T39 ts a).f1 < 2 ^ ts.length := Nat.lt_pow_two_of_testBit _ fun i hi => by
  rw [maskL_bit (fun x hx => (hn.2 x hx).1)]
  exact decide_eq_false (fun hm => by have := hn.2 _ hm; omega)
 rw [bits_pick h.n8 (diffN_lt hlt) (fun i => decide ((i : Int) ∈ (rd_T39 ts a).f1) && !decide ((i : Int) ∈ done)) (fun i _ => by rw [diffN_bit, maskL_bit (fun x hx => (hn.2 x hx).1), h.bit])]
 refine asc_ext _ _ (nI_pick_pairwise _ _) ((pairwise_asc _ hn.1).filter _) (fun x => ?_)
 rw [mem_nI_pick, waitL, List.mem_filter]
 constructor
 ·rintro ⟨h2, h3⟩
  rw [Bool.and_eq_true, decide_eq_true_eq, Int.toNat_of_nonneg h2.1] at h3
  exact h3
 ·rintro ⟨h2, h3⟩
  have h4 := hn.2 x h2
  refine ⟨h4, ?_⟩
  rw [Bool.and_eq_true, decide_eq_true_eq, Int.toNat_of_nonneg h4.1]
  exact ⟨h2, h3⟩
def waitsL (ts : List TT) (done : List Int) (a : Int) : List Int := if (doneP ts done).isSome = true ∧ 0 ≤ a ∧ a < ts.length then waitL (rd_T39 ts a).f1 done else []
theorem WaitsFor_ev (ts : List TT) (hs : Small ts) (done : List Int) (hd : done.length < 1099511627776) (a : Int) : Ev (fun k => spec_WaitsFor.f k ts done a) (waitsL ts done a) ∧ impl_WaitsFor.f ts done a = some (waitsL ts done a) := by
 have hl := hs.1
 have hv := validDone_ev ts hs done hd
 unfold spec_WaitsFor.f impl_WaitsFor.f waitsL
 rw [w64 (n := (ts.length : Int) - 1) (by omega) (by omega)]
 rcases doneP_eq ts done with ⟨h1, _⟩ | ⟨G, s, h1, _, h2⟩
 ·rw [h1] at hv ⊢
  refine ⟨Ev.bind (Ev.pure _) (Ev.bind hv (Ev.neg (by simp) (Ev.succ ?_))), by simp⟩
  simp only [spec_WaitsFor.j0]
  exact Ev.pos (by simp) (Ev.eq (by simp))
 ·rw [h1] at hv ⊢
  by_cases ha : 0 ≤ a ∧ a < ts.length
  ·have hc : ((some (G, s)).isSome = true ∧ 0 ≤ a ∧ a < (ts.length : Int)) := ⟨rfl, ha⟩
   refine ⟨Ev.bind (Ev.pure _) (Ev.bind hv (Ev.pos rfl (Ev.bind (Ev.eq (inRange_eq _ _ _)) (Ev.succ ?_)))), ?_⟩
   ·simp only [spec_WaitsFor.j0]
    refine Ev.neg (by unfold inB; simp; omega) ?_
    rw [if_pos hc]
    exact waits_go ts done hd a ha.1 ha.2 (small_rd hs a) _ [] [] rfl (by simp)
   ·simp only
    rw [if_pos ha, if_pos hc, h2.waits ha.1 ha.2]
  ·have hc : ¬ ((some (G, s)).isSome = true ∧ 0 ≤ a ∧ a < (ts.length : Int)) := fun h => ha h.2
   refine ⟨Ev.bind (Ev.pure _) (Ev.bind hv (Ev.pos rfl (Ev.bind (Ev.eq (inRange_eq _ _ _)) (Ev.succ ?_)))), ?_⟩
   ·simp only [spec_WaitsFor.j0]
    refine Ev.pos (by unfold inB; simp; omega) ?_
    rw [if_neg hc]
    exact Ev.pure _
   ·simp only
    rw [if_neg ha, if_neg hc]
theorem equal_go : ∀ (a pre b : List Int), pre.length + a.length < 1099511627776 → a.length = b.length → Ev (fun k => laws_equalInts.l0 k (pre ++ a) (pre ++ b) (pre.length : Int)) (decide (a = b))
 | [], pre, b, _, hl => by
  have hb : b = [] := List.length_eq_zero_iff.1 (by simpa using hl.symm)
  subst hb
  refine Ev.succ ?_
  simp only [laws_equalInts.l0]
  exact Ev.neg (len_nlt pre) (Ev.eq (by simp))
 | x :: a, pre, [], _, hl => by simp at hl
 | x :: a, pre, y :: b, h, hl => by
  have hpl : pre.length < 1099511627776 := by omega
  refine Ev.succ ?_
  simp only [laws_equalInts.l0, rdm]
  refine Ev.pos (len_lt _ _ _) (Ev.pos (by omega) (Ev.pos (len_lt _ _ _) (Ev.ite (fun hc => ?_) (fun hc => ?_))))
  ·subst hc
   rw [len_next pre x (by omega), snoc_eq pre x a, snoc_eq pre x b, show decide (x :: a = x :: b) = decide (a = b) from decide_eq_decide.2 (by simp)]
   exact equal_go a (pre ++ [x]) b (by simp only [List.length_append, List.length_cons, List.length_nil] at h ⊢; omega) (by simpa using hl)
  ·rw [decide_eq_false (by simp [hc])]
   exact Ev.pure _
theorem equalInts_ev (a b : List Int) (h : a.length < 1099511627776) : Ev (fun k => laws_equalInts.f k a b) (decide (a = b)) := by
 unfold laws_equalInts.f
 refine Ev.ite (fun hl => ?_) (fun hl => ?_)
 ·exact equal_go a [] b (by simpa using h) (by omega)
 ·rw [decide_eq_false (fun e => hl (by rw [e]))]
  exact Ev.pure _
theorem lawIsIn_go (n : Int) : ∀ (r pre : List Int), pre.length + r.length < 4611686018427387904 → Ev (fun k => laws_isIn.l0 k (pre ++ r) n (pre.length : Int)) (decide (n ∈ r))
 | [], pre, _ => by
  refine Ev.succ ?_
  simp only [laws_isIn.l0]
  exact Ev.neg (len_nlt pre) (Ev.eq (by simp))
 | x :: r, pre, h => by
  have hl : pre.length < 4611686018427387904 := by simp only [List.length_cons] at h; omega
  refine Ev.succ ?_
  simp only [laws_isIn.l0, rdm]
  refine Ev.pos (len_lt _ _ _) (Ev.pos (by omega) (Ev.ite (fun hc => ?_) (fun hc => ?_)))
  ·rw [decide_eq_true (by rw [hc]; exact List.mem_cons_self)]
   exact Ev.pure _
  ·rw [len_next pre x hl, snoc_eq, show decide (n ∈ x :: r) = decide (n ∈ r) from decide_eq_decide.2 (by rw [List.mem_cons]; exact ⟨fun h => h.resolve_left (fun e => hc e.symm), Or.inr⟩)]
   exact lawIsIn_go n r (pre ++ [x]) (by simp only [List.length_append, List.length_cons, List.length_nil] at h ⊢; omega)
theorem lawIsIn_ev (l : List Int) (n : Int) (h : l.length < 4611686018427387904) : Ev (fun k => laws_isIn.f k l n) (decide (n ∈ l)) := lawIsIn_go n l [] (by simpa using h)
end Go.Proofs.YtajapkjplgaigaaDoor.P
end
section
namespace Go.Proofs.YtajapkjplgaigaaDoor.Pure
open Go.RowKit Go.Proofs.YtajapkjplgaigaaDoor.P
open Go.Proofs.YtajapkjplgaigaaDoorW.PrintWords (rd)
set_option linter.unusedVariables false
theorem waitL_nil {needs done : List Int} : waitL needs done = [] ↔ subL needs done = true := by
 unfold waitL subL
 rw [List.filter_eq_nil_iff, List.all_eq_true]
 exact forall_congr' fun x => imp_congr_right fun _ => by simp
theorem wait_l0 {ts : List TT} {done : List Int} {G : GrN} {s : Nat} (h : DoneOk ts done G s) (hs : Small ts) (hd : done.length < 1099511627776) {a : Int} (h0 : 0 ≤ a) (h1 : a < ts.length) : ∀ (r pre : List Int), pre ++ r = waitL (rd_T39 ts a).f1 done →
  Ev (fun k => laws_FnWaitsFor.l0 k ts done a (waitL (rd_T39 ts a).f1 done) (pre.length : Int)) true
 | [], pre, he => by
  have hem : (((waitL (rd_T39 ts a).f1 done).length : Int) == 0) = subL (rd_T39 ts a).f1 done := by
   rw [Bool.eq_iff_iff, ← waitL_nil, beq_iff_eq]
   constructor
   ·intro h2; exact List.length_eq_zero_iff.1 (by omega)
   ·intro h2; rw [h2]; rfl
  have h2 : ¬ (pre.length : Int) < ((waitL (rd_T39 ts a).f1 done).length : Int) := by rw [← he]; exact len_nlt pre
  refine Ev.succ ?_
  simp only [laws_FnWaitsFor.l0]
  refine Ev.neg h2 (Ev.bind (lawIsIn_ev _ _ (by omega)) (Ev.ite (fun hc => ?_) (fun hc => ?_)))
  ·rw [hem]
   have := List.all_eq_true.1 h.keeps a (of_decide_eq_true hc)
   unfold keepsL at this
   rw [this]
   exact Ev.eq rfl
  ·have hr : (readyL ts done).length ≤ 8 := by
    have := pickN_len (pR ts done) ts.length
    have := h.n8
    unfold readyL
    rw [nI_length]; omega
   refine Ev.bind (x := readyL ts done) (Ev.eq ?_) (Ev.bind (lawIsIn_ev _ _ (by omega)) (Ev.eq ?_))
   ·unfold impl_ReadyTasks.f
    rw [h.doneP]
    simp only [h.ready]
   ·rw [hem]
    congr 1
    rw [beq_iff_eq, Bool.eq_iff_iff, decide_eq_true_iff, mem_readyL]
    unfold pR
    rw [Int.toNat_of_nonneg h0, Bool.eq_false_iff.2 hc]
    simp [h0, h1]
 | x :: r, pre, he => by
  have hx : x ∈ waitL (rd_T39 ts a).f1 done := by rw [← he]; simp
  have hx2 := List.mem_filter.1 hx
  have h2 : rd (waitL (rd_T39 ts a).f1 done) (pre.length : Int) = x := by rw [← he]; exact rdm pre x r
  have h3 : (pre.length : Int) < ((waitL (rd_T39 ts a).f1 done).length : Int) := by rw [← he]; exact len_lt _ _ _
  have h4 : (waitL (rd_T39 ts a).f1 done).length ≤ (rd_T39 ts a).f1.length := List.length_filter_le _ _
  have h5 := small_rd hs a
  refine Ev.succ ?_
  simp only [laws_FnWaitsFor.l0, h2]
  refine Ev.pos h3 (Ev.pos h0 (Ev.pos h1 (Ev.pos (by omega) (Ev.bind (lawIsIn_ev _ _ (by omega)) (Ev.pos (decide_eq_true hx2.1) (Ev.bind (lawIsIn_ev _ _ (by omega)) (Ev.neg (by simpa using hx2.2) ?_)))))))
  rw [len_next pre x (by omega)]
  exact wait_l0 h hs hd h0 h1 r (pre ++ [x]) (by rw [← he]; simp)
theorem FnWaitsFor : laws_FnWaitsFor.Pure := by
 intro l0 _ _ hb
 refine Ev.get (f := fun k => laws_FnWaitsFor.f k l0) ?_
 unfold laws_FnWaitsFor.f
 refine Ev.ite (fun _ => Ev.pure _) (fun _ => ?_)
 obtain ⟨B, e0, hB⟩ := newReader_ev l0 hb
 obtain ⟨g, q, e1, hg, h1, h2⟩ := anyGraph_ev hB 0 (by omega) (by omega)
 obtain ⟨done, q2, e2, hd, h3, h4⟩ := someDone_ev hB g hg q (by omega) (by omega)
 obtain ⟨a, q3, e3, ha, h5, h6⟩ := someAt_ev hB g q2 (by have := hg.1; omega) (by omega) (by omega)
 have hs := hg.small (by omega) (by omega)
 obtain ⟨w1, w2⟩ := WaitsFor_ev g hs done (by omega) a
 have hdraw : Ev (fun k => spec_DrawWaitsFor.f k l0) (g, done, a) := by
  unfold spec_DrawWaitsFor.f spec_DrawFinishTask.f
  exact Ev.bind (Ev.bind (Ev.eq e0) (Ev.bind e1 (Ev.bind e2 (Ev.bind e3 (Ev.pure _))))) (Ev.pure _)
 have hwl : (waitsL g done a).length < 1099511627776 := by
  unfold waitsL
  split
  ·have := List.length_filter_le (fun x => !decide (x ∈ done)) (rd_T39 g a).f1
   have := small_rd hs a
   unfold waitL
   omega
  ·simp
 have heq := equalInts_ev (waitsL g done a) (waitsL g done a) hwl
 rw [decide_eq_true rfl] at heq
 have hj : Ev (fun k => laws_FnWaitsFor.j0 k g done a (waitsL g done a) true) true := by
  refine Ev.succ ?_
  simp only [laws_FnWaitsFor.j0]
  exact Ev.pos (by simp) (Ev.bind w1 (Ev.bind heq (Ev.pure _)))
 refine Ev.bind hdraw (Ev.bind (Ev.eq w2) (Ev.bind w1 (Ev.bind heq (Ev.pos rfl (Ev.bind (x := (doneP g done).isSome) (Ev.eq rfl) (Ev.ite (fun hv => ?_) (fun _ => hj)))))))
 refine Ev.ite (fun _ => hj) (fun h7 => ?_)
 have h7' : ¬ a < 0 := h7
 rcases doneP_eq g done with ⟨h8, _⟩ | ⟨G, s, h8, _, h9⟩
 ·rw [h8] at hv; cases hv
 ·by_cases hal : a < g.length
  ·show Ev (fun k => laws_FnWaitsFor.j0 k g done a (waitsL g done a) (decide (a ≥ (g.length : Int)))) true
   rw [decide_eq_false (by omega)]
   refine Ev.succ ?_
   simp only [laws_FnWaitsFor.j0]
   refine Ev.neg (by simp) ?_
   have hwq : waitsL g done a = waitL (rd_T39 g a).f1 done := by
    unfold waitsL
    rw [if_pos ⟨hv, by omega, hal⟩]
   rw [hwq]
   exact wait_l0 h9 hs (by omega) (by omega) hal _ [] rfl
  ·show Ev (fun k => laws_FnWaitsFor.j0 k g done a (waitsL g done a) (decide (a ≥ (g.length : Int)))) true
   rw [decide_eq_true (by omega)]
   exact hj
end Go.Proofs.YtajapkjplgaigaaDoor.Pure
end
section
namespace Go.Proofs.YtajapkjplgaigaaDoor.fnWaitsFor
open Go.ChangeShapes Go.WideShapes Go.ChangeAt Go.RowKit
open Go.ChangeMaps (open_string shut_string)
open Go.Proofs.YtajapkjplgaigaaDoorW
set_option linter.unusedVariables false
theorem own : ownKnob Tryd.prog.godebug = none := by kernel_rfl
theorem laidOut : laidOutB Tryd.prog = true := by kernel_rfl
def IsRow (k : IntKind) (w : World) (a : Option Addr) (len cap : Nat) (zs : List Int) : Prop :=
 (a = none ∧ len = 0 ∧ cap = 0 ∧ zs = []) ∨
 ∃ x, a = some x ∧ len ≤ cap ∧ cap ≤ maxLen ∧ zs.length = cap ∧ (∀ i, i < zs.length → w.cell? (x.add i) = some (.int k (zs.getD i 0))) ∧ ∀ n ∈ zs, (Lit.int k n).wf = true
theorem gTab : Tryd.prog.globalNamed "math/bits.deBruijn32tab" = some 0 := by kernel_rfl
theorem gTabType : (Tryd.prog.globals[0]?).map (·.type) = some 107 := by kernel_rfl
theorem cellsTab : Tryd.prog.cellsOf 107 = 32 := by kernel_rfl
theorem cellsByte : Tryd.prog.cellsOf 5 = 1 := by kernel_rfl
theorem table {W : World} (h : laidMetH Tryd.prog Rows.fnWaitsForRow.laid W) : Lib.TabIs Tryd.prog W "math/bits.deBruijn32tab" .u8 [0, 1, 28, 2, 29, 14, 24, 3, 30, 22, 20, 15, 25, 17, 4, 8, 31, 27, 13, 23, 21, 19, 16, 7, 26, 12, 18, 6, 11, 5, 10, 9] :=
 Lib.tabIs_of_head (rest := []) gTab gTabType Tryd.underlying107 Tryd.underlying5 cellsByte cellsTab h
theorem tabOK {W : World} (h : laidMetH Tryd.prog Rows.fnWaitsForRow.laid W) : TabOK W := by
 intro j hj
 have h2 := (table h).cell gTab j (by simpa using hj)
 rw [h2]
 have h3 : ∀ j, j < 32 → (([0, 1, 28, 2, 29, 14, 24, 3, 30, 22, 20, 15, 25, 17, 4, 8, 31, 27, 13, 23, 21, 19, 16, 7, 26, 12, 18, 6, 11, 5, 10, 9] : List Int).getD j 0) = ((Lib.deBruijn32tab.getD j 0 : Nat) : Int) := by decide
 have h4 := h3 j hj
 simp only [List.getD_eq_getElem?_getD] at h4 ⊢
 first | (rw [h4]) | (simp at h4 ⊢; exact h4) | exact congrArg (fun z => some (Value.int IntKind.u8 z)) h4
noncomputable def laidWorld (os : Os) : World :=
 { World.holding Tryd.prog os ⟨#[], #[], []⟩ with heap := (World.holding Tryd.prog os ⟨#[], #[], []⟩).heap.modify 0 fun
   | .cells _ t frozen => .cells #[.int .u8 0, .int .u8 1, .int .u8 28, .int .u8 2, .int .u8 29, .int .u8 14, .int .u8 24, .int .u8 3, .int .u8 30, .int .u8 22, .int .u8 20, .int .u8 15, .int .u8 25, .int .u8 17, .int .u8 4, .int .u8 8, .int .u8 31, .int .u8 27, .int .u8 13, .int .u8 23, .int .u8 21, .int .u8 19, .int .u8 16, .int .u8 7, .int .u8 26, .int .u8 12, .int .u8 18, .int .u8 6, .int .u8 11, .int .u8 5, .int .u8 10, .int .u8 9] t frozen
   | o => o }
theorem laid_met (os : Os) : laidMet Tryd.prog Rows.fnWaitsForRow.laid ((laidWorld os).forCall (fun _ _ => 0) ⟨#[], #[.slice none 0 0], []⟩).memory :=
 laidMet_of_run' 8 (by kernel_rfl) (by kernel_rfl)
theorem reads (os : Os) {H : Type} (enc : TypeId × Value → H) : ∃ places, DataW.whole enc Tryd.prog ((laidWorld os).forCall (fun _ _ => 0) ⟨#[], #[.slice none 0 0], []⟩).memory Tryd.f4.params.toList Rows.fnWaitsForSpec.vars false #[Value.slice none 0 0].toList 8 = some ([.nil], [], places) :=
 ⟨[], by kernel_rfl⟩
set_option maxRecDepth 100000 in
theorem lifted (os : Os) (started : os.Started) (H : Type) (enc : TypeId × Value → H) (F : Stop.Interp) :
  ReturnsInHanded {} Tryd.checked os 4 .any ((OpenSpec.ofChange Rows.fnWaitsForSpec).preRow enc Tryd.prog Tryd.f4 Rows.fnWaitsForRow.domain false Rows.fnWaitsForRow.laid) (((OpenSpec.ofChange Rows.fnWaitsForSpec).at F).post enc Tryd.prog Tryd.f4 false true false false) := by
 obtain ⟨places, hx⟩ := reads os enc
 refine returnsInHanded_of_row (C := Tryd.checked) (s := OpenSpec.ofChange Rows.fnWaitsForSpec) own started (by kernel_rfl) Tryd.func4
  (witness_row_at (enc := enc) (C := Tryd.checked) false (laidWorld os) #[.slice none 0 0] rfl (by kernel_rfl) (by kernel_rfl) (by kernel_rfl)
   (OpenSpec.preRow_of_cond 8 hx (by kernel_rfl) (fun k hk => by cases hk) (by kernel_rfl) (laid_met os))) ?_
 intro W base args ds gs before hval0 hW hcnd _ hsz0 hL _ _
 have hsz : (DataW.weightsEach Tryd.prog (Tryd.f4.params.toList ++ Rows.fnWaitsForSpec.plain.varTypes Tryd.prog) (ds ++ gs)).all (· ≤ reachBytes) = true := hsz0
 have hval : ∀ (j : Nat) t v, Tryd.f4.params[j]? = some t → args[j]? = some v → Value.okWide Tryd.prog W .any base t v := hval0
 have hW' := hW
 obtain ⟨p, q, hA0, hV, rfl, hfz, hnd⟩ := hW
 have hA : DataW.TrodAll enc Tryd.prog W 0 (fun _ => true) true Tryd.f4.params.toList args.toList ds p := hA0
 rw [Tryd.params4] at hA hval hsz
 obtain ⟨v0, vs0, d0, ds0, p0, q0, hargs, rfl, rfl, h0, r0⟩ := trodAll_cons hA
 obtain ⟨rfl, rfl, rfl⟩ := trodAll_nil r0
 obtain rfl : args = #[v0] := by cases args; simp_all
 obtain ⟨rfl, rfl⟩ := trodVars_none hV
 obtain ⟨a0, len0, cap0, rfl⟩ := okWide_slice Tryd.underlying22 (hval 0 22 v0 rfl rfl)
 have k0 := h0
 have lt0 : ∀ x ∈ p0, x.block < W.heap.size := by obtain ⟨m, hm⟩ := k0; exact DataW.trod_lt m _ _ _ hm
 obtain ⟨z0, w0⟩ : ∃ zs, IsRow .u8 W a0 len0 cap0 zs := by
  obtain ⟨fuel, hf⟩ := h0
  rcases open_ints Tryd.underlying22 Tryd.underlying5 (by kernel_rfl) hf with ⟨hcs, _⟩ | ⟨x, l, c, zs, hcs, _, hl, hm, hz, _, hcell, hwz⟩
  ·simp [Value.cells] at hcs
   obtain ⟨rfl, rfl, rfl⟩ := hcs
   exact ⟨[], .inl ⟨rfl, rfl, rfl, rfl⟩⟩
  ·simp [Value.cells] at hcs
   obtain ⟨rfl, rfl, rfl⟩ := hcs
   exact ⟨zs, .inr ⟨_, rfl, hl, hm, by simpa using hz, hcell, hwz⟩⟩
 have y0 : len0 * 1 ≤ 140737488351232 := PrintWords.sized_ints hsz (j := 0) (t := 22) rfl rfl Tryd.underlying22 Tryd.underlying5 (by kernel_rfl) (by kernel_rfl) h0
 clear hA0 hval0 hsz0 hsz
 refine (P.laws_FnWaitsFor.walk Pure.FnWaitsFor a0 len0 cap0 z0 W w0 y0 (tabOK hL)).mono fun e W' ⟨he, bel⟩ => ?_
 subst he
 exact ⟨_, rfl, _, _, _, [], _, [], hW', trodAll_mk1 (shut_bool Tryd.underlying4 _), (trodAll_cons_mk (Below.trod laidOut (by kernel_rfl) (of_decide_eq_true (by kernel_rfl)) k0 bel lt0) trodAll_mk0), rfl, bel.frame _, fun h => by cases h⟩
theorem said : Rows.FnWaitsForSaid :=
 OpenClaim.holds_of_cond 4 Tryd.f4 rfl rfl rfl rfl rfl rfl rfl ⟨rfl, rfl, rfl, rfl, rfl⟩ rfl rfl rfl rfl rfl (by kernel_rfl) Tryd.func4 (by kernel_rfl)
  (of_decide_eq_true (by kernel_rfl)) (by unfold Func.isWrapper; first | (rw [if_pos (by decide +kernel)]; kernel_rfl) | (rw [if_neg (by decide +kernel)]; exact ⟨rfl, rfl⟩))
  (fun os started H enc _ F => by rw [OpenClaim.pre_eq_preRow]; exact lifted os started H enc F)
theorem plain (f : FuncId) (fn : Func) (hf : Tryd.pinned.checked.prog.funcNamed "loop.example/buildscheduler/laws.FnWaitsFor" = some f) (hfn : Tryd.pinned.checked.prog.funcs[f]? = some fn) :
  false = Tryd.pinned.checked.prog.looks [] ∧ ∀ (j : Nat) t, fn.params[j]? = some t → Tryd.pinned.checked.prog.wantsStandIn t = false := by
 obtain rfl : f = 4 := Option.some.inj ((show Tryd.prog.funcNamed "loop.example/buildscheduler/laws.FnWaitsFor" = some 4 by kernel_rfl).symm.trans hf) |>.symm
 obtain rfl : fn = Tryd.f4 := (Option.some.inj (Tryd.func4.symm.trans hfn)).symm
 refine ⟨by kernel_rfl, fun j t ht => ?_⟩
 rw [Tryd.params4] at ht
 obtain rfl : t = 22 := by simpa using Array.mem_of_getElem? ht
 exact (show Tryd.prog.wantsStandIn 22 = false by kernel_rfl)
theorem card : Rows.FnWaitsForCardSaid :=
 Claim7.holds_tied_plain_at .later [] _ _ _ _ said (fun _ h => by cases h) (by kernel_rfl) (fun _ h => by cases h) fnWaitsFor_row_tie rfl ⟨rfl, rfl⟩ (by kernel_rfl) rfl plain (by kernel_rfl)
end Go.Proofs.YtajapkjplgaigaaDoor.fnWaitsFor
namespace Go.Proofs.YtajapkjplgaigaaDoor
theorem fnWaitsFor_card : Rows.FnWaitsForCardSaid := fnWaitsFor.card
end Go.Proofs.YtajapkjplgaigaaDoor
end
