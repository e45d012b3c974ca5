/- The law 'FnOrderStartsFirst' holds for every input: its card. No condition but the row's own. -/
import Derived.Test.YtdmeiiedbhfniaaDoorE10
import Derived.Test.YtdmeiiedbhfniaaDoorE11
import Derived.Test.YtdmeiiedbhfniaaDoorE12
import Derived.Test.YtdmeiiedbhfniaaDoorE13
import Derived.Test.YtdmeiiedbhfniaaDoorE1WMore
import Derived.IntWalk
import Derived.Laws.BitsLemmas
import Derived.Test.YtdmeiiedbhfniaaDoorRows
import Derived.WalkKit
import Derived.ProofKit
import Derived.OpenShut
import Derived.ShutString
import Derived.ChangeOld
import Derived.Below
import Derived.SizedLaws
import Derived.Test.YtdmeiiedbhfniaaDoorE1WSized
import Derived.Test.YtdmeiiedbhfniaaDoorCards
import Derived.Test.YtdmeiiedbhfniaaDoorTie
import Derived.Deep.DeepHandedRow
import Derived.Lib.LaidTab
set_option linter.unusedSimpArgs false
set_option linter.unusedVariables false
section
namespace Go.Proofs.YtdmeiiedbhfniaaDoor.P
open Go.RowKit YtdmeiiedbhfniaaDoorW.PrintWords YtdmeiiedbhfniaaDoorW.PrintLast YtdmeiiedbhfniaaDoorW.PrintMore
mutual
def laws_FnOrderStartsFirst.j0 : Nat → List (S38) → List Int → Int → List Int → List Int → Bool → Option (Bool)
 | 0, _, _, _, _, _, _ => none
 | k + 1, x3, x4, x5, x6, x7, x38 => if x38 = true then ((spec_OrderStarts.f k x3 x4 x5 x6).bind fun t519 => ((laws_equalInts.f k x7 t519).bind fun t522 => (some t522))) else (laws_FnOrderStartsFirst.l0 k x3 x6 x7 0)
def laws_FnOrderStartsFirst.l0 : Nat → List (S38) → List Int → List Int → Int → Option (Bool)
 | 0, _, _, _, _ => none
 | k + 1, x3, x6, x7, x8 => if x8 < (x7.length : Int) then (if 0 ≤ x8 then (laws_FnOrderStartsFirst.l1 k x3 x6 x7 x8 ((rd x7 x8) == 0) 0) else (none)) else (if 0 < (x6.length : Int) then (if 0 ≤ (rd x6 0) then (if (rd x6 0) < (x7.length : Int) then (some ((rd x7 (rd x6 0)) == 0)) else (none)) else (none)) else (none))
def laws_FnOrderStartsFirst.l1 : Nat → List (S38) → List Int → List Int → Int → Bool → Int → Option (Bool)
 | 0, _, _, _, _, _, _ => none
 | k + 1, x3, x6, x7, x8, x9, x10 => if x10 < (x7.length : Int) then (if x9 = true then (laws_FnOrderStartsFirst.l1 k x3 x6 x7 x8 true (wrap64 (x10 + 1))) else (if 0 ≤ x10 then (if x10 < (x3.length : Int) then (if 0 ≤ x8 then (if x8 < (x7.length : Int) then (laws_FnOrderStartsFirst.l1 k x3 x6 x7 x8 ((wrap64 ((rd x7 x10) + ((rd_T38 x3 x10).f0))) == (rd x7 x8)) (wrap64 (x10 + 1))) else (none)) else (none)) else (none)) else (none))) else (if x9 = true then (laws_FnOrderStartsFirst.l0 k x3 x6 x7 (wrap64 (x8 + 1))) else (some false))
end
def laws_FnOrderStartsFirst.f (k : Nat) (l0 : List Int) : Option (Bool) := if (l0.length : Int) > 1048576 then (some true) else ((spec_DrawOrderStarts.f k l0).bind fun bt502 => ((impl_OrderStarts.f bt502.1 bt502.2.1 bt502.2.2.1 bt502.2.2.2).bind fun t512 => ((spec_OrderStarts.f k bt502.1 bt502.2.1 bt502.2.2.1 bt502.2.2.2).bind fun t515 => ((laws_equalInts.f k t512 t515).bind fun t518 => (if t518 = true then (laws_FnOrderStartsFirst.j0 k bt502.1 bt502.2.1 bt502.2.2.1 bt502.2.2.2 t512 ((t512.length : Int) == 0)) else (laws_FnOrderStartsFirst.j0 k bt502.1 bt502.2.1 bt502.2.2.1 bt502.2.2.2 t512 true))))))
set_option maxHeartbeats 8000000 in
set_option maxRecDepth 100000 in
theorem laws_FnOrderStartsFirst.calls (k : Nat) (A0 : Option Addr) (c0 : Nat) (l0 : List Int) (r : Bool) (w : World) (hr0 : Kd.C (Kd.int .u8) w A0 l0.length l0) (hc0 : l0.length ≤ c0) (h : laws_FnOrderStartsFirst.f k l0 = some r) (hTab0 : TabOK w) :
  Calls Tryd.prog 4 #[.slice A0 l0.length c0] w fun e w' => e = .returned (.bool r) ∧ Below w.heap.size w w' := by
 have hTab := Aside0.mk hTab0
 clear hTab0
 have HR0 := Aside0.mk hr0
 have HC0 := Aside0.mk hc0
 clear hr0 hc0
 have HB := Aside0.mk (Below.refl w.heap.size w)
 have H : (if (l0.length : Int) > 1048576 then (some true) else ((spec_DrawOrderStarts.f k l0).bind fun bt502 => ((impl_OrderStarts.f bt502.1 bt502.2.1 bt502.2.2.1 bt502.2.2.2).bind fun t512 => ((spec_OrderStarts.f k bt502.1 bt502.2.1 bt502.2.2.1 bt502.2.2.2).bind fun t515 => ((laws_equalInts.f k t512 t515).bind fun t518 => (if t518 = true then (laws_FnOrderStartsFirst.j0 k bt502.1 bt502.2.1 bt502.2.2.1 bt502.2.2.2 t512 ((t512.length : Int) == 0)) else (laws_FnOrderStartsFirst.j0 k bt502.1 bt502.2.1 bt502.2.2.1 bt502.2.2.2 t512 true))))))) = some r := h
 clear h
 by_cases c2 : (l0.length : Int) > 1048576
 ·rw [if_pos c2] at H
  have c2b0 : decide (1048576 < (l0.length : Int)) = true := decide_eq_true c2
  have c2b1 : decide (1048576 < l0.length) = true := decide_eq_true (by omega)
  clear c2
  obtain rfl := Option.some.inj H
  go_enter Tryd.func4, Tryd.ntmps4
  go_wp2
  repeat (go_quiet (fail); try go_wp2)
  go_ret
  exact ⟨by first | rfl | (simp [errW_none, errW_some] <;> rfl) | (simp [*, errW_none, errW_some] <;> rfl), by repeat (with_reducible first | exact HB.out | apply below_alloc | apply pw_below_drewN | apply below_drew1)⟩
 ·rw [if_neg c2] at H
  have c2b0 : decide (1048576 < (l0.length : Int)) = false := decide_eq_false c2
  have c2b1 : decide (1048576 < l0.length) = false := decide_eq_false (by omega)
  clear c2
  replace H := Option.bind_eq_some_iff.mp H
  obtain ⟨⟨t502, t505, t508, t509⟩, A30, H⟩ := H
  replace H : ((impl_OrderStarts.f t502 t505 t508 t509).bind fun t512 => ((spec_OrderStarts.f k t502 t505 t508 t509).bind fun t515 => ((laws_equalInts.f k t512 t515).bind fun t518 => (if t518 = true then (laws_FnOrderStartsFirst.j0 k t502 t505 t508 t509 t512 ((t512.length : Int) == 0)) else (laws_FnOrderStartsFirst.j0 k t502 t505 t508 t509 t512 true))))) = some r := H
  have A3 := Aside0.mk A30
  clear A30
  replace H := Option.bind_eq_some_iff.mp H
  obtain ⟨t512, A40, H⟩ := H
  replace H : ((spec_OrderStarts.f k t502 t505 t508 t509).bind fun t515 => ((laws_equalInts.f k t512 t515).bind fun t518 => (if t518 = true then (laws_FnOrderStartsFirst.j0 k t502 t505 t508 t509 t512 ((t512.length : Int) == 0)) else (laws_FnOrderStartsFirst.j0 k t502 t505 t508 t509 t512 true)))) = some r := H
  have A4 := Aside0.mk A40
  clear A40
  have HC5 := Aside0.mk H
  clear H
  go_enter Tryd.func4, Tryd.ntmps4
  go_upto_region 5 with (first | (go_at_call 23; (with_reducible refine (spec_DrawOrderStarts.calls k _ _ l0 t502 t505 t508 t509 _ ?side1 ?side2 A3.out).mono ?_); (case side1 => repeat (first | exact HR0.out | (with_reducible refine Kd.C_alloc ?_ _) | (with_reducible refine Kd.C_drewN ?_ _) | (with_reducible refine Kd.C_drew ?_))); (case side2 => exact HC0.out); rintro e w6 ⟨v503, v506, v510, rfl, ho0, ho1, ho2, hb⟩; have n0_ := Aside0.mk (Kd.N_lower (Kd.N_mono (ok' := fun k_ => some k_ ≠ (v506 : Value).ownBlock ∧ some k_ ≠ (v510 : Value).ownBlock) ho0 (fun k_ hk_ => ⟨hk_.2.1, hk_.2.2⟩)) (below_size (by repeat (with_reducible first | exact HB.out | apply below_alloc | apply pw_below_drewN | apply below_drew1)))); have n1_ := Aside0.mk (Kd.Q_lower (Kd.Q_mono (ok' := fun k_ => some k_ ≠ (v510 : Value).ownBlock) ho1 (fun _ hk_ => hk_.2)) (below_size (by repeat (with_reducible first | exact HB.out | apply below_alloc | apply pw_below_drewN | apply below_drew1)))); have n2_ := Aside0.mk (Kd.Q_lower (Kd.Q_mono (ok' := fun k_ => some k_ ≠ (v506 : Value).ownBlock) ho2 (fun _ hk_ => hk_.2)) (below_size (by repeat (with_reducible first | exact HB.out | apply below_alloc | apply pw_below_drewN | apply below_drew1)))); have n3_ := Aside0.mk (below_step (by repeat (with_reducible first | exact HB.out | apply below_alloc | apply pw_below_drewN | apply below_drew1)) hb); clear HB; have HO504 := n0_; have HO507 := n1_; have HO511 := n2_; have HB := n3_; clear n0_ n1_ n2_ n3_; (try clear hb); (try clear hb2); (try clear hk); (try clear hi); (try clear ho0); (try clear ho1); (try clear ho2); obtain ⟨Ao7, co7, eo7⟩ := Kd.N_slice HO504.out; subst eo7; obtain ⟨Ao8, co8, eo8, _⟩ := Kd.Q_slice HO507.out; subst eo8; obtain ⟨Ao9, co9, eo9, _⟩ := Kd.Q_slice HO511.out; subst eo9) | (go_at_call 17; (with_reducible refine (impl_OrderStarts.calls _ _ t502 _ _ t505 t508 _ _ t509 t512 _ ?side1 ?side2 ?side3 ?side4 ?side5 ?side6 A4.out ?sideTab).mono ?_); (case sideTab => exact TabOK.below hTab.out (by repeat (with_reducible first | exact HB.out | apply below_alloc | apply pw_below_drewN | apply below_drew1))); (case side1 => repeat (first | exact (Kd.N_reads' HO504.out).2.2 | (with_reducible refine Kd.C_alloc ?_ _) | (with_reducible refine Kd.C_drewN ?_ _) | (with_reducible refine Kd.C_drew ?_))); (case side2 => exact (Kd.N_reads' HO504.out).2.1); (case side3 => repeat (first | exact (Kd.Q_reads' HO507.out).2.2 | (with_reducible refine Kd.C_alloc ?_ _) | (with_reducible refine Kd.C_drewN ?_ _) | (with_reducible refine Kd.C_drew ?_))); (case side4 => exact (Kd.Q_reads' HO507.out).2.1); (case side5 => repeat (first | exact (Kd.Q_reads' HO511.out).2.2 | (with_reducible refine Kd.C_alloc ?_ _) | (with_reducible refine Kd.C_drewN ?_ _) | (with_reducible refine Kd.C_drew ?_))); (case side6 => exact (Kd.Q_reads' HO511.out).2.1); rintro e w10 ⟨v513, rfl, ho0, hb⟩; have n0_ := Aside0.mk (Kd.N_elder' (by (with_reducible repeat (first | apply Kd.N_alloc | apply Kd.N_drewN | apply Kd.N_drew)); exact HO504.out) (Kd.R_base ho0) hb); have n1_ := Aside0.mk (Kd.Q_elder' (by (with_reducible repeat (first | apply Kd.Q_alloc | apply Kd.Q_drewN | apply Kd.Q_drew)); exact HO507.out) (Kd.R_base ho0) hb); have n2_ := Aside0.mk (Kd.Q_elder' (by (with_reducible repeat (first | apply Kd.Q_alloc | apply Kd.Q_drewN | apply Kd.Q_drew)); exact HO511.out) (Kd.R_base ho0) hb); have n3_ := Aside0.mk (Kd.R_lower (Kd.R_new' (Kd.R_new' ho0 (Kd.Q_lt (by (with_reducible repeat (first | apply Kd.Q_alloc | apply Kd.Q_drewN | apply Kd.Q_drew)); exact HO507.out))) (Kd.Q_lt (by (with_reducible repeat (first | apply Kd.Q_alloc | apply Kd.Q_drewN | apply Kd.Q_drew)); exact HO511.out))) (below_size (by repeat (with_reducible first | exact HB.out | apply below_alloc | apply pw_below_drewN | apply below_drew1)))); have n4_ := Aside0.mk (below_step (by repeat (with_reducible first | exact HB.out | apply below_alloc | apply pw_below_drewN | apply below_drew1)) hb); clear HO504; clear HO507; clear HO511; clear HB; have HO504 := n0_; have HO507 := n1_; have HO511 := n2_; have HO514 := n3_; have HB := n4_; clear n0_ n1_ n2_ n3_ n4_; (try clear hb); (try clear hb2); (try clear hk); (try clear hi); (try clear ho0)))
  repeat (go_quiet (first | (go_at_call 23; (with_reducible refine (spec_DrawOrderStarts.calls k _ _ l0 t502 t505 t508 t509 _ ?side1 ?side2 A3.out).mono ?_); (case side1 => repeat (first | exact HR0.out | (with_reducible refine Kd.C_alloc ?_ _) | (with_reducible refine Kd.C_drewN ?_ _) | (with_reducible refine Kd.C_drew ?_))); (case side2 => exact HC0.out); rintro e w6 ⟨v503, v506, v510, rfl, ho0, ho1, ho2, hb⟩; have n0_ := Aside0.mk (Kd.N_lower (Kd.N_mono (ok' := fun k_ => some k_ ≠ (v506 : Value).ownBlock ∧ some k_ ≠ (v510 : Value).ownBlock) ho0 (fun k_ hk_ => ⟨hk_.2.1, hk_.2.2⟩)) (below_size (by repeat (with_reducible first | exact HB.out | apply below_alloc | apply pw_below_drewN | apply below_drew1)))); have n1_ := Aside0.mk (Kd.Q_lower (Kd.Q_mono (ok' := fun k_ => some k_ ≠ (v510 : Value).ownBlock) ho1 (fun _ hk_ => hk_.2)) (below_size (by repeat (with_reducible first | exact HB.out | apply below_alloc | apply pw_below_drewN | apply below_drew1)))); have n2_ := Aside0.mk (Kd.Q_lower (Kd.Q_mono (ok' := fun k_ => some k_ ≠ (v506 : Value).ownBlock) ho2 (fun _ hk_ => hk_.2)) (below_size (by repeat (with_reducible first | exact HB.out | apply below_alloc | apply pw_below_drewN | apply below_drew1)))); have n3_ := Aside0.mk (below_step (by repeat (with_reducible first | exact HB.out | apply below_alloc | apply pw_below_drewN | apply below_drew1)) hb); clear HB; have HO504 := n0_; have HO507 := n1_; have HO511 := n2_; have HB := n3_; clear n0_ n1_ n2_ n3_; (try clear hb); (try clear hb2); (try clear hk); (try clear hi); (try clear ho0); (try clear ho1); (try clear ho2); obtain ⟨Ao7, co7, eo7⟩ := Kd.N_slice HO504.out; subst eo7; obtain ⟨Ao8, co8, eo8, _⟩ := Kd.Q_slice HO507.out; subst eo8; obtain ⟨Ao9, co9, eo9, _⟩ := Kd.Q_slice HO511.out; subst eo9) | (go_at_call 17; (with_reducible refine (impl_OrderStarts.calls _ _ t502 _ _ t505 t508 _ _ t509 t512 _ ?side1 ?side2 ?side3 ?side4 ?side5 ?side6 A4.out ?sideTab).mono ?_); (case sideTab => exact TabOK.below hTab.out (by repeat (with_reducible first | exact HB.out | apply below_alloc | apply pw_below_drewN | apply below_drew1))); (case side1 => repeat (first | exact (Kd.N_reads' HO504.out).2.2 | (with_reducible refine Kd.C_alloc ?_ _) | (with_reducible refine Kd.C_drewN ?_ _) | (with_reducible refine Kd.C_drew ?_))); (case side2 => exact (Kd.N_reads' HO504.out).2.1); (case side3 => repeat (first | exact (Kd.Q_reads' HO507.out).2.2 | (with_reducible refine Kd.C_alloc ?_ _) | (with_reducible refine Kd.C_drewN ?_ _) | (with_reducible refine Kd.C_drew ?_))); (case side4 => exact (Kd.Q_reads' HO507.out).2.1); (case side5 => repeat (first | exact (Kd.Q_reads' HO511.out).2.2 | (with_reducible refine Kd.C_alloc ?_ _) | (with_reducible refine Kd.C_drewN ?_ _) | (with_reducible refine Kd.C_drew ?_))); (case side6 => exact (Kd.Q_reads' HO511.out).2.1); rintro e w10 ⟨v513, rfl, ho0, hb⟩; have n0_ := Aside0.mk (Kd.N_elder' (by (with_reducible repeat (first | apply Kd.N_alloc | apply Kd.N_drewN | apply Kd.N_drew)); exact HO504.out) (Kd.R_base ho0) hb); have n1_ := Aside0.mk (Kd.Q_elder' (by (with_reducible repeat (first | apply Kd.Q_alloc | apply Kd.Q_drewN | apply Kd.Q_drew)); exact HO507.out) (Kd.R_base ho0) hb); have n2_ := Aside0.mk (Kd.Q_elder' (by (with_reducible repeat (first | apply Kd.Q_alloc | apply Kd.Q_drewN | apply Kd.Q_drew)); exact HO511.out) (Kd.R_base ho0) hb); have n3_ := Aside0.mk (Kd.R_lower (Kd.R_new' (Kd.R_new' ho0 (Kd.Q_lt (by (with_reducible repeat (first | apply Kd.Q_alloc | apply Kd.Q_drewN | apply Kd.Q_drew)); exact HO507.out))) (Kd.Q_lt (by (with_reducible repeat (first | apply Kd.Q_alloc | apply Kd.Q_drewN | apply Kd.Q_drew)); exact HO511.out))) (below_size (by repeat (with_reducible first | exact HB.out | apply below_alloc | apply pw_below_drewN | apply below_drew1)))); have n4_ := Aside0.mk (below_step (by repeat (with_reducible first | exact HB.out | apply below_alloc | apply pw_below_drewN | apply below_drew1)) hb); clear HO504; clear HO507; clear HO511; clear HB; have HO504 := n0_; have HO507 := n1_; have HO511 := n2_; have HO514 := n3_; have HB := n4_; clear n0_ n1_ n2_ n3_ n4_; (try clear hb); (try clear hb2); (try clear hk); (try clear hi); (try clear ho0))); go_upto_region 5 with (first | (go_at_call 23; (with_reducible refine (spec_DrawOrderStarts.calls k _ _ l0 t502 t505 t508 t509 _ ?side1 ?side2 A3.out).mono ?_); (case side1 => repeat (first | exact HR0.out | (with_reducible refine Kd.C_alloc ?_ _) | (with_reducible refine Kd.C_drewN ?_ _) | (with_reducible refine Kd.C_drew ?_))); (case side2 => exact HC0.out); rintro e w6 ⟨v503, v506, v510, rfl, ho0, ho1, ho2, hb⟩; have n0_ := Aside0.mk (Kd.N_lower (Kd.N_mono (ok' := fun k_ => some k_ ≠ (v506 : Value).ownBlock ∧ some k_ ≠ (v510 : Value).ownBlock) ho0 (fun k_ hk_ => ⟨hk_.2.1, hk_.2.2⟩)) (below_size (by repeat (with_reducible first | exact HB.out | apply below_alloc | apply pw_below_drewN | apply below_drew1)))); have n1_ := Aside0.mk (Kd.Q_lower (Kd.Q_mono (ok' := fun k_ => some k_ ≠ (v510 : Value).ownBlock) ho1 (fun _ hk_ => hk_.2)) (below_size (by repeat (with_reducible first | exact HB.out | apply below_alloc | apply pw_below_drewN | apply below_drew1)))); have n2_ := Aside0.mk (Kd.Q_lower (Kd.Q_mono (ok' := fun k_ => some k_ ≠ (v506 : Value).ownBlock) ho2 (fun _ hk_ => hk_.2)) (below_size (by repeat (with_reducible first | exact HB.out | apply below_alloc | apply pw_below_drewN | apply below_drew1)))); have n3_ := Aside0.mk (below_step (by repeat (with_reducible first | exact HB.out | apply below_alloc | apply pw_below_drewN | apply below_drew1)) hb); clear HB; have HO504 := n0_; have HO507 := n1_; have HO511 := n2_; have HB := n3_; clear n0_ n1_ n2_ n3_; (try clear hb); (try clear hb2); (try clear hk); (try clear hi); (try clear ho0); (try clear ho1); (try clear ho2); obtain ⟨Ao7, co7, eo7⟩ := Kd.N_slice HO504.out; subst eo7; obtain ⟨Ao8, co8, eo8, _⟩ := Kd.Q_slice HO507.out; subst eo8; obtain ⟨Ao9, co9, eo9, _⟩ := Kd.Q_slice HO511.out; subst eo9) | (go_at_call 17; (with_reducible refine (impl_OrderStarts.calls _ _ t502 _ _ t505 t508 _ _ t509 t512 _ ?side1 ?side2 ?side3 ?side4 ?side5 ?side6 A4.out ?sideTab).mono ?_); (case sideTab => exact TabOK.below hTab.out (by repeat (with_reducible first | exact HB.out | apply below_alloc | apply pw_below_drewN | apply below_drew1))); (case side1 => repeat (first | exact (Kd.N_reads' HO504.out).2.2 | (with_reducible refine Kd.C_alloc ?_ _) | (with_reducible refine Kd.C_drewN ?_ _) | (with_reducible refine Kd.C_drew ?_))); (case side2 => exact (Kd.N_reads' HO504.out).2.1); (case side3 => repeat (first | exact (Kd.Q_reads' HO507.out).2.2 | (with_reducible refine Kd.C_alloc ?_ _) | (with_reducible refine Kd.C_drewN ?_ _) | (with_reducible refine Kd.C_drew ?_))); (case side4 => exact (Kd.Q_reads' HO507.out).2.1); (case side5 => repeat (first | exact (Kd.Q_reads' HO511.out).2.2 | (with_reducible refine Kd.C_alloc ?_ _) | (with_reducible refine Kd.C_drewN ?_ _) | (with_reducible refine Kd.C_drew ?_))); (case side6 => exact (Kd.Q_reads' HO511.out).2.1); rintro e w10 ⟨v513, rfl, ho0, hb⟩; have n0_ := Aside0.mk (Kd.N_elder' (by (with_reducible repeat (first | apply Kd.N_alloc | apply Kd.N_drewN | apply Kd.N_drew)); exact HO504.out) (Kd.R_base ho0) hb); have n1_ := Aside0.mk (Kd.Q_elder' (by (with_reducible repeat (first | apply Kd.Q_alloc | apply Kd.Q_drewN | apply Kd.Q_drew)); exact HO507.out) (Kd.R_base ho0) hb); have n2_ := Aside0.mk (Kd.Q_elder' (by (with_reducible repeat (first | apply Kd.Q_alloc | apply Kd.Q_drewN | apply Kd.Q_drew)); exact HO511.out) (Kd.R_base ho0) hb); have n3_ := Aside0.mk (Kd.R_lower (Kd.R_new' (Kd.R_new' ho0 (Kd.Q_lt (by (with_reducible repeat (first | apply Kd.Q_alloc | apply Kd.Q_drewN | apply Kd.Q_drew)); exact HO507.out))) (Kd.Q_lt (by (with_reducible repeat (first | apply Kd.Q_alloc | apply Kd.Q_drewN | apply Kd.Q_drew)); exact HO511.out))) (below_size (by repeat (with_reducible first | exact HB.out | apply below_alloc | apply pw_below_drewN | apply below_drew1)))); have n4_ := Aside0.mk (below_step (by repeat (with_reducible first | exact HB.out | apply below_alloc | apply pw_below_drewN | apply below_drew1)) hb); clear HO504; clear HO507; clear HO511; clear HB; have HO504 := n0_; have HO507 := n1_; have HO511 := n2_; have HO514 := n3_; have HB := n4_; clear n0_ n1_ n2_ n3_ n4_; (try clear hb); (try clear hb2); (try clear hk); (try clear hi); (try clear ho0))))
  (try simp only [Act.put, List.setIfInBounds_toArray, List.set_cons_zero, List.set_cons_succ])
  go_cut [38] (fun v38 wc => ∃ (kq : Nat) (x38_4 : Bool), v38 = .bool x38_4 ∧ Aside0 (laws_FnOrderStartsFirst.j0 kq t502 t505 t508 t509 t512 x38_4 = some r) ∧ Aside0 (kq ≤ k) ∧ Aside0 (Kd.N k38 38 wc w.heap.size (fun k_ => some k_ ≠ ((.slice Ao8 t505.length co8) : Value).ownBlock ∧ some k_ ≠ ((.slice Ao9 t509.length co9) : Value).ownBlock ∧ some k_ ≠ (v513 : Value).ownBlock) (.slice Ao7 t502.length co7) t502) ∧ Aside0 (Kd.Q (Kd.int .i64) 3 wc w.heap.size (fun k_ => some k_ ≠ ((.slice Ao9 t509.length co9) : Value).ownBlock ∧ some k_ ≠ (v513 : Value).ownBlock) (.slice Ao8 t505.length co8) t505) ∧ Aside0 (Kd.Q (Kd.int .i64) 3 wc w.heap.size (fun k_ => some k_ ≠ ((.slice Ao8 t505.length co8) : Value).ownBlock ∧ some k_ ≠ (v513 : Value).ownBlock) (.slice Ao9 t509.length co9) t509) ∧ Aside0 (Kd.R (Kd.int .i64) 3 wc w.heap.size (fun k_ => some k_ ≠ ((.slice Ao8 t505.length co8) : Value).ownBlock ∧ some k_ ≠ ((.slice Ao9 t509.length co9) : Value).ownBlock) v513 t512) ∧ Aside0 (Below w.heap.size w wc))
  case first =>
   have H := HC5.out
   clear HC5
   replace H := Option.bind_eq_some_iff.mp H
   obtain ⟨t515, A110, H⟩ := H
   replace H : ((laws_equalInts.f k t512 t515).bind fun t518 => (if t518 = true then (laws_FnOrderStartsFirst.j0 k t502 t505 t508 t509 t512 ((t512.length : Int) == 0)) else (laws_FnOrderStartsFirst.j0 k t502 t505 t508 t509 t512 true))) = some r := H
   have A11 := Aside0.mk A110
   clear A110
   replace H := Option.bind_eq_some_iff.mp H
   obtain ⟨t518, A120, H⟩ := H
   replace H : (if t518 = true then (laws_FnOrderStartsFirst.j0 k t502 t505 t508 t509 t512 ((t512.length : Int) == 0)) else (laws_FnOrderStartsFirst.j0 k t502 t505 t508 t509 t512 true)) = some r := H
   have A12 := Aside0.mk A120
   clear A120
   by_cases c13 : t518 = true
   ·subst c13
    have H1 : (laws_FnOrderStartsFirst.j0 k t502 t505 t508 t509 t512 ((t512.length : Int) == 0)) = some r := by rw [if_pos rfl] at H; exact H
    clear H
    have H := H1
    clear H1
    have H' := Aside0.mk H
    clear H
    iterate 7 (first | go_quiet (first | (go_at_call 14; (with_reducible refine (spec_OrderStarts.calls k _ _ t502 _ _ t505 t508 _ _ t509 t515 _ ?side1 ?side2 ?side3 ?side4 ?side5 ?side6 A11.out).mono ?_); (case side1 => repeat (first | exact (Kd.N_reads' HO504.out).2.2 | (with_reducible refine Kd.C_alloc ?_ _) | (with_reducible refine Kd.C_drewN ?_ _) | (with_reducible refine Kd.C_drew ?_))); (case side2 => exact (Kd.N_reads' HO504.out).2.1); (case side3 => repeat (first | exact (Kd.Q_reads' HO507.out).2.2 | (with_reducible refine Kd.C_alloc ?_ _) | (with_reducible refine Kd.C_drewN ?_ _) | (with_reducible refine Kd.C_drew ?_))); (case side4 => exact (Kd.Q_reads' HO507.out).2.1); (case side5 => repeat (first | exact (Kd.Q_reads' HO511.out).2.2 | (with_reducible refine Kd.C_alloc ?_ _) | (with_reducible refine Kd.C_drewN ?_ _) | (with_reducible refine Kd.C_drew ?_))); (case side6 => exact (Kd.Q_reads' HO511.out).2.1); rintro e w14 ⟨v516, rfl, ho0, hb⟩; have n0_ := Aside0.mk (Kd.N_elder' (by (with_reducible repeat (first | apply Kd.N_alloc | apply Kd.N_drewN | apply Kd.N_drew)); exact HO504.out) (Kd.R_base ho0) hb); have n1_ := Aside0.mk (Kd.Q_elder' (by (with_reducible repeat (first | apply Kd.Q_alloc | apply Kd.Q_drewN | apply Kd.Q_drew)); exact HO507.out) (Kd.R_base ho0) hb); have n2_ := Aside0.mk (Kd.Q_elder' (by (with_reducible repeat (first | apply Kd.Q_alloc | apply Kd.Q_drewN | apply Kd.Q_drew)); exact HO511.out) (Kd.R_base ho0) hb); have n3_ := Aside0.mk (Kd.R_elder' (by (with_reducible repeat (first | apply Kd.R_alloc | apply Kd.R_drewN | apply Kd.R_drew)); exact HO514.out) (Kd.R_base ho0) hb); have n4_ := Aside0.mk (Kd.R_lower (Kd.R_new' (Kd.R_new' (Kd.R_new' ho0 (Kd.Q_lt (by (with_reducible repeat (first | apply Kd.Q_alloc | apply Kd.Q_drewN | apply Kd.Q_drew)); exact HO507.out))) (Kd.Q_lt (by (with_reducible repeat (first | apply Kd.Q_alloc | apply Kd.Q_drewN | apply Kd.Q_drew)); exact HO511.out))) (Kd.R_lt (by (with_reducible repeat (first | apply Kd.R_alloc | apply Kd.R_drewN | apply Kd.R_drew)); exact HO514.out))) (below_size (by repeat (with_reducible first | exact HB.out | apply below_alloc | apply pw_below_drewN | apply below_drew1)))); have n5_ := Aside0.mk (below_step (by repeat (with_reducible first | exact HB.out | apply below_alloc | apply pw_below_drewN | apply below_drew1)) hb); clear HO504; clear HO507; clear HO511; clear HO514; clear HB; have HO504 := n0_; have HO507 := n1_; have HO511 := n2_; have HO514 := n3_; have HO517 := n4_; have HB := n5_; clear n0_ n1_ n2_ n3_ n4_ n5_; (try clear hb); (try clear hb2); (try clear hk); (try clear hi); (try clear ho0); obtain ⟨Ao15, co15, eo15⟩ := Kd.R_slice HO514.out; subst eo15; obtain ⟨Ao16, co16, eo16⟩ := Kd.R_slice HO517.out; subst eo16) | (go_at_call 24; (with_reducible refine (laws_equalInts.calls k _ _ t512 _ _ t515 true _ ?side1 ?side2 ?side3 ?side4 A12.out).mono ?_); (case side1 => repeat (first | exact (Kd.R_reads' HO514.out).2.2 | (with_reducible refine Kd.C_alloc ?_ _) | (with_reducible refine Kd.C_drewN ?_ _) | (with_reducible refine Kd.C_drew ?_))); (case side2 => exact (Kd.R_reads' HO514.out).2.1); (case side3 => repeat (first | exact (Kd.R_reads' HO517.out).2.2 | (with_reducible refine Kd.C_alloc ?_ _) | (with_reducible refine Kd.C_drewN ?_ _) | (with_reducible refine Kd.C_drew ?_))); (case side4 => exact (Kd.R_reads' HO517.out).2.1); rintro e w' ⟨rfl, ⟨nd, rfl⟩⟩; (try first | exact ⟨rfl, _, World.drewN_drewN _ _ _⟩ | exact ⟨rfl, _, Eq.trans (World.drewN_drewN _ _ _) (congrArg (World.drewN _) (Nat.add_assoc _ _ _))⟩))) | go_wp2_with (first | (go_at_call 14; (with_reducible refine (spec_OrderStarts.calls k _ _ t502 _ _ t505 t508 _ _ t509 t515 _ ?side1 ?side2 ?side3 ?side4 ?side5 ?side6 A11.out).mono ?_); (case side1 => repeat (first | exact (Kd.N_reads' HO504.out).2.2 | (with_reducible refine Kd.C_alloc ?_ _) | (with_reducible refine Kd.C_drewN ?_ _) | (with_reducible refine Kd.C_drew ?_))); (case side2 => exact (Kd.N_reads' HO504.out).2.1); (case side3 => repeat (first | exact (Kd.Q_reads' HO507.out).2.2 | (with_reducible refine Kd.C_alloc ?_ _) | (with_reducible refine Kd.C_drewN ?_ _) | (with_reducible refine Kd.C_drew ?_))); (case side4 => exact (Kd.Q_reads' HO507.out).2.1); (case side5 => repeat (first | exact (Kd.Q_reads' HO511.out).2.2 | (with_reducible refine Kd.C_alloc ?_ _) | (with_reducible refine Kd.C_drewN ?_ _) | (with_reducible refine Kd.C_drew ?_))); (case side6 => exact (Kd.Q_reads' HO511.out).2.1); rintro e w14 ⟨v516, rfl, ho0, hb⟩; have n0_ := Aside0.mk (Kd.N_elder' (by (with_reducible repeat (first | apply Kd.N_alloc | apply Kd.N_drewN | apply Kd.N_drew)); exact HO504.out) (Kd.R_base ho0) hb); have n1_ := Aside0.mk (Kd.Q_elder' (by (with_reducible repeat (first | apply Kd.Q_alloc | apply Kd.Q_drewN | apply Kd.Q_drew)); exact HO507.out) (Kd.R_base ho0) hb); have n2_ := Aside0.mk (Kd.Q_elder' (by (with_reducible repeat (first | apply Kd.Q_alloc | apply Kd.Q_drewN | apply Kd.Q_drew)); exact HO511.out) (Kd.R_base ho0) hb); have n3_ := Aside0.mk (Kd.R_elder' (by (with_reducible repeat (first | apply Kd.R_alloc | apply Kd.R_drewN | apply Kd.R_drew)); exact HO514.out) (Kd.R_base ho0) hb); have n4_ := Aside0.mk (Kd.R_lower (Kd.R_new' (Kd.R_new' (Kd.R_new' ho0 (Kd.Q_lt (by (with_reducible repeat (first | apply Kd.Q_alloc | apply Kd.Q_drewN | apply Kd.Q_drew)); exact HO507.out))) (Kd.Q_lt (by (with_reducible repeat (first | apply Kd.Q_alloc | apply Kd.Q_drewN | apply Kd.Q_drew)); exact HO511.out))) (Kd.R_lt (by (with_reducible repeat (first | apply Kd.R_alloc | apply Kd.R_drewN | apply Kd.R_drew)); exact HO514.out))) (below_size (by repeat (with_reducible first | exact HB.out | apply below_alloc | apply pw_below_drewN | apply below_drew1)))); have n5_ := Aside0.mk (below_step (by repeat (with_reducible first | exact HB.out | apply below_alloc | apply pw_below_drewN | apply below_drew1)) hb); clear HO504; clear HO507; clear HO511; clear HO514; clear HB; have HO504 := n0_; have HO507 := n1_; have HO511 := n2_; have HO514 := n3_; have HO517 := n4_; have HB := n5_; clear n0_ n1_ n2_ n3_ n4_ n5_; (try clear hb); (try clear hb2); (try clear hk); (try clear hi); (try clear ho0); obtain ⟨Ao15, co15, eo15⟩ := Kd.R_slice HO514.out; subst eo15; obtain ⟨Ao16, co16, eo16⟩ := Kd.R_slice HO517.out; subst eo16) | (go_at_call 24; (with_reducible refine (laws_equalInts.calls k _ _ t512 _ _ t515 true _ ?side1 ?side2 ?side3 ?side4 A12.out).mono ?_); (case side1 => repeat (first | exact (Kd.R_reads' HO514.out).2.2 | (with_reducible refine Kd.C_alloc ?_ _) | (with_reducible refine Kd.C_drewN ?_ _) | (with_reducible refine Kd.C_drew ?_))); (case side2 => exact (Kd.R_reads' HO514.out).2.1); (case side3 => repeat (first | exact (Kd.R_reads' HO517.out).2.2 | (with_reducible refine Kd.C_alloc ?_ _) | (with_reducible refine Kd.C_drewN ?_ _) | (with_reducible refine Kd.C_drew ?_))); (case side4 => exact (Kd.R_reads' HO517.out).2.1); rintro e w' ⟨rfl, ⟨nd, rfl⟩⟩; (try first | exact ⟨rfl, _, World.drewN_drewN _ _ _⟩ | exact ⟨rfl, _, Eq.trans (World.drewN_drewN _ _ _) (congrArg (World.drewN _) (Nat.add_assoc _ _ _))⟩))) | skip)
    go_meet
    case rel => exact ⟨_, (((t512.length : Int) == 0)), (by first | rfl | (simp; done) | (simp [*]; done)), H', ⟨by first | omega | exact Nat.le_refl _⟩, ⟨by (with_reducible repeat (first | apply Kd.N_alloc | apply Kd.N_drewN | apply Kd.N_drew)); exact Kd.N_mono HO504.out (fun _ hk => ⟨hk.1.1.1, ⟨hk.1.1.2, hk.1.2⟩⟩)⟩, ⟨by (with_reducible repeat (first | apply Kd.Q_alloc | apply Kd.Q_drewN | apply Kd.Q_drew)); exact Kd.Q_mono HO507.out (fun _ hk => ⟨hk.1.1, hk.1.2⟩)⟩, ⟨by (with_reducible repeat (first | apply Kd.Q_alloc | apply Kd.Q_drewN | apply Kd.Q_drew)); exact Kd.Q_mono HO511.out (fun _ hk => ⟨hk.1.1, hk.1.2⟩)⟩, ⟨by (with_reducible repeat (first | apply Kd.R_alloc | apply Kd.R_drewN | apply Kd.R_drew)); exact Kd.R_mono HO514.out (fun _ hk => ⟨hk.1.1.2, hk.1.2⟩)⟩, ⟨by repeat (with_reducible first | exact HB.out | apply below_alloc | apply pw_below_drewN | apply below_drew1)⟩⟩
   ·replace c13 := Bool.eq_false_iff.mpr c13
    subst c13
    have H1 : (laws_FnOrderStartsFirst.j0 k t502 t505 t508 t509 t512 true) = some r := by rw [if_neg (show ¬ (false = true) by decide)] at H; exact H
    clear H
    have H := H1
    clear H1
    have H' := Aside0.mk H
    clear H
    iterate 7 (first | go_quiet (first | (go_at_call 14; (with_reducible refine (spec_OrderStarts.calls k _ _ t502 _ _ t505 t508 _ _ t509 t515 _ ?side1 ?side2 ?side3 ?side4 ?side5 ?side6 A11.out).mono ?_); (case side1 => repeat (first | exact (Kd.N_reads' HO504.out).2.2 | (with_reducible refine Kd.C_alloc ?_ _) | (with_reducible refine Kd.C_drewN ?_ _) | (with_reducible refine Kd.C_drew ?_))); (case side2 => exact (Kd.N_reads' HO504.out).2.1); (case side3 => repeat (first | exact (Kd.Q_reads' HO507.out).2.2 | (with_reducible refine Kd.C_alloc ?_ _) | (with_reducible refine Kd.C_drewN ?_ _) | (with_reducible refine Kd.C_drew ?_))); (case side4 => exact (Kd.Q_reads' HO507.out).2.1); (case side5 => repeat (first | exact (Kd.Q_reads' HO511.out).2.2 | (with_reducible refine Kd.C_alloc ?_ _) | (with_reducible refine Kd.C_drewN ?_ _) | (with_reducible refine Kd.C_drew ?_))); (case side6 => exact (Kd.Q_reads' HO511.out).2.1); rintro e w17 ⟨v516, rfl, ho0, hb⟩; have n0_ := Aside0.mk (Kd.N_elder' (by (with_reducible repeat (first | apply Kd.N_alloc | apply Kd.N_drewN | apply Kd.N_drew)); exact HO504.out) (Kd.R_base ho0) hb); have n1_ := Aside0.mk (Kd.Q_elder' (by (with_reducible repeat (first | apply Kd.Q_alloc | apply Kd.Q_drewN | apply Kd.Q_drew)); exact HO507.out) (Kd.R_base ho0) hb); have n2_ := Aside0.mk (Kd.Q_elder' (by (with_reducible repeat (first | apply Kd.Q_alloc | apply Kd.Q_drewN | apply Kd.Q_drew)); exact HO511.out) (Kd.R_base ho0) hb); have n3_ := Aside0.mk (Kd.R_elder' (by (with_reducible repeat (first | apply Kd.R_alloc | apply Kd.R_drewN | apply Kd.R_drew)); exact HO514.out) (Kd.R_base ho0) hb); have n4_ := Aside0.mk (Kd.R_lower (Kd.R_new' (Kd.R_new' (Kd.R_new' ho0 (Kd.Q_lt (by (with_reducible repeat (first | apply Kd.Q_alloc | apply Kd.Q_drewN | apply Kd.Q_drew)); exact HO507.out))) (Kd.Q_lt (by (with_reducible repeat (first | apply Kd.Q_alloc | apply Kd.Q_drewN | apply Kd.Q_drew)); exact HO511.out))) (Kd.R_lt (by (with_reducible repeat (first | apply Kd.R_alloc | apply Kd.R_drewN | apply Kd.R_drew)); exact HO514.out))) (below_size (by repeat (with_reducible first | exact HB.out | apply below_alloc | apply pw_below_drewN | apply below_drew1)))); have n5_ := Aside0.mk (below_step (by repeat (with_reducible first | exact HB.out | apply below_alloc | apply pw_below_drewN | apply below_drew1)) hb); clear HO504; clear HO507; clear HO511; clear HO514; clear HB; have HO504 := n0_; have HO507 := n1_; have HO511 := n2_; have HO514 := n3_; have HO517 := n4_; have HB := n5_; clear n0_ n1_ n2_ n3_ n4_ n5_; (try clear hb); (try clear hb2); (try clear hk); (try clear hi); (try clear ho0); obtain ⟨Ao18, co18, eo18⟩ := Kd.R_slice HO514.out; subst eo18; obtain ⟨Ao19, co19, eo19⟩ := Kd.R_slice HO517.out; subst eo19) | (go_at_call 24; (with_reducible refine (laws_equalInts.calls k _ _ t512 _ _ t515 false _ ?side1 ?side2 ?side3 ?side4 A12.out).mono ?_); (case side1 => repeat (first | exact (Kd.R_reads' HO514.out).2.2 | (with_reducible refine Kd.C_alloc ?_ _) | (with_reducible refine Kd.C_drewN ?_ _) | (with_reducible refine Kd.C_drew ?_))); (case side2 => exact (Kd.R_reads' HO514.out).2.1); (case side3 => repeat (first | exact (Kd.R_reads' HO517.out).2.2 | (with_reducible refine Kd.C_alloc ?_ _) | (with_reducible refine Kd.C_drewN ?_ _) | (with_reducible refine Kd.C_drew ?_))); (case side4 => exact (Kd.R_reads' HO517.out).2.1); rintro e w' ⟨rfl, ⟨nd, rfl⟩⟩; (try first | exact ⟨rfl, _, World.drewN_drewN _ _ _⟩ | exact ⟨rfl, _, Eq.trans (World.drewN_drewN _ _ _) (congrArg (World.drewN _) (Nat.add_assoc _ _ _))⟩))) | go_wp2_with (first | (go_at_call 14; (with_reducible refine (spec_OrderStarts.calls k _ _ t502 _ _ t505 t508 _ _ t509 t515 _ ?side1 ?side2 ?side3 ?side4 ?side5 ?side6 A11.out).mono ?_); (case side1 => repeat (first | exact (Kd.N_reads' HO504.out).2.2 | (with_reducible refine Kd.C_alloc ?_ _) | (with_reducible refine Kd.C_drewN ?_ _) | (with_reducible refine Kd.C_drew ?_))); (case side2 => exact (Kd.N_reads' HO504.out).2.1); (case side3 => repeat (first | exact (Kd.Q_reads' HO507.out).2.2 | (with_reducible refine Kd.C_alloc ?_ _) | (with_reducible refine Kd.C_drewN ?_ _) | (with_reducible refine Kd.C_drew ?_))); (case side4 => exact (Kd.Q_reads' HO507.out).2.1); (case side5 => repeat (first | exact (Kd.Q_reads' HO511.out).2.2 | (with_reducible refine Kd.C_alloc ?_ _) | (with_reducible refine Kd.C_drewN ?_ _) | (with_reducible refine Kd.C_drew ?_))); (case side6 => exact (Kd.Q_reads' HO511.out).2.1); rintro e w17 ⟨v516, rfl, ho0, hb⟩; have n0_ := Aside0.mk (Kd.N_elder' (by (with_reducible repeat (first | apply Kd.N_alloc | apply Kd.N_drewN | apply Kd.N_drew)); exact HO504.out) (Kd.R_base ho0) hb); have n1_ := Aside0.mk (Kd.Q_elder' (by (with_reducible repeat (first | apply Kd.Q_alloc | apply Kd.Q_drewN | apply Kd.Q_drew)); exact HO507.out) (Kd.R_base ho0) hb); have n2_ := Aside0.mk (Kd.Q_elder' (by (with_reducible repeat (first | apply Kd.Q_alloc | apply Kd.Q_drewN | apply Kd.Q_drew)); exact HO511.out) (Kd.R_base ho0) hb); have n3_ := Aside0.mk (Kd.R_elder' (by (with_reducible repeat (first | apply Kd.R_alloc | apply Kd.R_drewN | apply Kd.R_drew)); exact HO514.out) (Kd.R_base ho0) hb); have n4_ := Aside0.mk (Kd.R_lower (Kd.R_new' (Kd.R_new' (Kd.R_new' ho0 (Kd.Q_lt (by (with_reducible repeat (first | apply Kd.Q_alloc | apply Kd.Q_drewN | apply Kd.Q_drew)); exact HO507.out))) (Kd.Q_lt (by (with_reducible repeat (first | apply Kd.Q_alloc | apply Kd.Q_drewN | apply Kd.Q_drew)); exact HO511.out))) (Kd.R_lt (by (with_reducible repeat (first | apply Kd.R_alloc | apply Kd.R_drewN | apply Kd.R_drew)); exact HO514.out))) (below_size (by repeat (with_reducible first | exact HB.out | apply below_alloc | apply pw_below_drewN | apply below_drew1)))); have n5_ := Aside0.mk (below_step (by repeat (with_reducible first | exact HB.out | apply below_alloc | apply pw_below_drewN | apply below_drew1)) hb); clear HO504; clear HO507; clear HO511; clear HO514; clear HB; have HO504 := n0_; have HO507 := n1_; have HO511 := n2_; have HO514 := n3_; have HO517 := n4_; have HB := n5_; clear n0_ n1_ n2_ n3_ n4_ n5_; (try clear hb); (try clear hb2); (try clear hk); (try clear hi); (try clear ho0); obtain ⟨Ao18, co18, eo18⟩ := Kd.R_slice HO514.out; subst eo18; obtain ⟨Ao19, co19, eo19⟩ := Kd.R_slice HO517.out; subst eo19) | (go_at_call 24; (with_reducible refine (laws_equalInts.calls k _ _ t512 _ _ t515 false _ ?side1 ?side2 ?side3 ?side4 A12.out).mono ?_); (case side1 => repeat (first | exact (Kd.R_reads' HO514.out).2.2 | (with_reducible refine Kd.C_alloc ?_ _) | (with_reducible refine Kd.C_drewN ?_ _) | (with_reducible refine Kd.C_drew ?_))); (case side2 => exact (Kd.R_reads' HO514.out).2.1); (case side3 => repeat (first | exact (Kd.R_reads' HO517.out).2.2 | (with_reducible refine Kd.C_alloc ?_ _) | (with_reducible refine Kd.C_drewN ?_ _) | (with_reducible refine Kd.C_drew ?_))); (case side4 => exact (Kd.R_reads' HO517.out).2.1); rintro e w' ⟨rfl, ⟨nd, rfl⟩⟩; (try first | exact ⟨rfl, _, World.drewN_drewN _ _ _⟩ | exact ⟨rfl, _, Eq.trans (World.drewN_drewN _ _ _) (congrArg (World.drewN _) (Nat.add_assoc _ _ _))⟩))) | skip)
    go_meet
    case rel => exact ⟨_, (true), (by first | rfl | (simp; done) | (simp [*]; done)), H', ⟨by first | omega | exact Nat.le_refl _⟩, ⟨by (with_reducible repeat (first | apply Kd.N_alloc | apply Kd.N_drewN | apply Kd.N_drew)); exact Kd.N_mono HO504.out (fun _ hk => ⟨hk.1.1.1, ⟨hk.1.1.2, hk.1.2⟩⟩)⟩, ⟨by (with_reducible repeat (first | apply Kd.Q_alloc | apply Kd.Q_drewN | apply Kd.Q_drew)); exact Kd.Q_mono HO507.out (fun _ hk => ⟨hk.1.1, hk.1.2⟩)⟩, ⟨by (with_reducible repeat (first | apply Kd.Q_alloc | apply Kd.Q_drewN | apply Kd.Q_drew)); exact Kd.Q_mono HO511.out (fun _ hk => ⟨hk.1.1, hk.1.2⟩)⟩, ⟨by (with_reducible repeat (first | apply Kd.R_alloc | apply Kd.R_drewN | apply Kd.R_drew)); exact Kd.R_mono HO514.out (fun _ hk => ⟨hk.1.1.2, hk.1.2⟩)⟩, ⟨by repeat (with_reducible first | exact HB.out | apply below_alloc | apply pw_below_drewN | apply below_drew1)⟩⟩
  case rest =>
   clear HC5
   try clear c1
   try clear c2
   try clear c2b0
   try clear c2b1
   try clear p2
   try clear c4
   try clear c13
   obtain ⟨kq, x38_4, rfl, HA, HJ4, HO_3, HO_4, HO_6, HO_7, HB⟩ := hcut
   cases kq with
   | zero => exact absurd HA.out (by simp [laws_FnOrderStartsFirst.j0])
   | succ kj4 =>
    have H := HA.out
    clear HA
    simp only [laws_FnOrderStartsFirst.j0] at H
    by_cases c20 : x38_4 = true
    ·subst c20
     have H1 : ((spec_OrderStarts.f kj4 t502 t505 t508 t509).bind fun t519 => ((laws_equalInts.f kj4 t512 t519).bind fun t522 => (some t522))) = some r := by rw [if_pos rfl] at H; exact H
     clear H
     have H := H1
     clear H1
     replace H := Option.bind_eq_some_iff.mp H
     obtain ⟨t519, A210, H⟩ := H
     replace H : ((laws_equalInts.f kj4 t512 t519).bind fun t522 => (some t522)) = some r := H
     have A21 := Aside0.mk A210
     clear A210
     replace H := Option.bind_eq_some_iff.mp H
     obtain ⟨t522, A220, H⟩ := H
     replace H : (some t522) = some r := H
     have A22 := Aside0.mk A220
     clear A220
     obtain rfl := Option.some.inj H
     iterate 7 (first | go_quiet (first | (go_at_call 14; (with_reducible refine (spec_OrderStarts.calls kj4 _ _ t502 _ _ t505 t508 _ _ t509 t519 _ ?side1 ?side2 ?side3 ?side4 ?side5 ?side6 A21.out).mono ?_); (case side1 => repeat (first | exact (Kd.N_reads' HO_3.out).2.2 | (with_reducible refine Kd.C_alloc ?_ _) | (with_reducible refine Kd.C_drewN ?_ _) | (with_reducible refine Kd.C_drew ?_))); (case side2 => exact (Kd.N_reads' HO_3.out).2.1); (case side3 => repeat (first | exact (Kd.Q_reads' HO_4.out).2.2 | (with_reducible refine Kd.C_alloc ?_ _) | (with_reducible refine Kd.C_drewN ?_ _) | (with_reducible refine Kd.C_drew ?_))); (case side4 => exact (Kd.Q_reads' HO_4.out).2.1); (case side5 => repeat (first | exact (Kd.Q_reads' HO_6.out).2.2 | (with_reducible refine Kd.C_alloc ?_ _) | (with_reducible refine Kd.C_drewN ?_ _) | (with_reducible refine Kd.C_drew ?_))); (case side6 => exact (Kd.Q_reads' HO_6.out).2.1); rintro e w23 ⟨v520, rfl, ho0, hb⟩; have n0_ := Aside0.mk (Kd.N_elder' (by (with_reducible repeat (first | apply Kd.N_alloc | apply Kd.N_drewN | apply Kd.N_drew)); exact HO_3.out) (Kd.R_base ho0) hb); have n1_ := Aside0.mk (Kd.Q_elder' (by (with_reducible repeat (first | apply Kd.Q_alloc | apply Kd.Q_drewN | apply Kd.Q_drew)); exact HO_4.out) (Kd.R_base ho0) hb); have n2_ := Aside0.mk (Kd.Q_elder' (by (with_reducible repeat (first | apply Kd.Q_alloc | apply Kd.Q_drewN | apply Kd.Q_drew)); exact HO_6.out) (Kd.R_base ho0) hb); have n3_ := Aside0.mk (Kd.R_elder' (by (with_reducible repeat (first | apply Kd.R_alloc | apply Kd.R_drewN | apply Kd.R_drew)); exact HO_7.out) (Kd.R_base ho0) hb); have n4_ := Aside0.mk (Kd.R_lower (Kd.R_new' (Kd.R_new' (Kd.R_new' ho0 (Kd.Q_lt (by (with_reducible repeat (first | apply Kd.Q_alloc | apply Kd.Q_drewN | apply Kd.Q_drew)); exact HO_4.out))) (Kd.Q_lt (by (with_reducible repeat (first | apply Kd.Q_alloc | apply Kd.Q_drewN | apply Kd.Q_drew)); exact HO_6.out))) (Kd.R_lt (by (with_reducible repeat (first | apply Kd.R_alloc | apply Kd.R_drewN | apply Kd.R_drew)); exact HO_7.out))) (below_size (by repeat (with_reducible first | exact HB.out | apply below_alloc | apply pw_below_drewN | apply below_drew1)))); have n5_ := Aside0.mk (below_step (by repeat (with_reducible first | exact HB.out | apply below_alloc | apply pw_below_drewN | apply below_drew1)) hb); clear HO_3; clear HO_4; clear HO_6; clear HO_7; clear HB; have HO_3 := n0_; have HO_4 := n1_; have HO_6 := n2_; have HO_7 := n3_; have HO521 := n4_; have HB := n5_; clear n0_ n1_ n2_ n3_ n4_ n5_; (try clear hb); (try clear hb2); (try clear hk); (try clear hi); (try clear ho0); obtain ⟨Ao24, co24, eo24⟩ := Kd.R_slice HO_7.out; subst eo24; obtain ⟨Ao25, co25, eo25⟩ := Kd.R_slice HO521.out; subst eo25) | (go_at_call 24; (with_reducible refine (laws_equalInts.calls kj4 _ _ t512 _ _ t519 t522 _ ?side1 ?side2 ?side3 ?side4 A22.out).mono ?_); (case side1 => repeat (first | exact (Kd.R_reads' HO_7.out).2.2 | (with_reducible refine Kd.C_alloc ?_ _) | (with_reducible refine Kd.C_drewN ?_ _) | (with_reducible refine Kd.C_drew ?_))); (case side2 => exact (Kd.R_reads' HO_7.out).2.1); (case side3 => repeat (first | exact (Kd.R_reads' HO521.out).2.2 | (with_reducible refine Kd.C_alloc ?_ _) | (with_reducible refine Kd.C_drewN ?_ _) | (with_reducible refine Kd.C_drew ?_))); (case side4 => exact (Kd.R_reads' HO521.out).2.1); rintro e w' ⟨rfl, ⟨nd, rfl⟩⟩; (try first | exact ⟨rfl, _, World.drewN_drewN _ _ _⟩ | exact ⟨rfl, _, Eq.trans (World.drewN_drewN _ _ _) (congrArg (World.drewN _) (Nat.add_assoc _ _ _))⟩))) | go_wp2_with (first | (go_at_call 14; (with_reducible refine (spec_OrderStarts.calls kj4 _ _ t502 _ _ t505 t508 _ _ t509 t519 _ ?side1 ?side2 ?side3 ?side4 ?side5 ?side6 A21.out).mono ?_); (case side1 => repeat (first | exact (Kd.N_reads' HO_3.out).2.2 | (with_reducible refine Kd.C_alloc ?_ _) | (with_reducible refine Kd.C_drewN ?_ _) | (with_reducible refine Kd.C_drew ?_))); (case side2 => exact (Kd.N_reads' HO_3.out).2.1); (case side3 => repeat (first | exact (Kd.Q_reads' HO_4.out).2.2 | (with_reducible refine Kd.C_alloc ?_ _) | (with_reducible refine Kd.C_drewN ?_ _) | (with_reducible refine Kd.C_drew ?_))); (case side4 => exact (Kd.Q_reads' HO_4.out).2.1); (case side5 => repeat (first | exact (Kd.Q_reads' HO_6.out).2.2 | (with_reducible refine Kd.C_alloc ?_ _) | (with_reducible refine Kd.C_drewN ?_ _) | (with_reducible refine Kd.C_drew ?_))); (case side6 => exact (Kd.Q_reads' HO_6.out).2.1); rintro e w23 ⟨v520, rfl, ho0, hb⟩; have n0_ := Aside0.mk (Kd.N_elder' (by (with_reducible repeat (first | apply Kd.N_alloc | apply Kd.N_drewN | apply Kd.N_drew)); exact HO_3.out) (Kd.R_base ho0) hb); have n1_ := Aside0.mk (Kd.Q_elder' (by (with_reducible repeat (first | apply Kd.Q_alloc | apply Kd.Q_drewN | apply Kd.Q_drew)); exact HO_4.out) (Kd.R_base ho0) hb); have n2_ := Aside0.mk (Kd.Q_elder' (by (with_reducible repeat (first | apply Kd.Q_alloc | apply Kd.Q_drewN | apply Kd.Q_drew)); exact HO_6.out) (Kd.R_base ho0) hb); have n3_ := Aside0.mk (Kd.R_elder' (by (with_reducible repeat (first | apply Kd.R_alloc | apply Kd.R_drewN | apply Kd.R_drew)); exact HO_7.out) (Kd.R_base ho0) hb); have n4_ := Aside0.mk (Kd.R_lower (Kd.R_new' (Kd.R_new' (Kd.R_new' ho0 (Kd.Q_lt (by (with_reducible repeat (first | apply Kd.Q_alloc | apply Kd.Q_drewN | apply Kd.Q_drew)); exact HO_4.out))) (Kd.Q_lt (by (with_reducible repeat (first | apply Kd.Q_alloc | apply Kd.Q_drewN | apply Kd.Q_drew)); exact HO_6.out))) (Kd.R_lt (by (with_reducible repeat (first | apply Kd.R_alloc | apply Kd.R_drewN | apply Kd.R_drew)); exact HO_7.out))) (below_size (by repeat (with_reducible first | exact HB.out | apply below_alloc | apply pw_below_drewN | apply below_drew1)))); have n5_ := Aside0.mk (below_step (by repeat (with_reducible first | exact HB.out | apply below_alloc | apply pw_below_drewN | apply below_drew1)) hb); clear HO_3; clear HO_4; clear HO_6; clear HO_7; clear HB; have HO_3 := n0_; have HO_4 := n1_; have HO_6 := n2_; have HO_7 := n3_; have HO521 := n4_; have HB := n5_; clear n0_ n1_ n2_ n3_ n4_ n5_; (try clear hb); (try clear hb2); (try clear hk); (try clear hi); (try clear ho0); obtain ⟨Ao24, co24, eo24⟩ := Kd.R_slice HO_7.out; subst eo24; obtain ⟨Ao25, co25, eo25⟩ := Kd.R_slice HO521.out; subst eo25) | (go_at_call 24; (with_reducible refine (laws_equalInts.calls kj4 _ _ t512 _ _ t519 t522 _ ?side1 ?side2 ?side3 ?side4 A22.out).mono ?_); (case side1 => repeat (first | exact (Kd.R_reads' HO_7.out).2.2 | (with_reducible refine Kd.C_alloc ?_ _) | (with_reducible refine Kd.C_drewN ?_ _) | (with_reducible refine Kd.C_drew ?_))); (case side2 => exact (Kd.R_reads' HO_7.out).2.1); (case side3 => repeat (first | exact (Kd.R_reads' HO521.out).2.2 | (with_reducible refine Kd.C_alloc ?_ _) | (with_reducible refine Kd.C_drewN ?_ _) | (with_reducible refine Kd.C_drew ?_))); (case side4 => exact (Kd.R_reads' HO521.out).2.1); rintro e w' ⟨rfl, ⟨nd, rfl⟩⟩; (try first | exact ⟨rfl, _, World.drewN_drewN _ _ _⟩ | exact ⟨rfl, _, Eq.trans (World.drewN_drewN _ _ _) (congrArg (World.drewN _) (Nat.add_assoc _ _ _))⟩))) | skip)
     go_ret
     exact ⟨by first | rfl | (simp [errW_none, errW_some] <;> rfl) | (simp [*, errW_none, errW_some] <;> rfl), by repeat (with_reducible first | exact HB.out | apply below_alloc | apply pw_below_drewN | apply below_drew1)⟩
    ·replace c20 := Bool.eq_false_iff.mpr c20
     subst c20
     have H1 : (laws_FnOrderStartsFirst.l0 kj4 t502 t509 t512 0) = some r := by rw [if_neg (show ¬ (false = true) by decide)] at H; exact H
     clear H
     have H := H1
     clear H1
     have H' := Aside0.mk H
     clear H
     go_wp2
     repeat (go_quiet (fail); try go_wp2)
     go_loopg [8] kj4 (fun kq v8 w' => ∃ (x8_2 : Int), v8 = .int .i64 x8_2 ∧ Aside0 (laws_FnOrderStartsFirst.l0 kq t502 t509 t512 x8_2 = some r) ∧ Aside0 (kq ≤ kj4) ∧ Aside0 (Kd.N k38 38 w' w.heap.size (fun k_ => some k_ ≠ ((.slice Ao9 t509.length co9) : Value).ownBlock ∧ some k_ ≠ (v513 : Value).ownBlock) (.slice Ao7 t502.length co7) t502) ∧ Aside0 (Kd.Q (Kd.int .i64) 3 w' w.heap.size (fun k_ => some k_ ≠ (v513 : Value).ownBlock) (.slice Ao9 t509.length co9) t509) ∧ Aside0 (Kd.R (Kd.int .i64) 3 w' w.heap.size (fun k_ => some k_ ≠ ((.slice Ao9 t509.length co9) : Value).ownBlock) v513 t512) ∧ Aside0 (Below w.heap.size w w'))
     case atStart => exact ⟨(0), (by first | rfl | (simp; done) | (simp [*]; done)), H', ⟨Nat.le_refl _⟩, ⟨by (with_reducible repeat (first | apply Kd.N_alloc | apply Kd.N_drewN | apply Kd.N_drew)); exact Kd.N_mono HO_3.out (fun _ hk => ⟨hk.2.1, hk.2.2⟩)⟩, ⟨by (with_reducible repeat (first | apply Kd.Q_alloc | apply Kd.Q_drewN | apply Kd.Q_drew)); exact Kd.Q_mono HO_6.out (fun _ hk => hk.2)⟩, ⟨by (with_reducible repeat (first | apply Kd.R_alloc | apply Kd.R_drewN | apply Kd.R_drew)); exact Kd.R_mono HO_7.out (fun _ hk => hk.2)⟩, ⟨by repeat (with_reducible first | exact HB.out | apply below_alloc | apply pw_below_drewN | apply below_drew1)⟩⟩
     case round =>
      clear H'
      try clear c1
      try clear c2
      try clear c2b0
      try clear c2b1
      try clear p2
      try clear c4
      try clear c13
      try clear c20
      try clear p2
      obtain ⟨x8_2, rfl, HA, HK2, HO_3, HO_6, HO_7, HB⟩ := hrel
      cases gk with
      | zero => exact absurd HA.out (by simp [laws_FnOrderStartsFirst.l0])
      | succ k2 =>
       have H := HA.out
       clear HA
       simp only [laws_FnOrderStartsFirst.l0] at H
       by_cases c26 : x8_2 < (t512.length : Int)
       ·rw [if_pos c26] at H
        have c26b0 : decide (x8_2 < (t512.length : Int)) = true := decide_eq_true c26
        clear c26
        by_cases c27 : 0 ≤ x8_2
        ·rw [if_pos c27] at H
         have c27b0 : decide (0 ≤ x8_2) = true := decide_eq_true c27
         clear c27
         have H' := Aside0.mk H
         clear H
         obtain ⟨Ao28, co28, eo28⟩ := Kd.R_slice HO_7.out
         subst eo28
         have p525 : 0 ≤ (x8_2 : Int) := of_decide_eq_true (by with_reducible assumption)
         have q525 : x8_2 < (t512.length : Int) := of_decide_eq_true (by with_reducible assumption)
         obtain ⟨ad525, e525, hx525_0⟩ := Kd.at_int (Kd.R_reads' HO_7.out).2.2 x8_2 p525 q525
         cases e525
         replace p525 := eq_true p525
         replace q525 := eq_true q525
         go_wp2
         repeat (go_quiet (fail); try go_wp2)
         go_loopg [9, 10] k2 (fun kq v9 v10 w' => ∃ (x9_3 : Bool) (x10_3 : Int), v9 = .bool x9_3 ∧ v10 = .int .i64 x10_3 ∧ Aside0 (laws_FnOrderStartsFirst.l1 kq t502 t509 t512 x8_2 x9_3 x10_3 = some r) ∧ Aside0 (kq ≤ k2) ∧ Aside0 (Kd.N k38 38 w' w.heap.size (fun k_ => some k_ ≠ ((.slice Ao9 t509.length co9) : Value).ownBlock ∧ some k_ ≠ ((.slice (some ad525) t512.length co28) : Value).ownBlock) (.slice Ao7 t502.length co7) t502) ∧ Aside0 (Kd.Q (Kd.int .i64) 3 w' w.heap.size (fun k_ => some k_ ≠ ((.slice (some ad525) t512.length co28) : Value).ownBlock) (.slice Ao9 t509.length co9) t509) ∧ Aside0 (Kd.R (Kd.int .i64) 3 w' w.heap.size (fun k_ => some k_ ≠ ((.slice Ao9 t509.length co9) : Value).ownBlock) (.slice (some ad525) t512.length co28) t512) ∧ Aside0 (Below w.heap.size w w'))
         case atStart => exact ⟨(((rd t512 x8_2) == 0)), (0), (by first | rfl | (simp; done) | (simp [*]; done)), (by first | rfl | (simp; done) | (simp [*]; done)), H', ⟨Nat.le_refl _⟩, ⟨by (with_reducible repeat (first | apply Kd.N_alloc | apply Kd.N_drewN | apply Kd.N_drew)); exact HO_3.out⟩, ⟨by (with_reducible repeat (first | apply Kd.Q_alloc | apply Kd.Q_drewN | apply Kd.Q_drew)); exact HO_6.out⟩, ⟨by (with_reducible repeat (first | apply Kd.R_alloc | apply Kd.R_drewN | apply Kd.R_drew)); exact HO_7.out⟩, ⟨by repeat (with_reducible first | exact HB.out | apply below_alloc | apply pw_below_drewN | apply below_drew1)⟩⟩
         case round =>
          clear H'
          try clear c1
          try clear c2
          try clear c2b0
          try clear c2b1
          try clear p2
          try clear c4
          try clear p5
          try clear q5
          try clear hx5
          try clear c13
          try clear c20
          try clear c26
          try clear c26b0
          try clear c27
          try clear c27b0
          try clear hx525_0
          try clear p2
          try clear p525
          try clear q525
          obtain ⟨x9_3, x10_3, rfl, rfl, HA, HK3, HO_3, HO_6, HO_7, HB⟩ := hrel
          cases gk with
          | zero => exact absurd HA.out (by simp [laws_FnOrderStartsFirst.l1])
          | succ k3 =>
           have H := HA.out
           clear HA
           simp only [laws_FnOrderStartsFirst.l1] at H
           by_cases c29 : x10_3 < (t512.length : Int)
           ·rw [if_pos c29] at H
            have c29b0 : decide (x10_3 < (t512.length : Int)) = true := decide_eq_true c29
            clear c29
            by_cases c30 : x9_3 = true
            ·subst c30
             have H1 : (laws_FnOrderStartsFirst.l1 k3 t502 t509 t512 x8_2 true (wrap64 (x10_3 + 1))) = some r := by rw [if_pos rfl] at H; exact H
             clear H
             have H := H1
             clear H1
             have H' := Aside0.mk H
             clear H
             go_wp2
             repeat (go_quiet (fail); try go_wp2)
             go_roundg k3
             case measure => have := HJ4.out; have := HK2.out; have := HK3.out; omega
             case rel => exact ⟨(true), (wrap64 (x10_3 + 1)), (by first | rfl | (simp; done) | (simp [*]; done)), (by first | rfl | (simp; done) | (simp [*]; done)), H', ⟨by have := HJ4.out; have := HK2.out; have := HK3.out; omega⟩, ⟨by (with_reducible repeat (first | apply Kd.N_alloc | apply Kd.N_drewN | apply Kd.N_drew)); exact HO_3.out⟩, ⟨by (with_reducible repeat (first | apply Kd.Q_alloc | apply Kd.Q_drewN | apply Kd.Q_drew)); exact HO_6.out⟩, ⟨by (with_reducible repeat (first | apply Kd.R_alloc | apply Kd.R_drewN | apply Kd.R_drew)); exact HO_7.out⟩, ⟨by repeat (with_reducible first | exact HB.out | apply below_alloc | apply pw_below_drewN | apply below_drew1)⟩⟩
            ·replace c30 := Bool.eq_false_iff.mpr c30
             subst c30
             have H1 : (if 0 ≤ x10_3 then (if x10_3 < (t502.length : Int) then (if 0 ≤ x8_2 then (if x8_2 < (t512.length : Int) then (laws_FnOrderStartsFirst.l1 k3 t502 t509 t512 x8_2 ((wrap64 ((rd t512 x10_3) + ((rd_T38 t502 x10_3).f0))) == (rd t512 x8_2)) (wrap64 (x10_3 + 1))) else (none)) else (none)) else (none)) else (none)) = some r := by rw [if_neg (show ¬ (false = true) by decide)] at H; exact H
             clear H
             have H := H1
             clear H1
             by_cases c31 : 0 ≤ x10_3
             ·rw [if_pos c31] at H
              have c31b0 : decide (0 ≤ x10_3) = true := decide_eq_true c31
              clear c31
              by_cases c32 : x10_3 < (t502.length : Int)
              ·rw [if_pos c32] at H
               have c32b0 : decide (x10_3 < (t502.length : Int)) = true := decide_eq_true c32
               clear c32
               by_cases c33 : 0 ≤ x8_2
               ·rw [if_pos c33] at H
                have c33b0 : decide (0 ≤ x8_2) = true := decide_eq_true c33
                clear c33
                by_cases c34 : x8_2 < (t512.length : Int)
                ·rw [if_pos c34] at H
                 have c34b0 : decide (x8_2 < (t512.length : Int)) = true := decide_eq_true c34
                 clear c34
                 have H' := Aside0.mk H
                 clear H
                 have p526 : 0 ≤ (x10_3 : Int) := of_decide_eq_true (by with_reducible assumption)
                 have q526 : x10_3 < (t512.length : Int) := of_decide_eq_true (by with_reducible assumption)
                 obtain ⟨ad526, e526, hx526_0⟩ := Kd.at_int (Kd.R_reads' HO_7.out).2.2 x10_3 p526 q526
                 obtain rfl : ad525 = ad526 := (by injection e526)
                 replace p526 := eq_true p526
                 replace q526 := eq_true q526
                 have p527 : 0 ≤ (x10_3 : Int) := of_decide_eq_true (by with_reducible assumption)
                 have q527 : x10_3 < (t502.length : Int) := of_decide_eq_true (by with_reducible assumption)
                 obtain ⟨ad527, A527_1, c527_1, e527, hx527_0, hx527_1, hx527_2, hx527_3, hl527_1, hi527_1⟩ := at_T38 (Kd.N_reads' HO_3.out).2.2 x10_3 p527 q527
                 cases e527
                 obtain ⟨ce527, hce527, hMe527, hcc527⟩ := Kd.N_get HO_3.out z38 x10_3 p527 (by first | exact q527 | exact of_decide_eq_true (by with_reducible assumption) | (have e_ := (Kd.N_reads' HO_3.out).1; omega))
                 obtain ⟨ua527_1, uc527_1, rfl, ul527_1, ge527_1⟩ := k38_openF hMe527
                 have hv527_1 := hcc527 1 _ rfl
                 rw [add_field _ _ 1 (by omega)] at hv527_1
                 replace hv527_1 := Option.some.inj (hv527_1.symm.trans hx527_1)
                 injection hv527_1 with hva_ hvn_ hvc_
                 rw [hva_] at ge527_1
                 rw [hvc_] at ul527_1
                 have HL527_1 := Aside0.mk (show Kd.V (Kd.int .i64) 3 _ w.heap.size _ _ ((rd_T38 t502 x10_3).f1) from Kd.V_mk ul527_1 ge527_1)
                 clear hva_ hvn_ hvc_ ge527_1 ul527_1
                 clear hcc527 hce527
                 have HR527_1 := Aside0.mk hi527_1
                 have HC527_1 := Aside0.mk hl527_1
                 clear hi527_1 hl527_1
                 replace p527 := eq_true p527
                 replace q527 := eq_true q527
                 have p528 : 0 ≤ (x8_2 : Int) := of_decide_eq_true (by with_reducible assumption)
                 have q528 : x8_2 < (t512.length : Int) := of_decide_eq_true (by with_reducible assumption)
                 obtain ⟨ad528, e528, hx528_0⟩ := Kd.at_int (Kd.R_reads' HO_7.out).2.2 x8_2 p528 q528
                 obtain rfl : ad525 = ad528 := (by injection e528)
                 replace p528 := eq_true p528
                 replace q528 := eq_true q528
                 go_wp2
                 repeat (go_quiet (fail); try go_wp2)
                 go_roundg k3
                 case measure => have := HJ4.out; have := HK2.out; have := HK3.out; omega
                 case rel => exact ⟨(((wrap64 ((rd t512 x10_3) + ((rd_T38 t502 x10_3).f0))) == (rd t512 x8_2))), (wrap64 (x10_3 + 1)), (by first | rfl | (simp; done) | (simp [*]; done)), (by first | rfl | (simp; done) | (simp [*]; done)), H', ⟨by have := HJ4.out; have := HK2.out; have := HK3.out; omega⟩, ⟨by (with_reducible repeat (first | apply Kd.N_alloc | apply Kd.N_drewN | apply Kd.N_drew)); exact HO_3.out⟩, ⟨by (with_reducible repeat (first | apply Kd.Q_alloc | apply Kd.Q_drewN | apply Kd.Q_drew)); exact HO_6.out⟩, ⟨by (with_reducible repeat (first | apply Kd.R_alloc | apply Kd.R_drewN | apply Kd.R_drew)); exact HO_7.out⟩, ⟨by repeat (with_reducible first | exact HB.out | apply below_alloc | apply pw_below_drewN | apply below_drew1)⟩⟩
                ·rw [if_neg c34] at H
                 exact absurd H (by simp)
               ·rw [if_neg c33] at H
                exact absurd H (by simp)
              ·rw [if_neg c32] at H
               exact absurd H (by simp)
             ·rw [if_neg c31] at H
              exact absurd H (by simp)
           ·rw [if_neg c29] at H
            have c29b0 : decide (x10_3 < (t512.length : Int)) = false := decide_eq_false c29
            clear c29
            by_cases c35 : x9_3 = true
            ·subst c35
             have H1 : (laws_FnOrderStartsFirst.l0 k3 t502 t509 t512 (wrap64 (x8_2 + 1))) = some r := by rw [if_pos rfl] at H; exact H
             clear H
             have H := H1
             clear H1
             have H' := Aside0.mk H
             clear H
             go_wp2
             repeat (go_quiet (fail); try go_wp2)
             go_roundg k3
             case measure => have := HJ4.out; have := HK2.out; have := HK3.out; omega
             case rel => exact ⟨(wrap64 (x8_2 + 1)), (by first | rfl | (simp; done) | (simp [*]; done)), H', ⟨by have := HJ4.out; have := HK2.out; have := HK3.out; omega⟩, ⟨by (with_reducible repeat (first | apply Kd.N_alloc | apply Kd.N_drewN | apply Kd.N_drew)); exact HO_3.out⟩, ⟨by (with_reducible repeat (first | apply Kd.Q_alloc | apply Kd.Q_drewN | apply Kd.Q_drew)); exact HO_6.out⟩, ⟨by (with_reducible repeat (first | apply Kd.R_alloc | apply Kd.R_drewN | apply Kd.R_drew)); exact HO_7.out⟩, ⟨by repeat (with_reducible first | exact HB.out | apply below_alloc | apply pw_below_drewN | apply below_drew1)⟩⟩
            ·replace c35 := Bool.eq_false_iff.mpr c35
             subst c35
             have H1 : (some false) = some r := by rw [if_neg (show ¬ (false = true) by decide)] at H; exact H
             clear H
             have H := H1
             clear H1
             obtain rfl := Option.some.inj H
             go_wp2
             repeat (go_quiet (fail); try go_wp2)
             go_ret
             exact ⟨by first | rfl | (simp [errW_none, errW_some] <;> rfl) | (simp [*, errW_none, errW_some] <;> rfl), by repeat (with_reducible first | exact HB.out | apply below_alloc | apply pw_below_drewN | apply below_drew1)⟩
        ·rw [if_neg c27] at H
         exact absurd H (by simp)
       ·rw [if_neg c26] at H
        have c26b0 : decide (x8_2 < (t512.length : Int)) = false := decide_eq_false c26
        clear c26
        by_cases c36 : 0 < (t509.length : Int)
        ·rw [if_pos c36] at H
         have c36b0 : decide (0 < (t509.length : Int)) = true := decide_eq_true c36
         have c36b1 : decide (0 < t509.length) = true := decide_eq_true (by omega)
         clear c36
         by_cases c37 : 0 ≤ (rd t509 0)
         ·rw [if_pos c37] at H
          have c37b0 : decide (0 ≤ (rd t509 0)) = true := decide_eq_true c37
          clear c37
          by_cases c38 : (rd t509 0) < (t512.length : Int)
          ·rw [if_pos c38] at H
           have c38b0 : decide ((rd t509 0) < (t512.length : Int)) = true := decide_eq_true c38
           clear c38
           obtain rfl := Option.some.inj H
           obtain ⟨Ao39, co39, eo39⟩ := Kd.R_slice HO_7.out
           subst eo39
           have p523 : 0 ≤ (0 : Int) := (by omega)
           have q523 : 0 < (t509.length : Int) := of_decide_eq_true (by with_reducible assumption)
           obtain ⟨ad523, e523, hx523_0⟩ := Kd.at_int (Kd.Q_reads' HO_6.out).2.2 0 p523 q523
           cases e523
           have qi523 : (0 < t509.length) = True := eq_true (by omega)
           (try rw [show ((0 : Int)).toNat = 0 from rfl] at hx523_0)
           (try rw [Addr.add_zero'] at hx523_0)
           replace p523 := eq_true p523
           replace q523 := eq_true q523
           have p524 : 0 ≤ ((rd t509 0) : Int) := of_decide_eq_true (by with_reducible assumption)
           have q524 : (rd t509 0) < (t512.length : Int) := of_decide_eq_true (by with_reducible assumption)
           obtain ⟨ad524, e524, hx524_0⟩ := Kd.at_int (Kd.R_reads' HO_7.out).2.2 (rd t509 0) p524 q524
           cases e524
           replace p524 := eq_true p524
           replace q524 := eq_true q524
           go_wp2
           repeat (go_quiet (fail); try go_wp2)
           go_ret
           exact ⟨by first | rfl | (simp [errW_none, errW_some] <;> rfl) | (simp [*, errW_none, errW_some] <;> rfl), by repeat (with_reducible first | exact HB.out | apply below_alloc | apply pw_below_drewN | apply below_drew1)⟩
          ·rw [if_neg c38] at H
           exact absurd H (by simp)
         ·rw [if_neg c37] at H
          exact absurd H (by simp)
        ·rw [if_neg c36] at H
         exact absurd H (by simp)
def laws_FnOrderStartsFirst.Pure : Prop := ∀ (l0 : List Int), l0.length ≤ maxLen → l0.length * 1 ≤ 140737488351232 → (∀ x ∈ l0, (Lit.int .u8 x).wf = true) → ∃ k, laws_FnOrderStartsFirst.f k l0 = some true
theorem laws_FnOrderStartsFirst.walk (P : laws_FnOrderStartsFirst.Pure) (a0 : Option Addr) (len0 cap0 : Nat) (z0 : List Int) (w : World) (w0 : (a0 = none ∧ len0 = 0 ∧ cap0 = 0 ∧ z0 = []) ∨ ∃ x, a0 = some x ∧ len0 ≤ cap0 ∧ cap0 ≤ maxLen ∧ z0.length = cap0 ∧ (∀ i, i < z0.length → w.cell? (x.add i) = some (.int .u8 (z0.getD i 0))) ∧ ∀ n ∈ z0, (Lit.int .u8 n).wf = true) (y0 : len0 * 1 ≤ 140737488351232) (hTab0 : TabOK w) :
  Calls Tryd.prog 4 #[.slice a0 len0 cap0] w fun e w' => e = .returned (.bool true) ∧ Below w.heap.size w w' := by
 obtain ⟨l0, rfl, hr0, hm0, hw0, hc0⟩ := ReadsInt.ofRowC w0
 obtain ⟨k, h⟩ := P l0 hm0 y0 hw0
 refine (laws_FnOrderStartsFirst.calls k _ _ l0 true w (Kd.C_of_reads (d := (0 : Int)) (h1 := fun _ => rfl) hr0) hc0 h hTab0).mono ?_
 rintro e w' ⟨rfl, hd⟩
 exact ⟨rfl, hd⟩
end Go.Proofs.YtdmeiiedbhfniaaDoor.P
end
section
namespace Go.Proofs.YtdmeiiedbhfniaaDoor.P
open Go.RowKit YtdmeiiedbhfniaaDoorW.PrintWords YtdmeiiedbhfniaaDoorW.PrintLast YtdmeiiedbhfniaaDoorW.PrintMore
def Ev {α : Type} (f : Nat → Option α) (x : α) : Prop := ∃ K, ∀ k, K ≤ k → f k = some x
section
variable {α β : Type} {f f' : Nat → Option α} {x : α} {y : β}
theorem Ev.get (h : Ev f x) : ∃ k, f k = some x := by
 obtain ⟨K, h⟩ := h
 exact ⟨K, h K (Nat.le_refl _)⟩
theorem Ev.pure (x : α) : Ev (fun _ => some x) x := ⟨0, fun _ _ => rfl⟩
theorem Ev.eq {o : Option α} (h : o = some x) : Ev (fun _ => o) x := ⟨0, fun _ _ => h⟩
theorem Ev.bind {g : Nat → α → Option β} (hf : Ev f x) (hg : Ev (fun k => g k x) y) : Ev (fun k => (f k).bind (g k)) y := by
 obtain ⟨K, hf⟩ := hf
 obtain ⟨L, hg⟩ := hg
 exact ⟨max K L, fun k hk => by show (f k).bind (g k) = some y; rw [hf k (by omega)]; exact hg k (by omega)⟩
theorem Ev.pos {c : Prop} [Decidable c] (hc : c) (h : Ev f x) : Ev (fun k => if c then f k else f' k) x := by
 obtain ⟨K, h⟩ := h
 exact ⟨K, fun k hk => (if_pos hc).trans (h k hk)⟩
theorem Ev.neg {c : Prop} [Decidable c] (hc : ¬ c) (h : Ev f' x) : Ev (fun k => if c then f k else f' k) x := by
 obtain ⟨K, h⟩ := h
 exact ⟨K, fun k hk => (if_neg hc).trans (h k hk)⟩
theorem Ev.ite {c : Prop} [Decidable c] (h : c → Ev f x) (h' : ¬ c → Ev f' x) : Ev (fun k => if c then f k else f' k) x := by
 by_cases hc : c
 ·exact Ev.pos hc (h hc)
 ·exact Ev.neg hc (h' hc)
theorem Ev.succ (h : Ev (fun k => f (k + 1)) x) : Ev f x := by
 obtain ⟨K, h⟩ := h
 exact ⟨K + 1, fun k hk => by
  obtain ⟨j, rfl⟩ : ∃ j, k = j + 1 := ⟨k - 1, by omega⟩
  exact h j (by omega)⟩
end
theorem w64 {n : Int} (h : -9223372036854775808 ≤ n) (h' : n ≤ 9223372036854775807) : wrap64 n = n := by unfold wrap64; omega
theorem w64n (n : Nat) (h : n < 4611686018427387904) : wrap64 ((n : Int) + 1) = ((n + 1 : Nat) : Int) := by rw [w64 (by omega) (by omega)]; omega
theorem snoc_eq {α : Type} (pre : List α) (x : α) (r : List α) : pre ++ x :: r = (pre ++ [x]) ++ r := by simp
theorem len_lt {α : Type} (pre : List α) (x : α) (r : List α) : (pre.length : Int) < ((pre ++ x :: r).length : Int) := by simp only [List.length_append, List.length_cons]; omega
theorem len_nlt {α : Type} (pre : List α) : ¬ (pre.length : Int) < ((pre ++ []).length : Int) := by simp
theorem len_next {α : Type} (pre : List α) (x : α) (h : pre.length < 4611686018427387904) : wrap64 ((pre.length : Int) + 1) = ((pre ++ [x]).length : Int) := by rw [w64n _ h]; simp
theorem rdm (pre : List Int) (x : Int) (r : List Int) : rd (pre ++ x :: r) (pre.length : Int) = x := by simp [rd]
end Go.Proofs.YtdmeiiedbhfniaaDoor.P
end
section
namespace Go.Proofs.YtdmeiiedbhfniaaDoor.P
open Go.RowKit Go.Shelf YtdmeiiedbhfniaaDoorW.PrintWords YtdmeiiedbhfniaaDoorW.PrintLast YtdmeiiedbhfniaaDoorW.PrintMore
def inB (a b x : Int) : Bool := decide (a ≤ x ∧ x ≤ b)
theorem inRange_eq (x a b : Int) : spec_inRange.f x a b = some (inB a b x) := by
 unfold spec_inRange.f inB
 by_cases h : a ≤ x
 ·rw [if_pos h]; simp [h]
 ·rw [if_neg h]; simp [h]
theorem allIn_go (a b : Int) : ∀ (r pre : List Int), pre.length + r.length < 4611686018427387904 → Ev (fun k => spec_allIn.l0 k (pre ++ r) a b (pre.length : Int)) (r.all (inB a b))
 | [], pre, _ => by
  refine Ev.succ ?_
  simp only [spec_allIn.l0]
  exact Ev.neg (len_nlt pre) (Ev.pure _)
 | x :: r, pre, h => by
  refine Ev.succ ?_
  simp only [spec_allIn.l0]
  refine Ev.pos (len_lt _ _ _) (Ev.pos (by omega) (Ev.bind (Ev.eq (inRange_eq _ _ _)) ?_))
  rw [rdm]
  have hl : pre.length < 4611686018427387904 := by simp only [List.length_cons] at h; omega
  refine Ev.ite (fun hc => ?_) (fun hc => ?_)
  ·rw [len_next pre x hl, snoc_eq, List.all_cons, hc, Bool.true_and]
   exact allIn_go a b r (pre ++ [x]) (by simp only [List.length_append, List.length_cons, List.length_nil] at h ⊢; omega)
  ·rw [List.all_cons, Bool.eq_false_iff.2 hc, Bool.false_and]
   exact Ev.pure _
theorem allIn_ev (l : List Int) (a b : Int) (h : l.length < 4611686018427387904) : Ev (fun k => spec_allIn.f k l a b) (l.all (inB a b)) := allIn_go a b l [] (by simpa using h)
def ascB : List Int → Bool
 | x :: y :: r => decide (x < y) && ascB (y :: r)
 | _ => true
theorem ascends_go : ∀ (r pre : List Int) (x : Int), pre.length + r.length + 1 < 4611686018427387904 → Ev (fun k => spec_ascends.l0 k (pre ++ x :: r) ((pre.length : Int) + 1)) (ascB (x :: r))
 | [], pre, x, _ => by
  refine Ev.succ ?_
  simp only [spec_ascends.l0]
  exact Ev.neg (by simp) (Ev.pure _)
 | y :: r, pre, x, h => by
  have hl : pre.length < 4611686018427387904 := by simp only [List.length_cons] at h; omega
  have h1 : wrap64 ((pre.length : Int) + 1 - 1) = (pre.length : Int) := by rw [w64 (by omega) (by omega)]; omega
  have h2 : rd (pre ++ x :: y :: r) ((pre.length : Int) + 1) = y := by
   simp [rd]
  refine Ev.succ ?_
  simp only [spec_ascends.l0, h1, h2, rdm]
  refine Ev.pos (by simp only [List.length_append, List.length_cons]; omega) (Ev.pos (by omega) (Ev.pos (by omega) (Ev.pos (len_lt _ _ _) (Ev.ite (fun hc => ?_) (fun hc => ?_)))))
  ·rw [ascB, decide_eq_false (by omega), Bool.false_and]
   exact Ev.pure _
  ·have h3 : wrap64 ((pre.length : Int) + 1 + 1) = ((pre ++ [x]).length : Int) + 1 := by
    simp only [List.length_append, List.length_cons, List.length_nil] at h ⊢
    rw [w64 (by omega) (by omega)]; omega
   rw [h3, snoc_eq, ascB, decide_eq_true (by omega : x < y), Bool.true_and]
   exact ascends_go r (pre ++ [x]) y (by simp only [List.length_append, List.length_cons, List.length_nil] at h ⊢; omega)
theorem ascends_ev (l : List Int) (h : l.length < 4611686018427387904) : Ev (fun k => spec_ascends.f k l) (ascB l) := by
 cases l with
 | nil =>
  unfold spec_ascends.f
  refine Ev.succ ?_
  simp only [spec_ascends.l0]
  exact Ev.neg (by simp) (Ev.pure _)
 | cons x r => exact ascends_go r [] x (by simp only [List.length_cons, List.length_nil] at h ⊢; omega)
def taskB (n : Nat) (t : TT) : Bool := inB 1 20 t.f0 && inB 0 2 t.f2 && inB 1 4 t.f3 && t.f1.all (inB 0 ((n : Int) - 1)) && ascB t.f1
theorem validTask_ev (n : Nat) (t : TT) (hn : n < 4611686018427387904) (h : t.f1.length < 4611686018427387904) : Ev (fun k => spec_validTask.f k t.f0 t.f1 t.f2 t.f3 (n : Int)) (taskB n t) := by
 unfold spec_validTask.f taskB
 have hw : wrap64 ((n : Int) - 1) = (n : Int) - 1 := w64 (by omega) (by omega)
 rw [hw]
 refine Ev.bind (Ev.eq (inRange_eq _ _ _)) (Ev.ite (fun h0 => ?_) (fun h0 => ?_))
 ·refine Ev.bind (Ev.eq (inRange_eq _ _ _)) (Ev.ite (fun h1 => ?_) (fun h1 => ?_))
  ·refine Ev.bind (Ev.eq (inRange_eq _ _ _)) (Ev.ite (fun h2 => ?_) (fun h2 => ?_))
   ·refine Ev.bind (allIn_ev _ _ _ h) (Ev.ite (fun h3 => ?_) (fun h3 => ?_))
    ·rw [h0, h1, h2, h3]
     exact Ev.bind (ascends_ev _ h) (Ev.pure _)
    ·rw [Bool.eq_false_iff.2 h3]; simp only [Bool.and_false, Bool.false_and]; exact Ev.pure _
   ·rw [Bool.eq_false_iff.2 h2]; simp only [Bool.and_false, Bool.false_and]; exact Ev.pure _
  ·rw [Bool.eq_false_iff.2 h1]; simp only [Bool.and_false, Bool.false_and]; exact Ev.pure _
 ·rw [Bool.eq_false_iff.2 h0]; simp only [Bool.and_false, Bool.false_and]; exact Ev.pure _
def Small (ts : List TT) : Prop := ts.length < 1099511627776 ∧ ∀ t ∈ ts, t.f1.length < 1099511627776
theorem rdT (pre : List TT) (x : TT) (r : List TT) : rd_T38 (pre ++ x :: r) (pre.length : Int) = x := by simp [rd_T38]
def fineB (ts : List TT) : Bool := ts.all (taskB ts.length) && decide (ts.length ≤ 8)
theorem tasksFine_go (ts : List TT) (hs : Small ts) : ∀ (r pre : List TT), pre ++ r = ts → Ev (fun k => spec_tasksFine.l0 k ts (pre.length : Int)) (r.all (taskB ts.length) && decide (ts.length ≤ 8))
 | [], pre, he => by
  subst he
  refine Ev.succ ?_
  simp only [spec_tasksFine.l0]
  refine Ev.neg (len_nlt pre) ?_
  simp only [List.all_nil, Bool.true_and]
  refine Ev.eq ?_
  congr 1
  exact decide_eq_decide.2 (by omega)
 | x :: r, pre, he => by
  have hl := hs.1
  have hx := hs.2 x (by rw [← he]; simp)
  have h1 : rd_T38 ts (pre.length : Int) = x := by rw [← he]; exact rdT pre x r
  have h2 : (pre.length : Int) < (ts.length : Int) := by rw [← he]; exact len_lt _ _ _
  refine Ev.succ ?_
  simp only [spec_tasksFine.l0, h1]
  refine Ev.pos h2 (Ev.pos (by omega) (Ev.bind (validTask_ev ts.length x (by omega) (by omega)) (Ev.ite (fun hc => ?_) (fun hc => ?_))))
  ·rw [len_next pre x (by omega), List.all_cons, hc, Bool.true_and]
   exact tasksFine_go ts hs r (pre ++ [x]) (by rw [← he]; simp)
  ·rw [List.all_cons, Bool.eq_false_iff.2 hc, Bool.false_and, Bool.false_and]
   exact Ev.pure _
theorem tasksFine_ev (ts : List TT) (hs : Small ts) : Ev (fun k => spec_tasksFine.f k ts) (fineB ts) := tasksFine_go ts hs ts [] rfl
theorem isIn_go (n : Int) : ∀ (r pre : List Int), pre.length + r.length < 4611686018427387904 → Ev (fun k => spec_isIn.l0 k (pre ++ r) n (pre.length : Int)) (decide (n ∈ r))
 | [], pre, _ => by
  refine Ev.succ ?_
  simp only [spec_isIn.l0]
  exact Ev.neg (len_nlt pre) (Ev.eq (by simp))
 | x :: r, pre, h => by
  have hl : pre.length < 4611686018427387904 := by simp only [List.length_cons] at h; omega
  refine Ev.succ ?_
  simp only [spec_isIn.l0, rdm]
  refine Ev.pos (len_lt _ _ _) (Ev.pos (by omega) (Ev.ite (fun hc => ?_) (fun hc => ?_)))
  ·rw [decide_eq_true (by rw [hc]; exact List.mem_cons_self)]
   exact Ev.pure _
  ·rw [len_next pre x hl, snoc_eq, show decide (n ∈ x :: r) = decide (n ∈ r) from decide_eq_decide.2 (by rw [List.mem_cons]; exact ⟨fun h => h.resolve_left (fun e => hc e.symm), Or.inr⟩)]
   exact isIn_go n r (pre ++ [x]) (by simp only [List.length_append, List.length_cons, List.length_nil] at h ⊢; omega)
theorem isIn_ev (l : List Int) (n : Int) (h : l.length < 4611686018427387904) : Ev (fun k => spec_isIn.f k l n) (decide (n ∈ l)) := isIn_go n l [] (by simpa using h)
def subL (needs done : List Int) : Bool := needs.all fun x => decide (x ∈ done)
theorem allDone_go (done : List Int) (hd : done.length < 4611686018427387904) : ∀ (r pre : List Int), pre.length + r.length < 4611686018427387904 → Ev (fun k => spec_allDone.l0 k (pre ++ r) done (pre.length : Int)) (subL r done)
 | [], pre, _ => by
  refine Ev.succ ?_
  simp only [spec_allDone.l0]
  exact Ev.neg (len_nlt pre) (Ev.pure _)
 | x :: r, pre, h => by
  have hl : pre.length < 4611686018427387904 := by simp only [List.length_cons] at h; omega
  refine Ev.succ ?_
  simp only [spec_allDone.l0, rdm]
  refine Ev.pos (len_lt _ _ _) (Ev.pos (by omega) (Ev.bind (isIn_ev _ _ hd) (Ev.ite (fun hc => ?_) (fun hc => ?_))))
  ·rw [len_next pre x hl, snoc_eq, subL, List.all_cons, hc, Bool.true_and]
   exact allDone_go done hd r (pre ++ [x]) (by simp only [List.length_append, List.length_cons, List.length_nil] at h ⊢; omega)
  ·rw [subL, List.all_cons, Bool.eq_false_iff.2 hc, Bool.false_and]
   exact Ev.pure _
theorem allDone_ev (l done : List Int) (h : l.length < 4611686018427387904) (hd : done.length < 4611686018427387904) : Ev (fun k => spec_allDone.f k l done) (subL l done) := allDone_go done hd l [] (by simpa using h)
end Go.Proofs.YtdmeiiedbhfniaaDoor.P
end
section
namespace Go.Proofs.YtdmeiiedbhfniaaDoor.P
open Go.RowKit Go.Shelf YtdmeiiedbhfniaaDoorW.PrintWords YtdmeiiedbhfniaaDoorW.PrintLast YtdmeiiedbhfniaaDoorW.PrintMore
def maskL (l : List Int) : Nat := l.foldl (fun s i => s ||| 2 ^ i.toNat) 0
theorem mask_bit (l : List Int) : ∀ (s : Nat) (j : Nat), (∀ x ∈ l, 0 ≤ x) → (l.foldl (fun s i => s ||| 2 ^ i.toNat) s).testBit j = (s.testBit j || decide ((j : Int) ∈ l)) := by
 induction l with
 | nil => intro s j _; simp
 | cons x r ih =>
  intro s j h
  have hx := h x List.mem_cons_self
  rw [List.foldl_cons, ih _ _ (fun y hy => h y (List.mem_cons_of_mem _ hy)), Nat.testBit_or, Nat.testBit_two_pow, Bool.or_assoc]
  congr 1
  rw [← Bool.decide_or]
  refine decide_eq_decide.2 ?_
  rw [List.mem_cons]
  constructor
  ·rintro (h1 | h1)
   ·exact Or.inl (by omega)
   ·exact Or.inr h1
  ·rintro (h1 | h1)
   ·exact Or.inl (by omega)
   ·exact Or.inr h1
theorem maskL_bit {l : List Int} (h : ∀ x ∈ l, 0 ≤ x) (j : Nat) : (maskL l).testBit j = decide ((j : Int) ∈ l) := by
 unfold maskL; rw [mask_bit l 0 j h]; simp
theorem setGo_eq (n : Nat) : ∀ (l : List Int) (last : Int) (s : Nat), -1 ≤ last → setGo n l last s = if (ascB (last :: l) && l.all (inB 0 ((n : Int) - 1))) = true then some (l.foldl (fun s i => s ||| 2 ^ i.toNat) s) else none
 | [], last, s, h => by simp [setGo, ascB]
 | i :: r, last, s, h => by
  unfold setGo
  by_cases hc : last + 1 ≤ i ∧ i < n
  ·rw [if_pos hc, setGo_eq n r i _ (by omega)]
   rw [ascB, List.all_cons, decide_eq_true (by omega : last < i), Bool.true_and, show inB 0 ((n : Int) - 1) i = true from decide_eq_true (by omega), Bool.true_and]
   rfl
  ·rw [if_neg hc, if_neg]
   intro h2
   rw [ascB, List.all_cons] at h2
   simp only [Bool.and_eq_true, decide_eq_true_eq, inB] at h2
   omega
theorem ascB_neg {l : List Int} (h : ∀ x ∈ l, 0 ≤ x) : ascB (-1 :: l) = ascB l := by
 cases l with
 | nil => rfl
 | cons x r => rw [ascB, decide_eq_true (by have := h x List.mem_cons_self; omega), Bool.true_and]
theorem setP_eq (l : List Int) (n : Nat) : setP l n = if (ascB l && l.all (inB 0 ((n : Int) - 1))) = true then some (maskL l) else none := by
 unfold setP
 rw [setGo_eq n l (-1) 0 (by omega)]
 by_cases hA : l.all (inB 0 ((n : Int) - 1)) = true
 ·have h0 : ∀ x ∈ l, 0 ≤ x := fun x hx => by
   have := List.all_eq_true.1 hA x hx
   simp only [inB, decide_eq_true_eq] at this
   exact this.1
  rw [ascB_neg h0]; rfl
 ·rw [Bool.eq_false_iff.2 hA, Bool.and_false, Bool.and_false]; rfl
theorem taskP_eq (n : Nat) (t : TT) : taskP n t = if taskB n t = true then some (maskL t.f1) else none := by
 unfold taskP taskB
 rw [setP_eq]
 by_cases h1 : (ascB t.f1 && t.f1.all (inB 0 ((n : Int) - 1))) = true
 ·rw [if_pos h1]
  have h2 := Bool.and_eq_true_iff.1 h1
  rw [h2.1, h2.2]
  simp only [Bool.and_true, inB, Bool.and_eq_true, decide_eq_true_eq, and_assoc]
 ·rw [if_neg h1, if_neg]
  intro h
  simp only [Bool.and_eq_true] at h h1
  exact h1 ⟨h.2, h.1.2⟩
theorem needsGo_eq (n : Nat) : ∀ (r : List TT) (acc : List Nat), needsGo n r acc = if r.all (taskB n) = true then some (acc ++ r.map fun t => maskL t.f1) else none
 | [], acc => by simp [needsGo]
 | t :: r, acc => by
  unfold needsGo
  rw [taskP_eq]
  by_cases h : taskB n t = true
  ·rw [if_pos h]
   show needsGo n r (acc ++ [maskL t.f1]) = _
   rw [needsGo_eq n r, List.all_cons, h, Bool.true_and, List.map_cons, List.append_assoc]
   rfl
  ·rw [if_neg h, List.all_cons, Bool.eq_false_iff.2 h, Bool.false_and]
   rfl
def needsM (ts : List TT) : List Nat := ts.map fun t => maskL t.f1
theorem needsP_eq (ts : List TT) : needsP ts = if fineB ts = true then some (needsM ts) else none := by
 unfold needsP fineB
 by_cases h : ts.length > 8
 ·rw [if_pos h, decide_eq_false (by omega), Bool.and_false]; rfl
 ·rw [if_neg h, needsGo_eq, decide_eq_true (by omega : ts.length ≤ 8), Bool.and_true]; rfl
theorem fine_task {ts : List TT} (h : fineB ts = true) {i : Nat} (hi : i < ts.length) : taskB ts.length ts[i] = true := by
 have := (Bool.and_eq_true_iff.1 h).1
 exact List.all_eq_true.1 this _ (List.getElem_mem hi)
theorem fine_len {ts : List TT} (h : fineB ts = true) : ts.length ≤ 8 := of_decide_eq_true (Bool.and_eq_true_iff.1 h).2
theorem task_mem {n : Nat} {t : TT} (h : taskB n t = true) : (∀ x ∈ t.f1, 0 ≤ x ∧ x < n) ∧ ascB t.f1 = true := by
 unfold taskB at h
 simp only [Bool.and_eq_true] at h
 refine ⟨fun x hx => ?_, h.2⟩
 have := List.all_eq_true.1 h.1.2 x hx
 simp only [inB, decide_eq_true_eq] at this
 omega
theorem needsM_get (ts : List TT) (i : Nat) (hi : i < ts.length) : (needsM ts).getD i 0 = maskL (ts[i].f1) := by
 simp [needsM, List.getD_eq_getElem?_getD, List.getElem?_map, List.getElem?_eq_getElem hi]
theorem rdT_at (ts : List TT) (i : Nat) (hi : i < ts.length) : rd_T38 ts (i : Int) = ts[i] := by
 simp [rd_T38, List.getElem?_eq_getElem hi]
theorem sub_eq {l done : List Int} (hl : ∀ x ∈ l, 0 ≤ x) (s : Nat) (hs : ∀ j, s.testBit j = decide ((j : Int) ∈ done)) : (maskL l &&& s == maskL l) = subL l done := by
 rw [Bool.eq_iff_iff]
 unfold subL
 rw [List.all_eq_true, beq_iff_eq]
 constructor
 ·intro h x hx
  have hx0 := hl x hx
  have h1 : (maskL l).testBit x.toNat = true := by rw [maskL_bit hl, decide_eq_true]; rwa [Int.toNat_of_nonneg hx0]
  rw [← h, Nat.testBit_and, hs, Bool.and_eq_true] at h1
  have h2 := of_decide_eq_true h1.2
  rw [Int.toNat_of_nonneg hx0] at h2
  exact decide_eq_true h2
 ·intro h
  refine Nat.eq_of_testBit_eq fun j => ?_
  rw [Nat.testBit_and, hs, maskL_bit hl]
  by_cases hj : (j : Int) ∈ l
  ·have := h _ hj
   rw [this, Bool.and_true]
  ·rw [decide_eq_false hj, Bool.false_and]
theorem canP_eq {ts : List TT} (hf : fineB ts = true) {done : List Int} {s : Nat} (hs : ∀ j, s.testBit j = decide ((j : Int) ∈ done)) {i : Nat} (hi : i < ts.length) :
  canP (needsM ts) s i = (!decide ((i : Int) ∈ done) && subL ts[i].f1 done) := by
 unfold canP
 rw [needsM_get ts i hi, sub_eq (fun x hx => ((task_mem (fine_task hf hi)).1 x hx).1) s hs, hs]
def findFrom (p : Nat → Bool) (n j : Nat) : Option Nat := ((List.range n).drop j).find? p
theorem findFrom_step (p : Nat → Bool) (n j : Nat) (h : j < n) : findFrom p n j = if p j then some j else findFrom p n (j + 1) := by
 unfold findFrom
 rw [List.drop_eq_getElem_cons (by simpa using h), List.find?_cons, List.getElem_range]
 cases p j <;> rfl
theorem findFrom_end (p : Nat → Bool) (n : Nat) : findFrom p n n = none := by
 unfold findFrom
 rw [List.drop_eq_nil_of_le (by simp)]; rfl
theorem top_l1 (ts : List TT) (hs : Small ts) (hf : fineB ts = true) (out : List Nat) (s : Nat) (hb : ∀ j, s.testBit j = decide (((j : Nat) : Int) ∈ nI out)) (hl : out.length ≤ 8) (r : List Int)
  (hnone : firstP (needsM ts) s = none → r = nI out)
  (hsome : ∀ i, firstP (needsM ts) s = some i → Ev (fun k => spec_topOrder.l0 k ts (nI (out ++ [i]))) r) :
  ∀ (m j : Nat), j + m = ts.length → findFrom (canP (needsM ts) s) ts.length j = firstP (needsM ts) s → Ev (fun k => spec_topOrder.l1 k ts (nI out) (-1) (j : Int)) r := by
 have hlen : ts.length ≤ 8 := fine_len hf
 have hnl : (nI out).length = out.length := nI_length out
 intro m
 induction m with
 | zero =>
  intro j hj hfind
  have hjn : j = ts.length := by omega
  subst hjn
  rw [findFrom_end] at hfind
  refine Ev.succ ?_
  simp only [spec_topOrder.l1]
  refine Ev.neg (by omega) (Ev.succ ?_)
  simp only [spec_topOrder.j2]
  refine Ev.neg (by simp) (Ev.pos (by omega) ?_)
  rw [hnone hfind.symm]
  exact Ev.pure _
 | succ m ih =>
  intro j hj hfind
  have hjl : j < ts.length := by omega
  have hw : wrap64 ((j : Int) + 1) = ((j + 1 : Nat) : Int) := w64n j (by omega)
  rw [findFrom_step _ _ _ hjl, canP_eq hf hb hjl] at hfind
  refine Ev.succ ?_
  simp only [spec_topOrder.l1]
  refine Ev.pos (by omega) (Ev.succ ?_)
  simp only [spec_topOrder.j2]
  refine Ev.pos (by simp) (Ev.bind (isIn_ev _ _ (by omega)) (Ev.ite (fun hc => ?_) (fun hc => ?_)))
  ·rw [hc] at hfind
   simp only [Bool.not_true, Bool.false_and] at hfind
   rw [hw]
   exact ih (j + 1) (by omega) hfind
  ·rw [Bool.eq_false_iff.2 hc] at hfind
   simp only [Bool.not_false, Bool.true_and] at hfind
   rw [rdT_at ts j hjl, hw]
   have h1 := hs.2 ts[j] (List.getElem_mem hjl)
   refine Ev.pos (by omega) (Ev.pos (by omega) (Ev.bind (allDone_ev _ _ (by omega) (by omega)) (Ev.ite (fun hd => ?_) (fun hd => ?_))))
   ·rw [if_pos hd] at hfind
    refine Ev.succ ?_
    simp only [spec_topOrder.l1]
    have hgo : Ev (fun k => spec_topOrder.j2 k ts (nI out) (j : Int) ((j + 1 : Nat) : Int) false) r := by
     refine Ev.succ ?_
     simp only [spec_topOrder.j2]
     refine Ev.neg (by simp) (Ev.neg (by omega) (Ev.pos (by omega) ?_))
     have := hsome j hfind.symm
     simpa [nI] using this
    refine Ev.ite (fun h2 => ?_) (fun h2 => hgo)
    rw [decide_eq_false (by omega)]
    exact hgo
   ·rw [if_neg hd] at hfind
    exact ih (j + 1) (by omega) hfind
theorem nodup_len : ∀ (a b : List Nat), a.Nodup → (∀ x ∈ a, x ∈ b) → a.length ≤ b.length
 | [], b, _, _ => Nat.zero_le _
 | x :: a, b, h, hs => by
  have hx : x ∈ b := hs x List.mem_cons_self
  have h1 := nodup_len a (b.erase x) (List.nodup_cons.1 h).2 (fun y hy => (List.mem_erase_of_ne (fun (e : y = x) => (List.nodup_cons.1 h).1 (by rw [← e]; exact hy))).2 (hs y (List.mem_cons_of_mem _ hy)))
  rw [List.length_erase_of_mem hx] at h1
  have : 0 < b.length := List.length_pos_of_mem hx
  rw [List.length_cons]
  omega
structure OrdOk (n : Nat) (out : List Nat) (s : Nat) : Prop where
 nd : out.Nodup
 lt : ∀ i ∈ out, i < n
 bit : ∀ j, s.testBit j = decide (j ∈ out)
theorem mem_nI {out : List Nat} {j : Nat} : ((j : Nat) : Int) ∈ nI out ↔ j ∈ out := by
 unfold nI
 rw [List.mem_map]
 exact ⟨fun ⟨x, hx, he⟩ => by rwa [show j = x by omega], fun h => ⟨j, h, rfl⟩⟩
theorem OrdOk.bits {n : Nat} {out : List Nat} {s : Nat} (h : OrdOk n out s) (j : Nat) : s.testBit j = decide (((j : Nat) : Int) ∈ nI out) := by
 rw [h.bit]; exact decide_eq_decide.2 mem_nI.symm
theorem OrdOk.len {n : Nat} {out : List Nat} {s : Nat} (h : OrdOk n out s) : out.length ≤ n := by
 have := nodup_len out (List.range n) h.nd (fun i hi => List.mem_range.2 (h.lt i hi))
 simpa using this
theorem OrdOk.add {n : Nat} {out : List Nat} {s i : Nat} (h : OrdOk n out s) (hi : i < n) (hn : s.testBit i = false) : OrdOk n (out ++ [i]) (s ||| 2 ^ i) := by
 have hni : i ∉ out := fun hm => by rw [h.bit, decide_eq_true hm] at hn; cases hn
 refine ⟨List.nodup_append.2 ⟨h.nd, by simp, fun a ha b hb => by rw [List.mem_singleton] at hb; subst hb; exact fun e => hni (e ▸ ha)⟩, fun j hj => ?_, fun j => ?_⟩
 ·rcases List.mem_append.1 hj with hj | hj
  ·exact h.lt j hj
  ·rw [List.mem_singleton.1 hj]; exact hi
 ·rw [Nat.testBit_or, h.bit, Nat.testBit_two_pow, ← Bool.decide_or]
  refine decide_eq_decide.2 ?_
  rw [List.mem_append, List.mem_singleton]
  exact or_congr Iff.rfl eq_comm
theorem firstP_can {nd : List Nat} {s i : Nat} (h : firstP nd s = some i) : i < nd.length ∧ canP nd s i = true := by
 refine ⟨firstP_lt h, ?_⟩
 have := List.find?_some h
 exact this
theorem OrdOk.full {n : Nat} {out : List Nat} {s : Nat} (h : OrdOk n out s) (hl : out.length = n) (nd : List Nat) (hnl : nd.length = n) : firstP nd s = none := by
 cases hf : firstP nd s with
 | none => rfl
 | some i =>
  obtain ⟨h1, h2⟩ := firstP_can hf
  have h3 : s.testBit i = false := by unfold canP at h2; simp only [Bool.and_eq_true, Bool.not_eq_true'] at h2; exact h2.1
  have h4 := (h.add (by omega) h3).len
  simp only [List.length_append, List.length_cons, List.length_nil] at h4
  omega
theorem orderGo_none {nd : List Nat} {s : List Nat × Nat} (h : firstP nd s.2 = none) : ∀ m, orderGo nd m s = s
 | 0 => rfl
 | m + 1 => by
  have : orderStep nd s = s := by unfold orderStep; rw [h]
  rw [orderGo, this]
  exact orderGo_none h m
theorem top_l0 (ts : List TT) (hs : Small ts) (hf : fineB ts = true) : ∀ (m : Nat) (out : List Nat) (s : Nat), OrdOk ts.length out s → out.length + m = ts.length →
  Ev (fun k => spec_topOrder.l0 k ts (nI out)) (nI (orderGo (needsM ts) m (out, s)).1) ∧ OrdOk ts.length (orderGo (needsM ts) m (out, s)).1 (orderGo (needsM ts) m (out, s)).2 := by
 have hlen : ts.length ≤ 8 := fine_len hf
 have hnl : (needsM ts).length = ts.length := by simp [needsM]
 intro m
 induction m with
 | zero =>
  intro out s ho hm
  have hno := ho.full (by omega) (needsM ts) hnl
  refine ⟨?_, by simpa [orderGo] using ho⟩
  refine Ev.succ ?_
  simp only [spec_topOrder.l0, orderGo]
  exact top_l1 ts hs hf out s ho.bits (by omega) _ (fun _ => rfl) (fun i hi => by rw [hno] at hi; cases hi) ts.length 0 (by omega) (by unfold findFrom firstP; rw [List.drop_zero, hnl])
 | succ m ih =>
  intro out s ho hm
  cases hfi : firstP (needsM ts) s with
  | none =>
   rw [orderGo_none (s := (out, s)) hfi]
   refine ⟨?_, ho⟩
   refine Ev.succ ?_
   simp only [spec_topOrder.l0]
   exact top_l1 ts hs hf out s ho.bits (by omega) _ (fun _ => rfl) (fun i hi => by rw [hfi] at hi; cases hi) ts.length 0 (by omega) (by unfold findFrom firstP; rw [List.drop_zero, hnl])
  | some i =>
   obtain ⟨h1, h2⟩ := firstP_can hfi
   have h3 : s.testBit i = false := by unfold canP at h2; simp only [Bool.and_eq_true, Bool.not_eq_true'] at h2; exact h2.1
   have hstep : orderStep (needsM ts) (out, s) = (out ++ [i], s ||| 2 ^ i) := by unfold orderStep; simp only [hfi]
   rw [orderGo, hstep]
   obtain ⟨e1, e2⟩ := ih (out ++ [i]) (s ||| 2 ^ i) (ho.add (by omega) h3) (by simp only [List.length_append, List.length_cons, List.length_nil]; omega)
   refine ⟨?_, e2⟩
   refine Ev.succ ?_
   simp only [spec_topOrder.l0]
   exact top_l1 ts hs hf out s ho.bits (by omega) _ (fun h => by rw [hfi] at h; cases h) (fun i' hi => by rw [hfi] at hi; injection hi with hi; subst hi; exact e1) ts.length 0 (by omega) (by unfold findFrom firstP; rw [List.drop_zero, hnl])
theorem ordOk_nil (n : Nat) : OrdOk n [] 0 := ⟨List.nodup_nil, fun i hi => (by cases hi), fun j => (by simp)⟩
theorem topOrder_ev (ts : List TT) (hs : Small ts) (hf : fineB ts = true) : Ev (fun k => spec_topOrder.f k ts) (nI (orderP (needsM ts)).1) ∧ OrdOk ts.length (orderP (needsM ts)).1 (orderP (needsM ts)).2 := by
 have h := top_l0 ts hs hf ts.length [] 0 (ordOk_nil _) (by simp)
 unfold orderP
 have hnl : (needsM ts).length = ts.length := by simp [needsM]
 rw [hnl]
 exact h
theorem OrdOk.all {n : Nat} {out : List Nat} {s : Nat} (h : OrdOk n out s) : out.length = n ↔ s = 2 ^ n - 1 := by
 constructor
 ·intro hl
  refine Nat.eq_of_testBit_eq fun j => ?_
  rw [h.bit, Nat.testBit_two_pow_sub_one]
  refine decide_eq_decide.2 ⟨fun hj => h.lt j hj, fun hj => ?_⟩
  by_cases hm : j ∈ out
  ·exact hm
  ·have h4 := (h.add hj (by rw [h.bit, decide_eq_false hm])).len
   simp only [List.length_append, List.length_cons, List.length_nil] at h4
   omega
 ·intro he
  have := nodup_len (List.range n) out List.nodup_range (fun j hj => by
   have h1 := h.bit j
   rw [he, Nat.testBit_two_pow_sub_one, decide_eq_true (List.mem_range.1 hj)] at h1
   exact of_decide_eq_true h1.symm)
  rw [List.length_range] at this
  have := h.len
  omega
theorem graphP_some (ts : List TT) : (graphP ts).isSome = (fineB ts && decide ((orderP (needsM ts)).2 = 2 ^ ts.length - 1)) := by
 unfold graphP
 rw [needsP_eq]
 cases hf : fineB ts with
 | false => rfl
 | true =>
  simp only [if_true, Bool.true_and]
  by_cases h : (orderP (needsM ts)).2 = 2 ^ ts.length - 1
  ·rw [if_pos h, decide_eq_true h]; rfl
  ·rw [if_neg h, decide_eq_false h]; rfl
theorem graphP_fine {ts : List TT} {G : GrN} (h : graphP ts = some G) : fineB ts = true ∧ G.nd = needsM ts ∧ G.ts = ts := by
 obtain ⟨h1, h2, _⟩ := graphP_ok h
 rw [needsP_eq] at h2
 by_cases hf : fineB ts = true
 ·rw [if_pos hf] at h2
  injection h2 with h2
  exact ⟨hf, h2.symm, h1⟩
 ·rw [if_neg hf] at h2; cases h2
theorem validGraph_ev (ts : List TT) (hs : Small ts) : Ev (fun k => spec_validGraph.f k ts) (graphP ts).isSome := by
 unfold spec_validGraph.f
 rw [graphP_some]
 refine Ev.bind (tasksFine_ev ts hs) (Ev.ite (fun hf => ?_) (fun hf => ?_))
 ·obtain ⟨h1, h2⟩ := topOrder_ev ts hs hf
  refine Ev.bind h1 (Ev.eq ?_)
  congr 1
  rw [hf, Bool.true_and, nI_length, Bool.eq_iff_iff, beq_iff_eq, decide_eq_true_iff, ← h2.all]
  omega
 ·rw [Bool.eq_false_iff.2 hf]
  exact Ev.pure _
end Go.Proofs.YtdmeiiedbhfniaaDoor.P
end
section
namespace Go.Proofs.YtdmeiiedbhfniaaDoor.P
open Go.RowKit YtdmeiiedbhfniaaDoorW.PrintWords YtdmeiiedbhfniaaDoorW.PrintLast YtdmeiiedbhfniaaDoorW.PrintMore
mutual
def spec_validDone.j0 : Nat → List (S38) → List Int → Bool → Option (Bool)
 | 0, _, _, _ => none
 | k + 1, x0, x1, x21 => if x21 = true then (some false) else (spec_validDone.l0 k x0 x1 0)
def spec_validDone.l0 : Nat → List (S38) → List Int → Int → Option (Bool)
 | 0, _, _, _ => none
 | k + 1, x0, x1, x5 => if x5 < (x1.length : Int) then (if 0 ≤ x5 then (if 0 ≤ (rd x1 x5) then (if (rd x1 x5) < (x0.length : Int) then ((spec_allDone.f k ((rd_T38 x0 (rd x1 x5)).f1) x1).bind fun t615 => (if t615 = true then (spec_validDone.l0 k x0 x1 (wrap64 (x5 + 1))) else (some false))) else (none)) else (none)) else (none)) else (some true)
end
def spec_validDone.f (k : Nat) (l0 : List (S38)) (l1 : List Int) : Option (Bool) := (spec_validGraph.f k l0).bind fun t610 => (if t610 = true then ((spec_ascends.f k l1).bind fun t611 => (if t611 = true then ((spec_allIn.f k l1 0 (wrap64 ((l0.length : Int) - 1))).bind fun t612 => (spec_validDone.j0 k l0 l1 (!t612))) else (spec_validDone.j0 k l0 l1 true))) else (spec_validDone.j0 k l0 l1 true))
end Go.Proofs.YtdmeiiedbhfniaaDoor.P
end
section
namespace Go.Proofs.YtdmeiiedbhfniaaDoor.P
open Go.RowKit YtdmeiiedbhfniaaDoorW.PrintWords YtdmeiiedbhfniaaDoorW.PrintLast YtdmeiiedbhfniaaDoorW.PrintMore
def spec_ready.l0 : Nat → List (S38) → List Int → List Int → Int → Option (List Int)
 | 0, _, _, _, _ => none
 | k + 1, x0, x1, x5, x6 => if x6 < (x0.length : Int) then ((spec_isIn.f k x1 x6).bind fun t652 => (if t652 = true then (spec_ready.l0 k x0 x1 x5 (wrap64 (x6 + 1))) else (if 0 ≤ x6 then ((spec_allDone.f k ((rd_T38 x0 x6).f1) x1).bind fun t654 => (if t654 = true then (if x5.length < 17592186044416 then (spec_ready.l0 k x0 x1 (x5 ++ [x6]) (wrap64 (x6 + 1))) else (none)) else (spec_ready.l0 k x0 x1 x5 (wrap64 (x6 + 1))))) else (none)))) else (some x5)
def spec_ready.f (k : Nat) (l0 : List (S38)) (l1 : List Int) : Option (List Int) := spec_ready.l0 k l0 l1 (([] : List Int)) 0
end Go.Proofs.YtdmeiiedbhfniaaDoor.P
end
section
namespace Go.Proofs.YtdmeiiedbhfniaaDoor.P
open Go.RowKit YtdmeiiedbhfniaaDoorW.PrintWords YtdmeiiedbhfniaaDoorW.PrintLast YtdmeiiedbhfniaaDoorW.PrintMore
def spec_ReadyTasks.f (k : Nat) (l0 : List (S38)) (l1 : List Int) : Option (List Int) := (spec_validDone.f k l0 l1).bind fun t890 => (if t890 = true then ((spec_ready.f k l0 l1).bind fun t891 => (some t891)) else (some ([] : List Int)))
end Go.Proofs.YtdmeiiedbhfniaaDoor.P
end
section
namespace Go.Proofs.YtdmeiiedbhfniaaDoor.P
open Go.RowKit YtdmeiiedbhfniaaDoorW.PrintWords YtdmeiiedbhfniaaDoorW.PrintLast YtdmeiiedbhfniaaDoorW.PrintMore
mutual
def spec_FinishTask.j0 : Nat → List (S38) → List Int → Int → List Int → Bool → Option (List Int × Bool)
 | 0, _, _, _, _, _ => none
 | k + 1, x0, x1, x2, x8, x22 => if x22 = true then (some (([] : List Int), false)) else (spec_FinishTask.l0 k x0 x1 x2 x8 0)
def spec_FinishTask.l0 : Nat → List (S38) → List Int → Int → List Int → Int → Option (List Int × Bool)
 | 0, _, _, _, _, _ => none
 | k + 1, x0, x1, x2, x8, x9 => if x9 < (x0.length : Int) then (if x9 = x2 then (if x8.length < 17592186044416 then (spec_FinishTask.l0 k x0 x1 x2 (x8 ++ [x9]) (wrap64 (x9 + 1))) else (none)) else ((spec_isIn.f k x1 x9).bind fun t905 => (if t905 = true then (if x8.length < 17592186044416 then (spec_FinishTask.l0 k x0 x1 x2 (x8 ++ [x9]) (wrap64 (x9 + 1))) else (none)) else (spec_FinishTask.l0 k x0 x1 x2 x8 (wrap64 (x9 + 1)))))) else (some (x8, true))
end
def spec_FinishTask.f (k : Nat) (l0 : List (S38)) (l1 : List Int) (a2 : Int) : Option (List Int × Bool) := (some (([] : List Int) : List Int)).bind fun y894 => ((spec_validDone.f k l0 l1).bind fun t897 => (if t897 = true then ((spec_ready.f k l0 l1).bind fun t898 => ((spec_isIn.f k t898 a2).bind fun t901 => (spec_FinishTask.j0 k l0 l1 a2 y894 (!t901)))) else (spec_FinishTask.j0 k l0 l1 a2 y894 true)))
end Go.Proofs.YtdmeiiedbhfniaaDoor.P
end
section
namespace Go.Proofs.YtdmeiiedbhfniaaDoor.P
open Go.RowKit Go.Shelf YtdmeiiedbhfniaaDoorW.PrintWords YtdmeiiedbhfniaaDoorW.PrintLast YtdmeiiedbhfniaaDoorW.PrintMore
def keepsL (ts : List TT) (done : List Int) (d : Int) : Bool := subL (rd_T38 ts d).f1 done
theorem small_rd {ts : List TT} (hs : Small ts) (i : Int) : (rd_T38 ts i).f1.length < 1099511627776 := by
 unfold rd_T38
 rw [List.getD_eq_getElem?_getD]
 cases h : ts[i.toNat]? with
 | none => simp [z38]
 | some t => exact hs.2 t (List.mem_of_getElem? h)
def doneB (ts : List TT) (done : List Int) : Bool := (graphP ts).isSome && ascB done && done.all (inB 0 ((ts.length : Int) - 1)) && done.all (keepsL ts done)
structure DoneOk (ts : List TT) (done : List Int) (G : GrN) (s : Nat) : Prop where
 g : graphP ts = some G
 fine : fineB ts = true
 nd : G.nd = needsM ts
 gts : G.ts = ts
 s : s = maskL done
 asc : ascB done = true
 rng : ∀ x ∈ done, 0 ≤ x ∧ x < ts.length
 keeps : done.all (keepsL ts done) = true
def pickN (p : Nat → Bool) (n : Nat) : List Nat := (List.range n).filter p
theorem bits_pick {m n : Nat} (hn : n ≤ 8) (hm : m < 2 ^ n) (p : Nat → Bool) (h : ∀ i, i < n → m.testBit i = p i) : bitsN m = pickN p n := by
 unfold bitsN pickN
 obtain ⟨c, rfl⟩ : ∃ c, c = 8 - n := ⟨_, rfl⟩
 have h8 : (8 : Nat) = n + (8 - n) := by omega
 rw [h8, List.range_add, List.filter_append]
 have h2 : ((List.range (8 - n)).map (n + ·)).filter (fun i => m.testBit i) = [] := by
  refine List.filter_eq_nil_iff.2 fun x hx => ?_
  obtain ⟨y, _, rfl⟩ := List.mem_map.1 hx
  rw [Nat.testBit_lt_two_pow (Nat.lt_of_lt_of_le hm (Nat.pow_le_pow_right (by omega) (by omega)))]
  simp
 rw [h2, List.append_nil]
 exact List.filter_congr fun x hx => h x (List.mem_range.1 hx)
def pR (ts : List TT) (done : List Int) (i : Nat) : Bool := !decide ((i : Int) ∈ done) && subL (rd_T38 ts (i : Int)).f1 done
def readyL (ts : List TT) (done : List Int) : List Int := nI (pickN (pR ts done) ts.length)
theorem ivs_nI (l : List Nat) : ivs l = nI l := rfl
def pF (done : List Int) (at_ : Int) (i : Nat) : Bool := decide ((i : Int) = at_) || decide ((i : Int) ∈ done)
def finishL (ts : List TT) (done : List Int) (at_ : Int) : List Int := nI (pickN (pF done at_) ts.length)
end Go.Proofs.YtdmeiiedbhfniaaDoor.P
end
section
namespace Go.Proofs.YtdmeiiedbhfniaaDoor.P
open Go.RowKit Go.Shelf YtdmeiiedbhfniaaDoorW.PrintWords YtdmeiiedbhfniaaDoorW.PrintLast YtdmeiiedbhfniaaDoorW.PrintMore
structure RdOk (B : List Int) : Prop where
 len : B.length ≤ 2000
 byte : ∀ x ∈ B, 0 ≤ x ∧ x ≤ 255
theorem RdOk.at {B : List Int} (hB : RdOk B) (i : Int) : 0 ≤ rd B i ∧ rd B i ≤ 255 := by
 unfold rd
 rw [List.getD_eq_getElem?_getD]
 cases h : B[i.toNat]? with
 | none => simp
 | some x => exact hB.byte x (List.mem_of_getElem? h)
def Dr {α : Type} (m p : Int) (good : α → Prop) (f : Nat → Option (α × Int)) : Prop := ∃ r q, Ev f (r, q) ∧ good r ∧ p ≤ q ∧ q ≤ p + m
section
variable {α β : Type} {good good' : α → Prop} {goodb : β → Prop} {m m' n p : Int} {f : Nat → Option (α × Int)}
theorem Dr.mono (h : Dr m p good f) (hm : m ≤ m') (hg : ∀ r, good r → good' r) : Dr m' p good' f := by
 obtain ⟨r, q, h1, h2, h3, h4⟩ := h
 exact ⟨r, q, h1, hg r h2, h3, by omega⟩
theorem Dr.bind {g : Nat → α × Int → Option (β × Int)} (hf : Dr m p good f) (hg : ∀ r q, good r → p ≤ q → q ≤ p + m → Dr n q goodb (fun k => g k (r, q))) : Dr (m + n) p goodb (fun k => (f k).bind (g k)) := by
 obtain ⟨r, q, h1, h2, h3, h4⟩ := hf
 obtain ⟨r', q', e1, e2, e3, e4⟩ := hg r q h2 h3 h4
 exact ⟨r', q', h1.bind e1, e2, by omega, by omega⟩
theorem Dr.bind0 {γ : Type} {f : Nat → Option γ} {x : γ} {g : Nat → γ → Option (β × Int)} (hf : Ev f x) (hg : Dr m p goodb (fun k => g k x)) : Dr m p goodb (fun k => (f k).bind (g k)) := by
 obtain ⟨r', q', e1, e2, e3, e4⟩ := hg
 exact ⟨r', q', hf.bind e1, e2, e3, e4⟩
theorem Dr.pure {r : α} {q : Int} (h : good r) (h1 : p ≤ q) (h2 : q ≤ p + m) : Dr m p good (fun _ => some (r, q)) := ⟨r, q, Ev.pure _, h, h1, h2⟩
theorem Dr.here {r : α} {q : Int} (h : good r) (h0 : 0 ≤ m) : Dr m q good (fun _ => some (r, q)) := ⟨r, q, Ev.pure _, h, Int.le_refl _, by omega⟩
theorem Dr.succ {f : Nat → Option (α × Int)} (h : Dr m p good (fun k => f (k + 1))) : Dr m p good f := by
 obtain ⟨r, q, h1, h2⟩ := h
 exact ⟨r, q, h1.succ, h2⟩
theorem Dr.pos {c : Prop} [Decidable c] {g : Nat → Option (α × Int)} (hc : c) (h : Dr m p good f) : Dr m p good (fun k => if c then f k else g k) := by
 obtain ⟨r, q, h1, h2⟩ := h
 exact ⟨r, q, h1.pos hc, h2⟩
theorem Dr.neg {c : Prop} [Decidable c] {g : Nat → Option (α × Int)} (hc : ¬ c) (h : Dr m p good f) : Dr m p good (fun k => if c then g k else f k) := by
 obtain ⟨r, q, h1, h2⟩ := h
 exact ⟨r, q, h1.neg hc, h2⟩
theorem Dr.ite {c : Prop} [Decidable c] {g : Nat → Option (α × Int)} (h : c → Dr m p good f) (h' : ¬ c → Dr m p good g) : Dr m p good (fun k => if c then f k else g k) := by
 by_cases hc : c
 ·exact Dr.pos hc (h hc)
 ·exact Dr.neg hc (h' hc)
end
theorem xor64_nn (a b : Nat) (ha : a < 2 ^ 62) (hb : b < 2 ^ 62) : 0 ≤ Go.bits .xor .i64 (a : Int) (b : Int) ∧ Go.bits .xor .i64 (a : Int) (b : Int) < 2 ^ 62 := by
 have h1 : (BitVec.ofInt 64 (a : Int)).toNat = a := by
  rw [BitVec.ofInt_natCast, BitVec.toNat_ofNat]; exact Nat.mod_eq_of_lt (by omega)
 have h2 : (BitVec.ofInt 64 (b : Int)).toNat = b := by
  rw [BitVec.ofInt_natCast, BitVec.toNat_ofNat]; exact Nat.mod_eq_of_lt (by omega)
 have h3 : Go.bits .xor .i64 (a : Int) (b : Int) = IntKind.i64.wrap ((a ^^^ b : Nat) : Int) := by
  show IntKind.i64.wrap ((BitVec.ofInt 64 (a : Int) ^^^ BitVec.ofInt 64 (b : Int)).toNat : Int) = _
  rw [BitVec.toNat_xor, h1, h2]
 have h4 : a ^^^ b < 2 ^ 62 := Nat.xor_lt_two_pow ha hb
 rw [h3, IntKind.wrap_i64]
 omega
theorem tmod_in {a n : Int} (ha : 0 ≤ a) (hn : 1 ≤ n) : 0 ≤ Int.tmod a n ∧ Int.tmod a n < n := ⟨Int.tmod_nonneg _ ha, Int.tmod_lt_of_pos _ (by omega)⟩
theorem pick_ev {B : List Int} (hB : RdOk B) (n p : Int) (hp : 0 ≤ p) (hp' : p ≤ 1000000) : Dr 1 p (fun r => 0 ≤ r ∧ (1 ≤ n → r < n) ∧ (n < 1 → r = 0)) (fun k => spec_reader_pick.f k B p n) := by
 have hlen := hB.len
 have e1 : wrap64 (p + 1) = p + 1 := w64 (by omega) (by omega)
 have e2 : wrap64 (p + 1 - 1) = p := by rw [w64 (by omega) (by omega)]; omega
 have e3 : wrap64 (p * 7) = p * 7 := w64 (by omega) (by omega)
 have e4 : wrap64 (p * 7 + 3) = p * 7 + 3 := w64 (by omega) (by omega)
 unfold spec_reader_pick.f
 rw [e1]
 refine Dr.ite (fun hn => ?_) (fun hn => ?_)
 ·refine Dr.succ ?_
  simp only [spec_reader_pick.j0]
  exact Dr.pos (by simp) (Dr.pure ⟨by omega, by omega, fun _ => rfl⟩ (by omega) (by omega))
 ·refine Dr.succ ?_
  simp only [spec_reader_pick.j0, e2]
  refine Dr.ite (fun h0 => Dr.pure ⟨by omega, by omega, by omega⟩ (by omega) (by omega)) (fun h0 => ?_)
  have hB0 : 0 < B.length := by
   rcases Nat.eq_zero_or_pos B.length with h | h
   ·exact absurd (by rw [h]; rfl) h0
   ·exact h
  refine Dr.ite (fun h1 => ?_) (fun h1 => ?_)
  ·refine Dr.pos hp (Dr.neg (by omega) ?_)
   have hb := hB.at p
   rw [w64 (by omega) (by omega)]
   have ht := tmod_in hb.1 (by omega : 1 ≤ n)
   exact Dr.pure ⟨ht.1, fun _ => ht.2, by omega⟩ (by omega) (by omega)
  ·have t1 := tmod_in hp (by omega : (1 : Int) ≤ B.length)
   have t2 := tmod_in (by omega : 0 ≤ p * 7 + 3) (by omega : (1 : Int) ≤ B.length)
   simp only [e3, e4]
   refine Dr.neg (by omega) (Dr.pos t1.1 (Dr.pos t1.2 (Dr.pos t2.1 (Dr.pos t2.2 (Dr.neg (by omega) ?_)))))
   have b1 := hB.at (Int.tmod p (B.length : Int))
   have b2 := hB.at (Int.tmod (p * 7 + 3) (B.length : Int))
   obtain ⟨x1, hx1⟩ : ∃ x, x = rd B (Int.tmod p (B.length : Int)) := ⟨_, rfl⟩
   obtain ⟨x2, hx2⟩ : ∃ x, x = rd B (Int.tmod (p * 7 + 3) (B.length : Int)) := ⟨_, rfl⟩
   obtain ⟨d, hd⟩ : ∃ x, x = Int.tdiv p (B.length : Int) := ⟨_, rfl⟩
   have d0 : 0 ≤ d := by rw [hd]; exact Int.tdiv_nonneg hp (by omega)
   have d1 : d ≤ p := by rw [hd, Int.tdiv_eq_ediv_of_nonneg hp]; exact Int.ediv_le_self _ hp
   rw [← hx1] at b1 ⊢
   rw [← hx2] at b2 ⊢
   rw [← hd]
   simp only [w64 (n := x1) (by omega) (by omega), w64 (n := x2) (by omega) (by omega), w64 (n := x1 * 131) (by omega) (by omega), w64 (n := x2 * 1117) (by omega) (by omega), w64 (n := p * 29) (by omega) (by omega), w64 (n := d) (by omega) (by omega), w64 (n := d * 53) (by omega) (by omega),
    w64 (n := x1 * 131 + x2 * 1117) (by omega) (by omega), w64 (n := x1 * 131 + x2 * 1117 + p * 29) (by omega) (by omega), w64 (n := x1 * 131 + x2 * 1117 + p * 29 + d * 53) (by omega) (by omega)]
   obtain ⟨s, hs⟩ : ∃ s : Nat, x1 * 131 + x2 * 1117 + p * 29 + d * 53 = (s : Int) := ⟨(x1 * 131 + x2 * 1117 + p * 29 + d * 53).toNat, by omega⟩
   have hs2 : s < 1000000000000 := by omega
   rw [hs]
   have hdiv : wrap64 (Int.tdiv (s : Int) 64) = ((s / 64 : Nat) : Int) := by
    rw [Int.tdiv_eq_ediv_of_nonneg (by omega), w64 (by omega) (by omega)]; omega
   rw [hdiv]
   have hx := xor64_nn s (s / 64) (by omega) (by omega)
   have ht := tmod_in hx.1 (by omega : 1 ≤ n)
   exact Dr.pure ⟨ht.1, fun _ => ht.2, by omega⟩ (by omega) (by omega)
theorem one_ev {B : List Int} (hB : RdOk B) (l : List Int) (p : Int) (hl : 0 < l.length) (hp : 0 ≤ p) (hp' : p ≤ 1000000) : Dr 1 p (fun r => r ∈ l) (fun k => spec_reader_one.f k B p l) := by
 unfold spec_reader_one.f
 refine ((pick_ev hB (l.length : Int) p hp hp').bind (n := 0) (fun r q hr h1 h2 => ?_)).mono (by omega) (fun _ h => h)
 have h3 := hr.2.1 (by omega)
 refine Dr.pos hr.1 (Dr.pos h3 (Dr.here ?_ (by omega)))
 unfold rd
 rw [List.getD_eq_getElem?_getD, List.getElem?_eq_getElem (by omega)]
 exact List.getElem_mem _
theorem copyInts_eq (l : List Int) (h : l.length < 1099511627776) : spec_copyInts.f l = some l := by
 unfold spec_copyInts.f
 simp only [Option.bind_some]
 rw [if_pos (by simp; omega)]
 rfl
theorem spoil_ev {B : List Int} (hB : RdOk B) (l : List Int) (n p : Int) (hl : l.length ≤ 1000) (hp : 0 ≤ p) (hp' : p ≤ 900000) : Dr 3 p (fun r => r.length ≤ l.length + 1) (fun k => spec_reader_spoil.f k B p l n) := by
 unfold spec_reader_spoil.f
 refine Dr.bind0 (Ev.eq (copyInts_eq l (by omega))) (((pick_ev hB 20 p hp (by omega)).bind (n := 2) (fun r q hr h1 h2 => ?_)).mono (by omega) (fun _ h => h))
 refine Dr.ite (fun _ => Dr.pos (by omega) (Dr.here (by simp) (by omega))) (fun _ => Dr.ite (fun _ => ?_) (fun _ => Dr.ite (fun _ => ?_) (fun _ => Dr.here (by simp) (by omega))))
 ·exact Dr.ite (fun h => Dr.pos (by omega) (Dr.here (by simp; omega) (by omega))) (fun _ => Dr.here (by simp) (by omega))
 ·refine Dr.ite (fun h => ?_) (fun _ => Dr.here (by simp) (by omega))
  refine ((pick_ev hB (l.length : Int) q (by omega) (by omega)).bind (n := 1) (fun r2 q2 hr2 h3 h4 => ?_)).mono (by omega) (fun _ h => h)
  refine ((one_ev hB _ q2 (by simp) (by omega) (by omega)).bind (n := 0) (fun r3 q3 hr3 h5 h6 => ?_)).mono (by omega) (fun _ h => h)
  exact Dr.pos hr2.1 (Dr.pos (hr2.2.1 (by omega)) (Dr.here (by simp) (by omega)))
def GB (L M : Nat) (ts : List TT) : Prop := ts.length ≤ L ∧ ∀ t ∈ ts, t.f1.length ≤ M
theorem GB.small {L M : Nat} {ts : List TT} (h : GB L M ts) (hL : L ≤ 1000) (hM : M ≤ 1000) : Small ts := ⟨by have := h.1; omega, fun t ht => by have := h.2 t ht; omega⟩
theorem GB.snoc {L M : Nat} {ts : List TT} {t : TT} (h : GB L M ts) (ht : t.f1.length ≤ M) : GB (L + 1) M (ts ++ [t]) :=
 ⟨by have := h.1; simp; omega, fun x hx => by
  rcases List.mem_append.1 hx with hx | hx
  ·exact h.2 x hx
  ·rw [List.mem_singleton.1 hx]; exact ht⟩
theorem GB.set {L M : Nat} {ts : List TT} {t : TT} {i : Nat} (h : GB L M ts) (ht : t.f1.length ≤ M) : GB L M (ts.set i t) :=
 ⟨by have := h.1; simp; omega, fun x hx => by
  rcases List.mem_or_eq_of_mem_set hx with hx | hx
  ·exact h.2 x hx
  ·rw [hx]; exact ht⟩
theorem GB.mono {L M L' M' : Nat} {ts : List TT} (h : GB L M ts) (hL : L ≤ L') (hM : M ≤ M') : GB L' M' ts := ⟨by have := h.1; omega, fun x hx => by have := h.2 x hx; omega⟩
theorem GB.rd {L M : Nat} {ts : List TT} (h : GB L M ts) (i : Int) : (rd_T38 ts i).f1.length ≤ M := by
 unfold rd_T38
 rw [List.getD_eq_getElem?_getD]
 cases hh : ts[i.toNat]? with
 | none => simp [z38]
 | some t => exact h.2 t (List.mem_of_getElem? hh)
theorem turned_l1 (Q : List TT → Prop) (g : List TT) (out : List TT) (last i : Int) (a b c : Int) (nd : List Int) (hn : nd.length ≤ 1000)
  (hgo : ∀ acc : List Int, acc.length ≤ nd.length → ∃ r : List TT, Ev (fun k => spec_turned.l0 k g (out ++ [⟨a, acc, b, c⟩]) last (wrap64 (i - 1))) r ∧ Q r) (ho : out.length ≤ 1000) :
  ∀ (m : Nat) (acc : List Int), m ≤ nd.length → acc.length + m ≤ nd.length → ∃ r : List TT, Ev (fun k => spec_turned.l1 k g out last i acc ((m : Int) - 1) a nd b c) r ∧ Q r
 | 0, acc, _, ha => by
  obtain ⟨r, h1, h2⟩ := hgo acc (by omega)
  refine ⟨r, Ev.succ ?_, h2⟩
  simp only [spec_turned.l1]
  exact Ev.neg (by omega) (Ev.pos (by omega) h1)
 | m + 1, acc, hm, ha => by
  have hw : wrap64 (((m + 1 : Nat) : Int) - 1 - 1) = (m : Int) - 1 := by rw [w64 (by omega) (by omega)]; omega
  obtain ⟨r, h1, h2⟩ := turned_l1 Q g out last i a b c nd hn hgo ho m (acc ++ [wrap64 (last - Go.Proofs.YtdmeiiedbhfniaaDoorW.PrintWords.rd nd (((m + 1 : Nat) : Int) - 1))]) (by omega) (by simp only [List.length_append, List.length_cons, List.length_nil]; omega)
  refine ⟨r, Ev.succ ?_, h2⟩
  simp only [spec_turned.l1, hw]
  exact Ev.pos (by omega) (Ev.pos (by omega) (Ev.pos (by omega) (Ev.pos (by omega) h1)))
theorem turned_l0 (L M : Nat) (hL : L ≤ 1000) (hM : M ≤ 1000) (g : List TT) (hg : GB L M g) (last : Int) : ∀ (m : Nat) (out : List TT), m ≤ g.length → GB (g.length - m) M out → ∃ r, Ev (fun k => spec_turned.l0 k g out last ((m : Int) - 1)) r ∧ GB L M r
 | 0, out, _, ho => by
  refine ⟨out, Ev.succ ?_, ho.mono (by have := hg.1; omega) (Nat.le_refl _)⟩
  simp only [spec_turned.l0]
  exact Ev.neg (by omega) (Ev.pure _)
 | m + 1, out, hm, ho => by
  have hgl := hg.1
  have hol := ho.1
  have hrd := hg.rd (((m + 1 : Nat) : Int) - 1)
  have hw : wrap64 (((m + 1 : Nat) : Int) - 1 - 1) = (m : Int) - 1 := by rw [w64 (by omega) (by omega)]; omega
  obtain ⟨t, ht⟩ : ∃ t, t = rd_T38 g (((m + 1 : Nat) : Int) - 1) := ⟨_, rfl⟩
  rw [← ht] at hrd
  have hw2 : wrap64 ((t.f1.length : Int) - 1) = (t.f1.length : Int) - 1 := w64 (by omega) (by omega)
  obtain ⟨r, h1, h2⟩ := turned_l1 (GB L M) g out last (((m + 1 : Nat) : Int) - 1) t.f0 t.f2 t.f3 t.f1 (by omega) (fun acc ha => by
   rw [hw]
   exact turned_l0 L M hL hM g hg last m _ (by omega) ((ho.snoc (t := ⟨t.f0, acc, t.f2, t.f3⟩) (by show acc.length ≤ M; omega)).mono (by omega) (Nat.le_refl _))) (by omega) t.f1.length [] (Nat.le_refl _) (by simp)
  refine ⟨r, Ev.succ ?_, h2⟩
  simp only [spec_turned.l0, ← ht, hw2]
  exact Ev.pos (by omega) (Ev.pos (by omega) (Ev.pos (by omega) h1))
theorem turned_ev (L M : Nat) (hL : L ≤ 1000) (hM : M ≤ 1000) (g : List TT) (hg : GB L M g) : ∃ r, Ev (fun k => spec_turned.f k g) r ∧ GB L M r := by
 unfold spec_turned.f
 have hgl := hg.1
 rw [w64 (by omega) (by omega)]
 exact turned_l0 L M hL hM g hg _ g.length [] (Nat.le_refl _) ⟨by simp, fun t ht => by cases ht⟩
theorem some_l1 {B : List Int} (hB : RdOk B) (M : Int) (hM : 0 ≤ M) (good : List TT → Prop) (g : List TT) (hg : g.length ≤ 8) (n : Int) (a b c : Int) (E : Int) (hE : E ≤ 10000)
  (hgo : ∀ (acc : List Int) (q : Int), acc.length ≤ g.length → 0 ≤ q → q ≤ E → Dr M q good (fun k => spec_someGraph.l0 k (g ++ [⟨a, acc, b, c⟩]) (wrap64 (n - 1)) B q)) :
  ∀ (m j : Nat) (acc : List Int) (p : Int), j + m = g.length → acc.length ≤ j → 0 ≤ p → p + m ≤ E → Dr (m + M) p good (fun k => spec_someGraph.l1 k g n (j : Int) B p a acc b c)
 | 0, j, acc, p, hj, ha, hp, hp' => by
  refine Dr.succ ?_
  simp only [spec_someGraph.l1]
  exact Dr.neg (by omega) (Dr.pos (by omega) ((hgo acc p (by omega) hp (by omega)).mono (by omega) (fun _ h => h)))
 | m + 1, j, acc, p, hj, ha, hp, hp' => by
  have hw : wrap64 ((j : Int) + 1) = ((j + 1 : Nat) : Int) := w64n j (by omega)
  refine Dr.succ ?_
  simp only [spec_someGraph.l1, hw]
  refine Dr.pos (by omega) (((pick_ev hB 3 p hp (by omega)).bind (n := m + M) (fun r q hr h1 h2 => ?_)).mono (by omega) (fun _ h => h))
  exact Dr.ite (fun _ => Dr.pos (by omega) (some_l1 hB M hM good g hg n a b c E hE hgo m (j + 1) _ q (by omega) (by simp only [List.length_append, List.length_cons, List.length_nil]; omega) (by omega) (by omega))) (fun _ => some_l1 hB M hM good g hg n a b c E hE hgo m (j + 1) acc q (by omega) (by omega) (by omega) (by omega))
theorem some_l0 {B : List Int} (hB : RdOk B) : ∀ (n : Nat) (g : List TT) (p : Int), g.length + n ≤ 8 → GB 8 8 g → 0 ≤ p → p + 11 * n ≤ 5000 → Dr (11 * n + 1) p (GB 8 8) (fun k => spec_someGraph.l0 k g (n : Int) B p)
 | 0, g, p, hn, hg, hp, hp' => by
  refine Dr.succ ?_
  simp only [spec_someGraph.l0]
  refine Dr.neg (by omega) (Dr.ite (fun h => ?_) (fun h => Dr.here hg (by omega)))
  refine ((pick_ev hB 4 p hp (by omega)).bind (n := 0) (fun r q hr h1 h2 => ?_)).mono (by omega) (fun _ h => h)
  obtain ⟨t, h3, h4⟩ := turned_ev 8 8 (by omega) (by omega) g hg
  exact Dr.ite (fun _ => Dr.bind0 h3 (Dr.here h4 (by omega))) (fun _ => Dr.here hg (by omega))
 | n + 1, g, p, hn, hg, hp, hp' => by
  have hw : wrap64 (((n + 1 : Nat) : Int) - 1) = (n : Int) := by rw [w64 (by omega) (by omega)]; omega
  refine Dr.succ ?_
  simp only [spec_someGraph.l0]
  refine Dr.pos (by omega) (((one_ev hB _ p (by simp) hp (by omega)).bind (n := 2 + (8 + (11 * n + 1))) (fun r q hr h1 h2 => ?_)).mono (by omega) (fun _ h => h))
  refine ((pick_ev hB 3 q (by omega) (by omega)).bind (n := 1 + (8 + (11 * n + 1))) (fun r2 q2 hr2 h3 h4 => ?_)).mono (by omega) (fun _ h => h)
  refine ((pick_ev hB 4 q2 (by omega) (by omega)).bind (n := 8 + (11 * n + 1)) (fun r3 q3 hr3 h5 h6 => ?_)).mono (by omega) (fun _ h => h)
  refine (some_l1 hB (11 * n + 1) (by omega) (GB 8 8) g (by omega) ((n + 1 : Nat) : Int) r r2 (wrap64 (1 + r3)) (q3 + g.length) (by omega) (fun acc q4 ha h7 h8 => ?_) g.length 0 [] q3 (by omega) (by simp) (by omega) (by omega)).mono (by omega) (fun _ h => h)
  rw [hw]
  exact some_l0 hB n _ q4 (by simp; omega) ⟨by simp; omega, (hg.snoc (t := ⟨r, acc, r2, wrap64 (1 + r3)⟩) (by show acc.length ≤ 8; omega)).2⟩ h7 (by omega)
theorem someGraph_ev {B : List Int} (hB : RdOk B) (p : Int) (hp : 0 ≤ p) (hp' : p ≤ 1000) : Dr 100 p (GB 8 8) (fun k => spec_someGraph.f k B p 8) := by
 unfold spec_someGraph.f
 refine ((one_ev hB _ p (by simp) hp (by omega)).bind (n := 99) (fun r q hr h1 h2 => ?_)).mono (by omega) (fun _ h => h)
 obtain ⟨n, hn, hn8⟩ : ∃ n : Nat, mn 8 r = (n : Int) ∧ n ≤ 8 := by
  simp only [List.mem_cons, List.not_mem_nil, or_false] at hr
  unfold mn
  rcases hr with h | h | h | h | h | h | h | h <;> subst h
  ·exact ⟨4, by decide, by omega⟩
  ·exact ⟨5, by decide, by omega⟩
  ·exact ⟨3, by decide, by omega⟩
  ·exact ⟨6, by decide, by omega⟩
  ·exact ⟨2, by decide, by omega⟩
  ·exact ⟨1, by decide, by omega⟩
  ·exact ⟨0, by decide, by omega⟩
  ·exact ⟨8, by decide, by omega⟩
 rw [hn]
 exact (some_l0 hB n [] q (by simpa using hn8) ⟨by simp, fun t ht => by cases ht⟩ (by omega) (by omega)).mono (by omega) (fun _ h => h)
theorem anyGraph_ev {B : List Int} (hB : RdOk B) (p : Int) (hp : 0 ≤ p) (hp' : p ≤ 100) : Dr 300 p (GB 16 16) (fun k => spec_anyGraph.f k B p) := by
 unfold spec_anyGraph.f
 refine ((someGraph_ev hB p hp (by omega)).bind (n := 200) (fun g q hg h1 h2 => ?_)).mono (by omega) (fun _ h => h)
 have hg16 := hg.mono (L' := 16) (M' := 16) (by omega) (by omega)
 have hgl := hg.1
 refine Dr.ite (fun _ => Dr.here hg16 (by omega)) (fun h0 => ?_)
 have h0' : ¬ (g.length : Int) = 0 := h0
 refine ((pick_ev hB (g.length : Int) q (by omega) (by omega)).bind (n := 199) (fun a q2 ha h3 h4 => ?_)).mono (by omega) (fun _ h => h)
 have ha2 := ha.2.1 (by omega)
 refine ((pick_ev hB 24 q2 (by omega) (by omega)).bind (n := 198) (fun b q3 hb h5 h6 => ?_)).mono (by omega) (fun _ h => h)
 have hrd := hg.rd a
 refine Dr.ite (fun _ => ?_) (fun _ => Dr.ite (fun _ => ?_) (fun _ => Dr.ite (fun _ => ?_) (fun _ => Dr.ite (fun _ => ?_) (fun _ => Dr.ite (fun _ => ?_) (fun _ => Dr.here hg16 (by omega))))))
 ·refine ((one_ev hB _ q3 (by simp) (by omega) (by omega)).bind (n := 0) (fun r q4 hr h7 h8 => ?_)).mono (by omega) (fun _ h => h)
  exact Dr.pos ha.1 (Dr.pos ha2 (Dr.here (hg16.set (by show _ ≤ 16; dsimp only; omega)) (by omega)))
 ·refine Dr.pos ha.1 (Dr.pos ha2 (Dr.bind0 (Ev.pure _) ?_))
  refine ((pick_ev hB (g.length : Int) q3 (by omega) (by omega)).bind (n := 3) (fun r q4 hr h7 h8 => ?_)).mono (by omega) (fun _ h => h)
  refine Dr.bind0 (Ev.pure _) (Dr.pos (by simp only [List.length_cons, List.length_nil]; omega) ?_)
  refine ((spoil_ev hB _ 8 q4 (by simp only [List.length_append, List.length_cons, List.length_nil]; omega) (by omega) (by omega)).bind (n := 0) (fun r2 q5 hr2 h9 h10 => ?_)).mono (by omega) (fun _ h => h)
  simp only [List.length_append, List.length_cons, List.length_nil] at hr2
  exact Dr.here (hg16.set (by show r2.length ≤ 16; omega)) (by omega)
 ·refine ((one_ev hB _ q3 (by simp) (by omega) (by omega)).bind (n := 0) (fun r q4 hr h7 h8 => ?_)).mono (by omega) (fun _ h => h)
  exact Dr.pos ha.1 (Dr.pos ha2 (Dr.here (hg16.set (by show _ ≤ 16; dsimp only; omega)) (by omega)))
 ·refine ((one_ev hB _ q3 (by simp) (by omega) (by omega)).bind (n := 0) (fun r q4 hr h7 h8 => ?_)).mono (by omega) (fun _ h => h)
  exact Dr.pos ha.1 (Dr.pos ha2 (Dr.here (hg16.set (by show _ ≤ 16; dsimp only; omega)) (by omega)))
 ·refine ((someGraph_ev hB q3 (by omega) (by omega)).bind (n := 0) (fun r q4 hr h7 h8 => ?_)).mono (by omega) (fun _ h => h)
  have hrl := hr.1
  refine Dr.pos (by show g.length + r.length < _; omega) (Dr.here (show GB 16 16 (g ++ r) from ⟨by simp; omega, fun t ht => ?_⟩) (by omega))
  rcases List.mem_append.1 ht with ht | ht
  ·have := hg.2 t ht; omega
  ·have := hr.2 t ht; omega
theorem newReader_ev (l : List Int) (hb : ∀ x ∈ l, (Lit.int .u8 x).wf = true) : ∃ B : List Int, spec_newReader.f l = some (B, 0) ∧ RdOk B := by
 have hbyte : ∀ x ∈ l, 0 ≤ x ∧ x ≤ 255 := fun x hx => by
  have := hb x hx
  have h2 : (decide (IntKind.u8.min ≤ x) && decide (x ≤ IntKind.u8.max)) = true := this
  rw [Bool.and_eq_true, decide_eq_true_eq, decide_eq_true_eq] at h2
  exact h2
 unfold spec_newReader.f
 by_cases h : (l.length : Int) > 2000
 ·rw [if_pos h, if_pos (by omega)]
  exact ⟨_, rfl, by simp; omega, fun x hx => hbyte x (List.mem_of_mem_take hx)⟩
 ·rw [if_neg h]
  exact ⟨_, rfl, by omega, hbyte⟩
end Go.Proofs.YtdmeiiedbhfniaaDoor.P
end
section
namespace Go.Proofs.YtdmeiiedbhfniaaDoor.P
open Go.RowKit YtdmeiiedbhfniaaDoorW.PrintWords YtdmeiiedbhfniaaDoorW.PrintLast YtdmeiiedbhfniaaDoorW.PrintMore
def spec_someDone.l0 : Nat → List (S38) → List Int → Int → List Int → Int → Option (List Int × Int)
 | 0, _, _, _, _, _ => none
 | k + 1, x1, x5, x6, x1000, x1001 => if x6 > 0 then ((spec_ReadyTasks.f k x1 x5).bind fun t918 => (if (t918.length : Int) > 0 then ((spec_reader_pick.f k x1000 x1001 (t918.length : Int)).bind fun bt921 => (if 0 ≤ bt921.1 then (if bt921.1 < (t918.length : Int) then ((spec_FinishTask.f k x1 x5 (rd t918 bt921.1)).bind fun bt924 => (if bt924.2 = true then (spec_someDone.l0 k x1 bt924.1 (wrap64 (x6 - 1)) x1000 bt921.2) else (spec_someDone.l0 k x1 x5 (wrap64 (x6 - 1)) x1000 bt921.2))) else (none)) else (none))) else (spec_someDone.l0 k x1 x5 (wrap64 (x6 - 1)) x1000 x1001))) else ((spec_reader_spoil.f k x1000 x1001 x5 8).bind fun bt914 => (some (bt914.1, bt914.2)))
def spec_someDone.f (k : Nat) (s0_0 : List Int) (s0_1 : Int) (l1 : List (S38)) : Option (List Int × Int) := (spec_reader_pick.f k s0_0 s0_1 (wrap64 ((l1.length : Int) + 1))).bind fun bt912 => (spec_someDone.l0 k l1 (([] : List Int)) bt912.1 s0_0 bt912.2)
end Go.Proofs.YtdmeiiedbhfniaaDoor.P
end
section
namespace Go.Proofs.YtdmeiiedbhfniaaDoor.P
open Go.RowKit Go.Shelf YtdmeiiedbhfniaaDoorW.PrintWords YtdmeiiedbhfniaaDoorW.PrintLast YtdmeiiedbhfniaaDoorW.PrintMore
def sumP (ts : List TT) (p : Nat → Bool) (l : List Nat) : Int := l.foldl (fun (a : Int) (i : Nat) => if p i then a + (rd_T38 ts (i : Int)).f0 else a) 0
theorem sum_fold (ts : List TT) (p : Nat → Bool) : ∀ (l : List Nat) (a : Int), l.foldl (fun (a : Int) (i : Nat) => if p i then a + (rd_T38 ts (i : Int)).f0 else a) a = a + sumP ts p l
 | [], a => by simp [sumP]
 | i :: l, a => by
  unfold sumP
  rw [List.foldl_cons, List.foldl_cons, sum_fold ts p l, sum_fold ts p l]
  split <;> omega
theorem sum_cons (ts : List TT) (p : Nat → Bool) (i : Nat) (l : List Nat) : sumP ts p (i :: l) = (if p i then (rd_T38 ts (i : Int)).f0 else 0) + sumP ts p l := by
 show (i :: l).foldl _ 0 = _
 rw [List.foldl_cons, sum_fold]
 split <;> omega
def inD (done : List Int) (i : Nat) : Bool := decide ((i : Int) ∈ done)
end Go.Proofs.YtdmeiiedbhfniaaDoor.P
end
section
namespace Go.Proofs.YtdmeiiedbhfniaaDoor.P
open Go.RowKit Go.Shelf YtdmeiiedbhfniaaDoorW.PrintWords YtdmeiiedbhfniaaDoorW.PrintLast YtdmeiiedbhfniaaDoorW.PrintMore
theorem pairwise_asc : ∀ (l : List Int), ascB l = true → l.Pairwise (· < ·)
 | [], _ => List.Pairwise.nil
 | [x], _ => List.pairwise_singleton _ _
 | x :: y :: r, h => by
  rw [ascB, Bool.and_eq_true, decide_eq_true_eq] at h
  have h2 := pairwise_asc (y :: r) h.2
  refine List.pairwise_cons.2 ⟨fun z hz => ?_, h2⟩
  rcases List.mem_cons.1 hz with rfl | hz
  ·exact h.1
  ·have := (List.pairwise_cons.1 h2).1 z hz
   omega
theorem asc_ext : ∀ (a b : List Int), a.Pairwise (· < ·) → b.Pairwise (· < ·) → (∀ x, x ∈ a ↔ x ∈ b) → a = b
 | [], [], _, _, _ => rfl
 | [], y :: b, _, _, h => absurd ((h y).2 List.mem_cons_self) List.not_mem_nil
 | x :: a, [], _, _, h => absurd ((h x).1 List.mem_cons_self) List.not_mem_nil
 | x :: a, y :: b, ha, hb, h => by
  have ha2 := List.pairwise_cons.1 ha
  have hb2 := List.pairwise_cons.1 hb
  have hxy : x = y := by
   rcases List.mem_cons.1 ((h x).1 List.mem_cons_self) with e | e
   ·exact e
   ·rcases List.mem_cons.1 ((h y).2 List.mem_cons_self) with e2 | e2
    ·exact e2.symm
    ·have := hb2.1 x e
     have := ha2.1 y e2
     omega
  subst hxy
  rw [asc_ext a b ha2.2 hb2.2 (fun z => ⟨fun hz => ?_, fun hz => ?_⟩)]
  ·rcases List.mem_cons.1 ((h z).1 (List.mem_cons_of_mem _ hz)) with e | e
   ·have := ha2.1 z hz
    omega
   ·exact e
  ·rcases List.mem_cons.1 ((h z).2 (List.mem_cons_of_mem _ hz)) with e | e
   ·have := hb2.1 z hz
    omega
   ·exact e
theorem nI_pick_pairwise (p : Nat → Bool) (n : Nat) : (nI (pickN p n)).Pairwise (· < ·) := by
 unfold nI pickN
 rw [List.pairwise_map]
 exact (List.Pairwise.filter _ List.pairwise_lt_range).imp (fun h => by omega)
theorem mem_nI_pick {p : Nat → Bool} {n : Nat} {x : Int} : x ∈ nI (pickN p n) ↔ (0 ≤ x ∧ x < n) ∧ p x.toNat = true := by
 unfold pickN nI
 rw [List.mem_map]
 constructor
 ·rintro ⟨i, hi, rfl⟩
  rw [List.mem_filter, List.mem_range] at hi
  exact ⟨by omega, by simpa using hi.2⟩
 ·rintro ⟨h1, h2⟩
  exact ⟨x.toNat, List.mem_filter.2 ⟨List.mem_range.2 (by omega), h2⟩, by omega⟩
theorem equal_go : ∀ (a pre b : List Int), pre.length + a.length < 1099511627776 → a.length = b.length → Ev (fun k => laws_equalInts.l0 k (pre ++ a) (pre ++ b) (pre.length : Int)) (decide (a = b))
 | [], pre, b, _, hl => by
  have hb : b = [] := List.length_eq_zero_iff.1 (by simpa using hl.symm)
  subst hb
  refine Ev.succ ?_
  simp only [laws_equalInts.l0]
  exact Ev.neg (len_nlt pre) (Ev.eq (by simp))
 | x :: a, pre, [], _, hl => by simp at hl
 | x :: a, pre, y :: b, h, hl => by
  have hpl : pre.length < 1099511627776 := by omega
  refine Ev.succ ?_
  simp only [laws_equalInts.l0, rdm]
  refine Ev.pos (len_lt _ _ _) (Ev.pos (by omega) (Ev.pos (len_lt _ _ _) (Ev.ite (fun hc => ?_) (fun hc => ?_))))
  ·subst hc
   rw [len_next pre x (by omega), snoc_eq pre x a, snoc_eq pre x b, show decide (x :: a = x :: b) = decide (a = b) from decide_eq_decide.2 (by simp)]
   exact equal_go a (pre ++ [x]) b (by simp only [List.length_append, List.length_cons, List.length_nil] at h ⊢; omega) (by simpa using hl)
  ·rw [decide_eq_false (by simp [hc])]
   exact Ev.pure _
theorem equalInts_ev (a b : List Int) (h : a.length < 1099511627776) : Ev (fun k => laws_equalInts.f k a b) (decide (a = b)) := by
 unfold laws_equalInts.f
 refine Ev.ite (fun hl => ?_) (fun hl => ?_)
 ·exact equal_go a [] b (by simpa using h) (by omega)
 ·rw [decide_eq_false (fun e => hl (by rw [e]))]
  exact Ev.pure _
end Go.Proofs.YtdmeiiedbhfniaaDoor.P
end
section
namespace Go.Proofs.YtdmeiiedbhfniaaDoor.P
open Go.RowKit Go.Shelf YtdmeiiedbhfniaaDoorW.PrintWords YtdmeiiedbhfniaaDoorW.PrintLast YtdmeiiedbhfniaaDoorW.PrintMore
theorem validRoom_ev (room : List Int) (h : room.length < 1099511627776) : Ev (fun k => spec_validRoom.f k room) (roomP room) := by
 unfold spec_validRoom.f roomP
 refine Ev.ite (fun hl => ?_) (fun hl => ?_)
 ·rw [decide_eq_true (by omega), Bool.true_and]
  exact Ev.bind (allIn_ev room 4 8 (by omega)) (Ev.pure _)
 ·rw [decide_eq_false (by omega), Bool.false_and]
  exact Ev.pure _
def unitsIn (ts : List TT) (p : Int) (i : Int) : Int := if (rd_T38 ts i).f2 = p then (rd_T38 ts i).f3 else 0
def usedL (ts : List TT) (l : List Int) (p : Int) : Int := (l.map (unitsIn ts p)).sum
theorem usedL_snoc (ts : List TT) (l : List Int) (x p : Int) : usedL ts (l ++ [x]) p = usedL ts l p + unitsIn ts p x := by simp [usedL]
structure Fine (ts : List TT) : Prop where
 n8 : ts.length ≤ 8
 pool : ∀ i : Int, 0 ≤ i → i < ts.length → 0 ≤ (rd_T38 ts i).f2 ∧ (rd_T38 ts i).f2 ≤ 2
 units : ∀ i : Int, 0 ≤ i → i < ts.length → 1 ≤ (rd_T38 ts i).f3 ∧ (rd_T38 ts i).f3 ≤ 4
theorem Fine.of {ts : List TT} (hf : fineB ts = true) : Fine ts := by
 have key : ∀ i : Int, 0 ≤ i → i < ts.length → (0 ≤ (rd_T38 ts i).f2 ∧ (rd_T38 ts i).f2 ≤ 2) ∧ (1 ≤ (rd_T38 ts i).f3 ∧ (rd_T38 ts i).f3 ≤ 4) := fun i h0 h1 => by
  have h := fine_task hf (i := i.toNat) (by omega)
  have e := rdT_at ts i.toNat (by omega)
  rw [Int.toNat_of_nonneg h0] at e
  rw [e]
  unfold taskB at h
  simp only [Bool.and_eq_true, inB, decide_eq_true_eq] at h
  exact ⟨h.1.1.1.2, h.1.1.2⟩
 exact ⟨fine_len hf, fun i h0 h1 => (key i h0 h1).1, fun i h0 h1 => (key i h0 h1).2⟩
def InR (ts : List TT) (l : List Int) : Prop := ∀ x ∈ l, 0 ≤ x ∧ x < ts.length
theorem unitsIn_in {ts : List TT} (hf : Fine ts) {i : Int} (h0 : 0 ≤ i) (h1 : i < ts.length) (p : Int) : 0 ≤ unitsIn ts p i ∧ unitsIn ts p i ≤ 4 := by
 have := hf.units i h0 h1
 unfold unitsIn
 split <;> omega
theorem usedL_in {ts : List TT} (hf : Fine ts) (p : Int) : ∀ (l : List Int), InR ts l → 0 ≤ usedL ts l p ∧ usedL ts l p ≤ 4 * l.length
 | [], _ => by simp [usedL]
 | x :: l, h => by
  have h1 := h x List.mem_cons_self
  have h2 := unitsIn_in hf h1.1 h1.2 p
  have h3 := usedL_in hf p l (fun y hy => h y (List.mem_cons_of_mem _ hy))
  have e : usedL ts (x :: l) p = unitsIn ts p x + usedL ts l p := by simp [usedL]
  rw [e, List.length_cons]
  omega
theorem used_go (ts : List TT) (hf : Fine ts) (run : List Int) (hr : InR ts run) (hl : run.length < 1099511627776) (p : Int) : ∀ (r pre : List Int), pre ++ r = run → Ev (fun k => spec_used.l0 k ts run p (usedL ts pre p) (pre.length : Int)) (usedL ts run p)
 | [], pre, he => by
  rw [List.append_nil] at he
  subst he
  refine Ev.succ ?_
  simp only [spec_used.l0]
  exact Ev.neg (by omega) (Ev.pure _)
 | x :: r, pre, he => by
  have hx := hr x (by rw [← he]; simp)
  have h1 : rd run (pre.length : Int) = x := by rw [← he]; exact rdm pre x r
  have h2 : (pre.length : Int) < (run.length : Int) := by rw [← he]; exact len_lt _ _ _
  have hpre : InR ts pre := fun y hy => hr y (by rw [← he]; exact List.mem_append_left _ hy)
  have hu := usedL_in hf p pre hpre
  have hun := hf.units x hx.1 hx.2
  have hpl : pre.length < 1099511627776 := by omega
  refine Ev.succ ?_
  simp only [spec_used.l0, h1]
  have hgo := used_go ts hf run hr hl p r (pre ++ [x]) (by rw [← he]; simp)
  rw [usedL_snoc] at hgo
  refine Ev.pos h2 (Ev.pos (by omega) (Ev.pos hx.1 (Ev.pos hx.2 (Ev.ite (fun hc => ?_) (fun hc => ?_)))))
  ·rw [len_next pre x (by omega), w64 (by omega) (by omega)]
   unfold unitsIn at hgo
   rw [if_pos hc] at hgo
   exact hgo
  ·rw [len_next pre x (by omega)]
   unfold unitsIn at hgo
   rw [if_neg hc, Int.add_zero] at hgo
   exact hgo
theorem used_ev (ts : List TT) (hf : Fine ts) (run : List Int) (hr : InR ts run) (hl : run.length < 1099511627776) (p : Int) : Ev (fun k => spec_used.f k ts run p) (usedL ts run p) := used_go ts hf run hr hl p run [] rfl
theorem addU_used {ts : List TT} (hf : Fine ts) {l : List Int} (hl : InR ts l) (hn : l.length ≤ 1000) {x : Int} (h0 : 0 ≤ x) (h1 : x < ts.length) :
  addU [usedL ts l 0, usedL ts l 1, usedL ts l 2] (rd_T38 ts x).f2 (rd_T38 ts x).f3 1 = [usedL ts (l ++ [x]) 0, usedL ts (l ++ [x]) 1, usedL ts (l ++ [x]) 2] := by
 have hp := hf.pool x h0 h1
 have hu := hf.units x h0 h1
 have b0 := usedL_in hf 0 l hl
 have b1 := usedL_in hf 1 l hl
 have b2 := usedL_in hf 2 l hl
 have e1 : wrap64 (1 * (rd_T38 ts x).f3) = (rd_T38 ts x).f3 := by rw [Int.one_mul]; exact w64 (by omega) (by omega)
 unfold addU
 rw [e1, usedL_snoc, usedL_snoc, usedL_snoc]
 unfold unitsIn
 obtain ⟨q, hq⟩ : ∃ q, q = (rd_T38 ts x).f2 := ⟨_, rfl⟩
 obtain ⟨u, hu2⟩ : ∃ u, u = (rd_T38 ts x).f3 := ⟨_, rfl⟩
 rw [← hq] at hp
 rw [← hu2] at hu
 rw [← hq, ← hu2]
 have h3 : q = 0 ∨ q = 1 ∨ q = 2 := by omega
 rcases h3 with rfl | rfl | rfl
 ·simp [rd]; exact w64 (by omega) (by omega)
 ·simp [rd]; exact w64 (by omega) (by omega)
 ·simp [rd]; exact w64 (by omega) (by omega)
theorem countU_used {ts : List TT} (hf : Fine ts) : ∀ (xs pre : List Nat), (∀ i ∈ pre ++ xs, i < ts.length) → pre.length + xs.length ≤ 1000 →
  xs.foldl (fun (a : List Int) (i : Nat) => addU a (rd_T38 ts (i : Int)).f2 (rd_T38 ts (i : Int)).f3 1) [usedL ts (nI pre) 0, usedL ts (nI pre) 1, usedL ts (nI pre) 2] = [usedL ts (nI (pre ++ xs)) 0, usedL ts (nI (pre ++ xs)) 1, usedL ts (nI (pre ++ xs)) 2]
 | [], pre, _, _ => by simp
 | x :: xs, pre, h, hl => by
  have hx := h x (by simp)
  have hin : InR ts (nI pre) := fun y hy => by
   obtain ⟨i, hi, rfl⟩ := List.mem_map.1 hy
   have := h i (List.mem_append_left _ hi)
   omega
  have e : nI pre ++ [(x : Int)] = nI (pre ++ [x]) := by simp [nI]
  rw [List.foldl_cons, addU_used hf hin (by rw [nI_length]; omega) (by omega) (by omega), e, countU_used hf xs (pre ++ [x]) (by simpa using h) (by simp only [List.length_append, List.length_cons, List.length_nil] at hl ⊢; omega)]
  simp
theorem countN_len : ∀ (xs : List Nat) (a : Nat), a + xs.length ≤ 1000 → xs.foldl (fun (a : Int) (_ : Nat) => addN a 1) (a : Int) = ((a + xs.length : Nat) : Int)
 | [], a, _ => by simp
 | x :: xs, a, h => by
  have : addN (a : Int) 1 = ((a + 1 : Nat) : Int) := by unfold addN; exact w64n a (by omega)
  rw [List.foldl_cons, this, countN_len xs (a + 1) (by simp only [List.length_cons] at h; omega)]
  simp only [List.length_cons]; omega
theorem bits_of_asc {n : Nat} (hn : n ≤ 8) {l : List Int} (ha : ascB l = true) (hr : ∀ x ∈ l, 0 ≤ x ∧ x < n) : nI (bitsN (maskL l)) = l := by
 have h0 : ∀ x ∈ l, 0 ≤ x := fun x hx => (hr x hx).1
 have hlt : maskL l < 2 ^ n := Nat.lt_pow_two_of_testBit _ fun i hi => by
  rw [maskL_bit h0]
  exact decide_eq_false (fun hm => by have := hr _ hm; omega)
 rw [bits_pick hn hlt (fun i => decide ((i : Int) ∈ l)) (fun i _ => maskL_bit h0 i)]
 refine asc_ext _ _ (nI_pick_pairwise _ _) (pairwise_asc _ ha) (fun x => ?_)
 rw [mem_nI_pick]
 constructor
 ·rintro ⟨h1, h2⟩
  rw [decide_eq_true_eq, Int.toNat_of_nonneg h1.1] at h2
  exact h2
 ·intro h
  have := hr x h
  refine ⟨this, ?_⟩
  rw [decide_eq_true_eq, Int.toNat_of_nonneg this.1]
  exact h
end Go.Proofs.YtdmeiiedbhfniaaDoor.P
end
section
namespace Go.Proofs.YtdmeiiedbhfniaaDoor.P
open Go.RowKit Go.Shelf YtdmeiiedbhfniaaDoorW.PrintWords YtdmeiiedbhfniaaDoorW.PrintLast YtdmeiiedbhfniaaDoorW.PrintMore
theorem placeP_isSome (ts : List TT) (room : List Int) (workers : Int) : (placeP ts room workers).isSome = ((graphP ts).isSome && (roomP room && decide (1 ≤ workers ∧ workers ≤ 4))) := by
 unfold placeP
 cases graphP ts with
 | none => rfl
 | some G =>
  simp only [Option.isSome_some, Bool.true_and]
  by_cases h : (roomP room && decide (1 ≤ workers ∧ workers ≤ 4)) = true
  ·rw [if_pos h, h]; rfl
  ·rw [if_neg h, Bool.eq_false_iff.2 h]; rfl
theorem validSearch_ev (ts : List TT) (hs : Small ts) (room : List Int) (hr : room.length < 1099511627776) (w : Int) : Ev (fun k => spec_validSearch.f k ts room w) (fewP ts room w).isSome := by
 have hlen := hs.1
 unfold spec_validSearch.f fewP
 refine Ev.bind (validGraph_ev ts hs) (Ev.ite (fun h1 => Ev.ite (fun h2 => ?_) (fun h2 => ?_)) (fun h1 => ?_))
 ·rw [if_neg (by omega), placeP_isSome, h1, Bool.true_and]
  refine Ev.bind (validRoom_ev room hr) (Ev.ite (fun h3 => ?_) (fun h3 => ?_))
  ·rw [h3, Bool.true_and]
   exact Ev.bind (Ev.eq (inRange_eq _ _ _)) (Ev.pure _)
  ·rw [Bool.eq_false_iff.2 h3]
   exact Ev.pure _
 ·rw [if_pos (by omega)]
  exact Ev.pure _
 ·have h4 := placeP_isSome ts room w
  rw [Bool.eq_false_iff.2 h1, Bool.false_and] at h4
  have h5 : (if 5 < ts.length then none else placeP ts room w).isSome = false := by
   split
   ·rfl
   ·exact h4
  rw [h5]
  exact Ev.pure _
theorem maskL_snoc (l : List Int) (x : Int) : maskL (l ++ [x]) = maskL l ||| 2 ^ x.toNat := by simp [maskL]
theorem fine_needs {ts : List TT} (hf : fineB ts = true) {i : Nat} (hi : i < ts.length) : (needsM ts).getD i 0 = maskL (rd_T38 ts (i : Int)).f1 ∧ (∀ x ∈ (rd_T38 ts (i : Int)).f1, 0 ≤ x ∧ x < ts.length) ∧ ascB (rd_T38 ts (i : Int)).f1 = true := by
 rw [rdT_at ts i hi]
 exact ⟨needsM_get ts i hi, task_mem (fine_task hf hi)⟩
theorem isOrder_go (ts : List TT) (hs : Small ts) (hf : fineB ts = true) (list : List Int) (hl : list.length < 1099511627776) : ∀ (r pre : List Int), pre ++ r = list → (∀ x ∈ pre, 0 ≤ x) →
  Ev (fun k => spec_isOrder.l0 k ts list (pre.length : Int)) (okGo ts.length (needsM ts) r (maskL pre))
 | [], pre, he, hp => by
  have h2 : ¬ (pre.length : Int) < (list.length : Int) := by rw [← he]; exact len_nlt pre
  refine Ev.succ ?_
  simp only [spec_isOrder.l0]
  exact Ev.neg h2 (Ev.pure _)
 | x :: r, pre, he, hp => by
  have hlen := hs.1
  have hpl : pre.length < list.length := by rw [← he]; simp
  have h1 : rd list (pre.length : Int) = x := by rw [← he]; exact rdm pre x r
  have h2 : (pre.length : Int) < (list.length : Int) := by omega
  have h3 : list.take ((pre.length : Int)).toNat = pre := by rw [← he]; simp
  refine Ev.succ ?_
  simp only [spec_isOrder.l0, h1, h3]
  rw [w64 (n := (ts.length : Int) - 1) (by omega) (by omega)]
  unfold okGo
  refine Ev.pos h2 (Ev.pos (by omega) (Ev.bind (Ev.eq (inRange_eq _ _ _)) (Ev.ite (fun hc => ?_) (fun hc => ?_))))
  ·have hx : 0 ≤ x ∧ x < ts.length := by have := of_decide_eq_true hc; omega
   have hb := maskL_bit hp x.toNat
   rw [Int.toNat_of_nonneg hx.1] at hb
   obtain ⟨n1, n2, n3⟩ := fine_needs hf (i := x.toNat) (by omega)
   rw [Int.toNat_of_nonneg hx.1] at n1 n2 n3
   refine Ev.pos (by omega) (Ev.bind (isIn_ev _ _ (by omega)) (Ev.ite (fun hd => ?_) (fun hd => ?_)))
   ·rw [if_neg (fun h => by rw [hb, hd] at h; cases h.2.1)]
    exact Ev.pure _
   ·have hsub := sub_eq (fun y hy => (n2 y hy).1) (maskL pre) (maskL_bit hp)
    refine Ev.pos hx.1 (Ev.pos hx.2 (Ev.bind (allDone_ev _ _ (by have := small_rd hs x; omega) (by omega)) (Ev.ite (fun hq => ?_) (fun hq => ?_))))
    ·rw [hq, beq_iff_eq] at hsub
     rw [if_pos ⟨hx, by rw [hb]; exact Bool.eq_false_iff.2 hd, by rw [n1]; exact hsub⟩, len_next pre x (by omega), ← maskL_snoc]
     refine isOrder_go ts hs hf list hl r (pre ++ [x]) (by rw [← he]; simp) (fun y hy => ?_)
     rcases List.mem_append.1 hy with hy | hy
     ·exact hp y hy
     ·rw [List.mem_singleton.1 hy]; exact hx.1
    ·rw [if_neg (fun h => hq (by rw [← hsub, beq_iff_eq, ← n1]; exact h.2.2))]
     exact Ev.pure _
  ·rw [if_neg (fun h => hc (decide_eq_true ⟨h.1.1, by omega⟩))]
   exact Ev.pure _
theorem isOrder_ev (ts : List TT) (hs : Small ts) (hf : fineB ts = true) (list : List Int) (hl : list.length < 1099511627776) : Ev (fun k => spec_isOrder.f k ts list) (decide (list.length = ts.length) && okGo ts.length (needsM ts) list 0) := by
 unfold spec_isOrder.f
 refine Ev.ite (fun h => ?_) (fun h => ?_)
 ·rw [decide_eq_true (by omega), Bool.true_and]
  exact isOrder_go ts hs hf list hl list [] rfl (fun x hx => by cases hx)
 ·rw [decide_eq_false (by omega), Bool.false_and]
  exact Ev.pure _
theorem ord_take {n : Nat} {nd : List Nat} {list : List Int} (h : okGo n nd list 0 = true) : ∀ j, j ≤ list.length → OrdOk n ((list.map Int.toNat).take j) (maskN ((list.map Int.toNat).take j))
 | 0, _ => by rw [List.take_zero]; exact ordOk_nil n
 | j + 1, hj => by
  obtain ⟨a1, a2, a3⟩ := okGo_at h j (by omega)
  have e : (list.map Int.toNat).take (j + 1) = (list.map Int.toNat).take j ++ [list[j].toNat] := by
   rw [List.take_succ_eq_append_getElem (by rw [List.length_map]; omega)]
   simp
  rw [e, maskN_snoc]
  exact (ord_take h j (by omega)).add (by omega) a2
theorem ord_full {n : Nat} {nd : List Nat} {list : List Int} (h : okGo n nd list 0 = true) (hl : list.length = n) : maskN (list.map Int.toNat) = 2 ^ n - 1 := by
 have h1 := ord_take h list.length (Nat.le_refl _)
 rw [List.take_of_length_le (by simp)] at h1
 exact h1.all.1 (by simpa using hl)
theorem rd_fn {n : Nat} (f : Nat → Int) {i : Nat} (hi : i < n) : rd (fnL n f) (i : Int) = f i := by simp [rd, fnL, hi]
theorem running_go (ts : List TT) (hs : Small ts) (g : Nat → Int) (now : Int) : ∀ (m j : Nat) (acc : List Int), j + m = ts.length → acc.length ≤ j →
  Ev (fun k => spec_runningAt.l0 k ts (fnL ts.length g) now acc (j : Int)) (acc ++ nI ((List.range' j m).filter (runsB ts g now)))
 | 0, j, acc, hj, ha => by
  refine Ev.succ ?_
  simp only [spec_runningAt.l0]
  refine Ev.neg (by omega) ?_
  simpa [nI] using Ev.pure acc
 | m + 1, j, acc, hj, ha => by
  have hlen := hs.1
  have hw : wrap64 ((j : Int) + 1) = ((j + 1 : Nat) : Int) := w64n j (by omega)
  have hr := rd_fn (n := ts.length) g (i := j) (by omega)
  have hno : runsB ts g now j = false → Ev (fun k => spec_runningAt.l0 k ts (fnL ts.length g) now acc ((j + 1 : Nat) : Int)) (acc ++ nI ((List.range' j (m + 1)).filter (runsB ts g now))) := fun h => by
   rw [List.range'_succ, List.filter_cons, if_neg (by rw [h]; simp)]
   exact running_go ts hs g now m (j + 1) acc (by omega) (by omega)
  refine Ev.succ ?_
  simp only [spec_runningAt.l0, hw, hr]
  rw [fnL_len]
  refine Ev.pos (by omega) (Ev.pos (by omega) (Ev.pos (by omega) (Ev.ite (fun h1 => Ev.ite (fun h2 => ?_) (fun h2 => ?_)) (fun h1 => ?_))))
  ·refine Ev.pos (by omega) ?_
   have h : runsB ts g now j = true := by unfold runsB timeW; rw [decide_eq_true h1, decide_eq_true h2]; rfl
   rw [List.range'_succ, List.filter_cons, if_pos h]
   have := running_go ts hs g now m (j + 1) (acc ++ [(j : Int)]) (by omega) (by simp only [List.length_append, List.length_cons, List.length_nil]; omega)
   simpa [nI] using this
  ·exact hno (by unfold runsB timeW; rw [decide_eq_false h2, Bool.and_false])
  ·exact hno (by unfold runsB timeW; rw [decide_eq_false h1, Bool.false_and])
theorem runningAt_ev (ts : List TT) (hs : Small ts) (g : Nat → Int) (now : Int) : Ev (fun k => spec_runningAt.f k ts (fnL ts.length g) now) (nI ((List.range ts.length).filter (runsB ts g now))) := by
 have := running_go ts hs g now ts.length 0 [] (by omega) (by simp)
 rw [← List.range_eq_range'] at this
 exact this
def laid (f : Nat → Int) (p : Nat) (k : Nat) : Int := if p.testBit k = true then f k else 200
theorem runs_laid {ts : List TT} (hn : ts.length ≤ 8) (f : Nat → Int) {p : Nat} (hp : p < 2 ^ ts.length) {now : Int} (hnow : now < 200) : (List.range ts.length).filter (runsB ts (laid f p) now) = (bitsN p).filter (runsB ts f now) := by
 rw [bits_pick hn hp (fun i => p.testBit i) (fun _ _ => rfl)]
 unfold pickN
 rw [List.filter_filter]
 refine List.filter_congr fun k _ => ?_
 unfold runsB laid
 cases hb : p.testBit k with
 | true => simp
 | false =>
  simp only [Bool.false_eq_true, if_false, Bool.and_false]
  rw [decide_eq_false (by omega), Bool.false_and]
theorem cntW_filter (ts : List TT) (f : Nat → Int) (now : Int) : ∀ (l : List Nat) (a : Int) (b : List Int), l.foldl (cntF ts f now) (a, b) =
  ((l.filter (runsB ts f now)).foldl (fun (a : Int) (_ : Nat) => addN a 1) a, (l.filter (runsB ts f now)).foldl (fun (a : List Int) (i : Nat) => addU a (rd_T38 ts (i : Int)).f2 (rd_T38 ts (i : Int)).f3 1) b)
 | [], a, b => rfl
 | x :: l, a, b => by
  rw [List.foldl_cons, List.filter_cons]
  unfold cntF
  by_cases h : runsB ts f now x = true
  ·rw [if_pos h, if_pos h]
   exact cntW_filter ts f now l _ _
  ·rw [if_neg h, if_neg h]
   exact cntW_filter ts f now l _ _
theorem cntW_eq {ts : List TT} (hf : Fine ts) (f : Nat → Int) (now : Int) {l : List Nat} (hl : ∀ i ∈ l, i < ts.length) (hl8 : l.length ≤ 8) :
  cntW ts f now l = (((l.filter (runsB ts f now)).length : Int), [usedL ts (nI (l.filter (runsB ts f now))) 0, usedL ts (nI (l.filter (runsB ts f now))) 1, usedL ts (nI (l.filter (runsB ts f now))) 2]) := by
 unfold cntW
 rw [cntW_filter]
 have h8 : (l.filter (runsB ts f now)).length ≤ 8 := Nat.le_trans (List.length_filter_le _ _) hl8
 have e1 := countN_len (l.filter (runsB ts f now)) 0 (by omega)
 have e2 := countU_used hf (l.filter (runsB ts f now)) [] (fun i hi => hl i (List.mem_filter.1 (by simpa using hi)).1) (by simp only [List.length_nil]; omega)
 simp only [List.nil_append, nI, usedL, List.map_nil, List.sum_nil] at e2
 rw [Nat.zero_add] at e1
 exact Prod.ext e1 e2
theorem freeAt_eq {ts : List TT} (hf : Fine ts) (f : Nat → Int) {p : Nat} (hp : p < 2 ^ ts.length) {i : Nat} (hi : i < ts.length) (room : List Int) (workers now : Int) :
  freeAt ts f p i room workers now = decide ((((bitsN p).filter (runsB ts f now)).length : Int) < workers ∧ usedL ts (nI ((bitsN p).filter (runsB ts f now))) (rd_T38 ts (i : Int)).f2 + (rd_T38 ts (i : Int)).f3 ≤ rd room (rd_T38 ts (i : Int)).f2) := by
 have hm : ∀ k ∈ bitsN p, k < ts.length := bitsN_lt hp
 have hl := bitsN_len p
 have h8 : ((bitsN p).filter (runsB ts f now)).length ≤ 8 := Nat.le_trans (List.length_filter_le _ _) hl
 have hin : InR ts (nI ((bitsN p).filter (runsB ts f now))) := fun y hy => by
  obtain ⟨k, hk, rfl⟩ := List.mem_map.1 hy
  have := hm k (List.mem_filter.1 hk).1
  omega
 have hp2 := hf.pool (i : Int) (by omega) (by omega)
 have hu := hf.units (i : Int) (by omega) (by omega)
 have hb := usedL_in hf (rd_T38 ts (i : Int)).f2 _ hin
 rw [nI_length] at hb
 unfold freeAt takesB
 rw [cntW_eq hf f now hm hl]
 simp only
 have e : rd [usedL ts (nI ((bitsN p).filter (runsB ts f now))) 0, usedL ts (nI ((bitsN p).filter (runsB ts f now))) 1, usedL ts (nI ((bitsN p).filter (runsB ts f now))) 2] (rd_T38 ts (i : Int)).f2 = usedL ts (nI ((bitsN p).filter (runsB ts f now))) (rd_T38 ts (i : Int)).f2 := by
  have : (rd_T38 ts (i : Int)).f2 = 0 ∨ (rd_T38 ts (i : Int)).f2 = 1 ∨ (rd_T38 ts (i : Int)).f2 = 2 := by omega
  rcases this with h | h | h <;> rw [h] <;> rfl
 rw [e, w64 (by omega) (by omega), Bool.eq_iff_iff]
 simp only [Bool.not_eq_true', Bool.or_eq_false_iff, decide_eq_false_iff_not, decide_eq_true_eq]
 omega
theorem fits_go (ts : List TT) (hs : Small ts) (hf : Fine ts) (f : Nat → Int) {p : Nat} (hp : p < 2 ^ ts.length) {i : Nat} (hi : i < ts.length) (room : List Int) (hl3 : room.length = 3) (workers a : Int) (ha : 0 ≤ a) (had : a + timeW ts i ≤ 200) (ht : 1 ≤ timeW ts i) :
  ∀ (m j : Nat), j + m = (timeW ts i).toNat → Ev (fun k => spec_fits.l0 k ts room workers (fnL ts.length (laid f p)) (i : Int) a (a + (j : Int))) ((List.range' j m).all fun k => freeAt ts f p i room workers (a + (k : Int)))
 | 0, j, hj => by
  have et : (rd_T38 ts (i : Int)).f0 = timeW ts i := rfl
  refine Ev.succ ?_
  simp only [spec_fits.l0, et]
  rw [w64 (n := a + timeW ts i) (by omega) (by omega)]
  exact Ev.pos (by omega) (Ev.pos (by omega) (Ev.neg (by omega) (Ev.pure _)))
 | m + 1, j, hj => by
  have et : (rd_T38 ts (i : Int)).f0 = timeW ts i := rfl
  have hlt : a + (j : Int) < a + timeW ts i := by omega
  have hrun := runningAt_ev ts hs (laid f p) (a + (j : Int))
  rw [runs_laid hf.n8 f hp (by omega)] at hrun
  have hfr := freeAt_eq hf f hp hi room workers (a + (j : Int))
  obtain ⟨L, hL⟩ : ∃ L, (bitsN p).filter (runsB ts f (a + (j : Int))) = L := ⟨_, rfl⟩
  have hm : ∀ k ∈ L, k < ts.length := fun k hk => by rw [← hL] at hk; exact bitsN_lt hp k (List.mem_filter.1 hk).1
  have h8 : L.length ≤ 8 := by rw [← hL]; exact Nat.le_trans (List.length_filter_le _ _) (bitsN_len p)
  rw [hL] at hrun hfr
  have hin : InR ts (nI L) := fun y hy => by
   obtain ⟨k, hk, rfl⟩ := List.mem_map.1 hy
   have := hm k hk
   omega
  have hp2 := hf.pool (i : Int) (by omega) (by omega)
  have hu := hf.units (i : Int) (by omega) (by omega)
  have hb := usedL_in hf (rd_T38 ts (i : Int)).f2 _ hin
  rw [nI_length] at hb
  rw [List.range'_succ, List.all_cons, hfr]
  refine Ev.succ ?_
  simp only [spec_fits.l0, et]
  rw [w64 (n := a + timeW ts i) (by omega) (by omega)]
  refine Ev.pos (by omega) (Ev.pos (by omega) (Ev.pos hlt (Ev.bind hrun (Ev.ite (fun h1 => ?_) (fun h1 => ?_)))))
  ·rw [nI_length] at h1
   rw [decide_eq_false (by omega), Bool.false_and]
   exact Ev.pure _
  ·rw [nI_length] at h1
   refine Ev.bind (used_ev ts hf (nI L) hin (by rw [nI_length]; omega) _) (Ev.pos hp2.1 (Ev.pos (by omega) ?_))
   rw [w64 (n := usedL ts (nI L) (rd_T38 ts (i : Int)).f2 + (rd_T38 ts (i : Int)).f3) (by omega) (by omega)]
   refine Ev.ite (fun h2 => ?_) (fun h2 => ?_)
   ·rw [decide_eq_false (by omega), Bool.false_and]
    exact Ev.pure _
   ·rw [decide_eq_true (by omega), Bool.true_and, w64 (n := a + (j : Int) + 1) (by omega) (by omega)]
    have := fits_go ts hs hf f hp hi room hl3 workers a ha had ht m (j + 1) (by omega)
    rw [show a + (((j + 1 : Nat)) : Int) = a + (j : Int) + 1 by omega] at this
    exact this
theorem fits_ev (ts : List TT) (hs : Small ts) (hf : Fine ts) (f : Nat → Int) {p : Nat} (hp : p < 2 ^ ts.length) {i : Nat} (hi : i < ts.length) (room : List Int) (hl3 : room.length = 3) (workers a : Int) (ha : 0 ≤ a) (had : a + timeW ts i ≤ 200) (ht : 1 ≤ timeW ts i) :
  Ev (fun k => spec_fits.f k ts room workers (fnL ts.length (laid f p)) (i : Int) a) (freeTo ts f p i room workers a (timeW ts i).toNat) := by
 have := fits_go ts hs hf f hp hi room hl3 workers a ha had ht (timeW ts i).toNat 0 (by omega)
 rw [← List.range_eq_range', show a + ((0 : Nat) : Int) = a by omega] at this
 exact this
theorem starts_l3 (ts : List TT) (hs : Small ts) (hf : Fine ts) (f : Nat → Int) {p : Nat} (hp : p < 2 ^ ts.length) {i : Nat} (hi : i < ts.length) (room : List Int) (hl3 : room.length = 3) (workers : Int) (list : List Int) (x11 e : Int) (ht : 1 ≤ timeW ts i) (he : e + timeW ts i ≤ 200) (hfree : freeTo ts f p i room workers e (timeW ts i).toNat = true) (v : List Int)
  (hgo : Ev (fun k => spec_order.l1 k ts room workers list (fnL ts.length (fun k => if k = i then e else laid f p k)) (wrap64 (x11 + 1))) v) :
  ∀ (m : Nat) (x : Int), x + m = e → 0 ≤ x → (∀ a, x ≤ a → a < e → freeTo ts f p i room workers a (timeW ts i).toNat = false) →
  Ev (fun k => spec_order.l3 k ts room workers list (fnL ts.length (laid f p)) x11 (i : Int) x) v
 | 0, x, hx, h0, _ => by
  obtain rfl : x = e := by omega
  refine Ev.succ ?_
  simp only [spec_order.l3]
  have h := fits_ev ts hs hf f hp hi room hl3 workers x h0 (by omega) ht
  rw [hfree] at h
  refine Ev.bind h (Ev.pos rfl (Ev.pos (by omega) (Ev.pos (by rw [fnL_len]; omega) ?_)))
  rw [Int.toNat_natCast, fnL_set]
  exact hgo
 | m + 1, x, hx, h0, hno => by
  refine Ev.succ ?_
  simp only [spec_order.l3]
  have h := fits_ev ts hs hf f hp hi room hl3 workers x h0 (by omega) ht
  rw [hno x (by omega) (by omega)] at h
  refine Ev.bind h (Ev.neg (by simp) ?_)
  rw [w64 (n := x + 1) (by omega) (by omega)]
  exact starts_l3 ts hs hf f hp hi room hl3 workers list x11 e ht he hfree v hgo m (x + 1) (by omega) (by omega) (fun a h1 h2 => hno a (by omega) h2)
theorem starts_l2 (ts : List TT) (hs : Small ts) (g : Nat → Int) {i : Nat} (hi : i < ts.length) (room : List Int) (workers : Int) (list : List Int) (x11 : Int) (v : List Int) (hin : ∀ x ∈ (rd_T38 ts (i : Int)).f1, 0 ≤ x ∧ x < ts.length) :
  ∀ (r pre : List Int) (cur : Int), pre ++ r = (rd_T38 ts (i : Int)).f1 →
  Ev (fun k => spec_order.l3 k ts room workers list (fnL ts.length g) x11 (i : Int) (r.foldl (fun a (y : Int) => mx a (wrap64 (g y.toNat + timeW ts y.toNat))) cur)) v → Ev (fun k => spec_order.l2 k ts room workers list (fnL ts.length g) x11 (i : Int) cur (pre.length : Int)) v
 | [], pre, cur, he, hgo => by
  have h2 : ¬ (pre.length : Int) < (((rd_T38 ts (i : Int)).f1).length : Int) := by rw [← he]; exact len_nlt pre
  refine Ev.succ ?_
  simp only [spec_order.l2]
  exact Ev.pos (by omega) (Ev.pos (by omega) (Ev.neg h2 hgo))
 | x :: r, pre, cur, he, hgo => by
  have hx := hin x (by rw [← he]; simp)
  have h1 : rd (rd_T38 ts (i : Int)).f1 (pre.length : Int) = x := by rw [← he]; exact rdm pre x r
  have h2 : (pre.length : Int) < (((rd_T38 ts (i : Int)).f1).length : Int) := by rw [← he]; exact len_lt _ _ _
  have hsm := small_rd hs (i : Int)
  have h3 := rd_fn (n := ts.length) g (i := x.toNat) (by omega)
  rw [Int.toNat_of_nonneg hx.1] at h3
  have h4 : (rd_T38 ts x).f0 = timeW ts x.toNat := by unfold timeW; rw [Int.toNat_of_nonneg hx.1]
  refine Ev.succ ?_
  simp only [spec_order.l2, h1, h3, h4]
  refine Ev.pos (by omega) (Ev.pos (by omega) (Ev.pos h2 (Ev.pos (by omega) (Ev.pos hx.1 (Ev.pos (by rw [fnL_len]; exact hx.2) (Ev.pos hx.2 ?_))))))
  rw [len_next pre x (by omega)]
  exact starts_l2 ts hs g hi room workers list x11 v hin r (pre ++ [x]) _ (by rw [← he]; simp) hgo
theorem starts_l0 (ts : List TT) (hs : Small ts) (room : List Int) (workers : Int) (list : List Int) (v : List Int) (hgo : Ev (fun k => spec_order.l1 k ts room workers list (fnL ts.length (fun _ => 200)) 0) v) : ∀ (m j : Nat), j + m = ts.length →
  Ev (fun k => spec_order.l0 k ts room workers list (fnL ts.length (fun k => if k < j then 200 else 0)) (j : Int)) v
 | 0, j, hj => by
  refine Ev.succ ?_
  simp only [spec_order.l0, fnL_len]
  refine Ev.neg (by omega) ?_
  have e : fnL ts.length (fun k => if k < j then 200 else (0 : Int)) = fnL ts.length (fun _ => 200) := List.map_congr_left fun k hk => by
   have := List.mem_range.1 hk
   rw [if_pos (by omega)]
  rw [e]
  exact hgo
 | m + 1, j, hj => by
  have hlen := hs.1
  have hw : wrap64 ((j : Int) + 1) = ((j + 1 : Nat) : Int) := w64n j (by omega)
  refine Ev.succ ?_
  simp only [spec_order.l0, fnL_len, hw]
  refine Ev.pos (by omega) (Ev.pos (by omega) ?_)
  have e : (fnL ts.length (fun k => if k < j then 200 else (0 : Int))).set ((j : Int)).toNat 200 = fnL ts.length (fun k => if k < j + 1 then 200 else 0) := by
   rw [Int.toNat_natCast, fnL_set]
   refine List.map_congr_left fun k hk => ?_
   by_cases h : k = j
   ·rw [if_pos h, if_pos (by omega)]
   ·rw [if_neg h]
    by_cases h2 : k < j
    ·rw [if_pos h2, if_pos (by omega)]
    ·rw [if_neg h2, if_neg (by omega)]
  rw [e]
  exact starts_l0 ts hs room workers list v hgo m (j + 1) (by omega)
theorem over_laid {ts : List TT} (hf : fineB ts = true) (f : Nat → Int) {p i : Nat} (hi : i < ts.length) (hn : (needsM ts).getD i 0 &&& p = (needsM ts).getD i 0) :
  ((rd_T38 ts (i : Int)).f1).foldl (fun a (y : Int) => mx a (wrap64 (laid f p y.toNat + timeW ts y.toNat))) 0 = overW ts (needsM ts) f i := by
 obtain ⟨n1, n2, n3⟩ := fine_needs hf hi
 have e := bits_of_asc (fine_len hf) n3 n2
 rw [← n1] at e
 unfold overW
 rw [← e]
 unfold nI
 rw [List.foldl_map]
 have hl : ∀ k ∈ bitsN ((needsM ts).getD i 0), laid f p k = f k := fun k hk => by
  rw [mem_bitsN] at hk
  have := hk.2
  rw [← hn, Nat.testBit_and, Bool.and_eq_true] at this
  unfold laid
  rw [if_pos this.2]
 have key : ∀ (l : List Nat) (a : Int), (∀ k ∈ l, laid f p k = f k) → l.foldl (fun a (k : Nat) => mx a (wrap64 (laid f p ((k : Int)).toNat + timeW ts ((k : Int)).toNat))) a = l.foldl (fun a k => mx a (wrap64 (f k + timeW ts k))) a := by
  intro l
  induction l with
  | nil => intro a _; rfl
  | cons x l ih =>
   intro a h
   rw [List.foldl_cons, List.foldl_cons, Int.toNat_natCast, h x List.mem_cons_self, ih _ (fun k hk => h k (List.mem_cons_of_mem _ hk))]
 exact key _ 0 hl
theorem starts_l1 {ts : List TT} (hs : Small ts) {G : GrN} (hg : graphP ts = some G) {room : List Int} (hr : roomP room = true) {workers : Int} (hw : 1 ≤ workers) {list : List Int} (hl5 : list.length ≤ 5) (h : okGo ts.length (needsM ts) list 0 = true) :
  ∀ (m j : Nat), j + m = list.length → Ev (fun k => spec_order.l1 k ts room workers list (fnL ts.length (laid (startsS ts (needsM ts) room workers ((list.map Int.toNat).take j)).1 (startsS ts (needsM ts) room workers ((list.map Int.toNat).take j)).2)) (j : Int))
   (fnL ts.length (laid (startsS ts (needsM ts) room workers (list.map Int.toNat)).1 (startsS ts (needsM ts) room workers (list.map Int.toNat)).2))
 | 0, j, hj => by
  refine Ev.succ ?_
  simp only [spec_order.l1]
  refine Ev.neg (by omega) ?_
  rw [List.take_of_length_le (by rw [List.length_map]; omega)]
  exact Ev.pure _
 | m + 1, j, hj => by
  obtain ⟨hfb, hnd, hts⟩ := graphP_fine hg
  have hOk := (graphP_ok hg).2.2
  have hF := Fine.of hfb
  have hjl : j < list.length := by omega
  obtain ⟨a1, a2, a3⟩ := okGo_at h j hjl
  have hst := starts_ok (G := G) hOk hr hw (list := list) (by omega) (by rw [hts, hnd]; exact h) j (by omega)
  rw [hts, hnd] at hst
  have hmk := startsS_mask ts (needsM ts) room workers ((list.map Int.toNat).take j)
  rw [← hmk] at a2 a3
  have e : (list.map Int.toNat).take (j + 1) = (list.map Int.toNat).take j ++ [list[j].toNat] := by
   rw [List.take_succ_eq_append_getElem (by rw [List.length_map]; omega)]
   simp
  have ih := starts_l1 hs hg hr hw hl5 h m (j + 1) (by omega)
  rw [e, startsS_snoc] at ih
  obtain ⟨st, hste⟩ : ∃ st, startsS ts (needsM ts) room workers ((list.map Int.toNat).take j) = st := ⟨_, rfl⟩
  rw [hste] at ih a2 a3 hst ⊢
  obtain ⟨i, hi⟩ : ∃ i : Nat, list[j] = (i : Int) := ⟨list[j].toNat, by omega⟩
  rw [hi] at a1 a2 a3 ih
  rw [Int.toNat_natCast] at a2 a3 ih
  have hin : i < ts.length := by omega
  have hrd : rd list (j : Int) = (i : Int) := by simp [rd, hjl, hi]
  have hin' : i < G.ts.length := by rw [hts]; exact hin
  obtain ⟨z0, z1, z2, z3, z4, _⟩ := hst.early hOk (by omega) hin' hr hw (by rw [hnd]; exact a3)
  have htw := hOk.timeW i hin'
  rw [hts] at htw
  rw [hts, hnd] at z0 z1 z2 z3 z4
  have hlt := hst.lt
  rw [hts] at hlt
  obtain ⟨n1, n2, n3⟩ := fine_needs hfb hin
  refine Ev.succ ?_
  simp only [spec_order.l1, hrd]
  refine Ev.pos (by omega) (Ev.pos (by omega) ?_)
  refine starts_l2 ts hs (laid st.1 st.2) hin room workers list (j : Int) _ n2 _ [] 0 rfl ?_
  rw [over_laid hfb st.1 hin a3]
  refine starts_l3 ts hs hF st.1 hlt hin room (roomP_len hr) workers list (j : Int) (earlyP ts (needsM ts) st.1 st.2 i room workers) htw.1 (by omega) z3 _ ?_ (earlyP ts (needsM ts) st.1 st.2 i room workers - overW ts (needsM ts) st.1 i).toNat _ (by omega) z0 z4
  rw [w64n j (by omega)]
  have e2 : fnL ts.length (fun k => if k = i then earlyP ts (needsM ts) st.1 st.2 i room workers else laid st.1 st.2 k) = fnL ts.length (laid (stepS ts (needsM ts) room workers st i).1 (stepS ts (needsM ts) room workers st i).2) := by
   refine List.map_congr_left fun k hk => ?_
   unfold stepS laid
   simp only
   rw [Nat.testBit_or, Nat.testBit_two_pow]
   by_cases hki : k = i
   ·rw [if_pos hki, if_pos (by rw [decide_eq_true hki.symm, Bool.or_true]), if_pos hki]
   ·rw [if_neg hki, decide_eq_false (fun e => hki e.symm), Bool.or_false, if_neg hki]
  rw [e2]
  exact ih
theorem order_ev {ts : List TT} (hs : Small ts) {G : GrN} (hg : graphP ts = some G) {room : List Int} (hr : roomP room = true) {workers : Int} (hw : 1 ≤ workers) {list : List Int} (hl5 : list.length ≤ 5) (hll : list.length = ts.length) (h : okGo ts.length (needsM ts) list 0 = true) :
  Ev (fun k => spec_order.f k ts room workers list) (fnL ts.length (startsS ts (needsM ts) room workers (list.map Int.toNat)).1) := by
 have hfull := ord_full h hll
 rw [← startsS_mask ts (needsM ts) room workers] at hfull
 have e : fnL ts.length (laid (startsS ts (needsM ts) room workers (list.map Int.toNat)).1 (startsS ts (needsM ts) room workers (list.map Int.toNat)).2) = fnL ts.length (startsS ts (needsM ts) room workers (list.map Int.toNat)).1 := by
  refine List.map_congr_left fun k hk => ?_
  unfold laid
  rw [hfull, Nat.testBit_two_pow_sub_one, if_pos (decide_eq_true (List.mem_range.1 hk))]
 have h1 := starts_l1 hs hg hr hw hl5 h list.length 0 (by omega)
 rw [e] at h1
 unfold spec_order.f
 refine Ev.pos (by omega) (Ev.pos (by omega) ?_)
 have e0 : List.replicate ((ts.length : Int)).toNat (0 : Int) = fnL ts.length (fun k => if k < 0 then 200 else 0) := by
  unfold fnL
  exact List.ext_getElem (by simp) (fun j h1 h2 => by simp)
 rw [e0]
 refine starts_l0 ts hs room workers list _ ?_ ts.length 0 (by omega)
 have e1 : fnL ts.length (fun _ => (200 : Int)) = fnL ts.length (laid (startsS ts (needsM ts) room workers ((list.map Int.toNat).take 0)).1 (startsS ts (needsM ts) room workers ((list.map Int.toNat).take 0)).2) := by
  refine List.map_congr_left fun k hk => ?_
  simp [laid, startsS]
 rw [e1]
 exact h1
theorem OrderStarts_ev (ts : List TT) (hs : Small ts) (room : List Int) (hr : room.length < 1099511627776) (workers : Int) (list : List Int) (hl : list.length < 1099511627776) : Ev (fun k => spec_OrderStarts.f k ts room workers list) (orderStartsW ts room workers list) := by
 have hv := validSearch_ev ts hs room hr workers
 unfold spec_OrderStarts.f orderStartsW
 cases hw : fewP ts room workers with
 | none =>
  rw [hw] at hv
  exact Ev.bind hv (Ev.neg (by simp) (Ev.pure _))
 | some G =>
  rw [hw] at hv
  obtain ⟨h5, hpl⟩ := fewP_ok hw
  obtain ⟨hg, hrm, hw1, hw4⟩ := placeP_ok hpl
  obtain ⟨hfb, hnd, hts⟩ := graphP_fine hg
  have ho := isOrder_ev ts hs hfb list hl
  simp only
  rw [hts, hnd]
  refine Ev.bind hv (Ev.pos rfl (Ev.bind ho (Ev.ite (fun h => ?_) (fun h => ?_))))
  ·rw [Bool.and_eq_true, decide_eq_true_eq] at h
   rw [if_pos h]
   exact Ev.bind (order_ev hs hg hrm hw1 (by omega) h.1 h.2) (Ev.pure _)
  ·rw [if_neg (fun h2 => h (by rw [h2.2, decide_eq_true h2.1]; rfl))]
   exact Ev.pure _
end Go.Proofs.YtdmeiiedbhfniaaDoor.P
end
section
namespace Go.Proofs.YtdmeiiedbhfniaaDoor.P
open Go.RowKit Go.Shelf YtdmeiiedbhfniaaDoorW.PrintWords YtdmeiiedbhfniaaDoorW.PrintLast YtdmeiiedbhfniaaDoorW.PrintMore
theorem someRoom_ev {B : List Int} (hB : RdOk B) (p : Int) (hp : 0 ≤ p) (hp' : p ≤ 5000) : Dr 6 p (fun r => r.length ≤ 4) (fun k => spec_someRoom.f k B p) := by
 unfold spec_someRoom.f
 refine ((one_ev hB _ p (by simp) hp (by omega)).bind (n := 5) (fun a q ha h1 h2 => ?_)).mono (by omega) (fun _ h => h)
 refine ((one_ev hB _ q (by simp) (by omega) (by omega)).bind (n := 4) (fun b q2 hb h3 h4 => ?_)).mono (by omega) (fun _ h => h)
 refine ((one_ev hB _ q2 (by simp) (by omega) (by omega)).bind (n := 3) (fun c q3 hc h5 h6 => ?_)).mono (by omega) (fun _ h => h)
 refine ((spoil_ev hB _ 9 q3 (by simp) (by omega) (by omega)).bind (n := 0) (fun r q4 hr h7 h8 => ?_)).mono (by omega) (fun _ h => h)
 exact Dr.here (by simpa using hr) (by omega)
theorem someWorkers_ev {B : List Int} (hB : RdOk B) (p : Int) (hp : 0 ≤ p) (hp' : p ≤ 5000) : Dr 1 p (fun r => 0 ≤ r ∧ r ≤ 5) (fun k => spec_someWorkers.f k B p) := by
 unfold spec_someWorkers.f
 refine ((one_ev hB _ p (by simp) hp (by omega)).bind (n := 0) (fun a q ha h1 h2 => ?_)).mono (by omega) (fun _ h => h)
 simp only [List.mem_cons, List.not_mem_nil, or_false] at ha
 exact Dr.here (by show 0 ≤ a ∧ a ≤ 5; omega) (by omega)
theorem someGraph5_ev {B : List Int} (hB : RdOk B) (p : Int) (hp : 0 ≤ p) (hp' : p ≤ 1000) : Dr 100 p (GB 8 8) (fun k => spec_someGraph.f k B p 5) := by
 unfold spec_someGraph.f
 refine ((one_ev hB _ p (by simp) hp (by omega)).bind (n := 99) (fun r q hr h1 h2 => ?_)).mono (by omega) (fun _ h => h)
 obtain ⟨n, hn, hn8⟩ : ∃ n : Nat, mn 5 r = (n : Int) ∧ n ≤ 8 := by
  simp only [List.mem_cons, List.not_mem_nil, or_false] at hr
  refine ⟨(mn 5 r).toNat, ?_, ?_⟩ <;> unfold mn <;> split <;> omega
 rw [hn]
 exact (some_l0 hB n [] q (by simpa using hn8) ⟨by simp, fun t ht => by cases ht⟩ (by omega) (by omega)).mono (by omega) (fun _ h => h)
theorem smallGraph_ev {B : List Int} (hB : RdOk B) (p : Int) (hp : 0 ≤ p) (hp' : p ≤ 90) : Dr 310 p (GB 16 16) (fun k => spec_smallGraph.f k B p) := by
 unfold spec_smallGraph.f
 refine ((pick_ev hB 10 p hp (by omega)).bind (n := 300) (fun a q ha h1 h2 => ?_)).mono (by omega) (fun _ h => h)
 refine Dr.ite (fun _ => ?_) (fun _ => ?_)
 ·exact ((anyGraph_ev hB q (by omega) (by omega)).bind (n := 0) (fun g q2 hg h3 h4 => Dr.here hg (by omega))).mono (by omega) (fun _ h => h)
 ·exact ((someGraph5_ev hB q (by omega) (by omega)).bind (n := 0) (fun g q2 hg h3 h4 => Dr.here (hg.mono (by omega) (by omega)) (by omega))).mono (by omega) (fun _ h => h)
end Go.Proofs.YtdmeiiedbhfniaaDoor.P
end
section
namespace Go.Proofs.YtdmeiiedbhfniaaDoor.P
open Go.RowKit Go.Shelf YtdmeiiedbhfniaaDoorW.PrintWords YtdmeiiedbhfniaaDoorW.PrintLast YtdmeiiedbhfniaaDoorW.PrintMore
theorem same_ev (a : List Int) (h : a.length < 1099511627776) : Ev (fun k => laws_equalInts.f k a a) true := by
 have := equalInts_ev a a h
 rwa [decide_eq_true rfl] at this
def QS (g : List TT) (room : List Int) (w : Int) (f : Nat → Option (List TT × List Int × Int × List Int)) : Prop := ∃ l', Ev f (g, room, w, l') ∧ l'.length ≤ 17
theorem drawStarts_end {B : List Int} (hB : RdOk B) (g : List TT) (room : List Int) (w : Int) (out : List Int) (p : Int) (hp : 0 ≤ p) (hp' : p ≤ 10000) (hl : out.length ≤ 16) :
  QS g room w (fun k => (spec_reader_spoil.f k B p out 5).bind fun bt => some (g, room, w, bt.1)) := by
 obtain ⟨l', q, e1, h3, h4, h5⟩ := spoil_ev hB out 5 p (by omega) hp (by omega)
 exact ⟨l', Ev.bind e1 (Ev.pure _), by omega⟩
theorem drawStarts_l1 {B : List Int} (g : List TT) (hg : GB 16 16 g) (room : List Int) (w : Int) (out : List Int) (p : Int) (ho : out.length ≤ 16)
  (hgo : ∀ c : List Int, c.length ≤ 16 → QS g room w (fun k => spec_DrawOrderStarts.l1 k g room w out c (g.length : Int) B p)) : ∀ (m j : Nat) (c : List Int), j + m = g.length → c.length ≤ j →
  QS g room w (fun k => spec_DrawOrderStarts.l1 k g room w out c (j : Int) B p)
 | 0, j, c, hj, hc => by
  have hgl := hg.1
  have : j = g.length := by omega
  subst this
  exact hgo c (by omega)
 | m + 1, j, c, hj, hc => by
  have hgl := hg.1
  have hs := hg.small (by omega) (by omega)
  have hw : wrap64 ((j : Int) + 1) = ((j + 1 : Nat) : Int) := w64n j (by omega)
  have hsm := small_rd hs (j : Int)
  obtain ⟨l1, e1, b1⟩ := drawStarts_l1 g hg room w out p ho hgo m (j + 1) c (by omega) (by omega)
  obtain ⟨l2, e2, b2⟩ := drawStarts_l1 g hg room w out p ho hgo m (j + 1) (c ++ [(j : Int)]) (by omega) (by simp only [List.length_append, List.length_cons, List.length_nil]; omega)
  by_cases h1 : decide ((j : Int) ∈ out) = true
  ·refine ⟨l1, Ev.succ ?_, b1⟩
   simp only [spec_DrawOrderStarts.l1, hw]
   exact Ev.pos (by omega) (Ev.bind (isIn_ev _ _ (by omega)) (Ev.pos h1 e1))
  ·by_cases h2 : subL (rd_T38 g (j : Int)).f1 out = true
   ·refine ⟨l2, Ev.succ ?_, b2⟩
    simp only [spec_DrawOrderStarts.l1, hw]
    exact Ev.pos (by omega) (Ev.bind (isIn_ev _ _ (by omega)) (Ev.neg h1 (Ev.pos (by omega) (Ev.bind (allDone_ev _ _ (by omega) (by omega)) (Ev.pos h2 (Ev.pos (by omega) e2))))))
   ·refine ⟨l1, Ev.succ ?_, b1⟩
    simp only [spec_DrawOrderStarts.l1, hw]
    exact Ev.pos (by omega) (Ev.bind (isIn_ev _ _ (by omega)) (Ev.neg h1 (Ev.pos (by omega) (Ev.bind (allDone_ev _ _ (by omega) (by omega)) (Ev.neg h2 e1)))))
theorem drawStarts_l0 {B : List Int} (hB : RdOk B) (g : List TT) (hg : GB 16 16 g) (room : List Int) (w : Int) : ∀ (m : Nat) (out : List Int) (p : Int), out.length + m = g.length → 0 ≤ p → p + m ≤ 5000 →
  QS g room w (fun k => spec_DrawOrderStarts.l0 k g room w out B p)
 | 0, out, p, hj, hp, hp' => by
  have hgl := hg.1
  obtain ⟨l1, e1, b1⟩ := drawStarts_end hB g room w out p hp (by omega) (by omega)
  refine ⟨l1, Ev.succ ?_, b1⟩
  simp only [spec_DrawOrderStarts.l0]
  exact Ev.neg (by omega) e1
 | m + 1, out, p, hj, hp, hp' => by
  have hgl := hg.1
  obtain ⟨l0, e0, b0⟩ := drawStarts_l1 (B := B) g hg room w out p (by omega) (fun c hc => by
   by_cases hc0 : (c.length : Int) = 0
   ·obtain ⟨l1, e1, b1⟩ := drawStarts_end hB g room w out p hp (by omega) (by omega)
    refine ⟨l1, Ev.succ ?_, b1⟩
    simp only [spec_DrawOrderStarts.l1]
    exact Ev.neg (by omega) (Ev.pos hc0 e1)
   ·obtain ⟨a, q, e1, ha, h1, h2⟩ := pick_ev hB (c.length : Int) p hp (by omega)
    have ha2 := ha.2.1 (by omega)
    obtain ⟨l1, e2, b1⟩ := drawStarts_l0 hB g hg room w m (out ++ [rd c a]) q (by simp only [List.length_append, List.length_cons, List.length_nil]; omega) (by omega) (by omega)
    refine ⟨l1, Ev.succ ?_, b1⟩
    simp only [spec_DrawOrderStarts.l1]
    exact Ev.neg (by omega) (Ev.neg hc0 (Ev.bind e1 (Ev.pos ha.1 (Ev.pos ha2 (Ev.pos (by omega) e2)))))) g.length 0 [] (by omega) (by simp)
  refine ⟨l0, Ev.succ ?_, b0⟩
  simp only [spec_DrawOrderStarts.l0]
  exact Ev.pos (by omega) e0
theorem drawStarts_ev (l0 : List Int) (hb : ∀ x ∈ l0, (Lit.int .u8 x).wf = true) : ∃ g room workers list, Ev (fun k => spec_DrawOrderStarts.f k l0) (g, room, workers, list) ∧ GB 16 16 g ∧ room.length ≤ 4 ∧ list.length ≤ 17 := by
 obtain ⟨B, e0, hB⟩ := newReader_ev l0 hb
 obtain ⟨g, q, e1, hg, h1, h2⟩ := smallGraph_ev hB 0 (by omega) (by omega)
 obtain ⟨room, q2, e2, hr, h3, h4⟩ := someRoom_ev hB q (by omega) (by omega)
 obtain ⟨w, q3, e3, hw, h5, h6⟩ := someWorkers_ev hB q2 (by omega) (by omega)
 obtain ⟨list, e4, h7⟩ := drawStarts_l0 hB g hg room w g.length [] q3 (by simp) (by omega) (by have := hg.1; omega)
 refine ⟨g, room, w, list, ?_, hg, hr, h7⟩
 unfold spec_DrawOrderStarts.f
 exact Ev.bind (Ev.eq e0) (Ev.bind e1 (Ev.bind e2 (Ev.bind e3 e4)))
end Go.Proofs.YtdmeiiedbhfniaaDoor.P
end
section
namespace Go.Proofs.YtdmeiiedbhfniaaDoor.Pure
open Go.RowKit YtdmeiiedbhfniaaDoor.P
open Go.Proofs.YtdmeiiedbhfniaaDoorW.PrintWords (rd mx)
theorem filter_more {p q : Nat → Bool} : ∀ {l : List Nat}, (∀ k ∈ l, p k = true → q k = true) → (l.filter p).Sublist (l.filter q)
 | [], _ => List.Sublist.slnil
 | x :: l, h => by
  have ih := filter_more (fun k hk => h k (List.mem_cons_of_mem _ hk))
  rw [List.filter_cons, List.filter_cons]
  by_cases hp : p x = true
  ·rw [if_pos hp, if_pos (h x List.mem_cons_self hp)]
   exact ih.cons_cons x
  ·rw [if_neg hp]
   split
   ·exact ih.cons x
   ·exact ih
theorem used_sub {ts : List TT} (hf : Fine ts) (P : Int) {a b : List Nat} (h : a.Sublist b) : (∀ k ∈ b, k < ts.length) → usedL ts (nI a) P ≤ usedL ts (nI b) P := by
 induction h with
 | slnil => intro _; exact Int.le_refl _
 | cons x h ih =>
  intro hb
  have h1 := unitsIn_in hf (i := (x : Int)) (by omega) (by have := hb x List.mem_cons_self; omega) P
  have h2 := ih (fun k hk => hb k (List.mem_cons_of_mem _ hk))
  simp only [nI, usedL, List.map_cons, List.sum_cons] at h2 ⊢
  omega
 | cons_cons x h ih =>
  intro hb
  have h2 := ih (fun k hk => hb k (List.mem_cons_of_mem _ hk))
  simp only [nI, usedL, List.map_cons, List.sum_cons] at h2 ⊢
  omega
theorem free_back {ts : List TT} (hf : Fine ts) {f : Nat → Int} {p : Nat} (hp : p < 2 ^ ts.length) {i : Nat} (hi : i < ts.length) {room : List Int} {workers e : Int} (hend : ∀ k ∈ bitsN p, f k + timeW ts k ≠ e) (hfs : ∀ k ∈ bitsN p, 0 ≤ f k ∧ f k ≤ 1000 ∧ 1 ≤ timeW ts k ∧ timeW ts k ≤ 20)
  (h : freeAt ts f p i room workers e = true) : freeAt ts f p i room workers (e - 1) = true := by
 rw [freeAt_eq hf f hp hi, decide_eq_true_eq] at h ⊢
 have hs := filter_more (l := bitsN p) (p := runsB ts f (e - 1)) (q := runsB ts f e) (fun k hk h1 => by
  have h2 := hend k hk
  have h3 := hfs k hk
  unfold runsB at h1 ⊢
  rw [w64 (by omega) (by omega)] at h1 ⊢
  rw [Bool.and_eq_true, decide_eq_true_eq, decide_eq_true_eq] at h1 ⊢
  omega)
 have h1 := hs.length_le
 have h2 := used_sub hf (rd_T38 ts (i : Int)).f2 hs (fun k hk => bitsN_lt hp k (List.mem_filter.1 hk).1)
 omega
theorem over_is (ts : List TT) (f : Nat → Int) : ∀ (l : List Nat) (a : Int), (∀ k ∈ l, 0 ≤ f k ∧ f k ≤ 1000 ∧ 1 ≤ timeW ts k ∧ timeW ts k ≤ 20) →
  l.foldl (fun a k => mx a (wrap64 (f k + timeW ts k))) a = a ∨ ∃ k ∈ l, l.foldl (fun a k => mx a (wrap64 (f k + timeW ts k))) a = f k + timeW ts k
 | [], a, _ => Or.inl rfl
 | x :: l, a, h => by
  have hx := h x List.mem_cons_self
  rw [List.foldl_cons, w64 (by omega) (by omega)]
  have hm : mx a (f x + timeW ts x) = a ∨ mx a (f x + timeW ts x) = f x + timeW ts x := by unfold mx; split <;> simp
  rcases over_is ts f l (mx a (f x + timeW ts x)) (fun k hk => h k (List.mem_cons_of_mem _ hk)) with e | ⟨k, hk, e⟩
  ·rw [e]
   rcases hm with hm | hm
   ·exact Or.inl hm
   ·exact Or.inr ⟨x, List.mem_cons_self, hm⟩
  ·exact Or.inr ⟨k, List.mem_cons_of_mem _ hk, e⟩
theorem starts_first {G : GrN} (hg : graphP G.ts = some G) {room : List Int} (hr : roomP room = true) {workers : Int} (hw : 1 ≤ workers) {list : List Int} (hl : list.length ≤ 8) (h : okGo G.ts.length G.nd list 0 = true) (h0 : 0 < list.length) :
  ∀ j, j ≤ list.length → (∀ k ∈ bitsN (startsS G.ts G.nd room workers ((list.map Int.toNat).take j)).2, (startsS G.ts G.nd room workers ((list.map Int.toNat).take j)).1 k = 0 ∨
    ∃ x ∈ bitsN (startsS G.ts G.nd room workers ((list.map Int.toNat).take j)).2, (startsS G.ts G.nd room workers ((list.map Int.toNat).take j)).1 x + timeW G.ts x = (startsS G.ts G.nd room workers ((list.map Int.toNat).take j)).1 k) ∧
   (0 < j → list[0].toNat ∈ bitsN (startsS G.ts G.nd room workers ((list.map Int.toNat).take j)).2 ∧ (startsS G.ts G.nd room workers ((list.map Int.toNat).take j)).1 list[0].toNat = 0)
 | 0, _ => ⟨fun k hk => Or.inl rfl, fun h => absurd h (by omega)⟩
 | j + 1, hj => by
  have hOk := (graphP_ok hg).2.2
  have hF := Fine.of (graphP_fine hg).1
  have hjl : j < list.length := by omega
  obtain ⟨a1, a2, a3⟩ := okGo_at h j hjl
  have hst := starts_ok hOk hr hw hl h j (by omega)
  have hmk := startsS_mask G.ts G.nd room workers ((list.map Int.toNat).take j)
  rw [← hmk] at a2 a3
  have e : (list.map Int.toNat).take (j + 1) = (list.map Int.toNat).take j ++ [list[j].toNat] := by
   rw [List.take_succ_eq_append_getElem (by rw [List.length_map]; omega)]
   simp
  obtain ⟨ih1, ih2⟩ := starts_first hg hr hw hl h h0 j (by omega)
  rw [e, startsS_snoc]
  have hj0 : j = 0 → startsS G.ts G.nd room workers ((list.map Int.toNat).take j) = (fun _ => 0, 0) := fun h => by rw [h]; rfl
  obtain ⟨st, hste⟩ : ∃ st, startsS G.ts G.nd room workers ((list.map Int.toNat).take j) = st := ⟨_, rfl⟩
  rw [hste] at ih1 ih2 a2 a3 hst hj0 ⊢
  obtain ⟨i, hi⟩ : ∃ i : Nat, list[j] = (i : Int) := ⟨list[j].toNat, by omega⟩
  rw [hi] at a1 a2 a3 ⊢
  rw [Int.toNat_natCast] at a2 a3 ⊢
  have hin : i < G.ts.length := by omega
  have hn8 := hOk.n8
  obtain ⟨z0, z1, z2, z3, z4, _⟩ := hst.early hOk (by omega) hin hr hw a3
  have htw := hOk.timeW i hin
  have hfs : ∀ k ∈ bitsN st.2, 0 ≤ st.1 k ∧ st.1 k ≤ 1000 ∧ 1 ≤ timeW G.ts k ∧ timeW G.ts k ≤ 20 := fun k hk => by
   have h1 := hst.pos k
   have h2 := hst.le k hk
   have h3 := hOk.timeW k (hst.mem k hk)
   omega
  have hne : ∀ k ∈ bitsN st.2, k ≠ i := fun k hk e => by rw [mem_bitsN, e, a2] at hk; cases hk.2
  have hneed : ∀ k ∈ bitsN (G.nd.getD i 0), k ∈ bitsN st.2 := fun k hk => by
   rw [mem_bitsN] at hk ⊢
   have := hk.2
   rw [← a3, Nat.testBit_and, Bool.and_eq_true] at this
   exact ⟨hk.1, this.2⟩
  have hnew : earlyP G.ts G.nd st.1 st.2 i room workers = 0 ∨ ∃ x ∈ bitsN st.2, st.1 x + timeW G.ts x = earlyP G.ts G.nd st.1 st.2 i room workers := by
   by_cases hex : ∃ x ∈ bitsN st.2, st.1 x + timeW G.ts x = earlyP G.ts G.nd st.1 st.2 i room workers
   ·exact Or.inr hex
   ·by_cases hov : earlyP G.ts G.nd st.1 st.2 i room workers = overW G.ts G.nd st.1 i
    ·rcases over_is G.ts st.1 (bitsN (G.nd.getD i 0)) 0 (fun k hk => hfs k (hneed k hk)) with h | ⟨k, hk, h⟩
     ·exact Or.inl (hov.trans h)
     ·exact absurd ⟨k, hneed k hk, (hov.trans h).symm⟩ hex
    ·exfalso
     have hno := z4 (earlyP G.ts G.nd st.1 st.2 i room workers - 1) (by omega) (by omega)
     obtain ⟨E, hE⟩ : ∃ E, earlyP G.ts G.nd st.1 st.2 i room workers = E := ⟨_, rfl⟩
     rw [hE] at hno z3 hex
     unfold freeTo at hno z3
     have z3' := List.all_eq_true.1 z3
     refine absurd ?_ (Bool.eq_false_iff.1 hno)
     refine List.all_eq_true.2 fun q hq => ?_
     have hq' := List.mem_range.1 hq
     cases q with
     | zero =>
      have hz := z3' 0 (List.mem_range.2 (by omega))
      rw [show E + ((0 : Nat) : Int) = E by omega] at hz
      rw [show E - 1 + ((0 : Nat) : Int) = E - 1 by omega]
      exact free_back hF hst.lt hin (fun k hk h => hex ⟨k, hk, h⟩) hfs hz
     | succ q =>
      have hz := z3' q (List.mem_range.2 (by omega))
      rw [show E - 1 + ((q + 1 : Nat) : Int) = E + (q : Int) by omega]
      exact hz
  have hkeep : ∀ k ∈ bitsN st.2, (stepS G.ts G.nd room workers st i).1 k = st.1 k := fun k hk => by unfold stepS; simp only; rw [if_neg (hne k hk)]
  have hin2 : ∀ k ∈ bitsN st.2, k ∈ bitsN (stepS G.ts G.nd room workers st i).2 := fun k hk => bits_or.2 (Or.inl hk)
  have hself : (stepS G.ts G.nd room workers st i).1 i = earlyP G.ts G.nd st.1 st.2 i room workers := by unfold stepS; simp only; rw [if_pos trivial]
  refine ⟨fun k hk => ?_, fun _ => ?_⟩
  ·rcases bits_or.1 hk with hk | ⟨_, rfl⟩
   ·rw [hkeep k hk]
    rcases ih1 k hk with h | ⟨x, hx, h⟩
    ·exact Or.inl h
    ·exact Or.inr ⟨x, hin2 x hx, by rw [hkeep x hx]; exact h⟩
   ·rw [hself]
    rcases hnew with h | ⟨x, hx, h⟩
    ·exact Or.inl h
    ·exact Or.inr ⟨x, hin2 x hx, by rw [hkeep x hx]; exact h⟩
  ·by_cases hj1 : j = 0
   ·subst hj1
    have hz : list[0].toNat = i := by omega
    rw [hz, hself]
    refine ⟨bits_or.2 (Or.inr ⟨by omega, rfl⟩), by omega⟩
   ·obtain ⟨h1, h2⟩ := ih2 (by omega)
    exact ⟨hin2 _ h1, by rw [hkeep _ h1]; exact h2⟩
theorem law_l1 (g : List TT) (list : List Int) (F : Nat → Int) (i : Nat) (hi : i < g.length) (hn : g.length ≤ 8) (hF : ∀ k, k < g.length → 0 ≤ F k ∧ F k ≤ 1000 ∧ 1 ≤ timeW g k ∧ timeW g k ≤ 20)
  (hgo : Ev (fun k => laws_FnOrderStartsFirst.l0 k g list (fnL g.length F) ((i + 1 : Nat) : Int)) true) : ∀ (m j : Nat) (b : Bool), j + m = g.length → (b = true ∨ ∃ k, j ≤ k ∧ k < g.length ∧ F k + timeW g k = F i) →
  Ev (fun k => laws_FnOrderStartsFirst.l1 k g list (fnL g.length F) (i : Int) b (j : Int)) true
 | 0, j, b, hj, hb => by
  refine Ev.succ ?_
  simp only [laws_FnOrderStartsFirst.l1, fnL_len]
  refine Ev.neg (by omega) (Ev.pos ?_ ?_)
  ·rcases hb with h | ⟨k, h1, h2, _⟩
   ·exact h
   ·omega
  ·rw [w64n i (by omega)]
   exact hgo
 | m + 1, j, b, hj, hb => by
  have hw : wrap64 ((j : Int) + 1) = ((j + 1 : Nat) : Int) := w64n j (by omega)
  have hfj := hF j (by omega)
  have et : (rd_T38 g (j : Int)).f0 = timeW g j := rfl
  refine Ev.succ ?_
  simp only [laws_FnOrderStartsFirst.l1, fnL_len, hw, et, rd_fn F (show j < g.length by omega), rd_fn F hi]
  rw [w64 (n := F j + timeW g j) (by omega) (by omega)]
  refine Ev.pos (by omega) (Ev.ite (fun h => ?_) (fun h => ?_))
  ·exact law_l1 g list F i hi hn hF hgo m (j + 1) true (by omega) (Or.inl rfl)
  ·refine Ev.pos (by omega) (Ev.pos (by omega) (Ev.pos (by omega) (Ev.pos (by omega) ?_)))
   refine law_l1 g list F i hi hn hF hgo m (j + 1) _ (by omega) ?_
   rcases hb with h2 | ⟨k, h1, h2, h3⟩
   ·exact absurd h2 h
   ·by_cases hk : k = j
    ·subst hk
     exact Or.inl (by rw [h3]; simp)
    ·exact Or.inr ⟨k, by omega, h2, h3⟩
theorem law_l0 (g : List TT) (list : List Int) (F : Nat → Int) (hn : g.length ≤ 8) (hF : ∀ k, k < g.length → 0 ≤ F k ∧ F k ≤ 1000 ∧ 1 ≤ timeW g k ∧ timeW g k ≤ 20) (hk : ∀ i, i < g.length → F i = 0 ∨ ∃ k, k < g.length ∧ F k + timeW g k = F i)
  (h0 : 0 < list.length) (h1 : 0 ≤ rd list 0 ∧ rd list 0 < g.length) (h2 : F (rd list 0).toNat = 0) : ∀ (m j : Nat), j + m = g.length → Ev (fun k => laws_FnOrderStartsFirst.l0 k g list (fnL g.length F) (j : Int)) true
 | 0, j, hj => by
  have h3 := rd_fn (n := g.length) F (i := (rd list 0).toNat) (by omega)
  rw [Int.toNat_of_nonneg h1.1, h2] at h3
  refine Ev.succ ?_
  simp only [laws_FnOrderStartsFirst.l0, fnL_len, h3]
  exact Ev.neg (by omega) (Ev.pos (by omega) (Ev.pos h1.1 (Ev.pos h1.2 (Ev.pure _))))
 | m + 1, j, hj => by
  refine Ev.succ ?_
  simp only [laws_FnOrderStartsFirst.l0, fnL_len, rd_fn F (show j < g.length by omega)]
  refine Ev.pos (by omega) (Ev.pos (by omega) ?_)
  refine law_l1 g list F j (by omega) hn hF (law_l0 g list F hn hF hk h0 h1 h2 m (j + 1) (by omega)) g.length 0 _ (by omega) ?_
  rcases hk j (by omega) with h | ⟨k, h3, h4⟩
  ·exact Or.inl (by rw [h]; rfl)
  ·exact Or.inr ⟨k, by omega, h3, h4⟩
theorem FnOrderStartsFirst : laws_FnOrderStartsFirst.Pure := by
 intro l0 _ _ hb
 refine Ev.get (f := fun k => laws_FnOrderStartsFirst.f k l0) ?_
 unfold laws_FnOrderStartsFirst.f
 refine Ev.ite (fun _ => Ev.pure _) (fun _ => ?_)
 obtain ⟨g, room, workers, list, e1, hg, hr, hl⟩ := drawStarts_ev l0 hb
 have hs := hg.small (by omega) (by omega)
 have hgl := hg.1
 have hA := OrderStarts_ev g hs room (by omega) workers list (by omega)
 obtain ⟨out, hout⟩ : ∃ out, orderStartsW g room workers list = out := ⟨_, rfl⟩
 have hform : out = [] ∨ ∃ G, fewP g room workers = some G ∧ (list.length = g.length ∧ okGo G.ts.length G.nd list 0 = true) ∧ out = fnL G.ts.length (startsS G.ts G.nd room workers (list.map Int.toNat)).1 := by
  unfold orderStartsW at hout
  cases hw : fewP g room workers with
  | none => rw [hw] at hout; exact Or.inl hout.symm
  | some G =>
   rw [hw] at hout
   simp only at hout
   by_cases hc : list.length = g.length ∧ okGo G.ts.length G.nd list 0 = true
   ·rw [if_pos hc] at hout
    exact Or.inr ⟨G, rfl, hc, hout.symm⟩
   ·rw [if_neg hc] at hout
    exact Or.inl hout.symm
 have hI : impl_OrderStarts.f g room workers list = some out := by unfold impl_OrderStarts.f; rw [hout]
 rw [hout] at hA
 have hol : out.length ≤ 16 := by
  rcases hform with h | ⟨G, h1, h2, h⟩
  ·rw [h]; simp
  ·have := (graphP_fine (placeP_ok (fewP_ok h1).2).1).2.2
   rw [h, fnL_len, this]; exact hgl
 have heq := same_ev out (by omega)
 refine Ev.bind e1 (Ev.bind (Ev.eq hI) (Ev.bind hA (Ev.bind heq (Ev.pos rfl ?_))))
 refine Ev.succ ?_
 simp only [laws_FnOrderStartsFirst.j0]
 refine Ev.ite (fun _ => Ev.bind hA (Ev.bind heq (Ev.pure _))) (fun h0 => ?_)
 have hne : out ≠ [] := fun e => h0 (by rw [e]; rfl)
 rcases hform with h | ⟨G, h1, ⟨h2, h3⟩, h⟩
 ·exact absurd h hne
 ·obtain ⟨h5, hpl⟩ := fewP_ok h1
  obtain ⟨hgr, hrm, hw1, hw4⟩ := placeP_ok hpl
  obtain ⟨hfb, hnd, hts⟩ := graphP_fine hgr
  have hOk := (graphP_ok hgr).2.2
  have hn0 : 0 < g.length := by
   rcases Nat.eq_zero_or_pos g.length with hz | hz
   ·exact absurd (by rw [h, hts, hz]; rfl) hne
   ·exact hz
  have hgr' : graphP G.ts = some G := by rw [hts]; exact hgr
  have hfull := ord_full h3 (by rw [h2, hts])
  rw [← startsS_mask G.ts G.nd room workers] at hfull
  have hfst := starts_first hgr' hrm hw1 (by omega) h3 (by omega) list.length (Nat.le_refl _)
  have hst := starts_ok hOk hrm hw1 (by omega) h3 list.length (Nat.le_refl _)
  rw [List.take_of_length_le (by rw [List.length_map]; omega)] at hfst hst
  obtain ⟨q1, q2⟩ := hfst
  have hall : ∀ k, k < g.length → k ∈ bitsN (startsS G.ts G.nd room workers (list.map Int.toNat)).2 := fun k hk => by
   rw [hfull, mem_bitsN, Nat.testBit_two_pow_sub_one, hts]
   exact ⟨by omega, decide_eq_true hk⟩
  obtain ⟨q3, q4⟩ := q2 (by omega)
  rw [h]
  rw [hts] at q1 q3 q4 hall hst ⊢
  have hr0 : rd list 0 = list[0] := by simp [rd, show 0 < list.length by omega]
  have hpos := (okGo_at h3 0 (by omega)).1
  refine law_l0 g list _ (by omega) (fun k hk => ?_) (fun i hi => ?_) (by omega) (by rw [hr0]; rw [hts] at hpos; exact hpos) (by rw [hr0]; exact q4) g.length 0 (by omega)
  ·have h6 := hst.pos k
   have h7 := hst.le k (hall k hk)
   have h8 := hOk.timeW k (by rw [hts]; exact hk)
   rw [hts] at h7 h8
   omega
  ·rcases q1 i (hall i hi) with h6 | ⟨x, hx, h6⟩
   ·exact Or.inl h6
   ·have hlt := hst.lt
    rw [hts] at hlt
    exact Or.inr ⟨x, bitsN_lt hlt x hx, h6⟩
end Go.Proofs.YtdmeiiedbhfniaaDoor.Pure
end
section
namespace Go.Proofs.YtdmeiiedbhfniaaDoor.fnOrderStartsFirst
open Go.ChangeShapes Go.WideShapes Go.ChangeAt Go.RowKit
open Go.ChangeMaps (open_string shut_string)
open Go.Proofs.YtdmeiiedbhfniaaDoorW
theorem own : ownKnob Tryd.prog.godebug = none := by kernel_rfl
theorem laidOut : laidOutB Tryd.prog = true := by kernel_rfl
def IsRow (k : IntKind) (w : World) (a : Option Addr) (len cap : Nat) (zs : List Int) : Prop :=
 (a = none ∧ len = 0 ∧ cap = 0 ∧ zs = []) ∨
 ∃ x, a = some x ∧ len ≤ cap ∧ cap ≤ maxLen ∧ zs.length = cap ∧ (∀ i, i < zs.length → w.cell? (x.add i) = some (.int k (zs.getD i 0))) ∧ ∀ n ∈ zs, (Lit.int k n).wf = true
theorem gTab : Tryd.prog.globalNamed "math/bits.deBruijn32tab" = some 0 := by kernel_rfl
theorem gTabType : (Tryd.prog.globals[0]?).map (·.type) = some 144 := by kernel_rfl
theorem cellsTab : Tryd.prog.cellsOf 144 = 32 := by kernel_rfl
theorem cellsByte : Tryd.prog.cellsOf 5 = 1 := by kernel_rfl
theorem table {W : World} (h : laidMetH Tryd.prog Rows.fnOrderStartsFirstRow.laid W) : Lib.TabIs Tryd.prog W "math/bits.deBruijn32tab" .u8 [0, 1, 28, 2, 29, 14, 24, 3, 30, 22, 20, 15, 25, 17, 4, 8, 31, 27, 13, 23, 21, 19, 16, 7, 26, 12, 18, 6, 11, 5, 10, 9] :=
 Lib.tabIs_of_head (rest := []) gTab gTabType Tryd.underlying144 Tryd.underlying5 cellsByte cellsTab h
theorem tabOK {W : World} (h : laidMetH Tryd.prog Rows.fnOrderStartsFirstRow.laid W) : TabOK W := by
 intro j hj
 have h2 := (table h).cell gTab j (by simpa using hj)
 rw [h2]
 have h3 : ∀ j, j < 32 → (([0, 1, 28, 2, 29, 14, 24, 3, 30, 22, 20, 15, 25, 17, 4, 8, 31, 27, 13, 23, 21, 19, 16, 7, 26, 12, 18, 6, 11, 5, 10, 9] : List Int).getD j 0) = ((Lib.deBruijn32tab.getD j 0 : Nat) : Int) := by decide
 have h4 := h3 j hj
 simp only [List.getD_eq_getElem?_getD] at h4 ⊢
 first | (rw [h4]) | (simp at h4 ⊢; exact h4) | exact congrArg (fun z => some (Value.int IntKind.u8 z)) h4
noncomputable def laidWorld (os : Os) : World :=
 { World.holding Tryd.prog os ⟨#[], #[], []⟩ with heap := (World.holding Tryd.prog os ⟨#[], #[], []⟩).heap.modify 0 fun
   | .cells _ t frozen => .cells #[.int .u8 0, .int .u8 1, .int .u8 28, .int .u8 2, .int .u8 29, .int .u8 14, .int .u8 24, .int .u8 3, .int .u8 30, .int .u8 22, .int .u8 20, .int .u8 15, .int .u8 25, .int .u8 17, .int .u8 4, .int .u8 8, .int .u8 31, .int .u8 27, .int .u8 13, .int .u8 23, .int .u8 21, .int .u8 19, .int .u8 16, .int .u8 7, .int .u8 26, .int .u8 12, .int .u8 18, .int .u8 6, .int .u8 11, .int .u8 5, .int .u8 10, .int .u8 9] t frozen
   | o => o }
theorem laid_met (os : Os) : laidMet Tryd.prog Rows.fnOrderStartsFirstRow.laid ((laidWorld os).forCall (fun _ _ => 0) ⟨#[], #[.slice none 0 0], []⟩).memory :=
 laidMet_of_run' 8 (by kernel_rfl) (by kernel_rfl)
theorem reads (os : Os) {H : Type} (enc : TypeId × Value → H) : ∃ places, DataW.whole enc Tryd.prog ((laidWorld os).forCall (fun _ _ => 0) ⟨#[], #[.slice none 0 0], []⟩).memory Tryd.f4.params.toList Rows.fnOrderStartsFirstSpec.vars false #[Value.slice none 0 0].toList 8 = some ([.nil], [], places) :=
 ⟨[], by kernel_rfl⟩
set_option maxRecDepth 100000 in
theorem lifted (os : Os) (started : os.Started) (H : Type) (enc : TypeId × Value → H) (F : Stop.Interp) :
  ReturnsInHanded {} Tryd.checked os 4 .any ((OpenSpec.ofChange Rows.fnOrderStartsFirstSpec).preRow enc Tryd.prog Tryd.f4 Rows.fnOrderStartsFirstRow.domain false Rows.fnOrderStartsFirstRow.laid) (((OpenSpec.ofChange Rows.fnOrderStartsFirstSpec).at F).post enc Tryd.prog Tryd.f4 false true false false) := by
 obtain ⟨places, hx⟩ := reads os enc
 refine returnsInHanded_of_row (C := Tryd.checked) (s := OpenSpec.ofChange Rows.fnOrderStartsFirstSpec) own started (by kernel_rfl) Tryd.func4
  (witness_row_at (enc := enc) (C := Tryd.checked) false (laidWorld os) #[.slice none 0 0] rfl (by kernel_rfl) (by kernel_rfl) (by kernel_rfl)
   (OpenSpec.preRow_of_cond 8 hx (by kernel_rfl) (fun k hk => by cases hk) (by kernel_rfl) (laid_met os))) ?_
 intro W base args ds gs before hval0 hW hcnd _ hsz0 hL _ _
 have hsz : (DataW.weightsEach Tryd.prog (Tryd.f4.params.toList ++ Rows.fnOrderStartsFirstSpec.plain.varTypes Tryd.prog) (ds ++ gs)).all (· ≤ reachBytes) = true := hsz0
 have hval : ∀ (j : Nat) t v, Tryd.f4.params[j]? = some t → args[j]? = some v → Value.okWide Tryd.prog W .any base t v := hval0
 have hW' := hW
 obtain ⟨p, q, hA0, hV, rfl, hfz, hnd⟩ := hW
 have hA : DataW.TrodAll enc Tryd.prog W 0 (fun _ => true) true Tryd.f4.params.toList args.toList ds p := hA0
 rw [Tryd.params4] at hA hval hsz
 obtain ⟨v0, vs0, d0, ds0, p0, q0, hargs, rfl, rfl, h0, r0⟩ := trodAll_cons hA
 obtain ⟨rfl, rfl, rfl⟩ := trodAll_nil r0
 obtain rfl : args = #[v0] := by cases args; simp_all
 obtain ⟨rfl, rfl⟩ := trodVars_none hV
 obtain ⟨a0, len0, cap0, rfl⟩ := okWide_slice Tryd.underlying34 (hval 0 34 v0 rfl rfl)
 have k0 := h0
 have lt0 : ∀ x ∈ p0, x.block < W.heap.size := by obtain ⟨m, hm⟩ := k0; exact DataW.trod_lt m _ _ _ hm
 obtain ⟨z0, w0⟩ : ∃ zs, IsRow .u8 W a0 len0 cap0 zs := by
  obtain ⟨fuel, hf⟩ := h0
  rcases open_ints Tryd.underlying34 Tryd.underlying5 (by kernel_rfl) hf with ⟨hcs, _⟩ | ⟨x, l, c, zs, hcs, _, hl, hm, hz, _, hcell, hwz⟩
  ·simp [Value.cells] at hcs
   obtain ⟨rfl, rfl, rfl⟩ := hcs
   exact ⟨[], .inl ⟨rfl, rfl, rfl, rfl⟩⟩
  ·simp [Value.cells] at hcs
   obtain ⟨rfl, rfl, rfl⟩ := hcs
   exact ⟨zs, .inr ⟨_, rfl, hl, hm, by simpa using hz, hcell, hwz⟩⟩
 have y0 : len0 * 1 ≤ 140737488351232 := PrintWords.sized_ints hsz (j := 0) (t := 34) rfl rfl Tryd.underlying34 Tryd.underlying5 (by kernel_rfl) (by kernel_rfl) h0
 clear hA0 hval0 hsz0 hsz
 refine (P.laws_FnOrderStartsFirst.walk Pure.FnOrderStartsFirst a0 len0 cap0 z0 W w0 y0 (tabOK hL)).mono fun e W' ⟨he, bel⟩ => ?_
 subst he
 exact ⟨_, rfl, _, _, _, [], _, [], hW', trodAll_mk1 (shut_bool Tryd.underlying4 _), (trodAll_cons_mk (Below.trod laidOut (by kernel_rfl) (of_decide_eq_true (by kernel_rfl)) k0 bel lt0) trodAll_mk0), rfl, bel.frame _, fun h => by cases h⟩
theorem said : Rows.FnOrderStartsFirstSaid :=
 OpenClaim.holds_of_cond 4 Tryd.f4 rfl rfl rfl rfl rfl rfl rfl ⟨rfl, rfl, rfl, rfl, rfl⟩ rfl rfl rfl rfl rfl (by kernel_rfl) Tryd.func4 (by kernel_rfl)
  (of_decide_eq_true (by kernel_rfl)) (by unfold Func.isWrapper; first | (rw [if_pos (by decide +kernel)]; kernel_rfl) | (rw [if_neg (by decide +kernel)]; exact ⟨rfl, rfl⟩))
  (fun os started H enc _ F => by rw [OpenClaim.pre_eq_preRow]; exact lifted os started H enc F)
theorem plain (f : FuncId) (fn : Func) (hf : Tryd.pinned.checked.prog.funcNamed "loop.example/buildscheduler/laws.FnOrderStartsFirst" = some f) (hfn : Tryd.pinned.checked.prog.funcs[f]? = some fn) :
  true = Tryd.pinned.checked.prog.looks [] ∧ ∀ (j : Nat) t, fn.params[j]? = some t → Tryd.pinned.checked.prog.wantsStandIn t = false := by
 obtain rfl : f = 4 := Option.some.inj ((show Tryd.prog.funcNamed "loop.example/buildscheduler/laws.FnOrderStartsFirst" = some 4 by kernel_rfl).symm.trans hf) |>.symm
 obtain rfl : fn = Tryd.f4 := (Option.some.inj (Tryd.func4.symm.trans hfn)).symm
 refine ⟨by kernel_rfl, fun j t ht => ?_⟩
 rw [Tryd.params4] at ht
 obtain rfl : t = 34 := by simpa using Array.mem_of_getElem? ht
 exact (show Tryd.prog.wantsStandIn 34 = false by kernel_rfl)
theorem card : Rows.FnOrderStartsFirstCardSaid :=
 Claim7.holds_tied_plain_at .later [] _ _ _ _ said (fun _ h => by cases h) (by kernel_rfl) (fun _ h => by cases h) fnOrderStartsFirst_row_tie rfl ⟨rfl, rfl⟩ (by kernel_rfl) rfl plain (by kernel_rfl)
end Go.Proofs.YtdmeiiedbhfniaaDoor.fnOrderStartsFirst
namespace Go.Proofs.YtdmeiiedbhfniaaDoor
theorem fnOrderStartsFirst_card : Rows.FnOrderStartsFirstCardSaid := fnOrderStartsFirst.card
end Go.Proofs.YtdmeiiedbhfniaaDoor
end
