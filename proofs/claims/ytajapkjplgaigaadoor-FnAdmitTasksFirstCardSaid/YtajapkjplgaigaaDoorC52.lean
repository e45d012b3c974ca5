/- Merged texts of one claim: part 25 of what the statement's proof stands on. No condition. -/
import Derived.Test.YtajapkjplgaigaaDoorC50
import Derived.Test.YtajapkjplgaigaaDoorC51
import Derived.RangeFuncNested
import Derived.RangeFuncBound
import Derived.RangeFuncCalls
import Derived.RangeFuncLeaves
import Derived.WalkKit
import Derived.OwnWalkIn
import Derived.TacticsInMore
import Derived.LoopNIn
import Derived.LoopIn
import Derived.Lib.TrailingZeros
import Derived.Laws.BitsLemmas
import Derived.Shelf.Abstract
import Derived.Test.YtajapkjplgaigaaDoorC5WMore
import Derived.Test.YtajapkjplgaigaaDoorProg
import Derived.OrdersIn
import Derived.StillTail
import Derived.Deep.Quiet
import Derived.Outline
import Derived.StillTailTactics
import Derived.Laws.OwnMore
import Derived.Laws.BitsAllLaws
import Derived.Deep.LoopGhost
import Derived.Laws.MakeOwn
section
namespace Go.Proofs.YtajapkjplgaigaaDoor.P
open Go.RowKit Go.Proofs.YtajapkjplgaigaaDoorW.PrintWords Go.Proofs.YtajapkjplgaigaaDoorW.PrintLast Go.Proofs.YtajapkjplgaigaaDoorW.PrintMore
attribute [local go_sem] max2_int min2_int max_two min_two max_three min_three max_four min_four   -- for this text's walks alone
set_option linter.unusedVariables false
set_option linter.unusedSimpArgs false
mutual
def spec_validRunning.j0 : Nat → List (S39) → List Int → List Int → Bool → Option (Bool)
 | 0, _, _, _, _ => none
 | k + 1, x0, x1, x2, x28 => if x28 = true then (some false) else (spec_validRunning.l0 k x0 x1 x2 0)
def spec_validRunning.l0 : Nat → List (S39) → List Int → List Int → Int → Option (Bool)
 | 0, _, _, _, _ => none
 | k + 1, x0, x1, x2, x7 => if x7 < 3 then ((spec_used.f k x0 x2 x7).bind fun t677 => (if 0 ≤ x7 then (if x7 < (x1.length : Int) then (if t677 > (rd x1 x7) then (some false) else (spec_validRunning.l0 k x0 x1 x2 (wrap64 (x7 + 1)))) else (none)) else (none))) else (some true)
end
def spec_validRunning.f (k : Nat) (l0 : List (S39)) (l1 : List Int) (l2 : List Int) : Option (Bool) := (spec_validGraph.f k l0).bind fun t673 => (if t673 = true then ((spec_validRoom.f k l1).bind fun t674 => (if t674 = true then ((spec_ascends.f k l2).bind fun t675 => (if t675 = true then ((spec_allIn.f k l2 0 (wrap64 ((l0.length : Int) - 1))).bind fun t676 => (spec_validRunning.j0 k l0 l1 l2 (!t676))) else (spec_validRunning.j0 k l0 l1 l2 true))) else (spec_validRunning.j0 k l0 l1 l2 true))) else (spec_validRunning.j0 k l0 l1 l2 true))
set_option maxHeartbeats 8000000 in
set_option maxRecDepth 100000 in
theorem spec_validRunning.calls (k : Nat) (A0 : Option Addr) (c0 : Nat) (l0 : List (S39)) (A1 : Option Addr) (c1 : Nat) (l1 : List Int) (A2 : Option Addr) (c2 : Nat) (l2 : List Int) (r : Bool) (w : World) (hr0 : Kd.C k39 w A0 l0.length l0) (hc0 : l0.length ≤ c0) (hr1 : Kd.C (Kd.int .i64) w A1 l1.length l1) (hc1 : l1.length ≤ c1) (hr2 : Kd.C (Kd.int .i64) w A2 l2.length l2) (hc2 : l2.length ≤ c2) (h : spec_validRunning.f k l0 l1 l2 = some r) :
  Calls Tryd.prog 66 #[.slice A0 l0.length c0, .slice A1 l1.length c1, .slice A2 l2.length c2] w fun e w' => e = .returned (.bool r) ∧ Below w.heap.size w w' := by
 have HR0 := Aside0.mk hr0
 have HC0 := Aside0.mk hc0
 clear hr0 hc0
 have HR1 := Aside0.mk hr1
 have HC1 := Aside0.mk hc1
 clear hr1 hc1
 have HR2 := Aside0.mk hr2
 have HC2 := Aside0.mk hc2
 clear hr2 hc2
 have HB := Aside0.mk (Below.refl w.heap.size w)
 have H : ((spec_validGraph.f k l0).bind fun t673 => (if t673 = true then ((spec_validRoom.f k l1).bind fun t674 => (if t674 = true then ((spec_ascends.f k l2).bind fun t675 => (if t675 = true then ((spec_allIn.f k l2 0 (wrap64 ((l0.length : Int) - 1))).bind fun t676 => (spec_validRunning.j0 k l0 l1 l2 (!t676))) else (spec_validRunning.j0 k l0 l1 l2 true))) else (spec_validRunning.j0 k l0 l1 l2 true))) else (spec_validRunning.j0 k l0 l1 l2 true))) = some r := h
 clear h
 have HC4 := Aside0.mk H
 clear H
 go_enter Tryd.func66, Tryd.ntmps66
 go_upto_region 1 with (fail)
 repeat (go_quiet (fail); go_upto_region 1 with (fail))
 go_cut [28] (fun v28 wc => ∃ (kq : Nat) (x28_3 : Bool), v28 = .bool x28_3 ∧ Aside0 (spec_validRunning.j0 kq l0 l1 l2 x28_3 = some r) ∧ Aside0 (kq ≤ k) ∧ Aside0 (Below w.heap.size w wc))
 case first =>
  have H := HC4.out
  clear HC4
  replace H := Option.bind_eq_some_iff.mp H
  obtain ⟨t673, A50, H⟩ := H
  replace H : (if t673 = true then ((spec_validRoom.f k l1).bind fun t674 => (if t674 = true then ((spec_ascends.f k l2).bind fun t675 => (if t675 = true then ((spec_allIn.f k l2 0 (wrap64 ((l0.length : Int) - 1))).bind fun t676 => (spec_validRunning.j0 k l0 l1 l2 (!t676))) else (spec_validRunning.j0 k l0 l1 l2 true))) else (spec_validRunning.j0 k l0 l1 l2 true))) else (spec_validRunning.j0 k l0 l1 l2 true)) = some r := H
  have A5 := Aside0.mk A50
  clear A50
  by_cases c6 : t673 = true
  ·subst c6
   have H1 : ((spec_validRoom.f k l1).bind fun t674 => (if t674 = true then ((spec_ascends.f k l2).bind fun t675 => (if t675 = true then ((spec_allIn.f k l2 0 (wrap64 ((l0.length : Int) - 1))).bind fun t676 => (spec_validRunning.j0 k l0 l1 l2 (!t676))) else (spec_validRunning.j0 k l0 l1 l2 true))) else (spec_validRunning.j0 k l0 l1 l2 true))) = some r := by rw [if_pos rfl] at H; exact H
   clear H
   have H := H1
   clear H1
   replace H := Option.bind_eq_some_iff.mp H
   obtain ⟨t674, A70, H⟩ := H
   replace H : (if t674 = true then ((spec_ascends.f k l2).bind fun t675 => (if t675 = true then ((spec_allIn.f k l2 0 (wrap64 ((l0.length : Int) - 1))).bind fun t676 => (spec_validRunning.j0 k l0 l1 l2 (!t676))) else (spec_validRunning.j0 k l0 l1 l2 true))) else (spec_validRunning.j0 k l0 l1 l2 true)) = some r := H
   have A7 := Aside0.mk A70
   clear A70
   by_cases c8 : t674 = true
   ·subst c8
    have H1 : ((spec_ascends.f k l2).bind fun t675 => (if t675 = true then ((spec_allIn.f k l2 0 (wrap64 ((l0.length : Int) - 1))).bind fun t676 => (spec_validRunning.j0 k l0 l1 l2 (!t676))) else (spec_validRunning.j0 k l0 l1 l2 true))) = some r := by rw [if_pos rfl] at H; exact H
    clear H
    have H := H1
    clear H1
    replace H := Option.bind_eq_some_iff.mp H
    obtain ⟨t675, A90, H⟩ := H
    replace H : (if t675 = true then ((spec_allIn.f k l2 0 (wrap64 ((l0.length : Int) - 1))).bind fun t676 => (spec_validRunning.j0 k l0 l1 l2 (!t676))) else (spec_validRunning.j0 k l0 l1 l2 true)) = some r := H
    have A9 := Aside0.mk A90
    clear A90
    by_cases c10 : t675 = true
    ·subst c10
     have H1 : ((spec_allIn.f k l2 0 (wrap64 ((l0.length : Int) - 1))).bind fun t676 => (spec_validRunning.j0 k l0 l1 l2 (!t676))) = some r := by rw [if_pos rfl] at H; exact H
     clear H
     have H := H1
     clear H1
     replace H := Option.bind_eq_some_iff.mp H
     obtain ⟨t676, A110, H⟩ := H
     replace H : (spec_validRunning.j0 k l0 l1 l2 (!t676)) = some r := H
     have A11 := Aside0.mk A110
     clear A110
     have H' := Aside0.mk H
     clear H
     go_wp2_with (first | (go_at_call 60; (with_reducible refine (spec_validGraph.calls k _ _ l0 true _ ?side1 ?side2 A5.out).mono ?_); (case side1 => repeat (first | exact (Kd.C_below HR0.out HB.out) | (with_reducible refine Kd.C_alloc ?_ _) | (with_reducible refine Kd.C_drewN ?_ _) | (with_reducible refine Kd.C_drew ?_))); (case side2 => exact HC0.out); rintro e w12 ⟨rfl, hb⟩; have n0_ := Aside0.mk (below_step (by repeat (first | (with_reducible first | exact HB.out | apply below_alloc | apply pw_below_drewN | apply below_drew1) | exact HB.out)) hb); clear HB; have HB := n0_; clear n0_; (try clear hb); (try clear hb2); (try clear hk); (try clear hi)) | (go_at_call 94; (with_reducible refine (spec_validRoom.calls k _ _ l1 true _ ?side1 ?side2 A7.out).mono ?_); (case side1 => repeat (first | exact (Kd.C_below HR1.out HB.out) | (with_reducible refine Kd.C_alloc ?_ _) | (with_reducible refine Kd.C_drewN ?_ _) | (with_reducible refine Kd.C_drew ?_))); (case side2 => exact HC1.out); rintro e w' ⟨rfl, ⟨nd, rfl⟩⟩; (try first | exact ⟨rfl, _, World.drewN_drewN _ _ _⟩ | exact ⟨rfl, _, Eq.trans (World.drewN_drewN _ _ _) (congrArg (World.drewN _) (Nat.add_assoc _ _ _))⟩)) | (go_at_call 80; (with_reducible refine (spec_ascends.calls k _ _ l2 true _ ?side1 ?side2 A9.out).mono ?_); (case side1 => repeat (first | exact (Kd.C_below HR2.out (by repeat (first | (with_reducible first | exact HB.out | apply below_alloc | apply pw_below_drewN | apply below_drew1) | exact HB.out))) | (with_reducible refine Kd.C_alloc ?_ _) | (with_reducible refine Kd.C_drewN ?_ _) | (with_reducible refine Kd.C_drew ?_))); (case side2 => exact HC2.out); rintro e w' ⟨rfl, ⟨nd, rfl⟩⟩; (try first | exact ⟨rfl, _, World.drewN_drewN _ _ _⟩ | exact ⟨rfl, _, Eq.trans (World.drewN_drewN _ _ _) (congrArg (World.drewN _) (Nat.add_assoc _ _ _))⟩)) | (go_at_call 74; (with_reducible refine (spec_allIn.calls k _ _ l2 0 (wrap64 ((l0.length : Int) - 1)) t676 _ ?side1 ?side2 A11.out).mono ?_); (case side1 => repeat (first | exact (Kd.C_below HR2.out (by repeat (first | (with_reducible first | exact HB.out | apply below_alloc | apply pw_below_drewN | apply below_drew1) | exact HB.out))) | (with_reducible refine Kd.C_alloc ?_ _) | (with_reducible refine Kd.C_drewN ?_ _) | (with_reducible refine Kd.C_drew ?_))); (case side2 => exact HC2.out); rintro e w' ⟨rfl, ⟨nd, rfl⟩⟩; (try first | exact ⟨rfl, _, World.drewN_drewN _ _ _⟩ | exact ⟨rfl, _, Eq.trans (World.drewN_drewN _ _ _) (congrArg (World.drewN _) (Nat.add_assoc _ _ _))⟩)))
     repeat (go_quiet (first | (go_at_call 60; (with_reducible refine (spec_validGraph.calls k _ _ l0 true _ ?side1 ?side2 A5.out).mono ?_); (case side1 => repeat (first | exact (Kd.C_below HR0.out HB.out) | (with_reducible refine Kd.C_alloc ?_ _) | (with_reducible refine Kd.C_drewN ?_ _) | (with_reducible refine Kd.C_drew ?_))); (case side2 => exact HC0.out); rintro e w12 ⟨rfl, hb⟩; have n0_ := Aside0.mk (below_step (by repeat (first | (with_reducible first | exact HB.out | apply below_alloc | apply pw_below_drewN | apply below_drew1) | exact HB.out)) hb); clear HB; have HB := n0_; clear n0_; (try clear hb); (try clear hb2); (try clear hk); (try clear hi)) | (go_at_call 94; (with_reducible refine (spec_validRoom.calls k _ _ l1 true _ ?side1 ?side2 A7.out).mono ?_); (case side1 => repeat (first | exact (Kd.C_below HR1.out HB.out) | (with_reducible refine Kd.C_alloc ?_ _) | (with_reducible refine Kd.C_drewN ?_ _) | (with_reducible refine Kd.C_drew ?_))); (case side2 => exact HC1.out); rintro e w' ⟨rfl, ⟨nd, rfl⟩⟩; (try first | exact ⟨rfl, _, World.drewN_drewN _ _ _⟩ | exact ⟨rfl, _, Eq.trans (World.drewN_drewN _ _ _) (congrArg (World.drewN _) (Nat.add_assoc _ _ _))⟩)) | (go_at_call 80; (with_reducible refine (spec_ascends.calls k _ _ l2 true _ ?side1 ?side2 A9.out).mono ?_); (case side1 => repeat (first | exact (Kd.C_below HR2.out (by repeat (first | (with_reducible first | exact HB.out | apply below_alloc | apply pw_below_drewN | apply below_drew1) | exact HB.out))) | (with_reducible refine Kd.C_alloc ?_ _) | (with_reducible refine Kd.C_drewN ?_ _) | (with_reducible refine Kd.C_drew ?_))); (case side2 => exact HC2.out); rintro e w' ⟨rfl, ⟨nd, rfl⟩⟩; (try first | exact ⟨rfl, _, World.drewN_drewN _ _ _⟩ | exact ⟨rfl, _, Eq.trans (World.drewN_drewN _ _ _) (congrArg (World.drewN _) (Nat.add_assoc _ _ _))⟩)) | (go_at_call 74; (with_reducible refine (spec_allIn.calls k _ _ l2 0 (wrap64 ((l0.length : Int) - 1)) t676 _ ?side1 ?side2 A11.out).mono ?_); (case side1 => repeat (first | exact (Kd.C_below HR2.out (by repeat (first | (with_reducible first | exact HB.out | apply below_alloc | apply pw_below_drewN | apply below_drew1) | exact HB.out))) | (with_reducible refine Kd.C_alloc ?_ _) | (with_reducible refine Kd.C_drewN ?_ _) | (with_reducible refine Kd.C_drew ?_))); (case side2 => exact HC2.out); rintro e w' ⟨rfl, ⟨nd, rfl⟩⟩; (try first | exact ⟨rfl, _, World.drewN_drewN _ _ _⟩ | exact ⟨rfl, _, Eq.trans (World.drewN_drewN _ _ _) (congrArg (World.drewN _) (Nat.add_assoc _ _ _))⟩))); try go_wp2_with (first | (go_at_call 60; (with_reducible refine (spec_validGraph.calls k _ _ l0 true _ ?side1 ?side2 A5.out).mono ?_); (case side1 => repeat (first | exact (Kd.C_below HR0.out HB.out) | (with_reducible refine Kd.C_alloc ?_ _) | (with_reducible refine Kd.C_drewN ?_ _) | (with_reducible refine Kd.C_drew ?_))); (case side2 => exact HC0.out); rintro e w12 ⟨rfl, hb⟩; have n0_ := Aside0.mk (below_step (by repeat (first | (with_reducible first | exact HB.out | apply below_alloc | apply pw_below_drewN | apply below_drew1) | exact HB.out)) hb); clear HB; have HB := n0_; clear n0_; (try clear hb); (try clear hb2); (try clear hk); (try clear hi)) | (go_at_call 94; (with_reducible refine (spec_validRoom.calls k _ _ l1 true _ ?side1 ?side2 A7.out).mono ?_); (case side1 => repeat (first | exact (Kd.C_below HR1.out HB.out) | (with_reducible refine Kd.C_alloc ?_ _) | (with_reducible refine Kd.C_drewN ?_ _) | (with_reducible refine Kd.C_drew ?_))); (case side2 => exact HC1.out); rintro e w' ⟨rfl, ⟨nd, rfl⟩⟩; (try first | exact ⟨rfl, _, World.drewN_drewN _ _ _⟩ | exact ⟨rfl, _, Eq.trans (World.drewN_drewN _ _ _) (congrArg (World.drewN _) (Nat.add_assoc _ _ _))⟩)) | (go_at_call 80; (with_reducible refine (spec_ascends.calls k _ _ l2 true _ ?side1 ?side2 A9.out).mono ?_); (case side1 => repeat (first | exact (Kd.C_below HR2.out (by repeat (first | (with_reducible first | exact HB.out | apply below_alloc | apply pw_below_drewN | apply below_drew1) | exact HB.out))) | (with_reducible refine Kd.C_alloc ?_ _) | (with_reducible refine Kd.C_drewN ?_ _) | (with_reducible refine Kd.C_drew ?_))); (case side2 => exact HC2.out); rintro e w' ⟨rfl, ⟨nd, rfl⟩⟩; (try first | exact ⟨rfl, _, World.drewN_drewN _ _ _⟩ | exact ⟨rfl, _, Eq.trans (World.drewN_drewN _ _ _) (congrArg (World.drewN _) (Nat.add_assoc _ _ _))⟩)) | (go_at_call 74; (with_reducible refine (spec_allIn.calls k _ _ l2 0 (wrap64 ((l0.length : Int) - 1)) t676 _ ?side1 ?side2 A11.out).mono ?_); (case side1 => repeat (first | exact (Kd.C_below HR2.out (by repeat (first | (with_reducible first | exact HB.out | apply below_alloc | apply pw_below_drewN | apply below_drew1) | exact HB.out))) | (with_reducible refine Kd.C_alloc ?_ _) | (with_reducible refine Kd.C_drewN ?_ _) | (with_reducible refine Kd.C_drew ?_))); (case side2 => exact HC2.out); rintro e w' ⟨rfl, ⟨nd, rfl⟩⟩; (try first | exact ⟨rfl, _, World.drewN_drewN _ _ _⟩ | exact ⟨rfl, _, Eq.trans (World.drewN_drewN _ _ _) (congrArg (World.drewN _) (Nat.add_assoc _ _ _))⟩))))
     go_meet
     case rel => exact ⟨_, (!t676), (by first | rfl | (simp; done) | (simp [*]; done)), H', ⟨by first | omega | exact Nat.le_refl _⟩, ⟨by repeat (first | (with_reducible first | exact HB.out | apply below_alloc | apply pw_below_drewN | apply below_drew1) | exact HB.out)⟩⟩
    ·replace c10 := Bool.eq_false_iff.mpr c10
     subst c10
     have H1 : (spec_validRunning.j0 k l0 l1 l2 true) = some r := by rw [if_neg (show ¬ (false = true) by decide)] at H; exact H
     clear H
     have H := H1
     clear H1
     have H' := Aside0.mk H
     clear H
     go_wp2_with (first | (go_at_call 60; (with_reducible refine (spec_validGraph.calls k _ _ l0 true _ ?side1 ?side2 A5.out).mono ?_); (case side1 => repeat (first | exact (Kd.C_below HR0.out HB.out) | (with_reducible refine Kd.C_alloc ?_ _) | (with_reducible refine Kd.C_drewN ?_ _) | (with_reducible refine Kd.C_drew ?_))); (case side2 => exact HC0.out); rintro e w13 ⟨rfl, hb⟩; have n0_ := Aside0.mk (below_step (by repeat (first | (with_reducible first | exact HB.out | apply below_alloc | apply pw_below_drewN | apply below_drew1) | exact HB.out)) hb); clear HB; have HB := n0_; clear n0_; (try clear hb); (try clear hb2); (try clear hk); (try clear hi)) | (go_at_call 94; (with_reducible refine (spec_validRoom.calls k _ _ l1 true _ ?side1 ?side2 A7.out).mono ?_); (case side1 => repeat (first | exact (Kd.C_below HR1.out HB.out) | (with_reducible refine Kd.C_alloc ?_ _) | (with_reducible refine Kd.C_drewN ?_ _) | (with_reducible refine Kd.C_drew ?_))); (case side2 => exact HC1.out); rintro e w' ⟨rfl, ⟨nd, rfl⟩⟩; (try first | exact ⟨rfl, _, World.drewN_drewN _ _ _⟩ | exact ⟨rfl, _, Eq.trans (World.drewN_drewN _ _ _) (congrArg (World.drewN _) (Nat.add_assoc _ _ _))⟩)) | (go_at_call 80; (with_reducible refine (spec_ascends.calls k _ _ l2 false _ ?side1 ?side2 A9.out).mono ?_); (case side1 => repeat (first | exact (Kd.C_below HR2.out (by repeat (first | (with_reducible first | exact HB.out | apply below_alloc | apply pw_below_drewN | apply below_drew1) | exact HB.out))) | (with_reducible refine Kd.C_alloc ?_ _) | (with_reducible refine Kd.C_drewN ?_ _) | (with_reducible refine Kd.C_drew ?_))); (case side2 => exact HC2.out); rintro e w' ⟨rfl, ⟨nd, rfl⟩⟩; (try first | exact ⟨rfl, _, World.drewN_drewN _ _ _⟩ | exact ⟨rfl, _, Eq.trans (World.drewN_drewN _ _ _) (congrArg (World.drewN _) (Nat.add_assoc _ _ _))⟩)))
     repeat (go_quiet (first | (go_at_call 60; (with_reducible refine (spec_validGraph.calls k _ _ l0 true _ ?side1 ?side2 A5.out).mono ?_); (case side1 => repeat (first | exact (Kd.C_below HR0.out HB.out) | (with_reducible refine Kd.C_alloc ?_ _) | (with_reducible refine Kd.C_drewN ?_ _) | (with_reducible refine Kd.C_drew ?_))); (case side2 => exact HC0.out); rintro e w13 ⟨rfl, hb⟩; have n0_ := Aside0.mk (below_step (by repeat (first | (with_reducible first | exact HB.out | apply below_alloc | apply pw_below_drewN | apply below_drew1) | exact HB.out)) hb); clear HB; have HB := n0_; clear n0_; (try clear hb); (try clear hb2); (try clear hk); (try clear hi)) | (go_at_call 94; (with_reducible refine (spec_validRoom.calls k _ _ l1 true _ ?side1 ?side2 A7.out).mono ?_); (case side1 => repeat (first | exact (Kd.C_below HR1.out HB.out) | (with_reducible refine Kd.C_alloc ?_ _) | (with_reducible refine Kd.C_drewN ?_ _) | (with_reducible refine Kd.C_drew ?_))); (case side2 => exact HC1.out); rintro e w' ⟨rfl, ⟨nd, rfl⟩⟩; (try first | exact ⟨rfl, _, World.drewN_drewN _ _ _⟩ | exact ⟨rfl, _, Eq.trans (World.drewN_drewN _ _ _) (congrArg (World.drewN _) (Nat.add_assoc _ _ _))⟩)) | (go_at_call 80; (with_reducible refine (spec_ascends.calls k _ _ l2 false _ ?side1 ?side2 A9.out).mono ?_); (case side1 => repeat (first | exact (Kd.C_below HR2.out (by repeat (first | (with_reducible first | exact HB.out | apply below_alloc | apply pw_below_drewN | apply below_drew1) | exact HB.out))) | (with_reducible refine Kd.C_alloc ?_ _) | (with_reducible refine Kd.C_drewN ?_ _) | (with_reducible refine Kd.C_drew ?_))); (case side2 => exact HC2.out); rintro e w' ⟨rfl, ⟨nd, rfl⟩⟩; (try first | exact ⟨rfl, _, World.drewN_drewN _ _ _⟩ | exact ⟨rfl, _, Eq.trans (World.drewN_drewN _ _ _) (congrArg (World.drewN _) (Nat.add_assoc _ _ _))⟩))); try go_wp2_with (first | (go_at_call 60; (with_reducible refine (spec_validGraph.calls k _ _ l0 true _ ?side1 ?side2 A5.out).mono ?_); (case side1 => repeat (first | exact (Kd.C_below HR0.out HB.out) | (with_reducible refine Kd.C_alloc ?_ _) | (with_reducible refine Kd.C_drewN ?_ _) | (with_reducible refine Kd.C_drew ?_))); (case side2 => exact HC0.out); rintro e w13 ⟨rfl, hb⟩; have n0_ := Aside0.mk (below_step (by repeat (first | (with_reducible first | exact HB.out | apply below_alloc | apply pw_below_drewN | apply below_drew1) | exact HB.out)) hb); clear HB; have HB := n0_; clear n0_; (try clear hb); (try clear hb2); (try clear hk); (try clear hi)) | (go_at_call 94; (with_reducible refine (spec_validRoom.calls k _ _ l1 true _ ?side1 ?side2 A7.out).mono ?_); (case side1 => repeat (first | exact (Kd.C_below HR1.out HB.out) | (with_reducible refine Kd.C_alloc ?_ _) | (with_reducible refine Kd.C_drewN ?_ _) | (with_reducible refine Kd.C_drew ?_))); (case side2 => exact HC1.out); rintro e w' ⟨rfl, ⟨nd, rfl⟩⟩; (try first | exact ⟨rfl, _, World.drewN_drewN _ _ _⟩ | exact ⟨rfl, _, Eq.trans (World.drewN_drewN _ _ _) (congrArg (World.drewN _) (Nat.add_assoc _ _ _))⟩)) | (go_at_call 80; (with_reducible refine (spec_ascends.calls k _ _ l2 false _ ?side1 ?side2 A9.out).mono ?_); (case side1 => repeat (first | exact (Kd.C_below HR2.out (by repeat (first | (with_reducible first | exact HB.out | apply below_alloc | apply pw_below_drewN | apply below_drew1) | exact HB.out))) | (with_reducible refine Kd.C_alloc ?_ _) | (with_reducible refine Kd.C_drewN ?_ _) | (with_reducible refine Kd.C_drew ?_))); (case side2 => exact HC2.out); rintro e w' ⟨rfl, ⟨nd, rfl⟩⟩; (try first | exact ⟨rfl, _, World.drewN_drewN _ _ _⟩ | exact ⟨rfl, _, Eq.trans (World.drewN_drewN _ _ _) (congrArg (World.drewN _) (Nat.add_assoc _ _ _))⟩))))
     go_meet
     case rel => exact ⟨_, (true), (by first | rfl | (simp; done) | (simp [*]; done)), H', ⟨by first | omega | exact Nat.le_refl _⟩, ⟨by repeat (first | (with_reducible first | exact HB.out | apply below_alloc | apply pw_below_drewN | apply below_drew1) | exact HB.out)⟩⟩
   ·replace c8 := Bool.eq_false_iff.mpr c8
    subst c8
    have H1 : (spec_validRunning.j0 k l0 l1 l2 true) = some r := by rw [if_neg (show ¬ (false = true) by decide)] at H; exact H
    clear H
    have H := H1
    clear H1
    have H' := Aside0.mk H
    clear H
    go_wp2_with (first | (go_at_call 60; (with_reducible refine (spec_validGraph.calls k _ _ l0 true _ ?side1 ?side2 A5.out).mono ?_); (case side1 => repeat (first | exact (Kd.C_below HR0.out HB.out) | (with_reducible refine Kd.C_alloc ?_ _) | (with_reducible refine Kd.C_drewN ?_ _) | (with_reducible refine Kd.C_drew ?_))); (case side2 => exact HC0.out); rintro e w14 ⟨rfl, hb⟩; have n0_ := Aside0.mk (below_step (by repeat (first | (with_reducible first | exact HB.out | apply below_alloc | apply pw_below_drewN | apply below_drew1) | exact HB.out)) hb); clear HB; have HB := n0_; clear n0_; (try clear hb); (try clear hb2); (try clear hk); (try clear hi)) | (go_at_call 94; (with_reducible refine (spec_validRoom.calls k _ _ l1 false _ ?side1 ?side2 A7.out).mono ?_); (case side1 => repeat (first | exact (Kd.C_below HR1.out HB.out) | (with_reducible refine Kd.C_alloc ?_ _) | (with_reducible refine Kd.C_drewN ?_ _) | (with_reducible refine Kd.C_drew ?_))); (case side2 => exact HC1.out); rintro e w' ⟨rfl, ⟨nd, rfl⟩⟩; (try first | exact ⟨rfl, _, World.drewN_drewN _ _ _⟩ | exact ⟨rfl, _, Eq.trans (World.drewN_drewN _ _ _) (congrArg (World.drewN _) (Nat.add_assoc _ _ _))⟩)))
    repeat (go_quiet (first | (go_at_call 60; (with_reducible refine (spec_validGraph.calls k _ _ l0 true _ ?side1 ?side2 A5.out).mono ?_); (case side1 => repeat (first | exact (Kd.C_below HR0.out HB.out) | (with_reducible refine Kd.C_alloc ?_ _) | (with_reducible refine Kd.C_drewN ?_ _) | (with_reducible refine Kd.C_drew ?_))); (case side2 => exact HC0.out); rintro e w14 ⟨rfl, hb⟩; have n0_ := Aside0.mk (below_step (by repeat (first | (with_reducible first | exact HB.out | apply below_alloc | apply pw_below_drewN | apply below_drew1) | exact HB.out)) hb); clear HB; have HB := n0_; clear n0_; (try clear hb); (try clear hb2); (try clear hk); (try clear hi)) | (go_at_call 94; (with_reducible refine (spec_validRoom.calls k _ _ l1 false _ ?side1 ?side2 A7.out).mono ?_); (case side1 => repeat (first | exact (Kd.C_below HR1.out HB.out) | (with_reducible refine Kd.C_alloc ?_ _) | (with_reducible refine Kd.C_drewN ?_ _) | (with_reducible refine Kd.C_drew ?_))); (case side2 => exact HC1.out); rintro e w' ⟨rfl, ⟨nd, rfl⟩⟩; (try first | exact ⟨rfl, _, World.drewN_drewN _ _ _⟩ | exact ⟨rfl, _, Eq.trans (World.drewN_drewN _ _ _) (congrArg (World.drewN _) (Nat.add_assoc _ _ _))⟩))); try go_wp2_with (first | (go_at_call 60; (with_reducible refine (spec_validGraph.calls k _ _ l0 true _ ?side1 ?side2 A5.out).mono ?_); (case side1 => repeat (first | exact (Kd.C_below HR0.out HB.out) | (with_reducible refine Kd.C_alloc ?_ _) | (with_reducible refine Kd.C_drewN ?_ _) | (with_reducible refine Kd.C_drew ?_))); (case side2 => exact HC0.out); rintro e w14 ⟨rfl, hb⟩; have n0_ := Aside0.mk (below_step (by repeat (first | (with_reducible first | exact HB.out | apply below_alloc | apply pw_below_drewN | apply below_drew1) | exact HB.out)) hb); clear HB; have HB := n0_; clear n0_; (try clear hb); (try clear hb2); (try clear hk); (try clear hi)) | (go_at_call 94; (with_reducible refine (spec_validRoom.calls k _ _ l1 false _ ?side1 ?side2 A7.out).mono ?_); (case side1 => repeat (first | exact (Kd.C_below HR1.out HB.out) | (with_reducible refine Kd.C_alloc ?_ _) | (with_reducible refine Kd.C_drewN ?_ _) | (with_reducible refine Kd.C_drew ?_))); (case side2 => exact HC1.out); rintro e w' ⟨rfl, ⟨nd, rfl⟩⟩; (try first | exact ⟨rfl, _, World.drewN_drewN _ _ _⟩ | exact ⟨rfl, _, Eq.trans (World.drewN_drewN _ _ _) (congrArg (World.drewN _) (Nat.add_assoc _ _ _))⟩))))
    go_meet
    case rel => exact ⟨_, (true), (by first | rfl | (simp; done) | (simp [*]; done)), H', ⟨by first | omega | exact Nat.le_refl _⟩, ⟨by repeat (first | (with_reducible first | exact HB.out | apply below_alloc | apply pw_below_drewN | apply below_drew1) | exact HB.out)⟩⟩
  ·replace c6 := Bool.eq_false_iff.mpr c6
   subst c6
   have H1 : (spec_validRunning.j0 k l0 l1 l2 true) = some r := by rw [if_neg (show ¬ (false = true) by decide)] at H; exact H
   clear H
   have H := H1
   clear H1
   have H' := Aside0.mk H
   clear H
   go_wp2_with (first | (go_at_call 60; (with_reducible refine (spec_validGraph.calls k _ _ l0 false _ ?side1 ?side2 A5.out).mono ?_); (case side1 => repeat (first | exact (Kd.C_below HR0.out HB.out) | (with_reducible refine Kd.C_alloc ?_ _) | (with_reducible refine Kd.C_drewN ?_ _) | (with_reducible refine Kd.C_drew ?_))); (case side2 => exact HC0.out); rintro e w15 ⟨rfl, hb⟩; have n0_ := Aside0.mk (below_step (by repeat (first | (with_reducible first | exact HB.out | apply below_alloc | apply pw_below_drewN | apply below_drew1) | exact HB.out)) hb); clear HB; have HB := n0_; clear n0_; (try clear hb); (try clear hb2); (try clear hk); (try clear hi)))
   repeat (go_quiet (first | (go_at_call 60; (with_reducible refine (spec_validGraph.calls k _ _ l0 false _ ?side1 ?side2 A5.out).mono ?_); (case side1 => repeat (first | exact (Kd.C_below HR0.out HB.out) | (with_reducible refine Kd.C_alloc ?_ _) | (with_reducible refine Kd.C_drewN ?_ _) | (with_reducible refine Kd.C_drew ?_))); (case side2 => exact HC0.out); rintro e w15 ⟨rfl, hb⟩; have n0_ := Aside0.mk (below_step (by repeat (first | (with_reducible first | exact HB.out | apply below_alloc | apply pw_below_drewN | apply below_drew1) | exact HB.out)) hb); clear HB; have HB := n0_; clear n0_; (try clear hb); (try clear hb2); (try clear hk); (try clear hi))); try go_wp2_with (first | (go_at_call 60; (with_reducible refine (spec_validGraph.calls k _ _ l0 false _ ?side1 ?side2 A5.out).mono ?_); (case side1 => repeat (first | exact (Kd.C_below HR0.out HB.out) | (with_reducible refine Kd.C_alloc ?_ _) | (with_reducible refine Kd.C_drewN ?_ _) | (with_reducible refine Kd.C_drew ?_))); (case side2 => exact HC0.out); rintro e w15 ⟨rfl, hb⟩; have n0_ := Aside0.mk (below_step (by repeat (first | (with_reducible first | exact HB.out | apply below_alloc | apply pw_below_drewN | apply below_drew1) | exact HB.out)) hb); clear HB; have HB := n0_; clear n0_; (try clear hb); (try clear hb2); (try clear hk); (try clear hi))))
   go_meet
   case rel => exact ⟨_, (true), (by first | rfl | (simp; done) | (simp [*]; done)), H', ⟨by first | omega | exact Nat.le_refl _⟩, ⟨by repeat (first | (with_reducible first | exact HB.out | apply below_alloc | apply pw_below_drewN | apply below_drew1) | exact HB.out)⟩⟩
 case rest =>
  clear HC4
  try clear c1
  try clear c2
  try clear p2
  try clear c6
  try clear p6
  try clear c8
  try clear c10
  obtain ⟨kq, x28_3, rfl, HA, HJ3, HB⟩ := hcut
  cases kq with
  | zero => exact absurd HA.out (by simp [spec_validRunning.j0])
  | succ kj3 =>
   have H := HA.out
   clear HA
   simp only [spec_validRunning.j0] at H
   by_cases c16 : x28_3 = true
   ·subst c16
    have H1 : (some false) = some r := by rw [if_pos rfl] at H; exact H
    clear H
    have H := H1
    clear H1
    obtain rfl := Option.some.inj H
    go_wp2
    repeat (go_quiet (fail); try go_wp2)
    go_ret
    exact ⟨by first | rfl | (simp [errW_none, errW_some] <;> rfl) | (simp [*, errW_none, errW_some] <;> rfl), by repeat (first | (with_reducible first | exact HB.out | apply below_alloc | apply pw_below_drewN | apply below_drew1) | exact HB.out)⟩
   ·replace c16 := Bool.eq_false_iff.mpr c16
    subst c16
    have H1 : (spec_validRunning.l0 kj3 l0 l1 l2 0) = some r := by rw [if_neg (show ¬ (false = true) by decide)] at H; exact H
    clear H
    have H := H1
    clear H1
    have H' := Aside0.mk H
    clear H
    go_wp2
    repeat (go_quiet (fail); try go_wp2)
    go_loopg [7] kj3 (fun kq v7 w' => ∃ (x7_2 : Int), v7 = .int .i64 x7_2 ∧ Aside0 (spec_validRunning.l0 kq l0 l1 l2 x7_2 = some r) ∧ Aside0 (kq ≤ kj3) ∧ Aside0 (Below w.heap.size w w'))
    case atStart => exact ⟨(0), (by first | rfl | (simp; done) | (simp [*]; done)), H', ⟨Nat.le_refl _⟩, ⟨by repeat (first | (with_reducible first | exact HB.out | apply below_alloc | apply pw_below_drewN | apply below_drew1) | exact HB.out)⟩⟩
    case round =>
     clear H'
     try clear c1
     try clear c2
     try clear p2
     try clear c6
     try clear p6
     try clear c8
     try clear c10
     try clear c16
     try clear p2
     try clear p6
     obtain ⟨x7_2, rfl, HA, HK2, HB⟩ := hrel
     cases gk with
     | zero => exact absurd HA.out (by simp [spec_validRunning.l0])
     | succ k2 =>
      have H := HA.out
      clear HA
      simp only [spec_validRunning.l0] at H
      by_cases c17 : x7_2 < 3
      ·rw [if_pos c17] at H
       have c17b0 : decide (x7_2 < 3) = true := decide_eq_true c17
       clear c17
       replace H := Option.bind_eq_some_iff.mp H
       obtain ⟨t677, A180, H⟩ := H
       replace H : (if 0 ≤ x7_2 then (if x7_2 < (l1.length : Int) then (if t677 > (rd l1 x7_2) then (some false) else (spec_validRunning.l0 k2 l0 l1 l2 (wrap64 (x7_2 + 1)))) else (none)) else (none)) = some r := H
       have A18 := Aside0.mk A180
       clear A180
       by_cases c19 : 0 ≤ x7_2
       ·rw [if_pos c19] at H
        have c19b0 : decide (0 ≤ x7_2) = true := decide_eq_true c19
        clear c19
        by_cases c20 : x7_2 < (l1.length : Int)
        ·rw [if_pos c20] at H
         have c20b0 : decide (x7_2 < (l1.length : Int)) = true := decide_eq_true c20
         clear c20
         by_cases c21 : t677 > (rd l1 x7_2)
         ·rw [if_pos c21] at H
          have c21b0 : decide ((rd l1 x7_2) < t677) = true := decide_eq_true c21
          clear c21
          obtain rfl := Option.some.inj H
          go_wp2_with (first | (go_at_call 95; (with_reducible refine (spec_used.calls k2 _ _ l0 _ _ l2 x7_2 t677 _ ?side1 ?side2 ?side3 ?side4 A18.out).mono ?_); (case side1 => repeat (first | exact (Kd.C_below HR0.out HB.out) | (with_reducible refine Kd.C_alloc ?_ _) | (with_reducible refine Kd.C_drewN ?_ _) | (with_reducible refine Kd.C_drew ?_))); (case side2 => exact HC0.out); (case side3 => repeat (first | exact (Kd.C_below HR2.out HB.out) | (with_reducible refine Kd.C_alloc ?_ _) | (with_reducible refine Kd.C_drewN ?_ _) | (with_reducible refine Kd.C_drew ?_))); (case side4 => exact HC2.out); rintro e w' ⟨rfl, ⟨nd, rfl⟩⟩; (try first | exact ⟨rfl, _, World.drewN_drewN _ _ _⟩ | exact ⟨rfl, _, Eq.trans (World.drewN_drewN _ _ _) (congrArg (World.drewN _) (Nat.add_assoc _ _ _))⟩); have p678 : 0 ≤ (x7_2 : Int) := of_decide_eq_true (by first | (with_reducible assumption) | assumption); have q678 : x7_2 < (l1.length : Int) := of_decide_eq_true (by first | (with_reducible assumption) | assumption); obtain ⟨ad678, e678, hx678_0⟩ := Kd.at_int HR1.out x7_2 p678 q678; cases e678; replace hx678_0 := (HB.out.cell (World.block_lt_of_cell? w _ hx678_0)).trans hx678_0; replace p678 := eq_true p678; replace q678 := eq_true q678))
          repeat (go_quiet (first | (go_at_call 95; (with_reducible refine (spec_used.calls k2 _ _ l0 _ _ l2 x7_2 t677 _ ?side1 ?side2 ?side3 ?side4 A18.out).mono ?_); (case side1 => repeat (first | exact (Kd.C_below HR0.out HB.out) | (with_reducible refine Kd.C_alloc ?_ _) | (with_reducible refine Kd.C_drewN ?_ _) | (with_reducible refine Kd.C_drew ?_))); (case side2 => exact HC0.out); (case side3 => repeat (first | exact (Kd.C_below HR2.out HB.out) | (with_reducible refine Kd.C_alloc ?_ _) | (with_reducible refine Kd.C_drewN ?_ _) | (with_reducible refine Kd.C_drew ?_))); (case side4 => exact HC2.out); rintro e w' ⟨rfl, ⟨nd, rfl⟩⟩; (try first | exact ⟨rfl, _, World.drewN_drewN _ _ _⟩ | exact ⟨rfl, _, Eq.trans (World.drewN_drewN _ _ _) (congrArg (World.drewN _) (Nat.add_assoc _ _ _))⟩); have p678 : 0 ≤ (x7_2 : Int) := of_decide_eq_true (by first | (with_reducible assumption) | assumption); have q678 : x7_2 < (l1.length : Int) := of_decide_eq_true (by first | (with_reducible assumption) | assumption); obtain ⟨ad678, e678, hx678_0⟩ := Kd.at_int HR1.out x7_2 p678 q678; cases e678; replace hx678_0 := (HB.out.cell (World.block_lt_of_cell? w _ hx678_0)).trans hx678_0; replace p678 := eq_true p678; replace q678 := eq_true q678)); try go_wp2_with (first | (go_at_call 95; (with_reducible refine (spec_used.calls k2 _ _ l0 _ _ l2 x7_2 t677 _ ?side1 ?side2 ?side3 ?side4 A18.out).mono ?_); (case side1 => repeat (first | exact (Kd.C_below HR0.out HB.out) | (with_reducible refine Kd.C_alloc ?_ _) | (with_reducible refine Kd.C_drewN ?_ _) | (with_reducible refine Kd.C_drew ?_))); (case side2 => exact HC0.out); (case side3 => repeat (first | exact (Kd.C_below HR2.out HB.out) | (with_reducible refine Kd.C_alloc ?_ _) | (with_reducible refine Kd.C_drewN ?_ _) | (with_reducible refine Kd.C_drew ?_))); (case side4 => exact HC2.out); rintro e w' ⟨rfl, ⟨nd, rfl⟩⟩; (try first | exact ⟨rfl, _, World.drewN_drewN _ _ _⟩ | exact ⟨rfl, _, Eq.trans (World.drewN_drewN _ _ _) (congrArg (World.drewN _) (Nat.add_assoc _ _ _))⟩); have p678 : 0 ≤ (x7_2 : Int) := of_decide_eq_true (by first | (with_reducible assumption) | assumption); have q678 : x7_2 < (l1.length : Int) := of_decide_eq_true (by first | (with_reducible assumption) | assumption); obtain ⟨ad678, e678, hx678_0⟩ := Kd.at_int HR1.out x7_2 p678 q678; cases e678; replace hx678_0 := (HB.out.cell (World.block_lt_of_cell? w _ hx678_0)).trans hx678_0; replace p678 := eq_true p678; replace q678 := eq_true q678)))
          go_ret
          exact ⟨by first | rfl | (simp [errW_none, errW_some] <;> rfl) | (simp [*, errW_none, errW_some] <;> rfl), by repeat (first | (with_reducible first | exact HB.out | apply below_alloc | apply pw_below_drewN | apply below_drew1) | exact HB.out)⟩
         ·rw [if_neg c21] at H
          have c21b0 : decide ((rd l1 x7_2) < t677) = false := decide_eq_false c21
          clear c21
          have H' := Aside0.mk H
          clear H
          go_wp2_with (first | (go_at_call 95; (with_reducible refine (spec_used.calls k2 _ _ l0 _ _ l2 x7_2 t677 _ ?side1 ?side2 ?side3 ?side4 A18.out).mono ?_); (case side1 => repeat (first | exact (Kd.C_below HR0.out HB.out) | (with_reducible refine Kd.C_alloc ?_ _) | (with_reducible refine Kd.C_drewN ?_ _) | (with_reducible refine Kd.C_drew ?_))); (case side2 => exact HC0.out); (case side3 => repeat (first | exact (Kd.C_below HR2.out HB.out) | (with_reducible refine Kd.C_alloc ?_ _) | (with_reducible refine Kd.C_drewN ?_ _) | (with_reducible refine Kd.C_drew ?_))); (case side4 => exact HC2.out); rintro e w' ⟨rfl, ⟨nd, rfl⟩⟩; (try first | exact ⟨rfl, _, World.drewN_drewN _ _ _⟩ | exact ⟨rfl, _, Eq.trans (World.drewN_drewN _ _ _) (congrArg (World.drewN _) (Nat.add_assoc _ _ _))⟩); have p678 : 0 ≤ (x7_2 : Int) := of_decide_eq_true (by first | (with_reducible assumption) | assumption); have q678 : x7_2 < (l1.length : Int) := of_decide_eq_true (by first | (with_reducible assumption) | assumption); obtain ⟨ad678, e678, hx678_0⟩ := Kd.at_int HR1.out x7_2 p678 q678; cases e678; replace hx678_0 := (HB.out.cell (World.block_lt_of_cell? w _ hx678_0)).trans hx678_0; replace p678 := eq_true p678; replace q678 := eq_true q678))
          repeat (go_quiet (first | (go_at_call 95; (with_reducible refine (spec_used.calls k2 _ _ l0 _ _ l2 x7_2 t677 _ ?side1 ?side2 ?side3 ?side4 A18.out).mono ?_); (case side1 => repeat (first | exact (Kd.C_below HR0.out HB.out) | (with_reducible refine Kd.C_alloc ?_ _) | (with_reducible refine Kd.C_drewN ?_ _) | (with_reducible refine Kd.C_drew ?_))); (case side2 => exact HC0.out); (case side3 => repeat (first | exact (Kd.C_below HR2.out HB.out) | (with_reducible refine Kd.C_alloc ?_ _) | (with_reducible refine Kd.C_drewN ?_ _) | (with_reducible refine Kd.C_drew ?_))); (case side4 => exact HC2.out); rintro e w' ⟨rfl, ⟨nd, rfl⟩⟩; (try first | exact ⟨rfl, _, World.drewN_drewN _ _ _⟩ | exact ⟨rfl, _, Eq.trans (World.drewN_drewN _ _ _) (congrArg (World.drewN _) (Nat.add_assoc _ _ _))⟩); have p678 : 0 ≤ (x7_2 : Int) := of_decide_eq_true (by first | (with_reducible assumption) | assumption); have q678 : x7_2 < (l1.length : Int) := of_decide_eq_true (by first | (with_reducible assumption) | assumption); obtain ⟨ad678, e678, hx678_0⟩ := Kd.at_int HR1.out x7_2 p678 q678; cases e678; replace hx678_0 := (HB.out.cell (World.block_lt_of_cell? w _ hx678_0)).trans hx678_0; replace p678 := eq_true p678; replace q678 := eq_true q678)); try go_wp2_with (first | (go_at_call 95; (with_reducible refine (spec_used.calls k2 _ _ l0 _ _ l2 x7_2 t677 _ ?side1 ?side2 ?side3 ?side4 A18.out).mono ?_); (case side1 => repeat (first | exact (Kd.C_below HR0.out HB.out) | (with_reducible refine Kd.C_alloc ?_ _) | (with_reducible refine Kd.C_drewN ?_ _) | (with_reducible refine Kd.C_drew ?_))); (case side2 => exact HC0.out); (case side3 => repeat (first | exact (Kd.C_below HR2.out HB.out) | (with_reducible refine Kd.C_alloc ?_ _) | (with_reducible refine Kd.C_drewN ?_ _) | (with_reducible refine Kd.C_drew ?_))); (case side4 => exact HC2.out); rintro e w' ⟨rfl, ⟨nd, rfl⟩⟩; (try first | exact ⟨rfl, _, World.drewN_drewN _ _ _⟩ | exact ⟨rfl, _, Eq.trans (World.drewN_drewN _ _ _) (congrArg (World.drewN _) (Nat.add_assoc _ _ _))⟩); have p678 : 0 ≤ (x7_2 : Int) := of_decide_eq_true (by first | (with_reducible assumption) | assumption); have q678 : x7_2 < (l1.length : Int) := of_decide_eq_true (by first | (with_reducible assumption) | assumption); obtain ⟨ad678, e678, hx678_0⟩ := Kd.at_int HR1.out x7_2 p678 q678; cases e678; replace hx678_0 := (HB.out.cell (World.block_lt_of_cell? w _ hx678_0)).trans hx678_0; replace p678 := eq_true p678; replace q678 := eq_true q678)))
          go_roundg k2
          case measure => have := HJ3.out; have := HK2.out; omega
          case rel => exact ⟨(wrap64 (x7_2 + 1)), (by first | rfl | (simp; done) | (simp [*]; done)), H', ⟨by have := HJ3.out; have := HK2.out; omega⟩, ⟨by repeat (first | (with_reducible first | exact HB.out | apply below_alloc | apply pw_below_drewN | apply below_drew1) | exact HB.out)⟩⟩
        ·rw [if_neg c20] at H
         exact absurd H (by simp)
       ·rw [if_neg c19] at H
        exact absurd H (by simp)
      ·rw [if_neg c17] at H
       have c17b0 : decide (x7_2 < 3) = false := decide_eq_false c17
       clear c17
       obtain rfl := Option.some.inj H
       go_wp2
       repeat (go_quiet (fail); try go_wp2)
       go_ret
       exact ⟨by first | rfl | (simp [errW_none, errW_some] <;> rfl) | (simp [*, errW_none, errW_some] <;> rfl), by repeat (first | (with_reducible first | exact HB.out | apply below_alloc | apply pw_below_drewN | apply below_drew1) | exact HB.out)⟩
end Go.Proofs.YtajapkjplgaigaaDoor.P
end
section
namespace Go.Proofs.YtajapkjplgaigaaDoor.P
open Go.RowKit Go.Proofs.YtajapkjplgaigaaDoorW.PrintWords Go.Proofs.YtajapkjplgaigaaDoorW.PrintLast Go.Proofs.YtajapkjplgaigaaDoorW.PrintMore
attribute [local go_sem] max2_int min2_int max_two min_two max_three min_three max_four min_four   -- for this text's walks alone
set_option linter.unusedVariables false
set_option linter.unusedSimpArgs false
mutual
def spec_DrawAdmitTasks.l0 : Nat → List (S39) → List Int → List Int → List Int → Int → List Int → Int → Option ((List (S39)) × List Int × List Int × List Int × Int)
 | 0, _, _, _, _, _, _, _ => none
 | k + 1, x8, x9, x10, x11, x12, x682000, x682001 => if x12 < (x8.length : Int) then ((spec_reader_pick.f k x682000 x682001 4).bind fun bt696 => (if bt696.1 = 0 then ((spec_copyInts.f x10).bind fun t698 => (if t698.length < 17592186044416 then ((spec_validRunning.f k x8 x9 (t698 ++ [x12])).bind fun t704 => (if t704 = true then (if x10.length < 17592186044416 then (spec_DrawAdmitTasks.l0 k x8 x9 (x10 ++ [x12]) x11 (wrap64 (x12 + 1)) x682000 bt696.2) else (none)) else (spec_DrawAdmitTasks.l0 k x8 x9 x10 x11 (wrap64 (x12 + 1)) x682000 bt696.2))) else (none))) else (if bt696.1 = 1 then (if x11.length < 17592186044416 then (spec_DrawAdmitTasks.l0 k x8 x9 x10 (x11 ++ [x12]) (wrap64 (x12 + 1)) x682000 bt696.2) else (none)) else (if bt696.1 = 2 then (if x11.length < 17592186044416 then (spec_DrawAdmitTasks.l0 k x8 x9 x10 (x11 ++ [x12]) (wrap64 (x12 + 1)) x682000 bt696.2) else (none)) else (spec_DrawAdmitTasks.l0 k x8 x9 x10 x11 (wrap64 (x12 + 1)) x682000 bt696.2))))) else (if (x11.length : Int) > 1 then ((spec_reader_pick.f k x682000 x682001 2).bind fun bt714 => (spec_DrawAdmitTasks.j1 k x8 x9 x10 x11 (bt714.1 == 0) x682000 bt714.2)) else (spec_DrawAdmitTasks.j1 k x8 x9 x10 x11 false x682000 x682001))
def spec_DrawAdmitTasks.j1 : Nat → List (S39) → List Int → List Int → List Int → Bool → List Int → Int → Option ((List (S39)) × List Int × List Int × List Int × Int)
 | 0, _, _, _, _, _, _, _ => none
 | k + 1, x8, x9, x10, x11, x58, x682000, x682001 => if x58 = true then (if 0 < (x11.length : Int) then (if 1 < (x11.length : Int) then ((spec_reader_spoil.f k x682000 x682001 ((x11.set (0 : Int).toNat (rd x11 1)).set (1 : Int).toNat (rd x11 0)) 8).bind fun bt720 => ((spec_reader_one.f k x682000 bt720.2 (([2, 3, 1, 4, 0, 5] : List Int))).bind fun bt727 => (some (x8, x9, x10, bt720.1, bt727.1)))) else (none)) else (none)) else ((spec_reader_spoil.f k x682000 x682001 x11 8).bind fun bt729 => ((spec_reader_one.f k x682000 bt729.2 (([2, 3, 1, 4, 0, 5] : List Int))).bind fun bt736 => (some (x8, x9, x10, bt729.1, bt736.1))))
end
def spec_DrawAdmitTasks.f (k : Nat) (l0 : List Int) : Option ((List (S39)) × List Int × List Int × List Int × Int) := (spec_newReader.f l0).bind fun bt679 => ((spec_anyGraph.f k bt679.1 bt679.2).bind fun bt682 => ((spec_someRoom.f k bt679.1 bt682.2).bind fun bt686 => (spec_DrawAdmitTasks.l0 k bt682.1 bt686.1 (([] : List Int)) (([] : List Int)) 0 bt679.1 bt686.2)))
set_option maxHeartbeats 8000000 in
set_option maxRecDepth 100000 in
theorem spec_DrawAdmitTasks.calls (k : Nat) (A0 : Option Addr) (c0 : Nat) (l0 : List Int) (r1 : List (S39)) (r2 : List Int) (r3 : List Int) (r4 : List Int) (r5 : Int) (w : World) (hr0 : Kd.C (Kd.int .u8) w A0 l0.length l0) (hc0 : l0.length ≤ c0) (h : spec_DrawAdmitTasks.f k l0 = some (r1, r2, r3, r4, r5)) :
  Calls Tryd.prog 33 #[.slice A0 l0.length c0] w fun e w' => ∃ v0_ v1_ v2_ v3_ : Value, e = .returned (.tuple #[v0_, v1_, v2_, v3_, .int .i64 r5]) ∧ Kd.N k39 39 w' w.heap.size (fun k_ => (w.heap.size ≤ k_) ∧ some k_ ≠ (v1_ : Value).ownBlock ∧ some k_ ≠ (v2_ : Value).ownBlock ∧ some k_ ≠ (v3_ : Value).ownBlock) v0_ r1 ∧ Kd.Q (Kd.int .i64) 3 w' w.heap.size (fun k_ => (w.heap.size ≤ k_) ∧ some k_ ≠ (v2_ : Value).ownBlock ∧ some k_ ≠ (v3_ : Value).ownBlock) v1_ r2 ∧ Kd.R (Kd.int .i64) 3 w' w.heap.size (fun k_ => (w.heap.size ≤ k_) ∧ some k_ ≠ (v1_ : Value).ownBlock ∧ some k_ ≠ (v3_ : Value).ownBlock) v2_ r3 ∧ Kd.Q (Kd.int .i64) 3 w' w.heap.size (fun k_ => (w.heap.size ≤ k_) ∧ some k_ ≠ (v1_ : Value).ownBlock ∧ some k_ ≠ (v2_ : Value).ownBlock) v3_ r4 ∧ Below w.heap.size w w' := by
 have HR0 := Aside0.mk hr0
 have HC0 := Aside0.mk hc0
 clear hr0 hc0
 have HB := Aside0.mk (Below.refl w.heap.size w)
 have H : ((spec_newReader.f l0).bind fun bt679 => ((spec_anyGraph.f k bt679.1 bt679.2).bind fun bt682 => ((spec_someRoom.f k bt679.1 bt682.2).bind fun bt686 => (spec_DrawAdmitTasks.l0 k bt682.1 bt686.1 (([] : List Int)) (([] : List Int)) 0 bt679.1 bt686.2)))) = some (r1, r2, r3, r4, r5) := h
 clear h
 replace H := Option.bind_eq_some_iff.mp H
 obtain ⟨⟨t679, t680⟩, A20, H⟩ := H
 replace H : ((spec_anyGraph.f k t679 t680).bind fun bt682 => ((spec_someRoom.f k t679 bt682.2).bind fun bt686 => (spec_DrawAdmitTasks.l0 k bt682.1 bt686.1 (([] : List Int)) (([] : List Int)) 0 t679 bt686.2))) = some (r1, r2, r3, r4, r5) := H
 have A2 := Aside0.mk A20
 clear A20
 replace H := Option.bind_eq_some_iff.mp H
 obtain ⟨⟨t682, t685⟩, A30, H⟩ := H
 replace H : ((spec_someRoom.f k t679 t685).bind fun bt686 => (spec_DrawAdmitTasks.l0 k t682 bt686.1 (([] : List Int)) (([] : List Int)) 0 t679 bt686.2)) = some (r1, r2, r3, r4, r5) := H
 have A3 := Aside0.mk A30
 clear A30
 replace H := Option.bind_eq_some_iff.mp H
 obtain ⟨⟨t686, t689⟩, A40, H⟩ := H
 replace H : (spec_DrawAdmitTasks.l0 k t682 t686 (([] : List Int)) (([] : List Int)) 0 t679 t689) = some (r1, r2, r3, r4, r5) := H
 have A4 := Aside0.mk A40
 clear A40
 obtain ⟨y690, hy690⟩ : ∃ y_ : List Int, y_ = (([] : List Int)) := ⟨_, rfl⟩
 replace H : (spec_DrawAdmitTasks.l0 k t682 t686 y690 (([] : List Int)) 0 t679 t689) = some (r1, r2, r3, r4, r5) := by first | (rw [hy690]; with_reducible exact H) | (have H2_ := (Option.bind_some _ _).symm.trans H; rw [hy690]; with_reducible exact H2_) | (have H2_ := (Option.bind_some _ _).symm.trans H; with_reducible exact H2_) | with_reducible exact H | (rw [hy690]; exact H) | exact H
 have Ny690 := Aside0.mk hy690
 clear hy690
 obtain ⟨y693, hy693⟩ : ∃ y_ : List Int, y_ = (([] : List Int)) := ⟨_, rfl⟩
 replace H : (spec_DrawAdmitTasks.l0 k t682 t686 y690 y693 0 t679 t689) = some (r1, r2, r3, r4, r5) := by first | (rw [hy693]; with_reducible exact H) | (have H2_ := (Option.bind_some _ _).symm.trans H; rw [hy693]; with_reducible exact H2_) | (have H2_ := (Option.bind_some _ _).symm.trans H; with_reducible exact H2_) | with_reducible exact H | (rw [hy693]; exact H) | exact H
 have Ny693 := Aside0.mk hy693
 clear hy693
 have H' := Aside0.mk H
 clear H
 go_enter Tryd.func33, Tryd.ntmps33
 go_wp2_with (first | ((with_reducible refine gate_callee (f := 57) rfl ?_); refine goesL_ (some 15) rfl rfl Tryd.func57 (by kernel_rfl) rfl #[.slice A0 l0.length c0] rfl (by (try simp only [List.map_toArray, List.map_cons, List.map_nil]); first | done | rfl | (simp only [List.length_drop, List.length_take]; rfl)) ?_; (with_reducible refine (spec_newReader.calls _ _ l0 t679 t680 w _ ?side1 ?side2 ?side3 A2.out).mono ?_); (case side1 => repeat (first | (with_reducible first | exact HB.out | apply below_alloc | apply pw_below_drewN | apply below_drew1) | exact HB.out)); (case side2 => exact HR0.out); (case side3 => exact HC0.out); rintro e w5 ⟨g681, rfl, hi, hb, hb2⟩; refine ⟨_, rfl, ?_⟩; have n0_ := Aside0.mk (hb); have n1_ := Aside0.mk (hi); clear HB; have HB := n0_; have HI681 := n1_; clear n0_ n1_; (try clear hb); (try clear hb2); (try clear hk); (try clear hi)) | ((with_reducible refine gate_callee (f := 56) rfl ?_); refine goesL_ (some 17) rfl rfl Tryd.func56 (by kernel_rfl) rfl #[.pointer (some ⟨g681, 0, none⟩)] rfl (by (try simp only [List.map_toArray, List.map_cons, List.map_nil]); first | done | rfl | (simp only [List.length_drop, List.length_take]; rfl)) ?_; (with_reducible refine (spec_anyGraph.calls k g681 t679 t680 t682 t685 w _ ?side1 ?side2 A3.out).mono ?_); (case side1 => repeat (first | (with_reducible first | exact HI681.out | apply IsS97.alloc | apply IsS97.drewN | apply IsS97.drew | apply IsS97.set_1) | exact HI681.out)); (case side2 => repeat (first | (with_reducible first | exact HB.out | apply below_alloc | apply pw_below_drewN | apply below_drew1 | refine below_set ?_ (IsS97.ge HI681.out)) | exact HB.out)); rintro e w6 ⟨v683, rfl, ho0, hi, hb, hk⟩; refine ⟨_, rfl, ?_⟩; have n0_ := Aside0.mk (Kd.N_lower (Kd.N_mono (ok' := fun k_ => (w.heap.size ≤ k_) ∧ k_ ≠ g681) ho0 (fun k_ hk_ => ⟨(Nat.le_trans (below_size (by repeat (first | (with_reducible first | exact HB.out | apply below_alloc | apply pw_below_drewN | apply below_drew1 | refine below_set ?_ (IsS97.ge HI681.out)) | exact HB.out))) hk_), (IsS97.fresh (by repeat (first | (with_reducible first | exact HI681.out | apply IsS97.alloc | apply IsS97.drewN | apply IsS97.drew | apply IsS97.set_1) | exact HI681.out)) k_ hk_)⟩)) (below_size (by repeat (first | (with_reducible first | exact HB.out | apply below_alloc | apply pw_below_drewN | apply below_drew1 | refine below_set ?_ (IsS97.ge HI681.out)) | exact HB.out)))); have n1_ := Aside0.mk (hb); have n2_ := Aside0.mk (hi); clear HB; clear HI681; have HO684 := n0_; have HB := n1_; have HI681 := n2_; clear n0_ n1_ n2_; (try clear hb); (try clear hb2); (try clear hk); (try clear hi); (try clear ho0)) | ((with_reducible refine gate_callee (f := 64) rfl ?_); refine goesL_ (some 19) rfl rfl Tryd.func64 (by kernel_rfl) rfl #[.pointer (some ⟨g681, 0, none⟩)] rfl (by (try simp only [List.map_toArray, List.map_cons, List.map_nil]); first | done | rfl | (simp only [List.length_drop, List.length_take]; rfl)) ?_; (with_reducible refine (spec_someRoom.calls k g681 t679 t685 t686 t689 w _ ?side1 ?side2 A4.out).mono ?_); (case side1 => repeat (first | (with_reducible first | exact HI681.out | apply IsS97.alloc | apply IsS97.drewN | apply IsS97.drew | apply IsS97.set_1) | exact HI681.out)); (case side2 => repeat (first | (with_reducible first | exact HB.out | apply below_alloc | apply pw_below_drewN | apply below_drew1 | refine below_set ?_ (IsS97.ge HI681.out)) | exact HB.out)); rintro e w7 ⟨v687, rfl, ho0, hi, hb, hk⟩; refine ⟨_, rfl, ?_⟩; have n0_ := Aside0.mk (Kd.N_mono (Kd.N_told (Kd.N_oldK (Kd.N_mono (ok := fun k_ => (((w.heap.size ≤ k_)) ∧ k_ ≠ g681)) (by (with_reducible repeat (first | apply Kd.N_alloc | apply Kd.N_drewN | apply Kd.N_drew)); exact HO684.out) (fun k_ hk_ => (⟨hk_, hk_.2⟩ : _ ∧ k_ ≠ g681))) hk) (Kd.Q_base ho0)) (fun _ h_ => h_.1)); have n1_ := Aside0.mk (Kd.Q_lower (Kd.Q_newM (M := fun k_ => (w.heap.size ≤ k_)) ho0 (below_size (by repeat (first | (with_reducible first | exact HB.out | apply below_alloc | apply pw_below_drewN | apply below_drew1 | refine below_set ?_ (IsS97.ge HI681.out)) | exact HB.out))) (fun k_ h_ => h_)) (below_size (by repeat (first | (with_reducible first | exact HB.out | apply below_alloc | apply pw_below_drewN | apply below_drew1 | refine below_set ?_ (IsS97.ge HI681.out)) | exact HB.out)))); have n2_ := Aside0.mk (hb); have n3_ := Aside0.mk (hi); clear HO684; clear HB; clear HI681; have HO684 := n0_; have HO688 := n1_; have HB := n2_; have HI681 := n3_; clear n0_ n1_ n2_ n3_; (try clear hb); (try clear hb2); (try clear hk); (try clear hi); (try clear ho0)) | ((with_reducible refine gate_dst (N := 20) rfl ?_); refine Kd.R_lit (Kd.int .i64) _ 3 ?hg (N := 20) ?hd (xs := ([] : List Int)) (inner := []) (ok := fun _ => True) (okp := fun _ => True) ?hr ?hp (fun _ hk => hk) trivial (Below.refl _ _) (Nat.le_refl _) (by simp) ?_; (case hd => rfl); (case hg => rfl); (case hr => first | (go_simp; done) | (go_simp; rfl)); (case hp => exact (Reps.none _ _)); intro v691 w8 ho9 hb hg_ hnew_; clear hg_ hnew_; (first | rw [← Ny690.out] at ho9 | (simp only [Int.reduceToNat] at ho9; rw [← Ny690.out] at ho9)); have n0_ := Aside0.mk (Kd.N_elder' (by (with_reducible repeat (first | apply Kd.N_alloc | apply Kd.N_drewN | apply Kd.N_drew)); exact HO684.out) (Kd.R_base ho9) hb); have n1_ := Aside0.mk (Kd.Q_elder' (by (with_reducible repeat (first | apply Kd.Q_alloc | apply Kd.Q_drewN | apply Kd.Q_drew)); exact HO688.out) (Kd.R_base ho9) hb); have n2_ := Aside0.mk (Kd.R_lower (Kd.R_new' (Kd.R_newM (M := fun k_ => (w.heap.size ≤ k_)) ho9 (below_size (by repeat (first | (with_reducible first | exact HB.out | apply below_alloc | apply pw_below_drewN | apply below_drew1 | refine below_set ?_ (IsS97.ge HI681.out)) | exact HB.out))) (fun k_ h_ => h_)) (Kd.Q_lt (by (with_reducible repeat (first | apply Kd.Q_alloc | apply Kd.Q_drewN | apply Kd.Q_drew)); exact HO688.out))) (below_size (by repeat (first | (with_reducible first | exact HB.out | apply below_alloc | apply pw_below_drewN | apply below_drew1 | refine below_set ?_ (IsS97.ge HI681.out)) | exact HB.out)))); have n3_ := Aside0.mk (IsS97.below (by repeat (first | (with_reducible first | exact HI681.out | apply IsS97.alloc | apply IsS97.drewN | apply IsS97.drew | apply IsS97.set_1) | exact HI681.out)) hb); have n4_ := Aside0.mk (below_step (by repeat (first | (with_reducible first | exact HB.out | apply below_alloc | apply pw_below_drewN | apply below_drew1 | refine below_set ?_ (IsS97.ge HI681.out)) | exact HB.out)) hb); clear HO684; clear HO688; clear HI681; clear HB; have HO684 := n0_; have HO688 := n1_; have HO692 := n2_; have HI681 := n3_; have HB := n4_; clear n0_ n1_ n2_ n3_ n4_; clear hb ho9) | ((with_reducible refine gate_dst (N := 21) rfl ?_); refine Kd.R_lit (Kd.int .i64) _ 3 ?hg (N := 21) ?hd (xs := ([] : List Int)) (inner := []) (ok := fun _ => True) (okp := fun _ => True) ?hr ?hp (fun _ hk => hk) trivial (Below.refl _ _) (Nat.le_refl _) (by simp) ?_; (case hd => rfl); (case hg => rfl); (case hr => first | (go_simp; done) | (go_simp; rfl)); (case hp => exact (Reps.none _ _)); intro v694 w10 ho11 hb hg_ hnew_; clear hg_ hnew_; (first | rw [← Ny693.out] at ho11 | (simp only [Int.reduceToNat] at ho11; rw [← Ny693.out] at ho11)); have n0_ := Aside0.mk (Kd.N_elder' (by (with_reducible repeat (first | apply Kd.N_alloc | apply Kd.N_drewN | apply Kd.N_drew)); exact HO684.out) (Kd.R_base ho11) hb); have n1_ := Aside0.mk (Kd.Q_elder' (by (with_reducible repeat (first | apply Kd.Q_alloc | apply Kd.Q_drewN | apply Kd.Q_drew)); exact HO688.out) (Kd.R_base ho11) hb); have n2_ := Aside0.mk (Kd.R_elder' (by (with_reducible repeat (first | apply Kd.R_alloc | apply Kd.R_drewN | apply Kd.R_drew)); exact HO692.out) (Kd.R_base ho11) hb); have n3_ := Aside0.mk (Kd.R_lower (Kd.R_new' (Kd.R_new' (Kd.R_newM (M := fun k_ => (w.heap.size ≤ k_)) ho11 (below_size (by repeat (first | (with_reducible first | exact HB.out | apply below_alloc | apply pw_below_drewN | apply below_drew1 | refine below_set ?_ (IsS97.ge HI681.out)) | exact HB.out))) (fun k_ h_ => h_)) (Kd.Q_lt (by (with_reducible repeat (first | apply Kd.Q_alloc | apply Kd.Q_drewN | apply Kd.Q_drew)); exact HO688.out))) (Kd.R_lt (by (with_reducible repeat (first | apply Kd.R_alloc | apply Kd.R_drewN | apply Kd.R_drew)); exact HO692.out))) (below_size (by repeat (first | (with_reducible first | exact HB.out | apply below_alloc | apply pw_below_drewN | apply below_drew1 | refine below_set ?_ (IsS97.ge HI681.out)) | exact HB.out)))); have n4_ := Aside0.mk (IsS97.below (by repeat (first | (with_reducible first | exact HI681.out | apply IsS97.alloc | apply IsS97.drewN | apply IsS97.drew | apply IsS97.set_1) | exact HI681.out)) hb); have n5_ := Aside0.mk (below_step (by repeat (first | (with_reducible first | exact HB.out | apply below_alloc | apply pw_below_drewN | apply below_drew1 | refine below_set ?_ (IsS97.ge HI681.out)) | exact HB.out)) hb); clear HO684; clear HO688; clear HO692; clear HI681; clear HB; have HO684 := n0_; have HO688 := n1_; have HO692 := n2_; have HO695 := n3_; have HI681 := n4_; have HB := n5_; clear n0_ n1_ n2_ n3_ n4_ n5_; clear hb ho11))
 go_loopg [10, 11, 12] k (fun kq v10 v11 v12 w' => ∃ (x10_1 : List Int) (x11_1 : List Int) (x12_1 : Int) (x682001_1 : Int), v12 = .int .i64 x12_1 ∧ Aside0 (spec_DrawAdmitTasks.l0 kq t682 t686 x10_1 x11_1 x12_1 t679 x682001_1 = some (r1, r2, r3, r4, r5)) ∧ Aside0 (kq ≤ k) ∧ Aside0 (Kd.N k39 39 w' w.heap.size (fun k_ => (w.heap.size ≤ k_) ∧ some k_ ≠ (v687 : Value).ownBlock ∧ some k_ ≠ (v10 : Value).ownBlock ∧ some k_ ≠ (v11 : Value).ownBlock ∧ k_ ≠ g681) v683 t682) ∧ Aside0 (Kd.Q (Kd.int .i64) 3 w' w.heap.size (fun k_ => (w.heap.size ≤ k_) ∧ some k_ ≠ (v10 : Value).ownBlock ∧ some k_ ≠ (v11 : Value).ownBlock) v687 t686) ∧ Aside0 (Kd.R (Kd.int .i64) 3 w' w.heap.size (fun k_ => (w.heap.size ≤ k_) ∧ some k_ ≠ (v687 : Value).ownBlock ∧ some k_ ≠ (v11 : Value).ownBlock) v10 x10_1) ∧ Aside0 (Kd.R (Kd.int .i64) 3 w' w.heap.size (fun k_ => (w.heap.size ≤ k_) ∧ some k_ ≠ (v687 : Value).ownBlock ∧ some k_ ≠ (v10 : Value).ownBlock) v11 x11_1) ∧ Aside0 (IsS97 w w' g681 t679 x682001_1) ∧ Aside0 (Below w.heap.size w w'))
 case atStart => exact ⟨(y690), (y693), (0), (t689), (by first | rfl | (simp; done) | (simp [*]; done)), H', ⟨Nat.le_refl _⟩, ⟨by (with_reducible repeat (first | apply Kd.N_alloc | apply Kd.N_drewN | apply Kd.N_drew)); exact Kd.N_mono HO684.out (fun _ hk => ⟨hk.1.1.1.1, ⟨hk.1.1.2, ⟨hk.1.2, ⟨hk.2, hk.1.1.1.2⟩⟩⟩⟩)⟩, ⟨by (with_reducible repeat (first | apply Kd.Q_alloc | apply Kd.Q_drewN | apply Kd.Q_drew)); exact Kd.Q_mono HO688.out (fun _ hk => ⟨hk.1.1.1, ⟨hk.1.2, hk.2⟩⟩)⟩, ⟨by (with_reducible repeat (first | apply Kd.R_alloc | apply Kd.R_drewN | apply Kd.R_drew)); exact Kd.R_mono HO692.out (fun _ hk => ⟨hk.1.1.1, ⟨hk.1.2, hk.2⟩⟩)⟩, ⟨by (with_reducible repeat (first | apply Kd.R_alloc | apply Kd.R_drewN | apply Kd.R_drew)); exact Kd.R_mono HO695.out (fun _ hk => ⟨hk.1.1.1, ⟨hk.1.2, hk.2⟩⟩)⟩, ⟨by repeat (first | (with_reducible first | exact HI681.out | apply IsS97.alloc | apply IsS97.drewN | apply IsS97.drew | apply IsS97.set_1) | exact HI681.out)⟩, ⟨by repeat (first | (with_reducible first | exact HB.out | apply below_alloc | apply pw_below_drewN | apply below_drew1 | refine below_set ?_ (IsS97.ge HI681.out)) | exact HB.out)⟩⟩
 case round =>
  clear H'
  try clear p2
  try clear c3
  try clear c5
  try clear c6
  obtain ⟨x10_1, x11_1, x12_1, x682001_1, rfl, HA, HK1, HO_8, HO_9, HO_10, HO_11, HI681, HB⟩ := hrel
  cases gk with
  | zero => exact absurd HA.out (by simp [spec_DrawAdmitTasks.l0])
  | succ k1 =>
   have H := HA.out
   clear HA
   simp only [spec_DrawAdmitTasks.l0] at H
   by_cases c12 : x12_1 < (t682.length : Int)
   ·rw [if_pos c12] at H
    have c12b0 : decide (x12_1 < (t682.length : Int)) = true := decide_eq_true c12
    clear c12
    replace H := Option.bind_eq_some_iff.mp H
    obtain ⟨⟨t696, t697⟩, A130, H⟩ := H
    replace H : (if t696 = 0 then ((spec_copyInts.f x10_1).bind fun t698 => (if t698.length < 17592186044416 then ((spec_validRunning.f k1 t682 t686 (t698 ++ [x12_1])).bind fun t704 => (if t704 = true then (if x10_1.length < 17592186044416 then (spec_DrawAdmitTasks.l0 k1 t682 t686 (x10_1 ++ [x12_1]) x11_1 (wrap64 (x12_1 + 1)) t679 t697) else (none)) else (spec_DrawAdmitTasks.l0 k1 t682 t686 x10_1 x11_1 (wrap64 (x12_1 + 1)) t679 t697))) else (none))) else (if t696 = 1 then (if x11_1.length < 17592186044416 then (spec_DrawAdmitTasks.l0 k1 t682 t686 x10_1 (x11_1 ++ [x12_1]) (wrap64 (x12_1 + 1)) t679 t697) else (none)) else (if t696 = 2 then (if x11_1.length < 17592186044416 then (spec_DrawAdmitTasks.l0 k1 t682 t686 x10_1 (x11_1 ++ [x12_1]) (wrap64 (x12_1 + 1)) t679 t697) else (none)) else (spec_DrawAdmitTasks.l0 k1 t682 t686 x10_1 x11_1 (wrap64 (x12_1 + 1)) t679 t697)))) = some (r1, r2, r3, r4, r5) := H
    have A13 := Aside0.mk A130
    clear A130
    by_cases c14 : t696 = 0
    ·rw [if_pos c14] at H
     have c14b0 : (t696 == 0) = true := beq_iff_eq.mpr c14
     have c14b1 : (t696 != 0) = false := bne_eq_false_iff_eq.mpr c14
     clear c14
     replace H := Option.bind_eq_some_iff.mp H
     obtain ⟨t698, A150, H⟩ := H
     replace H : (if t698.length < 17592186044416 then ((spec_validRunning.f k1 t682 t686 (t698 ++ [x12_1])).bind fun t704 => (if t704 = true then (if x10_1.length < 17592186044416 then (spec_DrawAdmitTasks.l0 k1 t682 t686 (x10_1 ++ [x12_1]) x11_1 (wrap64 (x12_1 + 1)) t679 t697) else (none)) else (spec_DrawAdmitTasks.l0 k1 t682 t686 x10_1 x11_1 (wrap64 (x12_1 + 1)) t679 t697))) else (none)) = some (r1, r2, r3, r4, r5) := H
     have A15 := Aside0.mk A150
     clear A150
     by_cases c16 : t698.length < 17592186044416
     ·rw [if_pos c16] at H
      have LMc16 := Aside0.mk c16
      clear c16
      obtain ⟨y701, hy701⟩ : ∃ y_ : List Int, y_ = (t698 ++ [x12_1]) := ⟨_, rfl⟩
      replace H : ((spec_validRunning.f k1 t682 t686 y701).bind fun t704 => (if t704 = true then (if x10_1.length < 17592186044416 then (spec_DrawAdmitTasks.l0 k1 t682 t686 (x10_1 ++ [x12_1]) x11_1 (wrap64 (x12_1 + 1)) t679 t697) else (none)) else (spec_DrawAdmitTasks.l0 k1 t682 t686 x10_1 x11_1 (wrap64 (x12_1 + 1)) t679 t697))) = some (r1, r2, r3, r4, r5) := by first | (rw [hy701]; with_reducible exact H) | (have H2_ := (Option.bind_some _ _).symm.trans H; rw [hy701]; with_reducible exact H2_) | (have H2_ := (Option.bind_some _ _).symm.trans H; with_reducible exact H2_) | with_reducible exact H | (rw [hy701]; exact H) | exact H
      have Ny701 := Aside0.mk hy701
      clear hy701
      replace H := Option.bind_eq_some_iff.mp H
      obtain ⟨t704, A170, H⟩ := H
      replace H : (if t704 = true then (if x10_1.length < 17592186044416 then (spec_DrawAdmitTasks.l0 k1 t682 t686 (x10_1 ++ [x12_1]) x11_1 (wrap64 (x12_1 + 1)) t679 t697) else (none)) else (spec_DrawAdmitTasks.l0 k1 t682 t686 x10_1 x11_1 (wrap64 (x12_1 + 1)) t679 t697)) = some (r1, r2, r3, r4, r5) := H
      have A17 := Aside0.mk A170
      clear A170
      by_cases c18 : t704 = true
      ·subst c18
       have H1 : (if x10_1.length < 17592186044416 then (spec_DrawAdmitTasks.l0 k1 t682 t686 (x10_1 ++ [x12_1]) x11_1 (wrap64 (x12_1 + 1)) t679 t697) else (none)) = some (r1, r2, r3, r4, r5) := by rw [if_pos rfl] at H; exact H
       clear H
       have H := H1
       clear H1
       by_cases c19 : x10_1.length < 17592186044416
       ·rw [if_pos c19] at H
        have LMc19 := Aside0.mk c19
        clear c19
        obtain ⟨y705, hy705⟩ : ∃ y_ : List Int, y_ = (x10_1 ++ [x12_1]) := ⟨_, rfl⟩
        replace H : (spec_DrawAdmitTasks.l0 k1 t682 t686 y705 x11_1 (wrap64 (x12_1 + 1)) t679 t697) = some (r1, r2, r3, r4, r5) := by first | (rw [hy705]; with_reducible exact H) | (have H2_ := (Option.bind_some _ _).symm.trans H; rw [hy705]; with_reducible exact H2_) | (have H2_ := (Option.bind_some _ _).symm.trans H; with_reducible exact H2_) | with_reducible exact H | (rw [hy705]; exact H) | exact H
        have Ny705 := Aside0.mk hy705
        clear hy705
        have H' := Aside0.mk H
        clear H
        obtain ⟨Ao20, co20, eo20⟩ := Kd.N_slice HO_8.out
        subst eo20
        go_wp2_with (first | ((with_reducible refine gate_callee (f := 65) rfl ?_); refine goesL_ (some 29) rfl rfl Tryd.func65 (by kernel_rfl) rfl #[.pointer (some ⟨g681, 0, none⟩), .int .i64 4] rfl (by (try simp only [List.map_toArray, List.map_cons, List.map_nil]); first | done | rfl | (simp only [List.length_drop, List.length_take]; rfl)) ?_; (with_reducible refine (spec_reader_pick.calls k1 g681 t679 x682001_1 4 t696 t697 w _ ?side1 ?side2 A13.out).mono ?_); (case side1 => repeat (first | (with_reducible first | exact HI681.out | apply IsS97.alloc | apply IsS97.drewN | apply IsS97.drew | apply IsS97.set_1) | exact HI681.out)); (case side2 => repeat (first | (with_reducible first | exact HB.out | apply below_alloc | apply pw_below_drewN | apply below_drew1 | refine below_set ?_ (IsS97.ge HI681.out)) | exact HB.out)); rintro e w21 ⟨rfl, hi, hb, hk⟩; refine ⟨_, rfl, ?_⟩; have n0_ := Aside0.mk (Kd.N_mono (Kd.N_keep (Kd.N_mono (ok := fun k_ => (((w.heap.size ≤ k_)) ∧ (some k_ ≠ (v687 : Value).ownBlock ∧ (some k_ ≠ (u10 : Value).ownBlock ∧ (some k_ ≠ (u11 : Value).ownBlock ∧ k_ ≠ g681))))) (by (with_reducible repeat (first | apply Kd.N_alloc | apply Kd.N_drewN | apply Kd.N_drew)); exact HO_8.out) (fun k_ hk_ => (⟨hk_, hk_.2.2.2.2⟩ : _ ∧ k_ ≠ g681))) hk (fun _ h => h.2)) (fun _ h => h.1)); have n1_ := Aside0.mk (Kd.Q_mono (Kd.Q_keep (IsS97.apartQ (show IsS97 w _ g681 t679 x682001_1 from by repeat (first | (with_reducible first | exact HI681.out | apply IsS97.alloc | apply IsS97.drewN | apply IsS97.drew | apply IsS97.set_1) | exact HI681.out)) (by (with_reducible repeat (first | apply Kd.Q_alloc | apply Kd.Q_drewN | apply Kd.Q_drew)); exact HO_9.out) (by decide)) hk (fun _ h => h.2)) (fun _ h => h.1)); have n2_ := Aside0.mk (Kd.R_mono (Kd.R_keep (IsS97.apart (show IsS97 w _ g681 t679 x682001_1 from by repeat (first | (with_reducible first | exact HI681.out | apply IsS97.alloc | apply IsS97.drewN | apply IsS97.drew | apply IsS97.set_1) | exact HI681.out)) (by (with_reducible repeat (first | apply Kd.R_alloc | apply Kd.R_drewN | apply Kd.R_drew)); exact HO_10.out) (by decide)) hk (fun _ h => h.2)) (fun _ h => h.1)); have n3_ := Aside0.mk (Kd.R_mono (Kd.R_keep (IsS97.apart (show IsS97 w _ g681 t679 x682001_1 from by repeat (first | (with_reducible first | exact HI681.out | apply IsS97.alloc | apply IsS97.drewN | apply IsS97.drew | apply IsS97.set_1) | exact HI681.out)) (by (with_reducible repeat (first | apply Kd.R_alloc | apply Kd.R_drewN | apply Kd.R_drew)); exact HO_11.out) (by decide)) hk (fun _ h => h.2)) (fun _ h => h.1)); have n4_ := Aside0.mk (hb); have n5_ := Aside0.mk (hi); clear HO_8; clear HO_9; clear HO_10; clear HO_11; clear HB; clear HI681; have HO_8 := n0_; have HO_9 := n1_; have HO_10 := n2_; have HO_11 := n3_; have HB := n4_; have HI681 := n5_; clear n0_ n1_ n2_ n3_ n4_ n5_; (try clear hb); (try clear hb2); (try clear hk); (try clear hi); obtain ⟨Ao22, co22, eo22⟩ := Kd.R_slice HO_10.out; subst eo22) | ((with_reducible refine gate_callee (f := 67) rfl ?_); refine goesL_ (some 35) rfl rfl Tryd.func67 (by kernel_rfl) rfl #[.slice Ao22 x10_1.length co22] rfl (by (try simp only [List.map_toArray, List.map_cons, List.map_nil]); first | done | rfl | (simp only [List.length_drop, List.length_take]; rfl)) ?_; (with_reducible refine (spec_copyInts.calls _ _ x10_1 t698 _ ?side1 ?side2 A15.out).mono ?_); (case side1 => repeat (first | exact (Kd.R_reads' HO_10.out).2.2 | (with_reducible refine Kd.C_alloc ?_ _) | (with_reducible refine Kd.C_drewN ?_ _) | (with_reducible refine Kd.C_drew ?_))); (case side2 => exact (Kd.R_reads' HO_10.out).2.1); rintro e w23 ⟨v699, rfl, ho0, hb⟩; refine ⟨_, rfl, ?_⟩; have n0_ := Aside0.mk (Kd.N_elder' (by (with_reducible repeat (first | apply Kd.N_alloc | apply Kd.N_drewN | apply Kd.N_drew)); exact HO_8.out) (Kd.R_base ho0) hb); have n1_ := Aside0.mk (Kd.Q_elder' (by (with_reducible repeat (first | apply Kd.Q_alloc | apply Kd.Q_drewN | apply Kd.Q_drew)); exact HO_9.out) (Kd.R_base ho0) hb); have n2_ := Aside0.mk (Kd.R_elder' (by (with_reducible repeat (first | apply Kd.R_alloc | apply Kd.R_drewN | apply Kd.R_drew)); exact HO_10.out) (Kd.R_base ho0) hb); have n3_ := Aside0.mk (Kd.R_elder' (by (with_reducible repeat (first | apply Kd.R_alloc | apply Kd.R_drewN | apply Kd.R_drew)); exact HO_11.out) (Kd.R_base ho0) hb); have n4_ := Aside0.mk (Kd.R_lower (Kd.R_new' (Kd.R_new' (Kd.R_new' (Kd.R_newM (M := fun k_ => (w.heap.size ≤ k_)) ho0 (below_size (by repeat (first | (with_reducible first | exact HB.out | apply below_alloc | apply pw_below_drewN | apply below_drew1 | refine below_set ?_ (IsS97.ge HI681.out)) | exact HB.out))) (fun k_ h_ => h_)) (Kd.Q_lt (by (with_reducible repeat (first | apply Kd.Q_alloc | apply Kd.Q_drewN | apply Kd.Q_drew)); exact HO_9.out))) (Kd.R_lt (by (with_reducible repeat (first | apply Kd.R_alloc | apply Kd.R_drewN | apply Kd.R_drew)); exact HO_10.out))) (Kd.R_lt (by (with_reducible repeat (first | apply Kd.R_alloc | apply Kd.R_drewN | apply Kd.R_drew)); exact HO_11.out))) (below_size (by repeat (first | (with_reducible first | exact HB.out | apply below_alloc | apply pw_below_drewN | apply below_drew1 | refine below_set ?_ (IsS97.ge HI681.out)) | exact HB.out)))); have n5_ := Aside0.mk (IsS97.below (by repeat (first | (with_reducible first | exact HI681.out | apply IsS97.alloc | apply IsS97.drewN | apply IsS97.drew | apply IsS97.set_1) | exact HI681.out)) hb); have n6_ := Aside0.mk (below_step (by repeat (first | (with_reducible first | exact HB.out | apply below_alloc | apply pw_below_drewN | apply below_drew1 | refine below_set ?_ (IsS97.ge HI681.out)) | exact HB.out)) hb); clear HO_8; clear HO_9; clear HO_10; clear HO_11; clear HI681; clear HB; have HO_8 := n0_; have HO_9 := n1_; have HO_10 := n2_; have HO_11 := n3_; have HO700 := n4_; have HI681 := n5_; have HB := n6_; clear n0_ n1_ n2_ n3_ n4_ n5_ n6_; (try clear hb); (try clear hb2); (try clear hk); (try clear hi); (try clear ho0)) | ((with_reducible refine gate_builtin (b := .append) (xs := #[.tmp 35, .tmp 37]) rfl ?_); at_builtin; refine Kd.R_append (Kd.int .i64) (w0 := w) w.heap.size rfl (.tmp 35) (.tmp 37) 24 3 (.int .i64 0) 8 rfl Tryd.underlying24 info3 rfl (by decide) (by omega) v699 t698 x12_1 [.int .i64 x12_1] (fun k_ => (w.heap.size ≤ k_) ∧ some k_ ≠ (v687 : Value).ownBlock ∧ some k_ ≠ (.slice Ao22 x10_1.length co22 : Value).ownBlock ∧ some k_ ≠ (u11 : Value).ownBlock) (fun _ => False) rfl rfl ?aP (fun _ hk => hk.elim) ?aF ?aO ?aB ?aS ?aL ?_; (case aP => exact rfl); (case aB => exact (by repeat (first | (with_reducible first | exact HB.out | apply below_alloc | apply pw_below_drewN | apply below_drew1 | refine below_set ?_ (IsS97.ge HI681.out)) | exact HB.out))); (case aF => exact (fun k_ hk => ⟨(Nat.le_trans (below_size (by repeat (first | (with_reducible first | exact HB.out | apply below_alloc | apply pw_below_drewN | apply below_drew1 | refine below_set ?_ (IsS97.ge HI681.out)) | exact HB.out))) hk), Kd.fresh' (Kd.Q_lt (by (with_reducible repeat (first | apply Kd.Q_alloc | apply Kd.Q_drewN | apply Kd.Q_drew)); exact HO_9.out)) k_ hk, Kd.fresh' (Kd.R_lt (by (with_reducible repeat (first | apply Kd.R_alloc | apply Kd.R_drewN | apply Kd.R_drew)); exact HO_10.out)) k_ hk, Kd.fresh' (Kd.R_lt (by (with_reducible repeat (first | apply Kd.R_alloc | apply Kd.R_drewN | apply Kd.R_drew)); exact HO_11.out)) k_ hk⟩)); (case aO => exact (by (with_reducible repeat (first | apply Kd.R_alloc | apply Kd.R_drewN | apply Kd.R_drew)); exact Kd.R_mono HO700.out (fun _ hk => ⟨hk.1.1.1.1, ⟨hk.1.1.2, ⟨hk.1.2, hk.2⟩⟩⟩))); (case aS => exact (below_size (by repeat (first | (with_reducible first | exact HB.out | apply below_alloc | apply pw_below_drewN | apply below_drew1 | refine below_set ?_ (IsS97.ge HI681.out)) | exact HB.out)))); (case aL => have := LMc16.out; omega); intro v702 w24 ho hb hg hat; rw [← Ny701.out] at ho; have n0_ := Aside0.mk (Kd.N_afterv (ok := (fun k_ => (w.heap.size ≤ k_) ∧ some k_ ≠ (v687 : Value).ownBlock ∧ some k_ ≠ (.slice Ao22 x10_1.length co22 : Value).ownBlock ∧ some k_ ≠ (u11 : Value).ownBlock ∧ k_ ≠ g681)) (by (with_reducible repeat (first | apply Kd.N_alloc | apply Kd.N_drewN | apply Kd.N_drew)); exact HO_8.out) hg hat); have n1_ := Aside0.mk (Kd.Q_after (ok := (fun k_ => (w.heap.size ≤ k_) ∧ some k_ ≠ (.slice Ao22 x10_1.length co22 : Value).ownBlock ∧ some k_ ≠ (u11 : Value).ownBlock)) (by (with_reducible repeat (first | apply Kd.Q_alloc | apply Kd.Q_drewN | apply Kd.Q_drew)); exact HO_9.out) hg hat); have n2_ := Aside0.mk (Kd.R_after (ok := (fun k_ => (w.heap.size ≤ k_) ∧ some k_ ≠ (v687 : Value).ownBlock ∧ some k_ ≠ (u11 : Value).ownBlock)) (by (with_reducible repeat (first | apply Kd.R_alloc | apply Kd.R_drewN | apply Kd.R_drew)); exact HO_10.out) hg hat); have n3_ := Aside0.mk (Kd.R_after (ok := (fun k_ => (w.heap.size ≤ k_) ∧ some k_ ≠ (v687 : Value).ownBlock ∧ some k_ ≠ (.slice Ao22 x10_1.length co22 : Value).ownBlock)) (by (with_reducible repeat (first | apply Kd.R_alloc | apply Kd.R_drewN | apply Kd.R_drew)); exact HO_11.out) hg hat); have n4_ := Aside0.mk (IsS97.grown (by repeat (first | (with_reducible first | exact HI681.out | apply IsS97.alloc | apply IsS97.drewN | apply IsS97.drew | apply IsS97.set_1) | exact HI681.out)) hg (IsS97.own_ne HI681.out HO700.out (by decide))); have n5_ := Aside0.mk (hb); have n6_ := Aside0.mk (ho); clear HO_8; clear HO_9; clear HO_10; clear HO_11; clear HI681; clear HB; clear HO700; have HO_8 := n0_; have HO_9 := n1_; have HO_10 := n2_; have HO_11 := n3_; have HI681 := n4_; have HB := n5_; have HO703 := n6_; clear n0_ n1_ n2_ n3_ n4_ n5_ n6_; clear ho hb hg hat; obtain ⟨Ao25, co25, eo25, _⟩ := Kd.Q_slice HO_9.out; subst eo25; obtain ⟨Ao26, co26, eo26⟩ := Kd.R_slice HO703.out; subst eo26) | ((with_reducible refine gate_callee (f := 66) rfl ?_); refine goesL_ (some 39) rfl rfl Tryd.func66 (by kernel_rfl) rfl #[.slice Ao20 t682.length co20, .slice Ao25 t686.length co25, .slice Ao26 y701.length co26] rfl (by (try simp only [List.map_toArray, List.map_cons, List.map_nil]); first | done | rfl | (simp only [List.length_drop, List.length_take]; rfl)) ?_; (with_reducible refine (spec_validRunning.calls k1 _ _ t682 _ _ t686 _ _ y701 true _ ?side1 ?side2 ?side3 ?side4 ?side5 ?side6 A17.out).mono ?_); (case side1 => repeat (first | exact (Kd.N_reads' HO_8.out).2.2 | (with_reducible refine Kd.C_alloc ?_ _) | (with_reducible refine Kd.C_drewN ?_ _) | (with_reducible refine Kd.C_drew ?_))); (case side2 => exact (Kd.N_reads' HO_8.out).2.1); (case side3 => repeat (first | exact (Kd.Q_reads' HO_9.out).2.2 | (with_reducible refine Kd.C_alloc ?_ _) | (with_reducible refine Kd.C_drewN ?_ _) | (with_reducible refine Kd.C_drew ?_))); (case side4 => exact (Kd.Q_reads' HO_9.out).2.1); (case side5 => repeat (first | exact (Kd.R_reads' HO703.out).2.2 | (with_reducible refine Kd.C_alloc ?_ _) | (with_reducible refine Kd.C_drewN ?_ _) | (with_reducible refine Kd.C_drew ?_))); (case side6 => exact (Kd.R_reads' HO703.out).2.1); rintro e w27 ⟨rfl, hb⟩; refine ⟨_, rfl, ?_⟩; have n0_ := Aside0.mk (Kd.N_below (by (with_reducible repeat (first | apply Kd.N_alloc | apply Kd.N_drewN | apply Kd.N_drew)); exact HO_8.out) hb); have n1_ := Aside0.mk (Kd.Q_below (by (with_reducible repeat (first | apply Kd.Q_alloc | apply Kd.Q_drewN | apply Kd.Q_drew)); exact HO_9.out) hb); have n2_ := Aside0.mk (Kd.R_below (by (with_reducible repeat (first | apply Kd.R_alloc | apply Kd.R_drewN | apply Kd.R_drew)); exact HO_10.out) hb); have n3_ := Aside0.mk (Kd.R_below (by (with_reducible repeat (first | apply Kd.R_alloc | apply Kd.R_drewN | apply Kd.R_drew)); exact HO_11.out) hb); have n4_ := Aside0.mk (Kd.R_below (by (with_reducible repeat (first | apply Kd.R_alloc | apply Kd.R_drewN | apply Kd.R_drew)); exact HO703.out) hb); have n5_ := Aside0.mk (IsS97.below (by repeat (first | (with_reducible first | exact HI681.out | apply IsS97.alloc | apply IsS97.drewN | apply IsS97.drew | apply IsS97.set_1) | exact HI681.out)) hb); have n6_ := Aside0.mk (below_step (by repeat (first | (with_reducible first | exact HB.out | apply below_alloc | apply pw_below_drewN | apply below_drew1 | refine below_set ?_ (IsS97.ge HI681.out)) | exact HB.out)) hb); clear HO_8; clear HO_9; clear HO_10; clear HO_11; clear HO703; clear HI681; clear HB; have HO_8 := n0_; have HO_9 := n1_; have HO_10 := n2_; have HO_11 := n3_; have HO703 := n4_; have HI681 := n5_; have HB := n6_; clear n0_ n1_ n2_ n3_ n4_ n5_ n6_; (try clear hb); (try clear hb2); (try clear hk); (try clear hi)) | ((with_reducible refine gate_builtin (b := .append) (xs := #[.tmp 40, .tmp 42]) rfl ?_); at_builtin; refine Kd.R_append (Kd.int .i64) (w0 := w) w.heap.size rfl (.tmp 40) (.tmp 42) 24 3 (.int .i64 0) 8 rfl Tryd.underlying24 info3 rfl (by decide) (by omega) (.slice Ao22 x10_1.length co22) x10_1 x12_1 [.int .i64 x12_1] (fun k_ => (w.heap.size ≤ k_) ∧ some k_ ≠ (.slice Ao25 t686.length co25 : Value).ownBlock ∧ some k_ ≠ (u11 : Value).ownBlock ∧ some k_ ≠ (.slice Ao26 y701.length co26 : Value).ownBlock) (fun _ => False) rfl rfl ?aP (fun _ hk => hk.elim) ?aF ?aO ?aB ?aS ?aL ?_; (case aP => exact rfl); (case aB => exact (by repeat (first | (with_reducible first | exact HB.out | apply below_alloc | apply pw_below_drewN | apply below_drew1 | refine below_set ?_ (IsS97.ge HI681.out)) | exact HB.out))); (case aF => exact (fun k_ hk => ⟨(Nat.le_trans (below_size (by repeat (first | (with_reducible first | exact HB.out | apply below_alloc | apply pw_below_drewN | apply below_drew1 | refine below_set ?_ (IsS97.ge HI681.out)) | exact HB.out))) hk), Kd.fresh' (Kd.Q_lt (by (with_reducible repeat (first | apply Kd.Q_alloc | apply Kd.Q_drewN | apply Kd.Q_drew)); exact HO_9.out)) k_ hk, Kd.fresh' (Kd.R_lt (by (with_reducible repeat (first | apply Kd.R_alloc | apply Kd.R_drewN | apply Kd.R_drew)); exact HO_11.out)) k_ hk, Kd.fresh' (Kd.R_lt (by (with_reducible repeat (first | apply Kd.R_alloc | apply Kd.R_drewN | apply Kd.R_drew)); exact HO703.out)) k_ hk⟩)); (case aO => exact (by (with_reducible repeat (first | apply Kd.R_alloc | apply Kd.R_drewN | apply Kd.R_drew)); exact Kd.R_mono HO_10.out (fun _ hk => ⟨hk.1.1, ⟨hk.1.2.1, ⟨hk.1.2.2, hk.2⟩⟩⟩))); (case aS => exact (below_size (by repeat (first | (with_reducible first | exact HB.out | apply below_alloc | apply pw_below_drewN | apply below_drew1 | refine below_set ?_ (IsS97.ge HI681.out)) | exact HB.out)))); (case aL => have := LMc19.out; omega); intro v706 w28 ho hb hg hat; rw [← Ny705.out] at ho; have n0_ := Aside0.mk (Kd.N_afterv (ok := (fun k_ => (w.heap.size ≤ k_) ∧ some k_ ≠ (.slice Ao25 t686.length co25 : Value).ownBlock ∧ some k_ ≠ (u11 : Value).ownBlock ∧ some k_ ≠ (.slice Ao26 y701.length co26 : Value).ownBlock ∧ k_ ≠ g681)) (by (with_reducible repeat (first | apply Kd.N_alloc | apply Kd.N_drewN | apply Kd.N_drew)); exact Kd.N_mono HO_8.out (fun _ hk => ⟨⟨hk.1.1, ⟨hk.1.2.1, ⟨hk.1.2.2.2.1, ⟨hk.2, hk.1.2.2.2.2⟩⟩⟩⟩, hk.1.2.2.1⟩)) hg hat); have n1_ := Aside0.mk (Kd.Q_after (ok := (fun k_ => (w.heap.size ≤ k_) ∧ some k_ ≠ (u11 : Value).ownBlock ∧ some k_ ≠ (.slice Ao26 y701.length co26 : Value).ownBlock)) (by (with_reducible repeat (first | apply Kd.Q_alloc | apply Kd.Q_drewN | apply Kd.Q_drew)); exact Kd.Q_mono HO_9.out (fun _ hk => ⟨⟨hk.1.1, ⟨hk.1.2.2, hk.2⟩⟩, hk.1.2.1⟩)) hg hat); have n2_ := Aside0.mk (Kd.R_after (ok := (fun k_ => (w.heap.size ≤ k_) ∧ some k_ ≠ (.slice Ao25 t686.length co25 : Value).ownBlock ∧ some k_ ≠ (.slice Ao26 y701.length co26 : Value).ownBlock)) (by (with_reducible repeat (first | apply Kd.R_alloc | apply Kd.R_drewN | apply Kd.R_drew)); exact Kd.R_mono HO_11.out (fun _ hk => ⟨⟨hk.1.1, ⟨hk.1.2.1, hk.2⟩⟩, hk.1.2.2⟩)) hg hat); have n3_ := Aside0.mk (IsS97.grown (by repeat (first | (with_reducible first | exact HI681.out | apply IsS97.alloc | apply IsS97.drewN | apply IsS97.drew | apply IsS97.set_1) | exact HI681.out)) hg (IsS97.own_ne HI681.out HO_10.out (by decide))); have n4_ := Aside0.mk (Kd.R_after (ok := (fun k_ => (w.heap.size ≤ k_) ∧ some k_ ≠ (.slice Ao25 t686.length co25 : Value).ownBlock ∧ some k_ ≠ (u11 : Value).ownBlock)) (by (with_reducible repeat (first | apply Kd.R_alloc | apply Kd.R_drewN | apply Kd.R_drew)); exact Kd.R_mono HO703.out (fun _ hk => ⟨⟨hk.1, ⟨hk.2.1, hk.2.2.2⟩⟩, hk.2.2.1⟩)) hg hat); have n5_ := Aside0.mk (hb); have n6_ := Aside0.mk (ho); clear HO_8; clear HO_9; clear HO_11; clear HI681; clear HO703; clear HB; clear HO_10; have HO_8 := n0_; have HO_9 := n1_; have HO_11 := n2_; have HI681 := n3_; have HO703 := n4_; have HB := n5_; have HO707 := n6_; clear n0_ n1_ n2_ n3_ n4_ n5_ n6_; clear ho hb hg hat))
        go_roundg k1
        case measure => have := HK1.out; omega
        case rel => exact ⟨(y705), (x11_1), (wrap64 (x12_1 + 1)), (t697), (by first | rfl | (simp; done) | (simp [*]; done)), H', ⟨by have := HK1.out; omega⟩, ⟨by (with_reducible repeat (first | apply Kd.N_alloc | apply Kd.N_drewN | apply Kd.N_drew)); exact Kd.N_mono HO_8.out (fun _ hk => ⟨hk.1.1, ⟨hk.1.2.1, ⟨hk.2, ⟨hk.1.2.2.1, hk.1.2.2.2.2⟩⟩⟩⟩)⟩, ⟨by (with_reducible repeat (first | apply Kd.Q_alloc | apply Kd.Q_drewN | apply Kd.Q_drew)); exact Kd.Q_mono HO_9.out (fun _ hk => ⟨hk.1.1, ⟨hk.2, hk.1.2.1⟩⟩)⟩, ⟨by (with_reducible repeat (first | apply Kd.R_alloc | apply Kd.R_drewN | apply Kd.R_drew)); exact Kd.R_mono HO707.out (fun _ hk => ⟨hk.1, ⟨hk.2.1, hk.2.2.1⟩⟩)⟩, ⟨by (with_reducible repeat (first | apply Kd.R_alloc | apply Kd.R_drewN | apply Kd.R_drew)); exact Kd.R_mono HO_11.out (fun _ hk => ⟨hk.1.1, ⟨hk.1.2.1, hk.2⟩⟩)⟩, ⟨by repeat (first | (with_reducible first | exact HI681.out | apply IsS97.alloc | apply IsS97.drewN | apply IsS97.drew | apply IsS97.set_1) | exact HI681.out)⟩, ⟨by repeat (first | (with_reducible first | exact HB.out | apply below_alloc | apply pw_below_drewN | apply below_drew1 | refine below_set ?_ (IsS97.ge HI681.out)) | exact HB.out)⟩⟩
       ·rw [if_neg c19] at H
        exact absurd H (by simp)
      ·replace c18 := Bool.eq_false_iff.mpr c18
       subst c18
       have H1 : (spec_DrawAdmitTasks.l0 k1 t682 t686 x10_1 x11_1 (wrap64 (x12_1 + 1)) t679 t697) = some (r1, r2, r3, r4, r5) := by rw [if_neg (show ¬ (false = true) by decide)] at H; exact H
       clear H
       have H := H1
       clear H1
       have H' := Aside0.mk H
       clear H
       obtain ⟨Ao29, co29, eo29⟩ := Kd.N_slice HO_8.out
       subst eo29
       go_wp2_with (first | ((with_reducible refine gate_callee (f := 65) rfl ?_); refine goesL_ (some 29) rfl rfl Tryd.func65 (by kernel_rfl) rfl #[.pointer (some ⟨g681, 0, none⟩), .int .i64 4] rfl (by (try simp only [List.map_toArray, List.map_cons, List.map_nil]); first | done | rfl | (simp only [List.length_drop, List.length_take]; rfl)) ?_; (with_reducible refine (spec_reader_pick.calls k1 g681 t679 x682001_1 4 t696 t697 w _ ?side1 ?side2 A13.out).mono ?_); (case side1 => repeat (first | (with_reducible first | exact HI681.out | apply IsS97.alloc | apply IsS97.drewN | apply IsS97.drew | apply IsS97.set_1) | exact HI681.out)); (case side2 => repeat (first | (with_reducible first | exact HB.out | apply below_alloc | apply pw_below_drewN | apply below_drew1 | refine below_set ?_ (IsS97.ge HI681.out)) | exact HB.out)); rintro e w30 ⟨rfl, hi, hb, hk⟩; refine ⟨_, rfl, ?_⟩; have n0_ := Aside0.mk (Kd.N_mono (Kd.N_keep (Kd.N_mono (ok := fun k_ => (((w.heap.size ≤ k_)) ∧ (some k_ ≠ (v687 : Value).ownBlock ∧ (some k_ ≠ (u10 : Value).ownBlock ∧ (some k_ ≠ (u11 : Value).ownBlock ∧ k_ ≠ g681))))) (by (with_reducible repeat (first | apply Kd.N_alloc | apply Kd.N_drewN | apply Kd.N_drew)); exact HO_8.out) (fun k_ hk_ => (⟨hk_, hk_.2.2.2.2⟩ : _ ∧ k_ ≠ g681))) hk (fun _ h => h.2)) (fun _ h => h.1)); have n1_ := Aside0.mk (Kd.Q_mono (Kd.Q_keep (IsS97.apartQ (show IsS97 w _ g681 t679 x682001_1 from by repeat (first | (with_reducible first | exact HI681.out | apply IsS97.alloc | apply IsS97.drewN | apply IsS97.drew | apply IsS97.set_1) | exact HI681.out)) (by (with_reducible repeat (first | apply Kd.Q_alloc | apply Kd.Q_drewN | apply Kd.Q_drew)); exact HO_9.out) (by decide)) hk (fun _ h => h.2)) (fun _ h => h.1)); have n2_ := Aside0.mk (Kd.R_mono (Kd.R_keep (IsS97.apart (show IsS97 w _ g681 t679 x682001_1 from by repeat (first | (with_reducible first | exact HI681.out | apply IsS97.alloc | apply IsS97.drewN | apply IsS97.drew | apply IsS97.set_1) | exact HI681.out)) (by (with_reducible repeat (first | apply Kd.R_alloc | apply Kd.R_drewN | apply Kd.R_drew)); exact HO_10.out) (by decide)) hk (fun _ h => h.2)) (fun _ h => h.1)); have n3_ := Aside0.mk (Kd.R_mono (Kd.R_keep (IsS97.apart (show IsS97 w _ g681 t679 x682001_1 from by repeat (first | (with_reducible first | exact HI681.out | apply IsS97.alloc | apply IsS97.drewN | apply IsS97.drew | apply IsS97.set_1) | exact HI681.out)) (by (with_reducible repeat (first | apply Kd.R_alloc | apply Kd.R_drewN | apply Kd.R_drew)); exact HO_11.out) (by decide)) hk (fun _ h => h.2)) (fun _ h => h.1)); have n4_ := Aside0.mk (hb); have n5_ := Aside0.mk (hi); clear HO_8; clear HO_9; clear HO_10; clear HO_11; clear HB; clear HI681; have HO_8 := n0_; have HO_9 := n1_; have HO_10 := n2_; have HO_11 := n3_; have HB := n4_; have HI681 := n5_; clear n0_ n1_ n2_ n3_ n4_ n5_; (try clear hb); (try clear hb2); (try clear hk); (try clear hi); obtain ⟨Ao31, co31, eo31⟩ := Kd.R_slice HO_10.out; subst eo31) | ((with_reducible refine gate_callee (f := 67) rfl ?_); refine goesL_ (some 35) rfl rfl Tryd.func67 (by kernel_rfl) rfl #[.slice Ao31 x10_1.length co31] rfl (by (try simp only [List.map_toArray, List.map_cons, List.map_nil]); first | done | rfl | (simp only [List.length_drop, List.length_take]; rfl)) ?_; (with_reducible refine (spec_copyInts.calls _ _ x10_1 t698 _ ?side1 ?side2 A15.out).mono ?_); (case side1 => repeat (first | exact (Kd.R_reads' HO_10.out).2.2 | (with_reducible refine Kd.C_alloc ?_ _) | (with_reducible refine Kd.C_drewN ?_ _) | (with_reducible refine Kd.C_drew ?_))); (case side2 => exact (Kd.R_reads' HO_10.out).2.1); rintro e w32 ⟨v699, rfl, ho0, hb⟩; refine ⟨_, rfl, ?_⟩; have n0_ := Aside0.mk (Kd.N_elder' (by (with_reducible repeat (first | apply Kd.N_alloc | apply Kd.N_drewN | apply Kd.N_drew)); exact HO_8.out) (Kd.R_base ho0) hb); have n1_ := Aside0.mk (Kd.Q_elder' (by (with_reducible repeat (first | apply Kd.Q_alloc | apply Kd.Q_drewN | apply Kd.Q_drew)); exact HO_9.out) (Kd.R_base ho0) hb); have n2_ := Aside0.mk (Kd.R_elder' (by (with_reducible repeat (first | apply Kd.R_alloc | apply Kd.R_drewN | apply Kd.R_drew)); exact HO_10.out) (Kd.R_base ho0) hb); have n3_ := Aside0.mk (Kd.R_elder' (by (with_reducible repeat (first | apply Kd.R_alloc | apply Kd.R_drewN | apply Kd.R_drew)); exact HO_11.out) (Kd.R_base ho0) hb); have n4_ := Aside0.mk (Kd.R_lower (Kd.R_new' (Kd.R_new' (Kd.R_new' (Kd.R_newM (M := fun k_ => (w.heap.size ≤ k_)) ho0 (below_size (by repeat (first | (with_reducible first | exact HB.out | apply below_alloc | apply pw_below_drewN | apply below_drew1 | refine below_set ?_ (IsS97.ge HI681.out)) | exact HB.out))) (fun k_ h_ => h_)) (Kd.Q_lt (by (with_reducible repeat (first | apply Kd.Q_alloc | apply Kd.Q_drewN | apply Kd.Q_drew)); exact HO_9.out))) (Kd.R_lt (by (with_reducible repeat (first | apply Kd.R_alloc | apply Kd.R_drewN | apply Kd.R_drew)); exact HO_10.out))) (Kd.R_lt (by (with_reducible repeat (first | apply Kd.R_alloc | apply Kd.R_drewN | apply Kd.R_drew)); exact HO_11.out))) (below_size (by repeat (first | (with_reducible first | exact HB.out | apply below_alloc | apply pw_below_drewN | apply below_drew1 | refine below_set ?_ (IsS97.ge HI681.out)) | exact HB.out)))); have n5_ := Aside0.mk (IsS97.below (by repeat (first | (with_reducible first | exact HI681.out | apply IsS97.alloc | apply IsS97.drewN | apply IsS97.drew | apply IsS97.set_1) | exact HI681.out)) hb); have n6_ := Aside0.mk (below_step (by repeat (first | (with_reducible first | exact HB.out | apply below_alloc | apply pw_below_drewN | apply below_drew1 | refine below_set ?_ (IsS97.ge HI681.out)) | exact HB.out)) hb); clear HO_8; clear HO_9; clear HO_10; clear HO_11; clear HI681; clear HB; have HO_8 := n0_; have HO_9 := n1_; have HO_10 := n2_; have HO_11 := n3_; have HO700 := n4_; have HI681 := n5_; have HB := n6_; clear n0_ n1_ n2_ n3_ n4_ n5_ n6_; (try clear hb); (try clear hb2); (try clear hk); (try clear hi); (try clear ho0)) | ((with_reducible refine gate_builtin (b := .append) (xs := #[.tmp 35, .tmp 37]) rfl ?_); at_builtin; refine Kd.R_append (Kd.int .i64) (w0 := w) w.heap.size rfl (.tmp 35) (.tmp 37) 24 3 (.int .i64 0) 8 rfl Tryd.underlying24 info3 rfl (by decide) (by omega) v699 t698 x12_1 [.int .i64 x12_1] (fun k_ => (w.heap.size ≤ k_) ∧ some k_ ≠ (v687 : Value).ownBlock ∧ some k_ ≠ (.slice Ao31 x10_1.length co31 : Value).ownBlock ∧ some k_ ≠ (u11 : Value).ownBlock) (fun _ => False) rfl rfl ?aP (fun _ hk => hk.elim) ?aF ?aO ?aB ?aS ?aL ?_; (case aP => exact rfl); (case aB => exact (by repeat (first | (with_reducible first | exact HB.out | apply below_alloc | apply pw_below_drewN | apply below_drew1 | refine below_set ?_ (IsS97.ge HI681.out)) | exact HB.out))); (case aF => exact (fun k_ hk => ⟨(Nat.le_trans (below_size (by repeat (first | (with_reducible first | exact HB.out | apply below_alloc | apply pw_below_drewN | apply below_drew1 | refine below_set ?_ (IsS97.ge HI681.out)) | exact HB.out))) hk), Kd.fresh' (Kd.Q_lt (by (with_reducible repeat (first | apply Kd.Q_alloc | apply Kd.Q_drewN | apply Kd.Q_drew)); exact HO_9.out)) k_ hk, Kd.fresh' (Kd.R_lt (by (with_reducible repeat (first | apply Kd.R_alloc | apply Kd.R_drewN | apply Kd.R_drew)); exact HO_10.out)) k_ hk, Kd.fresh' (Kd.R_lt (by (with_reducible repeat (first | apply Kd.R_alloc | apply Kd.R_drewN | apply Kd.R_drew)); exact HO_11.out)) k_ hk⟩)); (case aO => exact (by (with_reducible repeat (first | apply Kd.R_alloc | apply Kd.R_drewN | apply Kd.R_drew)); exact Kd.R_mono HO700.out (fun _ hk => ⟨hk.1.1.1.1, ⟨hk.1.1.2, ⟨hk.1.2, hk.2⟩⟩⟩))); (case aS => exact (below_size (by repeat (first | (with_reducible first | exact HB.out | apply below_alloc | apply pw_below_drewN | apply below_drew1 | refine below_set ?_ (IsS97.ge HI681.out)) | exact HB.out)))); (case aL => have := LMc16.out; omega); intro v702 w33 ho hb hg hat; rw [← Ny701.out] at ho; have n0_ := Aside0.mk (Kd.N_afterv (ok := (fun k_ => (w.heap.size ≤ k_) ∧ some k_ ≠ (v687 : Value).ownBlock ∧ some k_ ≠ (.slice Ao31 x10_1.length co31 : Value).ownBlock ∧ some k_ ≠ (u11 : Value).ownBlock ∧ k_ ≠ g681)) (by (with_reducible repeat (first | apply Kd.N_alloc | apply Kd.N_drewN | apply Kd.N_drew)); exact HO_8.out) hg hat); have n1_ := Aside0.mk (Kd.Q_after (ok := (fun k_ => (w.heap.size ≤ k_) ∧ some k_ ≠ (.slice Ao31 x10_1.length co31 : Value).ownBlock ∧ some k_ ≠ (u11 : Value).ownBlock)) (by (with_reducible repeat (first | apply Kd.Q_alloc | apply Kd.Q_drewN | apply Kd.Q_drew)); exact HO_9.out) hg hat); have n2_ := Aside0.mk (Kd.R_after (ok := (fun k_ => (w.heap.size ≤ k_) ∧ some k_ ≠ (v687 : Value).ownBlock ∧ some k_ ≠ (u11 : Value).ownBlock)) (by (with_reducible repeat (first | apply Kd.R_alloc | apply Kd.R_drewN | apply Kd.R_drew)); exact HO_10.out) hg hat); have n3_ := Aside0.mk (Kd.R_after (ok := (fun k_ => (w.heap.size ≤ k_) ∧ some k_ ≠ (v687 : Value).ownBlock ∧ some k_ ≠ (.slice Ao31 x10_1.length co31 : Value).ownBlock)) (by (with_reducible repeat (first | apply Kd.R_alloc | apply Kd.R_drewN | apply Kd.R_drew)); exact HO_11.out) hg hat); have n4_ := Aside0.mk (IsS97.grown (by repeat (first | (with_reducible first | exact HI681.out | apply IsS97.alloc | apply IsS97.drewN | apply IsS97.drew | apply IsS97.set_1) | exact HI681.out)) hg (IsS97.own_ne HI681.out HO700.out (by decide))); have n5_ := Aside0.mk (hb); have n6_ := Aside0.mk (ho); clear HO_8; clear HO_9; clear HO_10; clear HO_11; clear HI681; clear HB; clear HO700; have HO_8 := n0_; have HO_9 := n1_; have HO_10 := n2_; have HO_11 := n3_; have HI681 := n4_; have HB := n5_; have HO703 := n6_; clear n0_ n1_ n2_ n3_ n4_ n5_ n6_; clear ho hb hg hat; obtain ⟨Ao34, co34, eo34, _⟩ := Kd.Q_slice HO_9.out; subst eo34; obtain ⟨Ao35, co35, eo35⟩ := Kd.R_slice HO703.out; subst eo35) | ((with_reducible refine gate_callee (f := 66) rfl ?_); refine goesL_ (some 39) rfl rfl Tryd.func66 (by kernel_rfl) rfl #[.slice Ao29 t682.length co29, .slice Ao34 t686.length co34, .slice Ao35 y701.length co35] rfl (by (try simp only [List.map_toArray, List.map_cons, List.map_nil]); first | done | rfl | (simp only [List.length_drop, List.length_take]; rfl)) ?_; (with_reducible refine (spec_validRunning.calls k1 _ _ t682 _ _ t686 _ _ y701 false _ ?side1 ?side2 ?side3 ?side4 ?side5 ?side6 A17.out).mono ?_); (case side1 => repeat (first | exact (Kd.N_reads' HO_8.out).2.2 | (with_reducible refine Kd.C_alloc ?_ _) | (with_reducible refine Kd.C_drewN ?_ _) | (with_reducible refine Kd.C_drew ?_))); (case side2 => exact (Kd.N_reads' HO_8.out).2.1); (case side3 => repeat (first | exact (Kd.Q_reads' HO_9.out).2.2 | (with_reducible refine Kd.C_alloc ?_ _) | (with_reducible refine Kd.C_drewN ?_ _) | (with_reducible refine Kd.C_drew ?_))); (case side4 => exact (Kd.Q_reads' HO_9.out).2.1); (case side5 => repeat (first | exact (Kd.R_reads' HO703.out).2.2 | (with_reducible refine Kd.C_alloc ?_ _) | (with_reducible refine Kd.C_drewN ?_ _) | (with_reducible refine Kd.C_drew ?_))); (case side6 => exact (Kd.R_reads' HO703.out).2.1); rintro e w36 ⟨rfl, hb⟩; refine ⟨_, rfl, ?_⟩; have n0_ := Aside0.mk (Kd.N_below (by (with_reducible repeat (first | apply Kd.N_alloc | apply Kd.N_drewN | apply Kd.N_drew)); exact HO_8.out) hb); have n1_ := Aside0.mk (Kd.Q_below (by (with_reducible repeat (first | apply Kd.Q_alloc | apply Kd.Q_drewN | apply Kd.Q_drew)); exact HO_9.out) hb); have n2_ := Aside0.mk (Kd.R_below (by (with_reducible repeat (first | apply Kd.R_alloc | apply Kd.R_drewN | apply Kd.R_drew)); exact HO_10.out) hb); have n3_ := Aside0.mk (Kd.R_below (by (with_reducible repeat (first | apply Kd.R_alloc | apply Kd.R_drewN | apply Kd.R_drew)); exact HO_11.out) hb); have n4_ := Aside0.mk (Kd.R_below (by (with_reducible repeat (first | apply Kd.R_alloc | apply Kd.R_drewN | apply Kd.R_drew)); exact HO703.out) hb); have n5_ := Aside0.mk (IsS97.below (by repeat (first | (with_reducible first | exact HI681.out | apply IsS97.alloc | apply IsS97.drewN | apply IsS97.drew | apply IsS97.set_1) | exact HI681.out)) hb); have n6_ := Aside0.mk (below_step (by repeat (first | (with_reducible first | exact HB.out | apply below_alloc | apply pw_below_drewN | apply below_drew1 | refine below_set ?_ (IsS97.ge HI681.out)) | exact HB.out)) hb); clear HO_8; clear HO_9; clear HO_10; clear HO_11; clear HO703; clear HI681; clear HB; have HO_8 := n0_; have HO_9 := n1_; have HO_10 := n2_; have HO_11 := n3_; have HO703 := n4_; have HI681 := n5_; have HB := n6_; clear n0_ n1_ n2_ n3_ n4_ n5_ n6_; (try clear hb); (try clear hb2); (try clear hk); (try clear hi)))
       go_roundg k1
       case measure => have := HK1.out; omega
       case rel => exact ⟨(x10_1), (x11_1), (wrap64 (x12_1 + 1)), (t697), (by first | rfl | (simp; done) | (simp [*]; done)), H', ⟨by have := HK1.out; omega⟩, ⟨by (with_reducible repeat (first | apply Kd.N_alloc | apply Kd.N_drewN | apply Kd.N_drew)); exact Kd.N_mono HO_8.out (fun _ hk => ⟨hk.1.1, ⟨hk.1.2.1, ⟨hk.1.2.2.1, ⟨hk.1.2.2.2.1, hk.1.2.2.2.2⟩⟩⟩⟩)⟩, ⟨by (with_reducible repeat (first | apply Kd.Q_alloc | apply Kd.Q_drewN | apply Kd.Q_drew)); exact Kd.Q_mono HO_9.out (fun _ hk => ⟨hk.1.1, ⟨hk.1.2.1, hk.1.2.2⟩⟩)⟩, ⟨by (with_reducible repeat (first | apply Kd.R_alloc | apply Kd.R_drewN | apply Kd.R_drew)); exact Kd.R_mono HO_10.out (fun _ hk => ⟨hk.1.1, ⟨hk.1.2.1, hk.1.2.2⟩⟩)⟩, ⟨by (with_reducible repeat (first | apply Kd.R_alloc | apply Kd.R_drewN | apply Kd.R_drew)); exact Kd.R_mono HO_11.out (fun _ hk => ⟨hk.1.1, ⟨hk.1.2.1, hk.1.2.2⟩⟩)⟩, ⟨by repeat (first | (with_reducible first | exact HI681.out | apply IsS97.alloc | apply IsS97.drewN | apply IsS97.drew | apply IsS97.set_1) | exact HI681.out)⟩, ⟨by repeat (first | (with_reducible first | exact HB.out | apply below_alloc | apply pw_below_drewN | apply below_drew1 | refine below_set ?_ (IsS97.ge HI681.out)) | exact HB.out)⟩⟩
     ·rw [if_neg c16] at H
      exact absurd H (by simp)
    ·rw [if_neg c14] at H
     have c14b0 : (t696 == 0) = false := beq_eq_false_iff_ne.mpr c14
     have c14b1 : (t696 != 0) = true := bne_iff_ne.mpr c14
     by_cases c37 : t696 = 1
     ·rw [if_pos c37] at H
      have c37b0 : (t696 == 1) = true := beq_iff_eq.mpr c37
      have c37b1 : (t696 != 1) = false := bne_eq_false_iff_eq.mpr c37
      clear c37
      by_cases c38 : x11_1.length < 17592186044416
      ·rw [if_pos c38] at H
       have LMc38 := Aside0.mk c38
       clear c38
       obtain ⟨y708, hy708⟩ : ∃ y_ : List Int, y_ = (x11_1 ++ [x12_1]) := ⟨_, rfl⟩
       replace H : (spec_DrawAdmitTasks.l0 k1 t682 t686 x10_1 y708 (wrap64 (x12_1 + 1)) t679 t697) = some (r1, r2, r3, r4, r5) := by first | (rw [hy708]; with_reducible exact H) | (have H2_ := (Option.bind_some _ _).symm.trans H; rw [hy708]; with_reducible exact H2_) | (have H2_ := (Option.bind_some _ _).symm.trans H; with_reducible exact H2_) | with_reducible exact H | (rw [hy708]; exact H) | exact H
       have Ny708 := Aside0.mk hy708
       clear hy708
       have H' := Aside0.mk H
       clear H
       obtain ⟨Ao39, co39, eo39⟩ := Kd.N_slice HO_8.out
       subst eo39
       go_wp2_with (first | ((with_reducible refine gate_callee (f := 65) rfl ?_); refine goesL_ (some 29) rfl rfl Tryd.func65 (by kernel_rfl) rfl #[.pointer (some ⟨g681, 0, none⟩), .int .i64 4] rfl (by (try simp only [List.map_toArray, List.map_cons, List.map_nil]); first | done | rfl | (simp only [List.length_drop, List.length_take]; rfl)) ?_; (with_reducible refine (spec_reader_pick.calls k1 g681 t679 x682001_1 4 t696 t697 w _ ?side1 ?side2 A13.out).mono ?_); (case side1 => repeat (first | (with_reducible first | exact HI681.out | apply IsS97.alloc | apply IsS97.drewN | apply IsS97.drew | apply IsS97.set_1) | exact HI681.out)); (case side2 => repeat (first | (with_reducible first | exact HB.out | apply below_alloc | apply pw_below_drewN | apply below_drew1 | refine below_set ?_ (IsS97.ge HI681.out)) | exact HB.out)); rintro e w40 ⟨rfl, hi, hb, hk⟩; refine ⟨_, rfl, ?_⟩; have n0_ := Aside0.mk (Kd.N_mono (Kd.N_keep (Kd.N_mono (ok := fun k_ => (((w.heap.size ≤ k_)) ∧ (some k_ ≠ (v687 : Value).ownBlock ∧ (some k_ ≠ (u10 : Value).ownBlock ∧ (some k_ ≠ (u11 : Value).ownBlock ∧ k_ ≠ g681))))) (by (with_reducible repeat (first | apply Kd.N_alloc | apply Kd.N_drewN | apply Kd.N_drew)); exact HO_8.out) (fun k_ hk_ => (⟨hk_, hk_.2.2.2.2⟩ : _ ∧ k_ ≠ g681))) hk (fun _ h => h.2)) (fun _ h => h.1)); have n1_ := Aside0.mk (Kd.Q_mono (Kd.Q_keep (IsS97.apartQ (show IsS97 w _ g681 t679 x682001_1 from by repeat (first | (with_reducible first | exact HI681.out | apply IsS97.alloc | apply IsS97.drewN | apply IsS97.drew | apply IsS97.set_1) | exact HI681.out)) (by (with_reducible repeat (first | apply Kd.Q_alloc | apply Kd.Q_drewN | apply Kd.Q_drew)); exact HO_9.out) (by decide)) hk (fun _ h => h.2)) (fun _ h => h.1)); have n2_ := Aside0.mk (Kd.R_mono (Kd.R_keep (IsS97.apart (show IsS97 w _ g681 t679 x682001_1 from by repeat (first | (with_reducible first | exact HI681.out | apply IsS97.alloc | apply IsS97.drewN | apply IsS97.drew | apply IsS97.set_1) | exact HI681.out)) (by (with_reducible repeat (first | apply Kd.R_alloc | apply Kd.R_drewN | apply Kd.R_drew)); exact HO_10.out) (by decide)) hk (fun _ h => h.2)) (fun _ h => h.1)); have n3_ := Aside0.mk (Kd.R_mono (Kd.R_keep (IsS97.apart (show IsS97 w _ g681 t679 x682001_1 from by repeat (first | (with_reducible first | exact HI681.out | apply IsS97.alloc | apply IsS97.drewN | apply IsS97.drew | apply IsS97.set_1) | exact HI681.out)) (by (with_reducible repeat (first | apply Kd.R_alloc | apply Kd.R_drewN | apply Kd.R_drew)); exact HO_11.out) (by decide)) hk (fun _ h => h.2)) (fun _ h => h.1)); have n4_ := Aside0.mk (hb); have n5_ := Aside0.mk (hi); clear HO_8; clear HO_9; clear HO_10; clear HO_11; clear HB; clear HI681; have HO_8 := n0_; have HO_9 := n1_; have HO_10 := n2_; have HO_11 := n3_; have HB := n4_; have HI681 := n5_; clear n0_ n1_ n2_ n3_ n4_ n5_; (try clear hb); (try clear hb2); (try clear hk); (try clear hi)) | ((with_reducible refine gate_builtin (b := .append) (xs := #[.tmp 47, .tmp 49]) rfl ?_); at_builtin; refine Kd.R_append (Kd.int .i64) (w0 := w) w.heap.size rfl (.tmp 47) (.tmp 49) 24 3 (.int .i64 0) 8 rfl Tryd.underlying24 info3 rfl (by decide) (by omega) u11 x11_1 x12_1 [.int .i64 x12_1] (fun k_ => (w.heap.size ≤ k_) ∧ some k_ ≠ (v687 : Value).ownBlock ∧ some k_ ≠ (u10 : Value).ownBlock) (fun _ => False) rfl rfl ?aP (fun _ hk => hk.elim) ?aF ?aO ?aB ?aS ?aL ?_; (case aP => exact rfl); (case aB => exact (by repeat (first | (with_reducible first | exact HB.out | apply below_alloc | apply pw_below_drewN | apply below_drew1 | refine below_set ?_ (IsS97.ge HI681.out)) | exact HB.out))); (case aF => exact (fun k_ hk => ⟨(Nat.le_trans (below_size (by repeat (first | (with_reducible first | exact HB.out | apply below_alloc | apply pw_below_drewN | apply below_drew1 | refine below_set ?_ (IsS97.ge HI681.out)) | exact HB.out))) hk), Kd.fresh' (Kd.Q_lt (by (with_reducible repeat (first | apply Kd.Q_alloc | apply Kd.Q_drewN | apply Kd.Q_drew)); exact HO_9.out)) k_ hk, Kd.fresh' (Kd.R_lt (by (with_reducible repeat (first | apply Kd.R_alloc | apply Kd.R_drewN | apply Kd.R_drew)); exact HO_10.out)) k_ hk⟩)); (case aO => exact (by (with_reducible repeat (first | apply Kd.R_alloc | apply Kd.R_drewN | apply Kd.R_drew)); exact HO_11.out)); (case aS => exact (below_size (by repeat (first | (with_reducible first | exact HB.out | apply below_alloc | apply pw_below_drewN | apply below_drew1 | refine below_set ?_ (IsS97.ge HI681.out)) | exact HB.out)))); (case aL => have := LMc38.out; omega); intro v709 w41 ho hb hg hat; rw [← Ny708.out] at ho; have n0_ := Aside0.mk (Kd.N_afterv (ok := (fun k_ => (w.heap.size ≤ k_) ∧ some k_ ≠ (v687 : Value).ownBlock ∧ some k_ ≠ (u10 : Value).ownBlock ∧ k_ ≠ g681)) (by (with_reducible repeat (first | apply Kd.N_alloc | apply Kd.N_drewN | apply Kd.N_drew)); exact Kd.N_mono HO_8.out (fun _ hk => ⟨⟨hk.1, ⟨hk.2.1, ⟨hk.2.2.1, hk.2.2.2.2⟩⟩⟩, hk.2.2.2.1⟩)) hg hat); have n1_ := Aside0.mk (Kd.Q_after (ok := (fun k_ => (w.heap.size ≤ k_) ∧ some k_ ≠ (u10 : Value).ownBlock)) (by (with_reducible repeat (first | apply Kd.Q_alloc | apply Kd.Q_drewN | apply Kd.Q_drew)); exact Kd.Q_mono HO_9.out (fun _ hk => ⟨⟨hk.1, hk.2.1⟩, hk.2.2⟩)) hg hat); have n2_ := Aside0.mk (Kd.R_after (ok := (fun k_ => (w.heap.size ≤ k_) ∧ some k_ ≠ (v687 : Value).ownBlock)) (by (with_reducible repeat (first | apply Kd.R_alloc | apply Kd.R_drewN | apply Kd.R_drew)); exact Kd.R_mono HO_10.out (fun _ hk => ⟨⟨hk.1, hk.2.1⟩, hk.2.2⟩)) hg hat); have n3_ := Aside0.mk (IsS97.grown (by repeat (first | (with_reducible first | exact HI681.out | apply IsS97.alloc | apply IsS97.drewN | apply IsS97.drew | apply IsS97.set_1) | exact HI681.out)) hg (IsS97.own_ne HI681.out HO_11.out (by decide))); have n4_ := Aside0.mk (hb); have n5_ := Aside0.mk (ho); clear HO_8; clear HO_9; clear HO_10; clear HI681; clear HB; clear HO_11; have HO_8 := n0_; have HO_9 := n1_; have HO_10 := n2_; have HI681 := n3_; have HB := n4_; have HO710 := n5_; clear n0_ n1_ n2_ n3_ n4_ n5_; clear ho hb hg hat))
       go_roundg k1
       case measure => have := HK1.out; omega
       case rel => exact ⟨(x10_1), (y708), (wrap64 (x12_1 + 1)), (t697), (by first | rfl | (simp; done) | (simp [*]; done)), H', ⟨by have := HK1.out; omega⟩, ⟨by (with_reducible repeat (first | apply Kd.N_alloc | apply Kd.N_drewN | apply Kd.N_drew)); exact Kd.N_mono HO_8.out (fun _ hk => ⟨hk.1.1, ⟨hk.1.2.1, ⟨hk.1.2.2.1, ⟨hk.2, hk.1.2.2.2⟩⟩⟩⟩)⟩, ⟨by (with_reducible repeat (first | apply Kd.Q_alloc | apply Kd.Q_drewN | apply Kd.Q_drew)); exact Kd.Q_mono HO_9.out (fun _ hk => ⟨hk.1.1, ⟨hk.1.2, hk.2⟩⟩)⟩, ⟨by (with_reducible repeat (first | apply Kd.R_alloc | apply Kd.R_drewN | apply Kd.R_drew)); exact Kd.R_mono HO_10.out (fun _ hk => ⟨hk.1.1, ⟨hk.1.2, hk.2⟩⟩)⟩, ⟨by (with_reducible repeat (first | apply Kd.R_alloc | apply Kd.R_drewN | apply Kd.R_drew)); exact HO710.out⟩, ⟨by repeat (first | (with_reducible first | exact HI681.out | apply IsS97.alloc | apply IsS97.drewN | apply IsS97.drew | apply IsS97.set_1) | exact HI681.out)⟩, ⟨by repeat (first | (with_reducible first | exact HB.out | apply below_alloc | apply pw_below_drewN | apply below_drew1 | refine below_set ?_ (IsS97.ge HI681.out)) | exact HB.out)⟩⟩
      ·rw [if_neg c38] at H
       exact absurd H (by simp)
     ·rw [if_neg c37] at H
      have c37b0 : (t696 == 1) = false := beq_eq_false_iff_ne.mpr c37
      have c37b1 : (t696 != 1) = true := bne_iff_ne.mpr c37
      by_cases c42 : t696 = 2
      ·rw [if_pos c42] at H
       have c42b0 : (t696 == 2) = true := beq_iff_eq.mpr c42
       have c42b1 : (t696 != 2) = false := bne_eq_false_iff_eq.mpr c42
       clear c42
       by_cases c43 : x11_1.length < 17592186044416
       ·rw [if_pos c43] at H
        have LMc43 := Aside0.mk c43
        clear c43
        obtain ⟨y711, hy711⟩ : ∃ y_ : List Int, y_ = (x11_1 ++ [x12_1]) := ⟨_, rfl⟩
        replace H : (spec_DrawAdmitTasks.l0 k1 t682 t686 x10_1 y711 (wrap64 (x12_1 + 1)) t679 t697) = some (r1, r2, r3, r4, r5) := by first | (rw [hy711]; with_reducible exact H) | (have H2_ := (Option.bind_some _ _).symm.trans H; rw [hy711]; with_reducible exact H2_) | (have H2_ := (Option.bind_some _ _).symm.trans H; with_reducible exact H2_) | with_reducible exact H | (rw [hy711]; exact H) | exact H
        have Ny711 := Aside0.mk hy711
        clear hy711
        have H' := Aside0.mk H
        clear H
        obtain ⟨Ao44, co44, eo44⟩ := Kd.N_slice HO_8.out
        subst eo44
        go_wp2_with (first | ((with_reducible refine gate_callee (f := 65) rfl ?_); refine goesL_ (some 29) rfl rfl Tryd.func65 (by kernel_rfl) rfl #[.pointer (some ⟨g681, 0, none⟩), .int .i64 4] rfl (by (try simp only [List.map_toArray, List.map_cons, List.map_nil]); first | done | rfl | (simp only [List.length_drop, List.length_take]; rfl)) ?_; (with_reducible refine (spec_reader_pick.calls k1 g681 t679 x682001_1 4 t696 t697 w _ ?side1 ?side2 A13.out).mono ?_); (case side1 => repeat (first | (with_reducible first | exact HI681.out | apply IsS97.alloc | apply IsS97.drewN | apply IsS97.drew | apply IsS97.set_1) | exact HI681.out)); (case side2 => repeat (first | (with_reducible first | exact HB.out | apply below_alloc | apply pw_below_drewN | apply below_drew1 | refine below_set ?_ (IsS97.ge HI681.out)) | exact HB.out)); rintro e w45 ⟨rfl, hi, hb, hk⟩; refine ⟨_, rfl, ?_⟩; have n0_ := Aside0.mk (Kd.N_mono (Kd.N_keep (Kd.N_mono (ok := fun k_ => (((w.heap.size ≤ k_)) ∧ (some k_ ≠ (v687 : Value).ownBlock ∧ (some k_ ≠ (u10 : Value).ownBlock ∧ (some k_ ≠ (u11 : Value).ownBlock ∧ k_ ≠ g681))))) (by (with_reducible repeat (first | apply Kd.N_alloc | apply Kd.N_drewN | apply Kd.N_drew)); exact HO_8.out) (fun k_ hk_ => (⟨hk_, hk_.2.2.2.2⟩ : _ ∧ k_ ≠ g681))) hk (fun _ h => h.2)) (fun _ h => h.1)); have n1_ := Aside0.mk (Kd.Q_mono (Kd.Q_keep (IsS97.apartQ (show IsS97 w _ g681 t679 x682001_1 from by repeat (first | (with_reducible first | exact HI681.out | apply IsS97.alloc | apply IsS97.drewN | apply IsS97.drew | apply IsS97.set_1) | exact HI681.out)) (by (with_reducible repeat (first | apply Kd.Q_alloc | apply Kd.Q_drewN | apply Kd.Q_drew)); exact HO_9.out) (by decide)) hk (fun _ h => h.2)) (fun _ h => h.1)); have n2_ := Aside0.mk (Kd.R_mono (Kd.R_keep (IsS97.apart (show IsS97 w _ g681 t679 x682001_1 from by repeat (first | (with_reducible first | exact HI681.out | apply IsS97.alloc | apply IsS97.drewN | apply IsS97.drew | apply IsS97.set_1) | exact HI681.out)) (by (with_reducible repeat (first | apply Kd.R_alloc | apply Kd.R_drewN | apply Kd.R_drew)); exact HO_10.out) (by decide)) hk (fun _ h => h.2)) (fun _ h => h.1)); have n3_ := Aside0.mk (Kd.R_mono (Kd.R_keep (IsS97.apart (show IsS97 w _ g681 t679 x682001_1 from by repeat (first | (with_reducible first | exact HI681.out | apply IsS97.alloc | apply IsS97.drewN | apply IsS97.drew | apply IsS97.set_1) | exact HI681.out)) (by (with_reducible repeat (first | apply Kd.R_alloc | apply Kd.R_drewN | apply Kd.R_drew)); exact HO_11.out) (by decide)) hk (fun _ h => h.2)) (fun _ h => h.1)); have n4_ := Aside0.mk (hb); have n5_ := Aside0.mk (hi); clear HO_8; clear HO_9; clear HO_10; clear HO_11; clear HB; clear HI681; have HO_8 := n0_; have HO_9 := n1_; have HO_10 := n2_; have HO_11 := n3_; have HB := n4_; have HI681 := n5_; clear n0_ n1_ n2_ n3_ n4_ n5_; (try clear hb); (try clear hb2); (try clear hk); (try clear hi)) | ((with_reducible refine gate_builtin (b := .append) (xs := #[.tmp 47, .tmp 49]) rfl ?_); at_builtin; refine Kd.R_append (Kd.int .i64) (w0 := w) w.heap.size rfl (.tmp 47) (.tmp 49) 24 3 (.int .i64 0) 8 rfl Tryd.underlying24 info3 rfl (by decide) (by omega) u11 x11_1 x12_1 [.int .i64 x12_1] (fun k_ => (w.heap.size ≤ k_) ∧ some k_ ≠ (v687 : Value).ownBlock ∧ some k_ ≠ (u10 : Value).ownBlock) (fun _ => False) rfl rfl ?aP (fun _ hk => hk.elim) ?aF ?aO ?aB ?aS ?aL ?_; (case aP => exact rfl); (case aB => exact (by repeat (first | (with_reducible first | exact HB.out | apply below_alloc | apply pw_below_drewN | apply below_drew1 | refine below_set ?_ (IsS97.ge HI681.out)) | exact HB.out))); (case aF => exact (fun k_ hk => ⟨(Nat.le_trans (below_size (by repeat (first | (with_reducible first | exact HB.out | apply below_alloc | apply pw_below_drewN | apply below_drew1 | refine below_set ?_ (IsS97.ge HI681.out)) | exact HB.out))) hk), Kd.fresh' (Kd.Q_lt (by (with_reducible repeat (first | apply Kd.Q_alloc | apply Kd.Q_drewN | apply Kd.Q_drew)); exact HO_9.out)) k_ hk, Kd.fresh' (Kd.R_lt (by (with_reducible repeat (first | apply Kd.R_alloc | apply Kd.R_drewN | apply Kd.R_drew)); exact HO_10.out)) k_ hk⟩)); (case aO => exact (by (with_reducible repeat (first | apply Kd.R_alloc | apply Kd.R_drewN | apply Kd.R_drew)); exact HO_11.out)); (case aS => exact (below_size (by repeat (first | (with_reducible first | exact HB.out | apply below_alloc | apply pw_below_drewN | apply below_drew1 | refine below_set ?_ (IsS97.ge HI681.out)) | exact HB.out)))); (case aL => have := LMc43.out; omega); intro v712 w46 ho hb hg hat; rw [← Ny711.out] at ho; have n0_ := Aside0.mk (Kd.N_afterv (ok := (fun k_ => (w.heap.size ≤ k_) ∧ some k_ ≠ (v687 : Value).ownBlock ∧ some k_ ≠ (u10 : Value).ownBlock ∧ k_ ≠ g681)) (by (with_reducible repeat (first | apply Kd.N_alloc | apply Kd.N_drewN | apply Kd.N_drew)); exact Kd.N_mono HO_8.out (fun _ hk => ⟨⟨hk.1, ⟨hk.2.1, ⟨hk.2.2.1, hk.2.2.2.2⟩⟩⟩, hk.2.2.2.1⟩)) hg hat); have n1_ := Aside0.mk (Kd.Q_after (ok := (fun k_ => (w.heap.size ≤ k_) ∧ some k_ ≠ (u10 : Value).ownBlock)) (by (with_reducible repeat (first | apply Kd.Q_alloc | apply Kd.Q_drewN | apply Kd.Q_drew)); exact Kd.Q_mono HO_9.out (fun _ hk => ⟨⟨hk.1, hk.2.1⟩, hk.2.2⟩)) hg hat); have n2_ := Aside0.mk (Kd.R_after (ok := (fun k_ => (w.heap.size ≤ k_) ∧ some k_ ≠ (v687 : Value).ownBlock)) (by (with_reducible repeat (first | apply Kd.R_alloc | apply Kd.R_drewN | apply Kd.R_drew)); exact Kd.R_mono HO_10.out (fun _ hk => ⟨⟨hk.1, hk.2.1⟩, hk.2.2⟩)) hg hat); have n3_ := Aside0.mk (IsS97.grown (by repeat (first | (with_reducible first | exact HI681.out | apply IsS97.alloc | apply IsS97.drewN | apply IsS97.drew | apply IsS97.set_1) | exact HI681.out)) hg (IsS97.own_ne HI681.out HO_11.out (by decide))); have n4_ := Aside0.mk (hb); have n5_ := Aside0.mk (ho); clear HO_8; clear HO_9; clear HO_10; clear HI681; clear HB; clear HO_11; have HO_8 := n0_; have HO_9 := n1_; have HO_10 := n2_; have HI681 := n3_; have HB := n4_; have HO713 := n5_; clear n0_ n1_ n2_ n3_ n4_ n5_; clear ho hb hg hat))
        go_roundg k1
        case measure => have := HK1.out; omega
        case rel => exact ⟨(x10_1), (y711), (wrap64 (x12_1 + 1)), (t697), (by first | rfl | (simp; done) | (simp [*]; done)), H', ⟨by have := HK1.out; omega⟩, ⟨by (with_reducible repeat (first | apply Kd.N_alloc | apply Kd.N_drewN | apply Kd.N_drew)); exact Kd.N_mono HO_8.out (fun _ hk => ⟨hk.1.1, ⟨hk.1.2.1, ⟨hk.1.2.2.1, ⟨hk.2, hk.1.2.2.2⟩⟩⟩⟩)⟩, ⟨by (with_reducible repeat (first | apply Kd.Q_alloc | apply Kd.Q_drewN | apply Kd.Q_drew)); exact Kd.Q_mono HO_9.out (fun _ hk => ⟨hk.1.1, ⟨hk.1.2, hk.2⟩⟩)⟩, ⟨by (with_reducible repeat (first | apply Kd.R_alloc | apply Kd.R_drewN | apply Kd.R_drew)); exact Kd.R_mono HO_10.out (fun _ hk => ⟨hk.1.1, ⟨hk.1.2, hk.2⟩⟩)⟩, ⟨by (with_reducible repeat (first | apply Kd.R_alloc | apply Kd.R_drewN | apply Kd.R_drew)); exact HO713.out⟩, ⟨by repeat (first | (with_reducible first | exact HI681.out | apply IsS97.alloc | apply IsS97.drewN | apply IsS97.drew | apply IsS97.set_1) | exact HI681.out)⟩, ⟨by repeat (first | (with_reducible first | exact HB.out | apply below_alloc | apply pw_below_drewN | apply below_drew1 | refine below_set ?_ (IsS97.ge HI681.out)) | exact HB.out)⟩⟩
       ·rw [if_neg c43] at H
        exact absurd H (by simp)
      ·rw [if_neg c42] at H
       have c42b0 : (t696 == 2) = false := beq_eq_false_iff_ne.mpr c42
       have c42b1 : (t696 != 2) = true := bne_iff_ne.mpr c42
       have H' := Aside0.mk H
       clear H
       obtain ⟨Ao47, co47, eo47⟩ := Kd.N_slice HO_8.out
       subst eo47
       go_wp2_with (first | ((with_reducible refine gate_callee (f := 65) rfl ?_); refine goesL_ (some 29) rfl rfl Tryd.func65 (by kernel_rfl) rfl #[.pointer (some ⟨g681, 0, none⟩), .int .i64 4] rfl (by (try simp only [List.map_toArray, List.map_cons, List.map_nil]); first | done | rfl | (simp only [List.length_drop, List.length_take]; rfl)) ?_; (with_reducible refine (spec_reader_pick.calls k1 g681 t679 x682001_1 4 t696 t697 w _ ?side1 ?side2 A13.out).mono ?_); (case side1 => repeat (first | (with_reducible first | exact HI681.out | apply IsS97.alloc | apply IsS97.drewN | apply IsS97.drew | apply IsS97.set_1) | exact HI681.out)); (case side2 => repeat (first | (with_reducible first | exact HB.out | apply below_alloc | apply pw_below_drewN | apply below_drew1 | refine below_set ?_ (IsS97.ge HI681.out)) | exact HB.out)); rintro e w48 ⟨rfl, hi, hb, hk⟩; refine ⟨_, rfl, ?_⟩; have n0_ := Aside0.mk (Kd.N_mono (Kd.N_keep (Kd.N_mono (ok := fun k_ => (((w.heap.size ≤ k_)) ∧ (some k_ ≠ (v687 : Value).ownBlock ∧ (some k_ ≠ (u10 : Value).ownBlock ∧ (some k_ ≠ (u11 : Value).ownBlock ∧ k_ ≠ g681))))) (by (with_reducible repeat (first | apply Kd.N_alloc | apply Kd.N_drewN | apply Kd.N_drew)); exact HO_8.out) (fun k_ hk_ => (⟨hk_, hk_.2.2.2.2⟩ : _ ∧ k_ ≠ g681))) hk (fun _ h => h.2)) (fun _ h => h.1)); have n1_ := Aside0.mk (Kd.Q_mono (Kd.Q_keep (IsS97.apartQ (show IsS97 w _ g681 t679 x682001_1 from by repeat (first | (with_reducible first | exact HI681.out | apply IsS97.alloc | apply IsS97.drewN | apply IsS97.drew | apply IsS97.set_1) | exact HI681.out)) (by (with_reducible repeat (first | apply Kd.Q_alloc | apply Kd.Q_drewN | apply Kd.Q_drew)); exact HO_9.out) (by decide)) hk (fun _ h => h.2)) (fun _ h => h.1)); have n2_ := Aside0.mk (Kd.R_mono (Kd.R_keep (IsS97.apart (show IsS97 w _ g681 t679 x682001_1 from by repeat (first | (with_reducible first | exact HI681.out | apply IsS97.alloc | apply IsS97.drewN | apply IsS97.drew | apply IsS97.set_1) | exact HI681.out)) (by (with_reducible repeat (first | apply Kd.R_alloc | apply Kd.R_drewN | apply Kd.R_drew)); exact HO_10.out) (by decide)) hk (fun _ h => h.2)) (fun _ h => h.1)); have n3_ := Aside0.mk (Kd.R_mono (Kd.R_keep (IsS97.apart (show IsS97 w _ g681 t679 x682001_1 from by repeat (first | (with_reducible first | exact HI681.out | apply IsS97.alloc | apply IsS97.drewN | apply IsS97.drew | apply IsS97.set_1) | exact HI681.out)) (by (with_reducible repeat (first | apply Kd.R_alloc | apply Kd.R_drewN | apply Kd.R_drew)); exact HO_11.out) (by decide)) hk (fun _ h => h.2)) (fun _ h => h.1)); have n4_ := Aside0.mk (hb); have n5_ := Aside0.mk (hi); clear HO_8; clear HO_9; clear HO_10; clear HO_11; clear HB; clear HI681; have HO_8 := n0_; have HO_9 := n1_; have HO_10 := n2_; have HO_11 := n3_; have HB := n4_; have HI681 := n5_; clear n0_ n1_ n2_ n3_ n4_ n5_; (try clear hb); (try clear hb2); (try clear hk); (try clear hi)))
       go_roundg k1
       case measure => have := HK1.out; omega
       case rel => exact ⟨(x10_1), (x11_1), (wrap64 (x12_1 + 1)), (t697), (by first | rfl | (simp; done) | (simp [*]; done)), H', ⟨by have := HK1.out; omega⟩, ⟨by (with_reducible repeat (first | apply Kd.N_alloc | apply Kd.N_drewN | apply Kd.N_drew)); exact HO_8.out⟩, ⟨by (with_reducible repeat (first | apply Kd.Q_alloc | apply Kd.Q_drewN | apply Kd.Q_drew)); exact HO_9.out⟩, ⟨by (with_reducible repeat (first | apply Kd.R_alloc | apply Kd.R_drewN | apply Kd.R_drew)); exact HO_10.out⟩, ⟨by (with_reducible repeat (first | apply Kd.R_alloc | apply Kd.R_drewN | apply Kd.R_drew)); exact HO_11.out⟩, ⟨by repeat (first | (with_reducible first | exact HI681.out | apply IsS97.alloc | apply IsS97.drewN | apply IsS97.drew | apply IsS97.set_1) | exact HI681.out)⟩, ⟨by repeat (first | (with_reducible first | exact HB.out | apply below_alloc | apply pw_below_drewN | apply below_drew1 | refine below_set ?_ (IsS97.ge HI681.out)) | exact HB.out)⟩⟩
   ·rw [if_neg c12] at H
    have c12b0 : decide (x12_1 < (t682.length : Int)) = false := decide_eq_false c12
    clear c12
    have HC49 := Aside0.mk H
    clear H
    obtain ⟨Ao50, co50, eo50⟩ := Kd.N_slice HO_8.out
    subst eo50
    go_upto_region 16 with (fail)
    go_cut [58] (fun v58 wc => ∃ (kq : Nat) (x58_48 : Bool) (x682001_48 : Int), v58 = .bool x58_48 ∧ Aside0 (spec_DrawAdmitTasks.j1 kq t682 t686 x10_1 x11_1 x58_48 t679 x682001_48 = some (r1, r2, r3, r4, r5)) ∧ Aside0 (kq ≤ k1) ∧ Aside0 (Kd.N k39 39 wc w.heap.size (fun k_ => (w.heap.size ≤ k_) ∧ some k_ ≠ (v687 : Value).ownBlock ∧ some k_ ≠ (u10 : Value).ownBlock ∧ some k_ ≠ (u11 : Value).ownBlock ∧ k_ ≠ g681) (.slice Ao50 t682.length co50) t682) ∧ Aside0 (Kd.Q (Kd.int .i64) 3 wc w.heap.size (fun k_ => (w.heap.size ≤ k_) ∧ some k_ ≠ (u10 : Value).ownBlock ∧ some k_ ≠ (u11 : Value).ownBlock) v687 t686) ∧ Aside0 (Kd.R (Kd.int .i64) 3 wc w.heap.size (fun k_ => (w.heap.size ≤ k_) ∧ some k_ ≠ (v687 : Value).ownBlock ∧ some k_ ≠ (u11 : Value).ownBlock) u10 x10_1) ∧ Aside0 (Kd.R (Kd.int .i64) 3 wc w.heap.size (fun k_ => (w.heap.size ≤ k_) ∧ some k_ ≠ (v687 : Value).ownBlock ∧ some k_ ≠ (u10 : Value).ownBlock) u11 x11_1) ∧ Aside0 (IsS97 w wc g681 t679 x682001_48) ∧ Aside0 (Below w.heap.size w wc))
    case first =>
     have H := HC49.out
     clear HC49
     by_cases c51 : (x11_1.length : Int) > 1
     ·rw [if_pos c51] at H
      have c51b0 : decide (1 < (x11_1.length : Int)) = true := decide_eq_true c51
      have c51b1 : decide (1 < x11_1.length) = true := decide_eq_true (by omega)
      clear c51
      (first | rw [c51b0] | (simp only [i64_w, i32_w]; rw [c51b0]) | skip)
      replace H := Option.bind_eq_some_iff.mp H
      obtain ⟨⟨t714, t715⟩, A520, H⟩ := H
      replace H : (spec_DrawAdmitTasks.j1 k1 t682 t686 x10_1 x11_1 (t714 == 0) t679 t715) = some (r1, r2, r3, r4, r5) := H
      have A52 := Aside0.mk A520
      clear A520
      have H' := Aside0.mk H
      clear H
      obtain ⟨Ao53, co53, eo53⟩ := Kd.R_slice HO_11.out
      subst eo53
      go_wp2_with (first | (go_at_call 65; (with_reducible refine (spec_reader_pick.calls k1 g681 t679 x682001_1 2 t714 t715 w _ ?side1 ?side2 A52.out).mono ?_); (case side1 => repeat (first | (with_reducible first | exact HI681.out | apply IsS97.alloc | apply IsS97.drewN | apply IsS97.drew | apply IsS97.set_1) | exact HI681.out)); (case side2 => repeat (first | (with_reducible first | exact HB.out | apply below_alloc | apply pw_below_drewN | apply below_drew1 | refine below_set ?_ (IsS97.ge HI681.out)) | exact HB.out)); rintro e w54 ⟨rfl, hi, hb, hk⟩; have n0_ := Aside0.mk (Kd.N_mono (Kd.N_keep (Kd.N_mono (ok := fun k_ => (((w.heap.size ≤ k_)) ∧ (some k_ ≠ (v687 : Value).ownBlock ∧ (some k_ ≠ (u10 : Value).ownBlock ∧ (some k_ ≠ (.slice Ao53 x11_1.length co53 : Value).ownBlock ∧ k_ ≠ g681))))) (by (with_reducible repeat (first | apply Kd.N_alloc | apply Kd.N_drewN | apply Kd.N_drew)); exact HO_8.out) (fun k_ hk_ => (⟨hk_, hk_.2.2.2.2⟩ : _ ∧ k_ ≠ g681))) hk (fun _ h => h.2)) (fun _ h => h.1)); have n1_ := Aside0.mk (Kd.Q_mono (Kd.Q_keep (IsS97.apartQ (show IsS97 w _ g681 t679 x682001_1 from by repeat (first | (with_reducible first | exact HI681.out | apply IsS97.alloc | apply IsS97.drewN | apply IsS97.drew | apply IsS97.set_1) | exact HI681.out)) (by (with_reducible repeat (first | apply Kd.Q_alloc | apply Kd.Q_drewN | apply Kd.Q_drew)); exact HO_9.out) (by decide)) hk (fun _ h => h.2)) (fun _ h => h.1)); have n2_ := Aside0.mk (Kd.R_mono (Kd.R_keep (IsS97.apart (show IsS97 w _ g681 t679 x682001_1 from by repeat (first | (with_reducible first | exact HI681.out | apply IsS97.alloc | apply IsS97.drewN | apply IsS97.drew | apply IsS97.set_1) | exact HI681.out)) (by (with_reducible repeat (first | apply Kd.R_alloc | apply Kd.R_drewN | apply Kd.R_drew)); exact HO_10.out) (by decide)) hk (fun _ h => h.2)) (fun _ h => h.1)); have n3_ := Aside0.mk (Kd.R_mono (Kd.R_keep (IsS97.apart (show IsS97 w _ g681 t679 x682001_1 from by repeat (first | (with_reducible first | exact HI681.out | apply IsS97.alloc | apply IsS97.drewN | apply IsS97.drew | apply IsS97.set_1) | exact HI681.out)) (by (with_reducible repeat (first | apply Kd.R_alloc | apply Kd.R_drewN | apply Kd.R_drew)); exact HO_11.out) (by decide)) hk (fun _ h => h.2)) (fun _ h => h.1)); have n4_ := Aside0.mk (hb); have n5_ := Aside0.mk (hi); clear HO_8; clear HO_9; clear HO_10; clear HO_11; clear HB; clear HI681; have HO_8 := n0_; have HO_9 := n1_; have HO_10 := n2_; have HO_11 := n3_; have HB := n4_; have HI681 := n5_; clear n0_ n1_ n2_ n3_ n4_ n5_; (try clear hb); (try clear hb2); (try clear hk); (try clear hi)))
      go_meet
      case rel => exact ⟨_, ((t714 == 0)), (t715), (by first | rfl | (simp; done) | (simp [*]; done)), H', ⟨by have := HK1.out; first | omega | exact Nat.le_refl _⟩, ⟨by (with_reducible repeat (first | apply Kd.N_alloc | apply Kd.N_drewN | apply Kd.N_drew)); exact HO_8.out⟩, ⟨by (with_reducible repeat (first | apply Kd.Q_alloc | apply Kd.Q_drewN | apply Kd.Q_drew)); exact HO_9.out⟩, ⟨by (with_reducible repeat (first | apply Kd.R_alloc | apply Kd.R_drewN | apply Kd.R_drew)); exact HO_10.out⟩, ⟨by (with_reducible repeat (first | apply Kd.R_alloc | apply Kd.R_drewN | apply Kd.R_drew)); exact HO_11.out⟩, ⟨by repeat (first | (with_reducible first | exact HI681.out | apply IsS97.alloc | apply IsS97.drewN | apply IsS97.drew | apply IsS97.set_1) | exact HI681.out)⟩, ⟨by repeat (first | (with_reducible first | exact HB.out | apply below_alloc | apply pw_below_drewN | apply below_drew1 | refine below_set ?_ (IsS97.ge HI681.out)) | exact HB.out)⟩⟩
     ·rw [if_neg c51] at H
      have c51b0 : decide (1 < (x11_1.length : Int)) = false := decide_eq_false c51
      have c51b1 : decide (1 < x11_1.length) = false := decide_eq_false (by omega)
      clear c51
      (first | rw [c51b0] | (simp only [i64_w, i32_w]; rw [c51b0]) | skip)
      have H' := Aside0.mk H
      clear H
      obtain ⟨Ao55, co55, eo55⟩ := Kd.R_slice HO_11.out
      subst eo55
      go_wp2
      go_meet
      case rel => exact ⟨_, (false), (x682001_1), (by first | rfl | (simp; done) | (simp [*]; done)), H', ⟨by have := HK1.out; first | omega | exact Nat.le_refl _⟩, ⟨by (with_reducible repeat (first | apply Kd.N_alloc | apply Kd.N_drewN | apply Kd.N_drew)); exact HO_8.out⟩, ⟨by (with_reducible repeat (first | apply Kd.Q_alloc | apply Kd.Q_drewN | apply Kd.Q_drew)); exact HO_9.out⟩, ⟨by (with_reducible repeat (first | apply Kd.R_alloc | apply Kd.R_drewN | apply Kd.R_drew)); exact HO_10.out⟩, ⟨by (with_reducible repeat (first | apply Kd.R_alloc | apply Kd.R_drewN | apply Kd.R_drew)); exact HO_11.out⟩, ⟨by repeat (first | (with_reducible first | exact HI681.out | apply IsS97.alloc | apply IsS97.drewN | apply IsS97.drew | apply IsS97.set_1) | exact HI681.out)⟩, ⟨by repeat (first | (with_reducible first | exact HB.out | apply below_alloc | apply pw_below_drewN | apply below_drew1 | refine below_set ?_ (IsS97.ge HI681.out)) | exact HB.out)⟩⟩
    case rest =>
     clear HC49
     try clear c1
     try clear p2
     try clear c3
     try clear c4
     try clear c5
     try clear c6
     try clear p6
     try clear c12
     try clear c12b0
     try clear c14
     try clear c14b0
     try clear c14b1
     try clear c16
     try clear c18
     try clear c19
     try clear c33
     try clear c37
     try clear c37b0
     try clear c37b1
     try clear c38
     try clear c42
     try clear c42b0
     try clear c42b1
     try clear c43
     try clear c51
     try clear c51b0
     try clear c51b1
     try clear p2
     obtain ⟨kq, x58_48, x682001_48, rfl, HA, HJ48, HO_8, HO_9, HO_10, HO_11, HI681, HB⟩ := hcut
     cases kq with
     | zero => exact absurd HA.out (by simp [spec_DrawAdmitTasks.j1])
     | succ kj48 =>
      have H := HA.out
      clear HA
      simp only [spec_DrawAdmitTasks.j1] at H
      by_cases c56 : x58_48 = true
      ·subst c56
       have H1 : (if 0 < (x11_1.length : Int) then (if 1 < (x11_1.length : Int) then ((spec_reader_spoil.f kj48 t679 x682001_48 ((x11_1.set (0 : Int).toNat (rd x11_1 1)).set (1 : Int).toNat (rd x11_1 0)) 8).bind fun bt720 => ((spec_reader_one.f kj48 t679 bt720.2 (([2, 3, 1, 4, 0, 5] : List Int))).bind fun bt727 => (some (t682, t686, x10_1, bt720.1, bt727.1)))) else (none)) else (none)) = some (r1, r2, r3, r4, r5) := by rw [if_pos rfl] at H; exact H
       clear H
       have H := H1
       clear H1
       by_cases c57 : 0 < (x11_1.length : Int)
       ·rw [if_pos c57] at H
        have c57b0 : decide (0 < (x11_1.length : Int)) = true := decide_eq_true c57
        have c57b1 : decide (0 < x11_1.length) = true := decide_eq_true (by omega)
        clear c57
        by_cases c58 : 1 < (x11_1.length : Int)
        ·rw [if_pos c58] at H
         have c58b0 : decide (1 < (x11_1.length : Int)) = true := decide_eq_true c58
         have c58b1 : decide (1 < x11_1.length) = true := decide_eq_true (by omega)
         clear c58
         obtain ⟨y718, hy718⟩ : ∃ y_ : List Int, y_ = (x11_1.set (0 : Int).toNat (rd x11_1 1)) := ⟨_, rfl⟩
         replace H : ((spec_reader_spoil.f kj48 t679 x682001_48 (y718.set (1 : Int).toNat (rd x11_1 0)) 8).bind fun bt720 => ((spec_reader_one.f kj48 t679 bt720.2 (([2, 3, 1, 4, 0, 5] : List Int))).bind fun bt727 => (some (t682, t686, x10_1, bt720.1, bt727.1)))) = some (r1, r2, r3, r4, r5) := by first | (rw [hy718]; with_reducible exact H) | (have H2_ := (Option.bind_some _ _).symm.trans H; rw [hy718]; with_reducible exact H2_) | (have H2_ := (Option.bind_some _ _).symm.trans H; with_reducible exact H2_) | with_reducible exact H | (rw [hy718]; exact H) | exact H
         have Ny718 := Aside0.mk hy718
         clear hy718
         obtain ⟨y719, hy719⟩ : ∃ y_ : List Int, y_ = (y718.set (1 : Int).toNat (rd x11_1 0)) := ⟨_, rfl⟩
         replace H : ((spec_reader_spoil.f kj48 t679 x682001_48 y719 8).bind fun bt720 => ((spec_reader_one.f kj48 t679 bt720.2 (([2, 3, 1, 4, 0, 5] : List Int))).bind fun bt727 => (some (t682, t686, x10_1, bt720.1, bt727.1)))) = some (r1, r2, r3, r4, r5) := by first | (rw [hy719]; with_reducible exact H) | (have H2_ := (Option.bind_some _ _).symm.trans H; rw [hy719]; with_reducible exact H2_) | (have H2_ := (Option.bind_some _ _).symm.trans H; with_reducible exact H2_) | with_reducible exact H | (rw [hy719]; exact H) | exact H
         have Ny719 := Aside0.mk hy719
         clear hy719
         replace H := Option.bind_eq_some_iff.mp H
         obtain ⟨⟨t720, t723⟩, A610, H⟩ := H
         replace H : ((spec_reader_one.f kj48 t679 t723 (([2, 3, 1, 4, 0, 5] : List Int))).bind fun bt727 => (some (t682, t686, x10_1, t720, bt727.1))) = some (r1, r2, r3, r4, r5) := H
         have A61 := Aside0.mk A610
         clear A610
         obtain ⟨y724, hy724⟩ : ∃ y_ : List Int, y_ = (([2, 3, 1, 4, 0, 5] : List Int)) := ⟨_, rfl⟩
         replace H : ((spec_reader_one.f kj48 t679 t723 y724).bind fun bt727 => (some (t682, t686, x10_1, t720, bt727.1))) = some (r1, r2, r3, r4, r5) := by first | (rw [hy724]; with_reducible exact H) | (have H2_ := (Option.bind_some _ _).symm.trans H; rw [hy724]; with_reducible exact H2_) | (have H2_ := (Option.bind_some _ _).symm.trans H; with_reducible exact H2_) | with_reducible exact H | (rw [hy724]; exact H) | exact H
         have Ny724 := Aside0.mk hy724
         clear hy724
         replace H := Option.bind_eq_some_iff.mp H
         obtain ⟨⟨t727, t728⟩, A620, H⟩ := H
         replace H : (some (t682, t686, x10_1, t720, t727)) = some (r1, r2, r3, r4, r5) := H
         have A62 := Aside0.mk A620
         clear A620
         simp only [Option.some.injEq, Prod.mk.injEq] at H
         obtain ⟨rfl, rfl, rfl, rfl, rfl⟩ := H
         obtain ⟨Ao63, co63, eo63⟩ := Kd.R_slice HO_11.out
         subst eo63
         have p716 : 0 ≤ (0 : Int) := (by omega)
         have q716 : 0 < (x11_1.length : Int) := of_decide_eq_true (by first | (with_reducible assumption) | assumption)
         obtain ⟨ad716, e716, hx716_0⟩ := Kd.at_int (Kd.R_reads' HO_11.out).2.2 0 p716 q716
         cases e716
         have qi716 : (0 < x11_1.length) = True := eq_true (by omega)
         (try rw [show ((0 : Int)).toNat = 0 from rfl] at hx716_0)
         (try rw [Addr.add_zero'] at hx716_0)
         replace p716 := eq_true p716
         replace q716 := eq_true q716
         have p717 : 0 ≤ (1 : Int) := (by omega)
         have q717 : 1 < (x11_1.length : Int) := of_decide_eq_true (by first | (with_reducible assumption) | assumption)
         obtain ⟨ad717, e717, hx717_0⟩ := Kd.at_int (Kd.R_reads' HO_11.out).2.2 1 p717 q717
         obtain rfl : ad716 = ad717 := (by injection e717)
         (try simp only [show (1 : Int).toNat = 1 from rfl, Nat.reduceMul, Nat.reduceEqDiff, Go.Addr.add, ↓reduceIte] at hx717_0)
         have qi717 : (1 < x11_1.length) = True := eq_true (by omega)
         (try rw [show ((1 : Int)).toNat = 1 from rfl] at hx717_0)
         replace p717 := eq_true p717
         replace q717 := eq_true q717
         have p59 : 0 ≤ (0 : Int) := (by omega)
         have q59 : (0 : Int) < ((x11_1.length : Int) : Int) := of_decide_eq_true (by first | (with_reducible assumption) | assumption)
         have qi59 : (0 < x11_1.length) = True := eq_true (by omega)
         obtain ⟨go59, co59, eo59, gb59, gl59, cl59, HG59⟩ := Kd.R_form HO_11.out (by omega)
         (first | cases eo59 | (injection eo59 with ea_ en_ ec_; (first | subst ea_ | (injection ea_ with ea_; subst ea_)); subst ec_; clear en_))
         have GB59 := Aside0.mk gb59
         have GG59 := Aside0.mk HG59
         clear gb59 gl59 HG59
         (first | simp only [add_plain] at hx716_0 | skip)
         (first | simp only [add_plain] at hx717_0 | skip)
         obtain ⟨hx59_0, hf59_0⟩ := Kd.R_celln 0 HO_11.out (0 : Int) p59 q59
         (try rw [show ((0 : Int)).toNat = 0 from rfl] at hx59_0)
         (try simp only [Nat.reduceMul, Nat.zero_mul, Nat.zero_add, Nat.reduceAdd] at hx59_0)
         (try rw [show ((0 : Int)).toNat = 0 from rfl] at hf59_0)
         (try simp only [Nat.reduceMul, Nat.zero_mul, Nat.zero_add, Nat.reduceAdd] at hf59_0)
         replace p59 := eq_true p59
         replace q59 := eq_true q59
         have HP64 := Kd.R_putg HO_11.out (0 : Int) (rd x11_1 1)
         go_wp2_with (first | ((with_reducible refine gate_store (t := 3) (p := 66) rfl ?_); refine store_event (t := 3) (p := 66) (v := ?vo_w65) (w1 := (wc.setCell ⟨go59, (0 : Int).toNat, none⟩ (.int .i64 (rd x11_1 1)))) ?hg ?ho ?hn ?hr ?_; (case ho => rfl); (case hg => rfl); (case hn => rfl); (case hr => first | (go_simp; done) | (go_simp; rfl)); intro w65 hw; have hg : wc.grownBy w65 (some go59) := (by rw [hw]; exact HP64.2); have hp_ : Kd.R (Kd.int .i64) 3 w65 w.heap.size (fun k_ => (w.heap.size ≤ k_) ∧ some k_ ≠ (v687 : Value).ownBlock ∧ some k_ ≠ (u10 : Value).ownBlock) (.slice (some ⟨go59, 0, none⟩) x11_1.length co63) y718 := (by rw [hw, Ny718.out]; exact HP64.1); clear HP64; have n0_ := Aside0.mk (Kd.N_afterv (v := (.slice (some ⟨go59, 0, none⟩) x11_1.length co63)) (v1 := (.slice (some ⟨go59, 0, none⟩) x11_1.length co63)) (ok := (fun k_ => (w.heap.size ≤ k_) ∧ some k_ ≠ (v687 : Value).ownBlock ∧ some k_ ≠ (u10 : Value).ownBlock ∧ k_ ≠ g681)) (by (with_reducible repeat (first | apply Kd.N_alloc | apply Kd.N_drewN | apply Kd.N_drew)); exact Kd.N_mono HO_8.out (fun _ hk => ⟨⟨hk.1, ⟨hk.2.1, ⟨hk.2.2.1, hk.2.2.2.2⟩⟩⟩, hk.2.2.2.1⟩)) hg (.inl rfl)); have n1_ := Aside0.mk (Kd.Q_after (v := (.slice (some ⟨go59, 0, none⟩) x11_1.length co63)) (v1 := (.slice (some ⟨go59, 0, none⟩) x11_1.length co63)) (ok := (fun k_ => (w.heap.size ≤ k_) ∧ some k_ ≠ (u10 : Value).ownBlock)) (by (with_reducible repeat (first | apply Kd.Q_alloc | apply Kd.Q_drewN | apply Kd.Q_drew)); exact Kd.Q_mono HO_9.out (fun _ hk => ⟨⟨hk.1, hk.2.1⟩, hk.2.2⟩)) hg (.inl rfl)); have n2_ := Aside0.mk (Kd.R_after (v := (.slice (some ⟨go59, 0, none⟩) x11_1.length co63)) (v1 := (.slice (some ⟨go59, 0, none⟩) x11_1.length co63)) (ok := (fun k_ => (w.heap.size ≤ k_) ∧ some k_ ≠ (v687 : Value).ownBlock)) (by (with_reducible repeat (first | apply Kd.R_alloc | apply Kd.R_drewN | apply Kd.R_drew)); exact Kd.R_mono HO_10.out (fun _ hk => ⟨⟨hk.1, hk.2.1⟩, hk.2.2⟩)) hg (.inl rfl)); have n3_ := Aside0.mk (hp_); have n4_ := Aside0.mk (IsS97.grown (by repeat (first | (with_reducible first | exact HI681.out | apply IsS97.alloc | apply IsS97.drewN | apply IsS97.drew | apply IsS97.set_1) | exact HI681.out)) hg (IsS97.own_ne HI681.out HO_11.out (by decide))); have n5_ := Aside0.mk ((by rw [hw]; exact below_set (HB.out) GB59.out : Below w.heap.size w w65)); clear HO_8; clear HO_9; clear HO_10; clear HO_11; clear HI681; clear HB; have HO_8 := n0_; have HO_9 := n1_; have HO_10 := n2_; have HO_11 := n3_; have HI681 := n4_; have HB := n5_; clear n0_ n1_ n2_ n3_ n4_ n5_; clear hg hw hp_; have p60 : 0 ≤ (1 : Int) := (by omega); have q60 : (1 : Int) < ((x11_1.length : Int) : Int) := of_decide_eq_true (by first | (with_reducible assumption) | assumption); have qi60 : (1 < x11_1.length) = True := eq_true (by omega); obtain ⟨hx60_0, hf60_0⟩ := Kd.R_celln 0 HO_11.out (1 : Int) p60 q60; (try rw [show ((1 : Int)).toNat = 1 from rfl] at hx60_0); (try simp only [Nat.reduceMul, Nat.zero_mul, Nat.zero_add, Nat.reduceAdd] at hx60_0); (try rw [show ((1 : Int)).toNat = 1 from rfl] at hf60_0); (try simp only [Nat.reduceMul, Nat.zero_mul, Nat.zero_add, Nat.reduceAdd] at hf60_0); replace p60 := eq_true p60; replace q60 := eq_true q60; obtain ⟨hy66_, hz66_⟩ := Kd.R_celln 0 HO_11.out (1 : Int) (by omega) (of_decide_eq_true (by first | (with_reducible assumption) | assumption)); (try simp only [Int.reduceToNat, Int.toNat_zero, Int.toNat_ofNat, Nat.reduceMul, Nat.zero_mul, Nat.zero_add] at hy66_ hz66_); (try rw [show ((1 : Int)).toNat = 1 from rfl] at hy66_); (try rw [show ((1 : Int)).toNat = 1 from rfl] at hz66_); have HP66 := Kd.R_putg HO_11.out (1 : Int) (rd x11_1 0)) | ((with_reducible refine gate_store (t := 3) (p := 69) rfl ?_); refine store_event (t := 3) (p := 69) (v := ?vo_w67) (w1 := (w65.setCell ⟨go59, (1 : Int).toNat, none⟩ (.int .i64 (rd x11_1 0)))) ?hg ?ho ?hn ?hr ?_; (case ho => rfl); (case hg => rfl); (case hn => rfl); (case hr => first | (go_simp; done) | (go_simp; rfl)); intro w67 hw; have hg : w65.grownBy w67 (some go59) := (by rw [hw]; exact HP66.2); have hp_ : Kd.R (Kd.int .i64) 3 w67 w.heap.size (fun k_ => (w.heap.size ≤ k_) ∧ some k_ ≠ (v687 : Value).ownBlock ∧ some k_ ≠ (u10 : Value).ownBlock) (.slice (some ⟨go59, 0, none⟩) x11_1.length co63) y719 := (by rw [hw, Ny719.out]; exact HP66.1); clear HP66; have n0_ := Aside0.mk (Kd.N_afterv (v := (.slice (some ⟨go59, 0, none⟩) x11_1.length co63)) (v1 := (.slice (some ⟨go59, 0, none⟩) x11_1.length co63)) (ok := (fun k_ => (w.heap.size ≤ k_) ∧ some k_ ≠ (v687 : Value).ownBlock ∧ some k_ ≠ (u10 : Value).ownBlock ∧ k_ ≠ g681)) (by (with_reducible repeat (first | apply Kd.N_alloc | apply Kd.N_drewN | apply Kd.N_drew)); exact HO_8.out) hg (.inl rfl)); have n1_ := Aside0.mk (Kd.Q_after (v := (.slice (some ⟨go59, 0, none⟩) x11_1.length co63)) (v1 := (.slice (some ⟨go59, 0, none⟩) x11_1.length co63)) (ok := (fun k_ => (w.heap.size ≤ k_) ∧ some k_ ≠ (u10 : Value).ownBlock)) (by (with_reducible repeat (first | apply Kd.Q_alloc | apply Kd.Q_drewN | apply Kd.Q_drew)); exact HO_9.out) hg (.inl rfl)); have n2_ := Aside0.mk (Kd.R_after (v := (.slice (some ⟨go59, 0, none⟩) x11_1.length co63)) (v1 := (.slice (some ⟨go59, 0, none⟩) x11_1.length co63)) (ok := (fun k_ => (w.heap.size ≤ k_) ∧ some k_ ≠ (v687 : Value).ownBlock)) (by (with_reducible repeat (first | apply Kd.R_alloc | apply Kd.R_drewN | apply Kd.R_drew)); exact HO_10.out) hg (.inl rfl)); have n3_ := Aside0.mk (hp_); have n4_ := Aside0.mk (IsS97.grown (by repeat (first | (with_reducible first | exact HI681.out | apply IsS97.alloc | apply IsS97.drewN | apply IsS97.drew | apply IsS97.set_1) | exact HI681.out)) hg (IsS97.own_ne HI681.out HO_11.out (by decide))); have n5_ := Aside0.mk ((by rw [hw]; exact below_set (HB.out) GB59.out : Below w.heap.size w w67)); clear HO_8; clear HO_9; clear HO_10; clear HO_11; clear HI681; clear HB; have HO_8 := n0_; have HO_9 := n1_; have HO_10 := n2_; have HO_11 := n3_; have HI681 := n4_; have HB := n5_; clear n0_ n1_ n2_ n3_ n4_ n5_; clear hg hw hp_) | ((with_reducible refine gate_callee (f := 68) rfl ?_); refine goesL_ (some 75) rfl rfl Tryd.func68 (by kernel_rfl) rfl #[.pointer (some ⟨g681, 0, none⟩), .slice (some ⟨go59, 0, none⟩) y719.length co63, .int .i64 8] rfl (by (try simp only [List.map_toArray, List.map_cons, List.map_nil]); first | done | (rw [show y719.length = x11_1.length from (Kd.R_reads' HO_11.out).1.symm] <;> rfl) | rfl | (simp only [List.length_drop, List.length_take]; rfl)) ?_; (with_reducible refine (spec_reader_spoil.calls kj48 g681 t679 x682001_48 _ _ y719 8 t720 t723 w _ ?side1 ?side2 ?side3 ?side4 ?side5 A61.out).mono ?_); (case side1 => repeat (first | (with_reducible first | exact HI681.out | apply IsS97.alloc | apply IsS97.drewN | apply IsS97.drew | apply IsS97.set_1) | exact HI681.out)); (case side2 => repeat (first | (with_reducible first | exact HB.out | apply below_alloc | apply pw_below_drewN | apply below_drew1 | refine below_set ?_ (IsS97.ge HI681.out)) | exact HB.out)); (case side3 => repeat (first | exact (Kd.R_reads' HO_11.out).2.2 | (with_reducible refine Kd.C_alloc ?_ _) | (with_reducible refine Kd.C_drewN ?_ _) | (with_reducible refine Kd.C_drew ?_))); (case side4 => rw [show y719.length = x11_1.length from (Kd.R_reads' HO_11.out).1.symm]; exact (Kd.R_reads' HO_11.out).2.1); (case side5 => rw [show y719.length = x11_1.length from (Kd.R_reads' HO_11.out).1.symm]; exact far_slice (IsS97.own_ne HI681.out HO_11.out (by decide))); rintro e w68 ⟨v721, rfl, ho0, hi, hb, hk⟩; refine ⟨_, rfl, ?_⟩; have n0_ := Aside0.mk (Kd.N_mono (Kd.N_told (Kd.N_oldK (Kd.N_mono (ok := fun k_ => ((((w.heap.size ≤ k_)) ∧ (some k_ ≠ (v687 : Value).ownBlock ∧ (some k_ ≠ (u10 : Value).ownBlock ∧ k_ ≠ g681))) ∧ some k_ ≠ (.slice (some ⟨go59, 0, none⟩) x11_1.length co63 : Value).ownBlock)) (by (with_reducible repeat (first | apply Kd.N_alloc | apply Kd.N_drewN | apply Kd.N_drew)); exact HO_8.out) (fun k_ hk_ => (⟨hk_, hk_.1.2.2.2⟩ : _ ∧ k_ ≠ g681))) hk) (Kd.Q_base ho0)) (fun _ h_ => h_.1)); have n1_ := Aside0.mk (Kd.Q_mono (Kd.Q_told (Kd.Q_oldK (IsS97.apartQ (show IsS97 w _ g681 t679 x682001_48 from by repeat (first | (with_reducible first | exact HI681.out | apply IsS97.alloc | apply IsS97.drewN | apply IsS97.drew | apply IsS97.set_1) | exact HI681.out)) (by (with_reducible repeat (first | apply Kd.Q_alloc | apply Kd.Q_drewN | apply Kd.Q_drew)); exact HO_9.out) (by decide)) hk) (Kd.Q_base ho0)) (fun _ h_ => h_.1)); have n2_ := Aside0.mk (Kd.R_mono (Kd.R_told (Kd.R_oldK (IsS97.apart (show IsS97 w _ g681 t679 x682001_48 from by repeat (first | (with_reducible first | exact HI681.out | apply IsS97.alloc | apply IsS97.drewN | apply IsS97.drew | apply IsS97.set_1) | exact HI681.out)) (by (with_reducible repeat (first | apply Kd.R_alloc | apply Kd.R_drewN | apply Kd.R_drew)); exact HO_10.out) (by decide)) hk) (Kd.Q_base ho0)) (fun _ h_ => h_.1)); have n3_ := Aside0.mk (Kd.R_mono (Kd.R_told (Kd.R_oldK (IsS97.apart (show IsS97 w _ g681 t679 x682001_48 from by repeat (first | (with_reducible first | exact HI681.out | apply IsS97.alloc | apply IsS97.drewN | apply IsS97.drew | apply IsS97.set_1) | exact HI681.out)) (by (with_reducible repeat (first | apply Kd.R_alloc | apply Kd.R_drewN | apply Kd.R_drew)); exact HO_11.out) (by decide)) hk) (Kd.Q_base ho0)) (fun _ h_ => h_.1)); have n4_ := Aside0.mk (Kd.Q_lower (Kd.Q_new' (Kd.Q_new' (Kd.Q_new' (Kd.Q_newM (M := fun k_ => (w.heap.size ≤ k_)) ho0 (below_size (by repeat (first | (with_reducible first | exact HB.out | apply below_alloc | apply pw_below_drewN | apply below_drew1 | refine below_set ?_ (IsS97.ge HI681.out)) | exact HB.out))) (fun k_ h_ => h_)) (Kd.Q_lt (by (with_reducible repeat (first | apply Kd.Q_alloc | apply Kd.Q_drewN | apply Kd.Q_drew)); exact HO_9.out))) (Kd.R_lt (by (with_reducible repeat (first | apply Kd.R_alloc | apply Kd.R_drewN | apply Kd.R_drew)); exact HO_10.out))) (Kd.R_lt (by (with_reducible repeat (first | apply Kd.R_alloc | apply Kd.R_drewN | apply Kd.R_drew)); exact HO_11.out))) (below_size (by repeat (first | (with_reducible first | exact HB.out | apply below_alloc | apply pw_below_drewN | apply below_drew1 | refine below_set ?_ (IsS97.ge HI681.out)) | exact HB.out)))); have n5_ := Aside0.mk (hb); have n6_ := Aside0.mk (hi); clear HO_8; clear HO_9; clear HO_10; clear HO_11; clear HB; clear HI681; have HO_8 := n0_; have HO_9 := n1_; have HO_10 := n2_; have HO_11 := n3_; have HO722 := n4_; have HB := n5_; have HI681 := n6_; clear n0_ n1_ n2_ n3_ n4_ n5_ n6_; (try clear hb); (try clear hb2); (try clear hk); (try clear hi); (try clear ho0)) | ((with_reducible refine gate_dst (N := 77) rfl ?_); refine Kd.R_lit (Kd.int .i64) _ 3 ?hg (N := 77) ?hd (xs := ([2, 3, 1, 4, 0, 5] : List Int)) (inner := [.int .i64 2, .int .i64 3, .int .i64 1, .int .i64 4, .int .i64 0, .int .i64 5]) (ok := fun _ => True) (okp := fun _ => True) ?hr ?hp (fun _ hk => hk) trivial (Below.refl _ _) (Nat.le_refl _) (by simp) ?_; (case hd => rfl); (case hg => rfl); (case hr => first | (go_simp; done) | (go_simp; rfl)); (case hp => exact (Reps.one (show Kd.M (Kd.int .i64) _ _ _ 2 [.int .i64 2] from rfl) (Reps.one (show Kd.M (Kd.int .i64) _ _ _ 3 [.int .i64 3] from rfl) (Reps.one (show Kd.M (Kd.int .i64) _ _ _ 1 [.int .i64 1] from rfl) (Reps.one (show Kd.M (Kd.int .i64) _ _ _ 4 [.int .i64 4] from rfl) (Reps.one (show Kd.M (Kd.int .i64) _ _ _ 0 [.int .i64 0] from rfl) (Reps.one (show Kd.M (Kd.int .i64) _ _ _ 5 [.int .i64 5] from rfl) (Reps.none _ _)))))))); intro v725 w69 ho70 hb hg_ hnew_; clear hg_ hnew_; (first | rw [← Ny724.out] at ho70 | (simp only [Int.reduceToNat] at ho70; rw [← Ny724.out] at ho70)); have n0_ := Aside0.mk (Kd.N_elder' (by (with_reducible repeat (first | apply Kd.N_alloc | apply Kd.N_drewN | apply Kd.N_drew)); exact HO_8.out) (Kd.R_base ho70) hb); have n1_ := Aside0.mk (Kd.Q_elder' (by (with_reducible repeat (first | apply Kd.Q_alloc | apply Kd.Q_drewN | apply Kd.Q_drew)); exact HO_9.out) (Kd.R_base ho70) hb); have n2_ := Aside0.mk (Kd.R_elder' (by (with_reducible repeat (first | apply Kd.R_alloc | apply Kd.R_drewN | apply Kd.R_drew)); exact HO_10.out) (Kd.R_base ho70) hb); have n3_ := Aside0.mk (Kd.R_elder' (by (with_reducible repeat (first | apply Kd.R_alloc | apply Kd.R_drewN | apply Kd.R_drew)); exact HO_11.out) (Kd.R_base ho70) hb); have n4_ := Aside0.mk (Kd.Q_elder' (by (with_reducible repeat (first | apply Kd.Q_alloc | apply Kd.Q_drewN | apply Kd.Q_drew)); exact HO722.out) (Kd.R_base ho70) hb); have n5_ := Aside0.mk (Kd.R_lower (Kd.R_new' (Kd.R_new' (Kd.R_new' (Kd.R_new' (Kd.R_newM (M := fun k_ => (w.heap.size ≤ k_)) ho70 (below_size (by repeat (first | (with_reducible first | exact HB.out | apply below_alloc | apply pw_below_drewN | apply below_drew1 | refine below_set ?_ (IsS97.ge HI681.out)) | exact HB.out))) (fun k_ h_ => h_)) (Kd.Q_lt (by (with_reducible repeat (first | apply Kd.Q_alloc | apply Kd.Q_drewN | apply Kd.Q_drew)); exact HO_9.out))) (Kd.R_lt (by (with_reducible repeat (first | apply Kd.R_alloc | apply Kd.R_drewN | apply Kd.R_drew)); exact HO_10.out))) (Kd.R_lt (by (with_reducible repeat (first | apply Kd.R_alloc | apply Kd.R_drewN | apply Kd.R_drew)); exact HO_11.out))) (Kd.Q_lt (by (with_reducible repeat (first | apply Kd.Q_alloc | apply Kd.Q_drewN | apply Kd.Q_drew)); exact HO722.out))) (below_size (by repeat (first | (with_reducible first | exact HB.out | apply below_alloc | apply pw_below_drewN | apply below_drew1 | refine below_set ?_ (IsS97.ge HI681.out)) | exact HB.out)))); have n6_ := Aside0.mk (IsS97.below (by repeat (first | (with_reducible first | exact HI681.out | apply IsS97.alloc | apply IsS97.drewN | apply IsS97.drew | apply IsS97.set_1) | exact HI681.out)) hb); have n7_ := Aside0.mk (below_step (by repeat (first | (with_reducible first | exact HB.out | apply below_alloc | apply pw_below_drewN | apply below_drew1 | refine below_set ?_ (IsS97.ge HI681.out)) | exact HB.out)) hb); clear HO_8; clear HO_9; clear HO_10; clear HO_11; clear HO722; clear HI681; clear HB; have HO_8 := n0_; have HO_9 := n1_; have HO_10 := n2_; have HO_11 := n3_; have HO722 := n4_; have HO726 := n5_; have HI681 := n6_; have HB := n7_; clear n0_ n1_ n2_ n3_ n4_ n5_ n6_ n7_; clear hb ho70; obtain ⟨Ao71, co71, eo71⟩ := Kd.R_slice HO726.out; subst eo71) | ((with_reducible refine gate_callee (f := 69) rfl ?_); refine goesL_ (some 78) rfl rfl Tryd.func69 (by kernel_rfl) rfl #[.pointer (some ⟨g681, 0, none⟩), .slice Ao71 y724.length co71] rfl (by (try simp only [List.map_toArray, List.map_cons, List.map_nil]); first | done | rfl | (simp only [List.length_drop, List.length_take]; rfl)) ?_; (with_reducible refine (spec_reader_one.calls kj48 g681 t679 t723 _ _ y724 t727 t728 w _ ?side1 ?side2 ?side3 ?side4 ?side5 A62.out).mono ?_); (case side1 => repeat (first | (with_reducible first | exact HI681.out | apply IsS97.alloc | apply IsS97.drewN | apply IsS97.drew | apply IsS97.set_1) | exact HI681.out)); (case side2 => repeat (first | (with_reducible first | exact HB.out | apply below_alloc | apply pw_below_drewN | apply below_drew1 | refine below_set ?_ (IsS97.ge HI681.out)) | exact HB.out)); (case side3 => repeat (first | exact (Kd.R_reads' HO726.out).2.2 | (with_reducible refine Kd.C_alloc ?_ _) | (with_reducible refine Kd.C_drewN ?_ _) | (with_reducible refine Kd.C_drew ?_))); (case side4 => exact (Kd.R_reads' HO726.out).2.1); (case side5 => exact far_slice (IsS97.own_ne HI681.out HO726.out (by decide))); rintro e w72 ⟨rfl, hi, hb, hk⟩; refine ⟨_, rfl, ?_⟩; have n0_ := Aside0.mk (Kd.N_mono (Kd.N_keep (Kd.N_mono (ok := fun k_ => ((((((w.heap.size ≤ k_)) ∧ (some k_ ≠ (v687 : Value).ownBlock ∧ (some k_ ≠ (u10 : Value).ownBlock ∧ k_ ≠ g681))) ∧ some k_ ≠ (.slice (some ⟨go59, 0, none⟩) x11_1.length co63 : Value).ownBlock) ∧ some k_ ≠ (v721 : Value).ownBlock) ∧ some k_ ≠ (.slice Ao71 y724.length co71 : Value).ownBlock)) (by (with_reducible repeat (first | apply Kd.N_alloc | apply Kd.N_drewN | apply Kd.N_drew)); exact HO_8.out) (fun k_ hk_ => (⟨hk_, hk_.1.1.1.2.2.2⟩ : _ ∧ k_ ≠ g681))) hk (fun _ h => h.2)) (fun _ h => h.1)); have n1_ := Aside0.mk (Kd.Q_mono (Kd.Q_keep (IsS97.apartQ (show IsS97 w _ g681 t679 t723 from by repeat (first | (with_reducible first | exact HI681.out | apply IsS97.alloc | apply IsS97.drewN | apply IsS97.drew | apply IsS97.set_1) | exact HI681.out)) (by (with_reducible repeat (first | apply Kd.Q_alloc | apply Kd.Q_drewN | apply Kd.Q_drew)); exact HO_9.out) (by decide)) hk (fun _ h => h.2)) (fun _ h => h.1)); have n2_ := Aside0.mk (Kd.R_mono (Kd.R_keep (IsS97.apart (show IsS97 w _ g681 t679 t723 from by repeat (first | (with_reducible first | exact HI681.out | apply IsS97.alloc | apply IsS97.drewN | apply IsS97.drew | apply IsS97.set_1) | exact HI681.out)) (by (with_reducible repeat (first | apply Kd.R_alloc | apply Kd.R_drewN | apply Kd.R_drew)); exact HO_10.out) (by decide)) hk (fun _ h => h.2)) (fun _ h => h.1)); have n3_ := Aside0.mk (Kd.R_mono (Kd.R_keep (IsS97.apart (show IsS97 w _ g681 t679 t723 from by repeat (first | (with_reducible first | exact HI681.out | apply IsS97.alloc | apply IsS97.drewN | apply IsS97.drew | apply IsS97.set_1) | exact HI681.out)) (by (with_reducible repeat (first | apply Kd.R_alloc | apply Kd.R_drewN | apply Kd.R_drew)); exact HO_11.out) (by decide)) hk (fun _ h => h.2)) (fun _ h => h.1)); have n4_ := Aside0.mk (Kd.Q_mono (Kd.Q_keep (IsS97.apartQ (show IsS97 w _ g681 t679 t723 from by repeat (first | (with_reducible first | exact HI681.out | apply IsS97.alloc | apply IsS97.drewN | apply IsS97.drew | apply IsS97.set_1) | exact HI681.out)) (by (with_reducible repeat (first | apply Kd.Q_alloc | apply Kd.Q_drewN | apply Kd.Q_drew)); exact HO722.out) (by decide)) hk (fun _ h => h.2)) (fun _ h => h.1)); have n5_ := Aside0.mk (Kd.R_mono (Kd.R_keep (IsS97.apart (show IsS97 w _ g681 t679 t723 from by repeat (first | (with_reducible first | exact HI681.out | apply IsS97.alloc | apply IsS97.drewN | apply IsS97.drew | apply IsS97.set_1) | exact HI681.out)) (by (with_reducible repeat (first | apply Kd.R_alloc | apply Kd.R_drewN | apply Kd.R_drew)); exact HO726.out) (by decide)) hk (fun _ h => h.2)) (fun _ h => h.1)); have n6_ := Aside0.mk (hb); have n7_ := Aside0.mk (hi); clear HO_8; clear HO_9; clear HO_10; clear HO_11; clear HO722; clear HO726; clear HB; clear HI681; have HO_8 := n0_; have HO_9 := n1_; have HO_10 := n2_; have HO_11 := n3_; have HO722 := n4_; have HO726 := n5_; have HB := n6_; have HI681 := n7_; clear n0_ n1_ n2_ n3_ n4_ n5_ n6_ n7_; (try clear hb); (try clear hb2); (try clear hk); (try clear hi)))
         refine bodyPost_ret (results_list (rs := [.tmp 2, .tmp 3, .tmp 4, .tmp 5, .tmp 6]) rfl (by simp) (.tmp (.tmp (.tmp (.tmp (.tmp .nil)))))) rfl ?_
         exact ⟨_, _, _, _, by first | rfl | (simp [errW_none, errW_some] <;> rfl) | (simp [*, errW_none, errW_some] <;> rfl), by (with_reducible repeat (first | apply Kd.N_alloc | apply Kd.N_drewN | apply Kd.N_drew)); exact Kd.N_mono HO_8.out (fun _ hk => ⟨hk.1.1.1.1, ⟨hk.1.1.1.2.1, ⟨hk.1.1.1.2.2.1, hk.1.2⟩⟩⟩), by (with_reducible repeat (first | apply Kd.Q_alloc | apply Kd.Q_drewN | apply Kd.Q_drew)); exact Kd.Q_mono HO_9.out (fun _ hk => ⟨hk.1.1.1.1, ⟨hk.1.1.1.2, hk.1.2⟩⟩), by (with_reducible repeat (first | apply Kd.R_alloc | apply Kd.R_drewN | apply Kd.R_drew)); exact Kd.R_mono HO_10.out (fun _ hk => ⟨hk.1.1.1.1, ⟨hk.1.1.1.2, hk.1.2⟩⟩), by (with_reducible repeat (first | apply Kd.Q_alloc | apply Kd.Q_drewN | apply Kd.Q_drew)); exact Kd.Q_mono HO722.out (fun _ hk => ⟨hk.1.1.1.1.1, ⟨hk.1.1.1.2, hk.1.1.2⟩⟩), by repeat (first | (with_reducible first | exact HB.out | apply below_alloc | apply pw_below_drewN | apply below_drew1 | refine below_set ?_ (IsS97.ge HI681.out)) | exact HB.out)⟩
        ·rw [if_neg c58] at H
         exact absurd H (by simp)
       ·rw [if_neg c57] at H
        exact absurd H (by simp)
      ·replace c56 := Bool.eq_false_iff.mpr c56
       subst c56
       have H1 : ((spec_reader_spoil.f kj48 t679 x682001_48 x11_1 8).bind fun bt729 => ((spec_reader_one.f kj48 t679 bt729.2 (([2, 3, 1, 4, 0, 5] : List Int))).bind fun bt736 => (some (t682, t686, x10_1, bt729.1, bt736.1)))) = some (r1, r2, r3, r4, r5) := by rw [if_neg (show ¬ (false = true) by decide)] at H; exact H
       clear H
       have H := H1
       clear H1
       replace H := Option.bind_eq_some_iff.mp H
       obtain ⟨⟨t729, t732⟩, A730, H⟩ := H
       replace H : ((spec_reader_one.f kj48 t679 t732 (([2, 3, 1, 4, 0, 5] : List Int))).bind fun bt736 => (some (t682, t686, x10_1, t729, bt736.1))) = some (r1, r2, r3, r4, r5) := H
       have A73 := Aside0.mk A730
       clear A730
       obtain ⟨y733, hy733⟩ : ∃ y_ : List Int, y_ = (([2, 3, 1, 4, 0, 5] : List Int)) := ⟨_, rfl⟩
       replace H : ((spec_reader_one.f kj48 t679 t732 y733).bind fun bt736 => (some (t682, t686, x10_1, t729, bt736.1))) = some (r1, r2, r3, r4, r5) := by first | (rw [hy733]; with_reducible exact H) | (have H2_ := (Option.bind_some _ _).symm.trans H; rw [hy733]; with_reducible exact H2_) | (have H2_ := (Option.bind_some _ _).symm.trans H; with_reducible exact H2_) | with_reducible exact H | (rw [hy733]; exact H) | exact H
       have Ny733 := Aside0.mk hy733
       clear hy733
       replace H := Option.bind_eq_some_iff.mp H
       obtain ⟨⟨t736, t737⟩, A740, H⟩ := H
       replace H : (some (t682, t686, x10_1, t729, t736)) = some (r1, r2, r3, r4, r5) := H
       have A74 := Aside0.mk A740
       clear A740
       simp only [Option.some.injEq, Prod.mk.injEq] at H
       obtain ⟨rfl, rfl, rfl, rfl, rfl⟩ := H
       obtain ⟨Ao75, co75, eo75⟩ := Kd.R_slice HO_11.out
       subst eo75
       go_wp2_with (first | ((with_reducible refine gate_callee (f := 68) rfl ?_); refine goesL_ (some 75) rfl rfl Tryd.func68 (by kernel_rfl) rfl #[.pointer (some ⟨g681, 0, none⟩), .slice Ao75 x11_1.length co75, .int .i64 8] rfl (by (try simp only [List.map_toArray, List.map_cons, List.map_nil]); first | done | rfl | (simp only [List.length_drop, List.length_take]; rfl)) ?_; (with_reducible refine (spec_reader_spoil.calls kj48 g681 t679 x682001_48 _ _ x11_1 8 t729 t732 w _ ?side1 ?side2 ?side3 ?side4 ?side5 A73.out).mono ?_); (case side1 => repeat (first | (with_reducible first | exact HI681.out | apply IsS97.alloc | apply IsS97.drewN | apply IsS97.drew | apply IsS97.set_1) | exact HI681.out)); (case side2 => repeat (first | (with_reducible first | exact HB.out | apply below_alloc | apply pw_below_drewN | apply below_drew1 | refine below_set ?_ (IsS97.ge HI681.out)) | exact HB.out)); (case side3 => repeat (first | exact (Kd.R_reads' HO_11.out).2.2 | (with_reducible refine Kd.C_alloc ?_ _) | (with_reducible refine Kd.C_drewN ?_ _) | (with_reducible refine Kd.C_drew ?_))); (case side4 => exact (Kd.R_reads' HO_11.out).2.1); (case side5 => exact far_slice (IsS97.own_ne HI681.out HO_11.out (by decide))); rintro e w76 ⟨v730, rfl, ho0, hi, hb, hk⟩; refine ⟨_, rfl, ?_⟩; have n0_ := Aside0.mk (Kd.N_mono (Kd.N_told (Kd.N_oldK (Kd.N_mono (ok := fun k_ => (((w.heap.size ≤ k_)) ∧ (some k_ ≠ (v687 : Value).ownBlock ∧ (some k_ ≠ (u10 : Value).ownBlock ∧ (some k_ ≠ (.slice Ao75 x11_1.length co75 : Value).ownBlock ∧ k_ ≠ g681))))) (by (with_reducible repeat (first | apply Kd.N_alloc | apply Kd.N_drewN | apply Kd.N_drew)); exact HO_8.out) (fun k_ hk_ => (⟨hk_, hk_.2.2.2.2⟩ : _ ∧ k_ ≠ g681))) hk) (Kd.Q_base ho0)) (fun _ h_ => h_.1)); have n1_ := Aside0.mk (Kd.Q_mono (Kd.Q_told (Kd.Q_oldK (IsS97.apartQ (show IsS97 w _ g681 t679 x682001_48 from by repeat (first | (with_reducible first | exact HI681.out | apply IsS97.alloc | apply IsS97.drewN | apply IsS97.drew | apply IsS97.set_1) | exact HI681.out)) (by (with_reducible repeat (first | apply Kd.Q_alloc | apply Kd.Q_drewN | apply Kd.Q_drew)); exact HO_9.out) (by decide)) hk) (Kd.Q_base ho0)) (fun _ h_ => h_.1)); have n2_ := Aside0.mk (Kd.R_mono (Kd.R_told (Kd.R_oldK (IsS97.apart (show IsS97 w _ g681 t679 x682001_48 from by repeat (first | (with_reducible first | exact HI681.out | apply IsS97.alloc | apply IsS97.drewN | apply IsS97.drew | apply IsS97.set_1) | exact HI681.out)) (by (with_reducible repeat (first | apply Kd.R_alloc | apply Kd.R_drewN | apply Kd.R_drew)); exact HO_10.out) (by decide)) hk) (Kd.Q_base ho0)) (fun _ h_ => h_.1)); have n3_ := Aside0.mk (Kd.R_mono (Kd.R_told (Kd.R_oldK (IsS97.apart (show IsS97 w _ g681 t679 x682001_48 from by repeat (first | (with_reducible first | exact HI681.out | apply IsS97.alloc | apply IsS97.drewN | apply IsS97.drew | apply IsS97.set_1) | exact HI681.out)) (by (with_reducible repeat (first | apply Kd.R_alloc | apply Kd.R_drewN | apply Kd.R_drew)); exact HO_11.out) (by decide)) hk) (Kd.Q_base ho0)) (fun _ h_ => h_.1)); have n4_ := Aside0.mk (Kd.Q_lower (Kd.Q_new' (Kd.Q_new' (Kd.Q_new' (Kd.Q_newM (M := fun k_ => (w.heap.size ≤ k_)) ho0 (below_size (by repeat (first | (with_reducible first | exact HB.out | apply below_alloc | apply pw_below_drewN | apply below_drew1 | refine below_set ?_ (IsS97.ge HI681.out)) | exact HB.out))) (fun k_ h_ => h_)) (Kd.Q_lt (by (with_reducible repeat (first | apply Kd.Q_alloc | apply Kd.Q_drewN | apply Kd.Q_drew)); exact HO_9.out))) (Kd.R_lt (by (with_reducible repeat (first | apply Kd.R_alloc | apply Kd.R_drewN | apply Kd.R_drew)); exact HO_10.out))) (Kd.R_lt (by (with_reducible repeat (first | apply Kd.R_alloc | apply Kd.R_drewN | apply Kd.R_drew)); exact HO_11.out))) (below_size (by repeat (first | (with_reducible first | exact HB.out | apply below_alloc | apply pw_below_drewN | apply below_drew1 | refine below_set ?_ (IsS97.ge HI681.out)) | exact HB.out)))); have n5_ := Aside0.mk (hb); have n6_ := Aside0.mk (hi); clear HO_8; clear HO_9; clear HO_10; clear HO_11; clear HB; clear HI681; have HO_8 := n0_; have HO_9 := n1_; have HO_10 := n2_; have HO_11 := n3_; have HO731 := n4_; have HB := n5_; have HI681 := n6_; clear n0_ n1_ n2_ n3_ n4_ n5_ n6_; (try clear hb); (try clear hb2); (try clear hk); (try clear hi); (try clear ho0)) | ((with_reducible refine gate_dst (N := 77) rfl ?_); refine Kd.R_lit (Kd.int .i64) _ 3 ?hg (N := 77) ?hd (xs := ([2, 3, 1, 4, 0, 5] : List Int)) (inner := [.int .i64 2, .int .i64 3, .int .i64 1, .int .i64 4, .int .i64 0, .int .i64 5]) (ok := fun _ => True) (okp := fun _ => True) ?hr ?hp (fun _ hk => hk) trivial (Below.refl _ _) (Nat.le_refl _) (by simp) ?_; (case hd => rfl); (case hg => rfl); (case hr => first | (go_simp; done) | (go_simp; rfl)); (case hp => exact (Reps.one (show Kd.M (Kd.int .i64) _ _ _ 2 [.int .i64 2] from rfl) (Reps.one (show Kd.M (Kd.int .i64) _ _ _ 3 [.int .i64 3] from rfl) (Reps.one (show Kd.M (Kd.int .i64) _ _ _ 1 [.int .i64 1] from rfl) (Reps.one (show Kd.M (Kd.int .i64) _ _ _ 4 [.int .i64 4] from rfl) (Reps.one (show Kd.M (Kd.int .i64) _ _ _ 0 [.int .i64 0] from rfl) (Reps.one (show Kd.M (Kd.int .i64) _ _ _ 5 [.int .i64 5] from rfl) (Reps.none _ _)))))))); intro v734 w77 ho78 hb hg_ hnew_; clear hg_ hnew_; (first | rw [← Ny733.out] at ho78 | (simp only [Int.reduceToNat] at ho78; rw [← Ny733.out] at ho78)); have n0_ := Aside0.mk (Kd.N_elder' (by (with_reducible repeat (first | apply Kd.N_alloc | apply Kd.N_drewN | apply Kd.N_drew)); exact HO_8.out) (Kd.R_base ho78) hb); have n1_ := Aside0.mk (Kd.Q_elder' (by (with_reducible repeat (first | apply Kd.Q_alloc | apply Kd.Q_drewN | apply Kd.Q_drew)); exact HO_9.out) (Kd.R_base ho78) hb); have n2_ := Aside0.mk (Kd.R_elder' (by (with_reducible repeat (first | apply Kd.R_alloc | apply Kd.R_drewN | apply Kd.R_drew)); exact HO_10.out) (Kd.R_base ho78) hb); have n3_ := Aside0.mk (Kd.R_elder' (by (with_reducible repeat (first | apply Kd.R_alloc | apply Kd.R_drewN | apply Kd.R_drew)); exact HO_11.out) (Kd.R_base ho78) hb); have n4_ := Aside0.mk (Kd.Q_elder' (by (with_reducible repeat (first | apply Kd.Q_alloc | apply Kd.Q_drewN | apply Kd.Q_drew)); exact HO731.out) (Kd.R_base ho78) hb); have n5_ := Aside0.mk (Kd.R_lower (Kd.R_new' (Kd.R_new' (Kd.R_new' (Kd.R_new' (Kd.R_newM (M := fun k_ => (w.heap.size ≤ k_)) ho78 (below_size (by repeat (first | (with_reducible first | exact HB.out | apply below_alloc | apply pw_below_drewN | apply below_drew1 | refine below_set ?_ (IsS97.ge HI681.out)) | exact HB.out))) (fun k_ h_ => h_)) (Kd.Q_lt (by (with_reducible repeat (first | apply Kd.Q_alloc | apply Kd.Q_drewN | apply Kd.Q_drew)); exact HO_9.out))) (Kd.R_lt (by (with_reducible repeat (first | apply Kd.R_alloc | apply Kd.R_drewN | apply Kd.R_drew)); exact HO_10.out))) (Kd.R_lt (by (with_reducible repeat (first | apply Kd.R_alloc | apply Kd.R_drewN | apply Kd.R_drew)); exact HO_11.out))) (Kd.Q_lt (by (with_reducible repeat (first | apply Kd.Q_alloc | apply Kd.Q_drewN | apply Kd.Q_drew)); exact HO731.out))) (below_size (by repeat (first | (with_reducible first | exact HB.out | apply below_alloc | apply pw_below_drewN | apply below_drew1 | refine below_set ?_ (IsS97.ge HI681.out)) | exact HB.out)))); have n6_ := Aside0.mk (IsS97.below (by repeat (first | (with_reducible first | exact HI681.out | apply IsS97.alloc | apply IsS97.drewN | apply IsS97.drew | apply IsS97.set_1) | exact HI681.out)) hb); have n7_ := Aside0.mk (below_step (by repeat (first | (with_reducible first | exact HB.out | apply below_alloc | apply pw_below_drewN | apply below_drew1 | refine below_set ?_ (IsS97.ge HI681.out)) | exact HB.out)) hb); clear HO_8; clear HO_9; clear HO_10; clear HO_11; clear HO731; clear HI681; clear HB; have HO_8 := n0_; have HO_9 := n1_; have HO_10 := n2_; have HO_11 := n3_; have HO731 := n4_; have HO735 := n5_; have HI681 := n6_; have HB := n7_; clear n0_ n1_ n2_ n3_ n4_ n5_ n6_ n7_; clear hb ho78; obtain ⟨Ao79, co79, eo79⟩ := Kd.R_slice HO735.out; subst eo79) | ((with_reducible refine gate_callee (f := 69) rfl ?_); refine goesL_ (some 78) rfl rfl Tryd.func69 (by kernel_rfl) rfl #[.pointer (some ⟨g681, 0, none⟩), .slice Ao79 y733.length co79] rfl (by (try simp only [List.map_toArray, List.map_cons, List.map_nil]); first | done | rfl | (simp only [List.length_drop, List.length_take]; rfl)) ?_; (with_reducible refine (spec_reader_one.calls kj48 g681 t679 t732 _ _ y733 t736 t737 w _ ?side1 ?side2 ?side3 ?side4 ?side5 A74.out).mono ?_); (case side1 => repeat (first | (with_reducible first | exact HI681.out | apply IsS97.alloc | apply IsS97.drewN | apply IsS97.drew | apply IsS97.set_1) | exact HI681.out)); (case side2 => repeat (first | (with_reducible first | exact HB.out | apply below_alloc | apply pw_below_drewN | apply below_drew1 | refine below_set ?_ (IsS97.ge HI681.out)) | exact HB.out)); (case side3 => repeat (first | exact (Kd.R_reads' HO735.out).2.2 | (with_reducible refine Kd.C_alloc ?_ _) | (with_reducible refine Kd.C_drewN ?_ _) | (with_reducible refine Kd.C_drew ?_))); (case side4 => exact (Kd.R_reads' HO735.out).2.1); (case side5 => exact far_slice (IsS97.own_ne HI681.out HO735.out (by decide))); rintro e w80 ⟨rfl, hi, hb, hk⟩; refine ⟨_, rfl, ?_⟩; have n0_ := Aside0.mk (Kd.N_mono (Kd.N_keep (Kd.N_mono (ok := fun k_ => (((((w.heap.size ≤ k_)) ∧ (some k_ ≠ (v687 : Value).ownBlock ∧ (some k_ ≠ (u10 : Value).ownBlock ∧ (some k_ ≠ (.slice Ao75 x11_1.length co75 : Value).ownBlock ∧ k_ ≠ g681)))) ∧ some k_ ≠ (v730 : Value).ownBlock) ∧ some k_ ≠ (.slice Ao79 y733.length co79 : Value).ownBlock)) (by (with_reducible repeat (first | apply Kd.N_alloc | apply Kd.N_drewN | apply Kd.N_drew)); exact HO_8.out) (fun k_ hk_ => (⟨hk_, hk_.1.1.2.2.2.2⟩ : _ ∧ k_ ≠ g681))) hk (fun _ h => h.2)) (fun _ h => h.1)); have n1_ := Aside0.mk (Kd.Q_mono (Kd.Q_keep (IsS97.apartQ (show IsS97 w _ g681 t679 t732 from by repeat (first | (with_reducible first | exact HI681.out | apply IsS97.alloc | apply IsS97.drewN | apply IsS97.drew | apply IsS97.set_1) | exact HI681.out)) (by (with_reducible repeat (first | apply Kd.Q_alloc | apply Kd.Q_drewN | apply Kd.Q_drew)); exact HO_9.out) (by decide)) hk (fun _ h => h.2)) (fun _ h => h.1)); have n2_ := Aside0.mk (Kd.R_mono (Kd.R_keep (IsS97.apart (show IsS97 w _ g681 t679 t732 from by repeat (first | (with_reducible first | exact HI681.out | apply IsS97.alloc | apply IsS97.drewN | apply IsS97.drew | apply IsS97.set_1) | exact HI681.out)) (by (with_reducible repeat (first | apply Kd.R_alloc | apply Kd.R_drewN | apply Kd.R_drew)); exact HO_10.out) (by decide)) hk (fun _ h => h.2)) (fun _ h => h.1)); have n3_ := Aside0.mk (Kd.R_mono (Kd.R_keep (IsS97.apart (show IsS97 w _ g681 t679 t732 from by repeat (first | (with_reducible first | exact HI681.out | apply IsS97.alloc | apply IsS97.drewN | apply IsS97.drew | apply IsS97.set_1) | exact HI681.out)) (by (with_reducible repeat (first | apply Kd.R_alloc | apply Kd.R_drewN | apply Kd.R_drew)); exact HO_11.out) (by decide)) hk (fun _ h => h.2)) (fun _ h => h.1)); have n4_ := Aside0.mk (Kd.Q_mono (Kd.Q_keep (IsS97.apartQ (show IsS97 w _ g681 t679 t732 from by repeat (first | (with_reducible first | exact HI681.out | apply IsS97.alloc | apply IsS97.drewN | apply IsS97.drew | apply IsS97.set_1) | exact HI681.out)) (by (with_reducible repeat (first | apply Kd.Q_alloc | apply Kd.Q_drewN | apply Kd.Q_drew)); exact HO731.out) (by decide)) hk (fun _ h => h.2)) (fun _ h => h.1)); have n5_ := Aside0.mk (Kd.R_mono (Kd.R_keep (IsS97.apart (show IsS97 w _ g681 t679 t732 from by repeat (first | (with_reducible first | exact HI681.out | apply IsS97.alloc | apply IsS97.drewN | apply IsS97.drew | apply IsS97.set_1) | exact HI681.out)) (by (with_reducible repeat (first | apply Kd.R_alloc | apply Kd.R_drewN | apply Kd.R_drew)); exact HO735.out) (by decide)) hk (fun _ h => h.2)) (fun _ h => h.1)); have n6_ := Aside0.mk (hb); have n7_ := Aside0.mk (hi); clear HO_8; clear HO_9; clear HO_10; clear HO_11; clear HO731; clear HO735; clear HB; clear HI681; have HO_8 := n0_; have HO_9 := n1_; have HO_10 := n2_; have HO_11 := n3_; have HO731 := n4_; have HO735 := n5_; have HB := n6_; have HI681 := n7_; clear n0_ n1_ n2_ n3_ n4_ n5_ n6_ n7_; (try clear hb); (try clear hb2); (try clear hk); (try clear hi)))
       refine bodyPost_ret (results_list (rs := [.tmp 2, .tmp 3, .tmp 4, .tmp 5, .tmp 6]) rfl (by simp) (.tmp (.tmp (.tmp (.tmp (.tmp .nil)))))) rfl ?_
       exact ⟨_, _, _, _, by first | rfl | (simp [errW_none, errW_some] <;> rfl) | (simp [*, errW_none, errW_some] <;> rfl), by (with_reducible repeat (first | apply Kd.N_alloc | apply Kd.N_drewN | apply Kd.N_drew)); exact Kd.N_mono HO_8.out (fun _ hk => ⟨hk.1.1.1, ⟨hk.1.1.2.1, ⟨hk.1.1.2.2.1, hk.1.2⟩⟩⟩), by (with_reducible repeat (first | apply Kd.Q_alloc | apply Kd.Q_drewN | apply Kd.Q_drew)); exact Kd.Q_mono HO_9.out (fun _ hk => ⟨hk.1.1.1, ⟨hk.1.1.2.1, hk.1.2⟩⟩), by (with_reducible repeat (first | apply Kd.R_alloc | apply Kd.R_drewN | apply Kd.R_drew)); exact Kd.R_mono HO_10.out (fun _ hk => ⟨hk.1.1.1, ⟨hk.1.1.2.1, hk.1.2⟩⟩), by (with_reducible repeat (first | apply Kd.Q_alloc | apply Kd.Q_drewN | apply Kd.Q_drew)); exact Kd.Q_mono HO731.out (fun _ hk => ⟨hk.1.1.1.1.1, ⟨hk.1.1.1.2, hk.1.1.2⟩⟩), by repeat (first | (with_reducible first | exact HB.out | apply below_alloc | apply pw_below_drewN | apply below_drew1 | refine below_set ?_ (IsS97.ge HI681.out)) | exact HB.out)⟩
end Go.Proofs.YtajapkjplgaigaaDoor.P
end
section
namespace Go.Proofs.YtajapkjplgaigaaDoor
open Go.RowKit Go.Shelf Go.Proofs.YtajapkjplgaigaaDoorW.PrintWords Go.Proofs.YtajapkjplgaigaaDoorW.PrintLast Go.Proofs.YtajapkjplgaigaaDoorW.PrintMore
attribute [local go_sem] Oper.semAt_some
set_option linter.unusedVariables false
set_option linter.unusedSimpArgs false
def TabOK (w : World) : Prop := ∀ j, j < 32 → w.cell? ⟨0, j, none⟩ = some (.int .u8 (Lib.deBruijn32tab.getD j 0))
theorem TabOK.lt {w : World} (h : TabOK w) : 0 < w.heap.size := by
 have := h 0 (by omega)
 apply Nat.lt_of_not_le
 intro hle
 simp [World.cell?, Array.getElem?_eq_none hle] at this
theorem TabOK.below {w W : World} (h : TabOK w) (hb : Below w.heap.size w W) : TabOK W := fun j hj => (hb.cell (p := ⟨0, j, none⟩) h.lt).trans (h j hj)
theorem wrap_u16' (n : Int) : IntKind.u16.wrap n = n % 65536 := by simp [IntKind.wrap, IntKind.signed, IntKind.bits]
theorem bits_u16_nat (a b : Nat) (ha : a < 65536) (hb : b < 65536) : bits .and .u16 (a : Int) (b : Int) = ((a &&& b : Nat) : Int) := by
 have hx : a &&& b < 2 ^ 16 := Nat.and_lt_two_pow _ (by omega)
 have h1 : (BitVec.ofInt 16 (a : Int)).toNat = a := by
  rw [BitVec.ofInt_natCast, BitVec.toNat_ofNat]; exact Nat.mod_eq_of_lt (by omega)
 have h2 : (BitVec.ofInt 16 (b : Int)).toNat = b := by
  rw [BitVec.ofInt_natCast, BitVec.toNat_ofNat]; exact Nat.mod_eq_of_lt (by omega)
 show IntKind.u16.wrap ((BitVec.ofInt 16 (a : Int) &&& BitVec.ofInt 16 (b : Int)).toNat : Int) = _
 rw [BitVec.toNat_and, h1, h2, wrap_u16']
 omega
set_option maxHeartbeats 1000000 in
theorem tz16_core (x k idx : Nat) (w : World) (hx0 : ((x : Int) == 0) = false)
  (key : bits BinOp.and IntKind.u16 (x : Int) (IntKind.u16.wrap (-(x : Int))) % 4294967296 * 125613361 % 4294967296 / 134217728 = (idx : Int))
  (hi : idx < 32) (hk : k < 32) (hcell : w.cell? ⟨0, idx, none⟩ = some (.int .u8 k)) :
  Calls Tryd.prog 85 #[.int .u16 x] w fun e w' => e = .returned (.int .i64 k) ∧ w' = w := by
 go_enter Tryd.func85, Tryd.ntmps85
 go_wp2_with (simp only [key])
 go_ret
 exact ⟨rfl, rfl⟩
theorem tz16_key (x a : Nat) (hx : x < 65536) (hx0 : x ≠ 0) (hlow : x &&& (65536 - x) = a) :
  bits BinOp.and IntKind.u16 (x : Int) (IntKind.u16.wrap (-(x : Int))) % 4294967296 * 125613361 % 4294967296 / 134217728 = ((a * 125613361 % 4294967296 / 134217728 : Nat) : Int) := by
 have e1 : IntKind.u16.wrap (-(x : Int)) = ((65536 - x : Nat) : Int) := by rw [wrap_u16']; omega
 have ha : a < 65536 := by rw [← hlow]; exact Nat.lt_of_le_of_lt Nat.and_le_left hx
 rw [e1, bits_u16_nat x _ hx (by omega), hlow]
 omega
theorem tz16 (x : Nat) (hx : x < 65536) (hx0 : x ≠ 0) (w : World) (hT : TabOK w) :
  Calls Tryd.prog 85 #[.int .u16 x] w fun e w' => e = .returned (.int .i64 (Lib.ctz 16 x : Nat)) ∧ w' = w := by
 obtain ⟨hlow, hk⟩ := Lib.lowest_bit 16 x hx0 hx
 obtain ⟨hi, htab⟩ := Lib.deBruijn32_at _ (Nat.lt_trans hk (by decide))
 have hcell := hT _ hi
 rw [htab] at hcell
 exact tz16_core x _ _ w (by simp; omega) (tz16_key x _ hx hx0 hlow) hi (Nat.lt_trans hk (by decide)) hcell
end Go.Proofs.YtajapkjplgaigaaDoor
end
section
namespace Go.Proofs.YtajapkjplgaigaaDoor
open Go.RowKit
set_option linter.unusedVariables false
set_option linter.unusedSimpArgs false
section
variable {P : Program} {ops : Array Oper} {md : Region.Mode} {l n : Nat}
def NoDefer (ops : Array Oper) : Prop := ∀ o ∈ ops.toList, ∀ c, o.op ≠ .defer c
def noDeferB (ops : Array Oper) : Bool := ops.toList.all fun o => match o.op with | .defer _ => false | _ => true
theorem NoDefer.of (h : noDeferB ops = true) : NoDefer ops := by
 intro o ho c hc
 simp only [noDeferB, List.all_eq_true] at h
 have := h o ho
 rw [hc] at this
 cases this
theorem wpIn_of_oper {o : Oper} {a : Act} {w : World} {K : Act → World → Prop} {Q : Exit → Act → World → Prop} (hd : ∀ c, o.op ≠ .defer c) (h : o.wp P a w K Q) :
  o.wpIn (Fence.wide.inRound l) n P a w K Q := by
 refine ⟨fun f _ => trivial, ?_⟩
 simp only [Fence.inRound_round]
 rw [Oper.semAt_some l a.eval o hd]
 unfold Oper.wp at h
 generalize (execOp a.eval o).run P w = r at *
 cases r with
 | ok x w' =>
  cases x <;> simp only [Oper.upon, Oper.uponIn] at h ⊢ <;> first | exact h | exact h.elim | skip
  ·exact ⟨fun hh => by simp [Fence.wide] at hh, CallsIn.inRound l ((callsIn_wide (n := n - 1)).2 h)⟩
  ·refine ⟨fun hh => by simp [Fence.wide] at hh, fun c cs _ => ?_⟩
   obtain ⟨v, w'', hr, hs⟩ := h c cs
   exact ⟨v, w'', hr, stepsIn_wide.2 hs⟩
 | halt x w' => cases x <;> simp only [Oper.upon, Oper.uponIn] at h ⊢ <;> first | exact h | exact h.elim
theorem wpOpIn_of {i : Nat} {K : Act → World → Prop} {Q : Exit → Act → World → Prop} {a : Act} {w : World} (hd : NoDefer ops) (hQ : ¬ LetsOut Q) (h : wpOp P ops Q i K a w) :
  wpOpIn (Fence.wide.inRound l) n P ops Q i K a w := by
 unfold wpOp at h
 unfold wpOpIn
 cases ho : ops[i]? with
 | none => simpa [ho] using h
 | some o =>
  simp only [ho] at h ⊢
  have hm : o ∈ ops.toList := by
   obtain ⟨hlt, he⟩ := Array.getElem?_eq_some_iff.1 ho
   rw [← he]; simp
  split
  ·rename_i hw
   simp only [hw, if_true] at h
   rcases h with h | ⟨_, h⟩
   ·exact wpIn_of_oper (hd o hm) h
   ·exact (hQ h).elim
  ·rename_i hw
   simp only [hw] at h
   exact ⟨fun f _ => trivial, h⟩
theorem wpAnyIn_of {Q : Exit → Act → World → Prop} (hd : NoDefer ops) (hQ : ¬ LetsOut Q) : ∀ (fuel : Nat) (listed : Array Bool) (a : Act) (w : World), wpAny P md ops Q fuel listed a w → wpAnyIn (Fence.wide.inRound l) n P md ops Q fuel listed a w
 | 0, _, _, _, h => h
 | fuel + 1, listed, a, w, h => ⟨h.1, fun i hi => wpOpIn_mono (fun a w => wpAnyIn_of hd hQ fuel _ a w) (wpOpIn_of hd hQ (h.2 i hi))⟩
theorem wpIn_region_of_any {id : Nat} {Q : Exit → Act → World → Prop} {a : Act} {w : World} {ol : List Oper} (hQ : ¬ LetsOut Q) (hd : noDeferB ol.toArray = true) (hm : P.follows .mixedOrders = true)
  (h : wpAny P .any ol.toArray Q ol.toArray.size (Array.replicate ol.toArray.size false) a { w with drawn := w.drawn + 1 }) : (Code.region id ol.toArray true).wpIn (Fence.wide.inRound l) n P Q a w :=
 wpIn_region_any hm (wpAnyIn_of (NoDefer.of hd) hQ _ _ _ _ h)
end
end Go.Proofs.YtajapkjplgaigaaDoor
end
section
namespace Go.Proofs.YtajapkjplgaigaaDoor
open Go.RowKit Go.Shelf Go.Proofs.YtajapkjplgaigaaDoorW.PrintWords Go.Proofs.YtajapkjplgaigaaDoorW.PrintLast Go.Proofs.YtajapkjplgaigaaDoorW.PrintMore
attribute [local go_sem] Oper.semAt_some
set_option linter.unusedVariables false
set_option linter.unusedSimpArgs false
abbrev El (s : Nat) := { x : Nat // x < 8 ∧ s.testBit x = true }
def encI {s : Nat} (x : El s) : Array Value := #[Value.int .i64 (x.1 : Int)]
def bitsN (s : Nat) : List Nat := (List.range 8).filter fun i => s.testBit i
theorem mem_bitsN {s x : Nat} : x ∈ bitsN s ↔ x < 8 ∧ s.testBit x = true := by simp [bitsN]
theorem idx_step : ∀ s, s < 256 → s ≠ 0 → bitsN s = Lib.ctz 16 s :: bitsN (s &&& (s - 1)) ∧ (s &&& (s - 1)) < s := by decide +kernel
theorem bitsN_zero : bitsN 0 = [] := by decide +kernel
theorem bitsN_len (s : Nat) : (bitsN s).length ≤ 8 := by
 have h := List.length_filter_le (fun i => s.testBit i) (List.range 8)
 simpa [bitsN] using h
theorem rest_key (r : Nat) (hr : r < 256) (h0 : r ≠ 0) : bits BinOp.and IntKind.u16 (r : Int) ((r : Int) - 1) = ((r &&& (r - 1) : Nat) : Int) := by
 have e : (r : Int) - 1 = ((r - 1 : Nat) : Int) := by omega
 rw [e, bits_u16_nat r _ (by omega) (by omega)]
set_option maxRecDepth 100000 in
set_option maxHeartbeats 2000000 in
theorem all1_in (n l Bs : Nat) (hn : 1 ≤ n) (s : Nat) (hs : s < 256) (J Jx : List (El s) → World → Prop)
  (hY : ∀ (pre : List (El s)) x W, J pre W → pre.length < 8 → YieldAt Fence.wide (n - 1) Tryd.prog l (encI x) W fun e W' =>
   (e = .returned (.bool true) ∧ J (pre ++ [x]) W' ∧ (TabOK W → TabOK W')) ∨ (e = .returned (.bool false) ∧ Jx (pre ++ [x]) W'))
  (W : World) (hT : TabOK W) (hBs : W.cell? ⟨Bs, 0, none⟩ = some (.int .u16 s)) (h0 : J [] W) :
  CallsIn Fence.wide n Tryd.prog 84 #[.func (.yield l) #[] #[], .pointer (some ⟨Bs, 0, none⟩)] W fun e W' => (∃ v, e = .returned v) ∧
   ((∃ ys, ys.map (·.1) = bitsN s ∧ J ys W') ∨ (∃ pre, pre.map (·.1) <+: bitsN s ∧ Jx pre W')) := by
 refine callsIn_of_wp Tryd.func84 rfl trivial ?_ rfl
 simp only [Tryd.ntmps84, List.size_toArray, List.length_cons, List.length_nil, Nat.reduceAdd, Nat.reduceSub, Array.replicate_succ, Array.replicate_zero, List.push_toArray, List.append_toArray, List.nil_append, List.cons_append]
 have hT' := Aside0.mk hT
 clear hT
 gi_wp2
 gi_loopw [3] (fun p wr => ∃ (pre : List (El s)) (r : Nat), p = .int .u16 r ∧ Hid (r < 256 ∧ bitsN s = pre.map (·.1) ++ bitsN r) ∧ J pre wr ∧ Aside0 (TabOK wr)) (fun p _ => (intOf p).toNat)
 case atStart => exact ⟨[], s, rfl, ⟨hs, rfl⟩, h0, hT'⟩
 case round =>
  obtain ⟨pre, r, rfl, hx, hJ, hT⟩ := hrel
  obtain ⟨hr, he⟩ := hx
  by_cases hr0 : r = 0
  ·subst hr0
   rw [bitsN_zero, List.append_nil] at he
   have he' := Aside0.mk he
   clear he
   gi_wp2
   go_end0
   exact ⟨⟨_, rfl⟩, .inl ⟨pre, he'.out.symm, hJ⟩⟩
  ·obtain ⟨hcons, hlt0⟩ := idx_step r hr hr0
   have hmem : Lib.ctz 16 r ∈ bitsN s := by rw [he, hcons]; simp
   have hlen : pre.length < 8 := by have := bitsN_len s; rw [he, hcons] at this; simp at this; omega
   obtain ⟨fn, tmps, assign, body, hy, hR⟩ := hY pre ⟨Lib.ctz 16 r, mem_bitsN.1 hmem⟩ wr hJ hlen
   have key := Aside0.mk (rest_key r hr hr0)
   have hlt := Aside0.mk hlt0
   have he' := Aside0.mk he
   have hcons' := Aside0.mk hcons
   have htz := Aside0.mk (tz16 r (by omega) hr0 wr hT.out)
   clear he hcons hlt0
   have hb : ((r : Int) == 0) = false := by simp; exact hr0
   have hb' : ((r : Int) != 0) = true := by simp; exact hr0
   dsimp only [encI] at hy
   gi_wp2_with (refine ⟨trivial, ?_⟩; gi_at_call 85; refine (callsIn_wide.2 (htz.out)).mono ?_; rintro e w' ⟨rfl, rfl⟩)
   refine hR.mono ?_
   rintro e W3 (⟨rfl, hJ3, hk3⟩ | ⟨rfl, hJx3⟩)
   ·have hT3 := Aside0.mk (hk3 hT.out)
    clear hk3 hT
    gi_wp2_with (simp only [key.out])
    go_roundw
    case rel => exact ⟨pre ++ [⟨Lib.ctz 16 r, mem_bitsN.1 hmem⟩], r &&& (r - 1), rfl, ⟨Nat.lt_of_le_of_lt Nat.and_le_left hr, he'.out.trans (by rw [hcons'.out]; simp)⟩, hJ3, hT3⟩
    case measure => have := hlt.out; simp [intOf]; omega
   ·gi_wp2
    refine bodyPost_ret (results_none rfl _ _ _) rfl ?_
    exact ⟨⟨_, rfl⟩, .inr ⟨pre ++ [⟨Lib.ctz 16 r, mem_bitsN.1 hmem⟩], ⟨bitsN (r &&& (r - 1)), (he'.out.trans (by rw [hcons'.out]; simp)).symm⟩, hJx3⟩⟩
set_option maxHeartbeats 1000000 in
theorem all_calls (s : Int) (w : World) :
  Calls Tryd.prog 54 #[.int .u16 s] w fun e w' => e = .returned (.func (.func 84) #[] #[.pointer (some ⟨w.heap.size, 0, none⟩)]) ∧ w' = w.alloc (.cells #[.int .u16 s] 51) := by
 go_enter Tryd.func54, Tryd.ntmps54
 go_wp2
 go_ret
 exact ⟨rfl, rfl⟩
theorem all_stops (n : Nat) (hn : 1 ≤ n) (Bs s : Nat) (hs : s < 256) (w : World) (hBs : Bs < w.heap.size) (hc : w.cell? ⟨Bs, 0, none⟩ = some (.int .u16 s)) (hT : TabOK w) :
  SeqStopsK Fence.wide n Tryd.prog 84 #[.pointer (some ⟨Bs, 0, none⟩)] (encI (s := s)) (fun A B => TabOK A → TabOK B) (fun ys => ys.map (·.1) = bitsN s) (fun pre => pre.map (·.1) <+: bitsN s) 8 w := fun l J Jx W hW _ _ hY h0 =>
 all1_in n l Bs hn s hs J Jx hY W (hT.below hW) ((hW.cell (p := ⟨Bs, 0, none⟩) hBs).trans hc) h0
end Go.Proofs.YtajapkjplgaigaaDoor
end
section
namespace Go.Proofs.YtajapkjplgaigaaDoor
open Go.RowKit Go.Shelf Go.Proofs.YtajapkjplgaigaaDoorW.PrintWords Go.Proofs.YtajapkjplgaigaaDoorW.PrintLast Go.Proofs.YtajapkjplgaigaaDoorW.PrintMore
set_option linter.unusedVariables false
set_option linter.unusedSimpArgs false
def RPost {α : Type} (B : Nat) (I : List α → World → Prop) (Ix : Code → List α → World → Prop) (xs : List α) (W : World) : Exit → Act → World → Prop
 | .normal, _, W' => KeepsFrom B W W' ∧ I xs W'
 | .ret, _, W' => KeepsFrom B W W' ∧ Ix .ret xs W'
 | .exit id, _, W' => KeepsFrom B W W' ∧ Ix (.exit id) xs W'
 | .goto t, _, W' => KeepsFrom B W W' ∧ Ix (.goto t) xs W'
 | .panic _, _, _ => False
 | .outgrown, _, _ => False
abbrev markOf (D : Nat) : Deferred := { target := .collected D, args := #[] }
theorem wp_all1 {g : Operand} {rid : Nat} {o : Oper} {p d : Tmp} {body : Code} {Q : Exit → Act → World → Prop} {tmps : Array Value} {ds : List Deferred} {w : World} (Bs s : Nat) (hs : s < 256)
  (hg : ({ tmps := tmps, defers := ds } : Act).eval g = .func (.func 84) #[] #[.pointer (some ⟨Bs, 0, none⟩)]) (hBs : Bs < w.heap.size) (hc : w.cell? ⟨Bs, 0, none⟩ = some (.int .u16 s)) (hT : TabOK w)
  (ho : o.op = .assign (.tmp p)) (hd : o.dst = some d) (hgd : o.guard = none) (hp : p < tmps.size)
  (I : List Nat → World → Prop) (Ix : Code → List Nat → World → Prop) (hI : OwnFrom w.heap.size I) (hIx : ∀ c, OwnFrom w.heap.size (Ix c)) (h0 : I [] w) (hIT : ∀ pre W, I pre W → TabOK W)
  (hbody : ∀ (l : Nat) (pre : List Nat) (x : Nat) (W : World), x < 8 → s.testBit x = true → I pre W → pre.length < 8 →
   body.wpIn (Fence.wide.inRound l) 7 Tryd.prog (RPost w.heap.size I Ix (pre ++ [x]) W) { tmps := (tmps.setIfInBounds p (.int .i64 (x : Int))).setIfInBounds d (.int .i64 (x : Int)), defers := [] } W)
  (hdone : ∀ (D : Nat) (W : World), w.heap.size ≤ D → I (bitsN s) W → W.heap[D]? = some (.deferred (some [])) → Q .normal { tmps := tmps, defers := markOf D :: ds } W)
  (hstop : ∀ (D : Nat) (c : Code) (pre : List Nat) (W : World), w.heap.size ≤ D → pre <+: bitsN s → Ix c pre W → W.heap[D]? = some (.deferred (some [])) → c.wp Tryd.prog Q { tmps := tmps, defers := markOf D :: ds } W) :
  (Code.rangeFunc g #[p] (.region rid #[o] false) body).wp Tryd.prog Q { tmps := tmps, defers := ds } w := by
 refine (wpIn_wide (n := 9)).1 (wpIn_rangeFunc_ownG (F := Fence.wide) (n := 9) rfl (by omega) hg trivial (enters_of Tryd.func84 (by kernel_rfl) rfl)
  (all_stops (9 - 1) (by omega) Bs s hs w hBs hc hT) (fun h k hA => k (h hA)) (fun W l o o' hl ho hcells _ hTW => ?_) (Below.refl _ _) (fun x => rfl) (fun pre W => I (pre.map (·.1)) W) (fun c pre W => Ix c (pre.map (·.1)) W) (fun s W W' row h => hI (s.map (·.1)) W W' row h) (fun c s W W' row h => hIx c (s.map (·.1)) W W' row h) h0
  (fun x => { tmps := (tmps.setIfInBounds p (.int .i64 (x.1 : Int))).setIfInBounds d (.int .i64 (x.1 : Int)), defers := [] }) ?_ ?_ ?_ ?_)
 ·intro j hj
  exact cell_kept (hTW j hj) (grownBy_putObj' W l o') (fun r e => by cases e; exact ⟨_, ho, hcells⟩)
 ·intro l x W K hK
  refine wpIn_region_list (ops := #[o]) ?_
  show wpListIn _ _ _ _ _ [o] _ _
  refine wpListIn_plain hgd fun K' hK' => ⟨fun _ _ => trivial, ?_⟩
  have he : ({ tmps := (tmps.setIfInBounds p (.int .i64 (x.1 : Int))), defers := [] } : Act).eval (.tmp p) = .int .i64 (x.1 : Int) := by
   simp [Act.eval, hp]
  have hz : ((#[p] : Array Tmp).zip (encI x)).foldl (fun t (p, v) => t.setIfInBounds p v) tmps = tmps.setIfInBounds p (.int .i64 (x.1 : Int)) := by simp [encI]
  simp only [hz]
  rw [show (Fence.wide.inRound l).round = some l from rfl, Oper.semAt_some l _ o (fun c hcc => by rw [ho] at hcc; cases hcc)]
  simp only [execOp, ho, he]
  simp only [Sem.run_pure, Sem.run, Sem.run_bind, Result.andThen, Oper.uponIn]
  refine hK' _ _ ?_
  simp only [wpListIn, Act.put, hd]
  exact hK
 ·intro l pre x W hi hlen
  refine wpIn_mono (hbody l (pre.map (·.1)) x.1 W x.2.1 x.2.2 hi (by simpa using hlen)) ?_
  rintro e a' W' h
  have em : (pre ++ [x]).map (·.1) = pre.map (·.1) ++ [x.1] := by simp
  cases e <;> simp only [ownPostG, RPost, em] at h ⊢ <;> first | exact h | skip
  exact ⟨h.1, fun _ => hIT _ _ h.2, h.2⟩
 ·rintro D xs W hD hxs hi hk
  exact hdone D W hD (by rw [hxs] at hi; exact hi) hk
 ·rintro D c pre W hD hp hi hk
  exact wpIn_wide.2 (hstop D c _ W hD hp hi hk)
def Marks (B : Nat) : List Deferred → World → Prop
 | [], _ => True
 | d :: ds, W => (∃ D, d = markOf D ∧ B ≤ D ∧ W.heap[D]? = some (.deferred (some [])) ∧ ∀ d' ∈ ds, d' ≠ d) ∧ Marks B ds W
theorem Marks.nil (B : Nat) (W : World) : Marks B [] W := trivial
theorem Marks.keeps {B : Nat} : ∀ {ds : List Deferred} {W W' : World}, Marks B ds W → KeepsFrom B W W' → Marks B ds W'
 | [], _, _, _, _ => trivial
 | d :: ds, W, W', ⟨⟨D, he, hB, hD, hn⟩, h⟩, hk => ⟨⟨D, he, hB, hk.same D _ hB hD rfl, hn⟩, Marks.keeps h hk⟩
theorem Marks.lt {B : Nat} : ∀ {ds : List Deferred} {W : World}, Marks B ds W → ∀ d ∈ ds, ∃ D, d = markOf D ∧ D < W.heap.size
 | [], _, _, d, h => by cases h
 | d :: ds, W, ⟨⟨D, he, hB, hD, hn⟩, h⟩, d', hm => by
  rcases List.mem_cons.1 hm with rfl | hm
  ·exact ⟨D, he, (Array.getElem?_eq_some_iff.1 hD).1⟩
  ·exact Marks.lt h d' hm
theorem Marks.shut {B D : Nat} {o : Obj} : ∀ {ds : List Deferred} {W : World}, Marks B ds W → (∀ d ∈ ds, d ≠ markOf D) → Marks B ds (W.putObj D o)
 | [], _, _, _ => trivial
 | d :: ds, W, ⟨⟨D', he, hB, hD, hn⟩, h⟩, hne => ⟨⟨D', he, hB, (World.putObj_heap_other (fun e => hne d List.mem_cons_self (by rw [he, e]))).trans hD, hn⟩, Marks.shut h (fun d' hm => hne d' (List.mem_cons_of_mem _ hm))⟩
theorem leavesM {F : Fence} {n : Nat} {P : Program} {fn : Func} {tmps : Array Value} {R : Ending → World → Prop} {B : Nat} {Φ : World → Prop} (hΦ : OwnFrom B (fun (_ : Unit) W => Φ W))
  (hR : ∀ W, Φ W → ∃ v, (results fn tmps).run P W = .ok v W ∧ R (.returned v) W) : ∀ (ds : List Deferred) (W : World), Marks B ds W → Φ W → LeavesInM F n P fn tmps R ds .returning W
 | [], W, _, h => hR W h
 | d :: ds, W, ⟨⟨D, he, hB, hD, hn⟩, hm⟩, h => ⟨by simp, .inl ⟨D, _, by rw [he], run_takeDeferred hD, leavesM hΦ hR ds _ (Marks.shut hm (fun d' hd' => he ▸ hn d' hd')) (hΦ.putObj (s := ()) _ h hB hD rfl)⟩⟩
theorem retM {n : Nat} {P : Program} {fn : Func} {R : Ending → World → Prop} {B : Nat} {a : Act} {W : World} (Φ : World → Prop) (hΦ : OwnFrom B (fun (_ : Unit) W => Φ W)) (hm : Marks B a.defers W) (h : Φ W)
  (hR : ∀ W, Φ W → ∃ v, (results fn a.tmps).run P W = .ok v W ∧ R (.returned v) W) : bodyPostM Fence.wide n P fn R .ret a W := leavesM hΦ hR a.defers W hm h
theorem calls_of_wpM {f : FuncId} {fn : Func} {c : Code} {args : Array Value} {w : World} {R : Ending → World → Prop} {P : Program} (hf : P.funcs[f]? = some fn) (hb : fn.body = some c)
  (h : c.wp P (bodyPostM Fence.wide 9 P fn R) { tmps := args ++ Array.replicate (fn.ntmps - args.size) undef, defers := [] } w) : Calls P f args w R :=
 callsIn_wide.1 (callsIn_of_wp_marks (F := Fence.wide) (n := 9) hf hb trivial (wpIn_wide.2 h))
theorem own_box {β : Type} (B Bx : Nat) (t : TypeId) (f : β → Value) : OwnFrom B (fun s W => Boxed W Bx t (f s)) := (boxed_own Bx t f).from B
end Go.Proofs.YtajapkjplgaigaaDoor
end
section
namespace Go.Proofs.YtajapkjplgaigaaDoor
open Go.RowKit Go.Shelf Go.Proofs.YtajapkjplgaigaaDoorW.PrintWords Go.Proofs.YtajapkjplgaigaaDoorW.PrintLast Go.Proofs.YtajapkjplgaigaaDoorW.PrintMore
attribute [local go_sem] Oper.semAt_some
set_option linter.unusedVariables false
set_option linter.unusedSimpArgs false
def ivs (xs : List Nat) : List Int := xs.map Int.ofNat
theorem infoI : (Tryd.prog.info? 3).map (fun i => (i.zero, i.size, i.bytes)) = some (some (.int .i64 0), 1, 8) := by kernel_rfl
end Go.Proofs.YtajapkjplgaigaaDoor
end
section
namespace Go.Proofs.YtajapkjplgaigaaDoor.P
open Go.RowKit Go.Shelf Go.Proofs.YtajapkjplgaigaaDoorW.PrintWords Go.Proofs.YtajapkjplgaigaaDoorW.PrintLast Go.Proofs.YtajapkjplgaigaaDoorW.PrintMore
attribute [local go_sem] Oper.semAt_some
set_option linter.unusedVariables false
set_option linter.unusedSimpArgs false
abbrev TT := S39
structure Gr where
 ts : List TT
 nd : List Int
 od : List Int
 bl : List Int
 ab : List Int
def IsG (W : World) (g : Nat) (G : Gr) : Prop := ∃ A0 c0 A1 c1 A2 c2 A3 c3 A4 c4,
 W.heap[g]? = some (.cells #[.slice A0 G.ts.length c0, .slice A1 G.nd.length c1, .slice A2 G.od.length c2, .slice A3 G.bl.length c3, .slice A4 G.ab.length c4] 64 (0, 0)) ∧
 (Kd.C k39 W A0 G.ts.length G.ts ∧ G.ts.length ≤ c0) ∧ (Kd.C (Kd.int .u16) W A1 G.nd.length G.nd ∧ G.nd.length ≤ c1) ∧ (Kd.C (Kd.int .i64) W A2 G.od.length G.od ∧ G.od.length ≤ c2) ∧
 (Kd.C (Kd.int .u16) W A3 G.bl.length G.bl ∧ G.bl.length ≤ c3) ∧ (Kd.C (Kd.int .u16) W A4 G.ab.length G.ab ∧ G.ab.length ≤ c4)
theorem IsG.lt {W : World} {g : Nat} {G : Gr} (h : IsG W g G) : g < W.heap.size := by
 obtain ⟨_, _, _, _, _, _, _, _, _, _, h, _⟩ := h
 exact (Array.getElem?_eq_some_iff.1 h).1
theorem IsG.below {W W1 : World} {g : Nat} {G : Gr} (h : IsG W g G) (hb : Below W.heap.size W W1) : IsG W1 g G := by
 have hlt := h.lt
 obtain ⟨A0, c0, A1, c1, A2, c2, A3, c3, A4, c4, h, ⟨a, a'⟩, ⟨b, b'⟩, ⟨c, c'⟩, ⟨d, d'⟩, ⟨e, e'⟩⟩ := h
 exact ⟨A0, c0, A1, c1, A2, c2, A3, c3, A4, c4, (hb.block g hlt).trans h, ⟨Kd.C_below a hb, a'⟩, ⟨Kd.C_below b hb, b'⟩, ⟨Kd.C_below c hb, c'⟩, ⟨Kd.C_below d hb, d'⟩, ⟨Kd.C_below e hb, e'⟩⟩
theorem IsG.drewN {W : World} {g : Nat} {G : Gr} (h : IsG W g G) (m : Nat) : IsG (W.drewN m) g G := h
theorem box_at (W : World) (t : TypeId) (v : Value) (B : Nat) (hB : W.heap.size = B) : Boxed (W.alloc (.cells #[v] t)) B t v := hB ▸ Boxed.new W t v
def totalP (ts : List TT) (xs : List Nat) : Int := xs.foldl (fun (a : Int) (i : Nat) => wrap64 (a + (rd_T39 ts (i : Int)).f0)) 0
end Go.Proofs.YtajapkjplgaigaaDoor.P
end
section
namespace Go.Proofs.YtajapkjplgaigaaDoor.P
open Go.RowKit Go.Proofs.YtajapkjplgaigaaDoorW.PrintWords Go.Proofs.YtajapkjplgaigaaDoorW.PrintLast Go.Proofs.YtajapkjplgaigaaDoorW.PrintMore
attribute [local go_sem] max2_int min2_int max_two min_two max_three min_three max_four min_four   -- for this text's walks alone
set_option linter.unusedVariables false
set_option linter.unusedSimpArgs false
def impl_set_has.f (a0 : Int) (a1 : Int) : Option (Bool) := if 0 ≤ a1 then (some ((Go.bits .and .u16 (shr .u16 a0 a1) 1) == 1)) else (none)
set_option maxHeartbeats 8000000 in
set_option maxRecDepth 100000 in
theorem impl_set_has.calls (a0 : Int) (a1 : Int) (r : Bool) (w : World) (h : impl_set_has.f a0 a1 = some r) :
  Calls Tryd.prog 49 #[.int .u16 a0, .int .i64 a1] w fun e w' => e = .returned (.bool r) ∧ Drawn0 w w' := by
 have H : (if 0 ≤ a1 then (some ((Go.bits .and .u16 (shr .u16 a0 a1) 1) == 1)) else (none)) = some r := h
 clear h
 by_cases c3 : 0 ≤ a1
 ·rw [if_pos c3] at H
  have c3b0 := eq_true c3
  have c3b1 : decide (0 ≤ a1) = true := decide_eq_true c3
  clear c3
  obtain ⟨ji4, hji4⟩ : ∃ j_ : Int, (shr .u16 a0 a1) = j_ := ⟨_, rfl⟩
  replace H : (some ((Go.bits .and .u16 (ji4) 1) == 1)) = some r := by first | (rw [hji4] at H; exact H) | (simp only [hji4] at H ⊢; exact H)
  have hji4_ : (a0 / 2 ^ min a1.toNat 16) = ji4 := hji4
  have hji4z : a1 ≤ 16 → (a0 / 2 ^ a1.toNat) = ji4 := shr_small hji4
  obtain rfl := Option.some.inj H
  go_enter Tryd.func49, Tryd.ntmps49
  go_wp2
  go_ret
  exact ⟨by first | rfl | (simp; done) | (simp only [← hji4] <;> (first | rfl | simp)) | (simp [*]; done), by repeat (first | exact Drawn0.refl _ | apply Drawn0.step)⟩
 ·rw [if_neg c3] at H
  exact absurd H (by simp)
end Go.Proofs.YtajapkjplgaigaaDoor.P
end
section
namespace Go.Proofs.YtajapkjplgaigaaDoor.P
open Go.RowKit Go.Proofs.YtajapkjplgaigaaDoorW.PrintWords Go.Proofs.YtajapkjplgaigaaDoorW.PrintLast Go.Proofs.YtajapkjplgaigaaDoorW.PrintMore
attribute [local go_sem] max2_int min2_int max_two min_two max_three min_three max_four min_four   -- for this text's walks alone
set_option linter.unusedVariables false
set_option linter.unusedSimpArgs false
def impl_set_with.f (a0 : Int) (a1 : Int) : Option (Int) := if 0 ≤ a1 then (some (Go.bits .or .u16 a0 (shl .u16 1 a1))) else (none)
set_option maxHeartbeats 8000000 in
set_option maxRecDepth 100000 in
theorem impl_set_with.calls (a0 : Int) (a1 : Int) (r : Int) (w : World) (h : impl_set_with.f a0 a1 = some r) :
  Calls Tryd.prog 50 #[.int .u16 a0, .int .i64 a1] w fun e w' => e = .returned (.int .u16 r) ∧ Drawn0 w w' := by
 have H : (if 0 ≤ a1 then (some (Go.bits .or .u16 a0 (shl .u16 1 a1))) else (none)) = some r := h
 clear h
 by_cases c3 : 0 ≤ a1
 ·rw [if_pos c3] at H
  have c3b0 := eq_true c3
  have c3b1 : decide (0 ≤ a1) = true := decide_eq_true c3
  clear c3
  obtain ⟨ji4, hji4⟩ : ∃ j_ : Int, (shl .u16 1 a1) = j_ := ⟨_, rfl⟩
  replace H : (some (Go.bits .or .u16 a0 (ji4))) = some r := by first | (rw [hji4] at H; exact H) | (simp only [hji4] at H ⊢; exact H)
  have hji4_ : (IntKind.u16.wrap (1 * 2 ^ min a1.toNat 16)) = ji4 := hji4
  have hji4z : a1 ≤ 16 → (IntKind.u16.wrap (1 * 2 ^ a1.toNat)) = ji4 := shl_small hji4
  have hji4u : (IntKind.u16.wrap (2 ^ min a1.toNat 16)) = ji4 := by have h_ := hji4_; rw [Int.one_mul] at h_; exact h_
  have hji4v : a1 ≤ 16 → (IntKind.u16.wrap (2 ^ a1.toNat)) = ji4 := fun hle_ => by have h_ := hji4z hle_; rw [Int.one_mul] at h_; exact h_
  obtain rfl := Option.some.inj H
  go_enter Tryd.func50, Tryd.ntmps50
  go_wp2
  go_ret
  exact ⟨by first | rfl | (simp; done) | (simp only [← hji4] <;> (first | rfl | simp)) | (simp [*]; done), by repeat (first | exact Drawn0.refl _ | apply Drawn0.step)⟩
 ·rw [if_neg c3] at H
  exact absurd H (by simp)
end Go.Proofs.YtajapkjplgaigaaDoor.P
end
section
namespace Go.Proofs.YtajapkjplgaigaaDoor.P
open Go.RowKit Go.Shelf Go.Proofs.YtajapkjplgaigaaDoorW.PrintWords Go.Proofs.YtajapkjplgaigaaDoorW.PrintLast Go.Proofs.YtajapkjplgaigaaDoorW.PrintMore
set_option linter.unusedVariables false
set_option linter.unusedSimpArgs false
def hasB (a i : Int) : Bool := Go.bits .and .u16 (shr .u16 a i) 1 == 1
def withI (a i : Int) : Int := Go.bits .or .u16 a (shl .u16 1 i)
def subB (a b : Int) : Bool := Go.bits .andNot .u16 a b == 0
theorem hasB_calls (a i : Int) (h : 0 ≤ i) (w : World) : Calls Tryd.prog 49 #[.int .u16 a, .int .i64 i] w fun e w' => e = .returned (.bool (hasB a i)) ∧ Drawn0 w w' :=
 impl_set_has.calls a i _ w (by unfold impl_set_has.f; rw [if_pos h]; rfl)
theorem withI_calls (a i : Int) (h : 0 ≤ i) (w : World) : Calls Tryd.prog 50 #[.int .u16 a, .int .i64 i] w fun e w' => e = .returned (.int .u16 (withI a i)) ∧ Drawn0 w w' :=
 impl_set_with.calls a i _ w (by unfold impl_set_with.f; rw [if_pos h]; rfl)
def readyStep (nd : List Int) (done : Int) (out : Int) (i : Nat) : Int := if !(hasB done (i : Int)) && subB (rd nd (i : Int)) done then withI out (i : Int) else out
def readyP (nd : List Int) (done : Int) : Int := (List.range nd.length).foldl (readyStep nd done) 0
end Go.Proofs.YtajapkjplgaigaaDoor.P
end
section
namespace Go.Proofs.YtajapkjplgaigaaDoor.P
open Go.RowKit Go.Shelf Go.Proofs.YtajapkjplgaigaaDoorW.PrintWords Go.Proofs.YtajapkjplgaigaaDoorW.PrintLast Go.Proofs.YtajapkjplgaigaaDoorW.PrintMore
set_option linter.unusedVariables false
set_option linter.unusedSimpArgs false
theorem infoS : (Tryd.prog.info? 51).map (fun i => (i.zero, i.size, i.bytes)) = some (some (.int .u16 0), 1, 2) := by kernel_rfl
theorem infoPG : (Tryd.prog.info? 49).map (fun i => (i.zero, i.size, i.bytes)) = some (some (.pointer none), 1, 8) := by kernel_rfl
theorem mk_sets (n : Nat) (hn : n ≤ 8) (W : World) : (Instr.makeSlice 62 (.int .i64 (n : Int)) (.int .i64 (n : Int))).run Tryd.prog W = .ok (.slice (some ⟨W.heap.size, 0, none⟩) n n) (W.alloc (.cells (Array.replicate n (.int .u16 0)) 51)) := by
 obtain ⟨i0, hi, hz0, hz1, hz2⟩ := info_parts infoS
 have h := run_make (P := Tryd.prog) W 62 51 i0 (.int .u16 0) Tryd.underlying62 hi hz0 .i64 .i64 (n : Int) (n : Int) (by omega) (by omega) (by rw [hz2]; omega) (by omega)
 rw [hz1] at h
 simp only [Int.toNat_natCast] at h
 rw [h]
 have : madeCells (Value.int IntKind.u16 0).cells (n * 1) = Array.replicate n (.int .u16 0) := by
  have e := toList_madeCells_one (.int .u16 0) n
  apply Array.toList_inj.1
  rw [Nat.mul_one, Array.toList_replicate]
  exact e
 rw [this]
section
variable {P : Program} {ops : Array Oper} {Q : Exit → Act → World → Prop} {B : List Nat} {O : List Nat} {I : (Nat → Bool) → Act → World → Prop}
theorem step_val {i : Nat} {oi : Oper} (t : Tmp) (hi : ops[i]? = some oi) (hg : oi.guard = none) (hd : oi.dst = some t)
  (h : ∀ b a w, I b a w → b i = false → (∀ j, (O.contains j && (B.getD i 0).testBit j) = true → b j = true) → (∀ d, (O.contains d && (B.getD d 0).testBit i) = true → b d = false) →
   ∃ v w1, (execOp a.eval oi).run P w = .ok (.value v) w1 ∧ I (up b i) (a.put (some t) v) w1) : StepAt P ops Q B O I i := by
 intro b a w hI hb h1 h2
 obtain ⟨v, w1, hr, hI1⟩ := h b a w hI hb h1 h2
 refine ⟨oi, hi, fun K hK => ?_⟩
 rw [hd]
 exact value_ (by simp [Region.wanted, hg]) hd hr (hK.out _ _ hI1)
theorem step_skip {i : Nat} {oi : Oper} (hi : ops[i]? = some oi) (hg : oi.guard = none) (hd : oi.dst = none)
  (h : ∀ b a w, I b a w → b i = false → (∀ j, (O.contains j && (B.getD i 0).testBit j) = true → b j = true) → (∀ d, (O.contains d && (B.getD d 0).testBit i) = true → b d = false) →
   ∃ w1, (execOp a.eval oi).run P w = .ok .skip w1 ∧ I (up b i) a w1) : StepAt P ops Q B O I i := by
 intro b a w hI hb h1 h2
 obtain ⟨w1, hr, hI1⟩ := h b a w hI hb h1 h2
 refine ⟨oi, hi, fun K hK => ?_⟩
 rw [hd]
 exact skip_ (by simp [Region.wanted, hg]) hd hr (hK.out _ _ hI1)
variable {e : Operand → Value} {oi : Oper} {x y : Operand} {w w1 : World} {v : Value}
theorem op_move (ho : oi.op = .move x) (hx : e x = v) : (execOp e oi).run P w = .ok (.value v) w := by simp [execOp, ho, hx]
theorem op_len {A : Option Addr} {n c : Nat} (t t' : TypeId) (ht : P.underlying t = some (.slice t')) (ho : oi.op = .call { callee := .builtin .len, args := #[x], argTypes := #[t] }) (hx : e x = .slice A n c) : (execOp e oi).run P w = .ok (.value (.int .i64 (n : Int))) w := by
 simp [execOp, ho, hx, resolve, invoke, builtin, Builtin.len_, run_underlying ht, goInt]
theorem op_mkslice {t : TypeId} (ho : oi.op = .makeSlice t x y) (h : (Instr.makeSlice t (e x) (e y)).run P w = .ok v w1) : (execOp e oi).run P w = .ok (.value v) w1 := by simp [execOp, ho, h]
theorem op_build {t : TypeId} {ps : Array (Nat × Operand)} (ho : oi.op = .build t ps) (h : (Instr.build t (ps.map fun x => (x.1, e x.2))).run P w = .ok v w1) : (execOp e oi).run P w = .ok (.value v) w1 := by simp [execOp, ho, h]
theorem op_box {t : TypeId} (ho : oi.op = .box t x) (h : (Instr.box t (e x)).run P w = .ok v w1) : (execOp e oi).run P w = .ok (.value v) w1 := by simp [execOp, ho, h]
theorem op_alloc {t : TypeId} (ho : oi.op = .alloc t) (h : (Instr.alloc t true (.tuple #[])).run P w = .ok v w1) : (execOp e oi).run P w = .ok (.value v) w1 := by simp [execOp, ho, h]
theorem op_store {t : TypeId} {u : Unit} (ho : oi.op = .store t x y) (h : (Instr.storeAt t (e x) (e y)).run P w = .ok u w1) : (execOp e oi).run P w = .ok .skip w1 := by simp [execOp, ho, h]
end
abbrev slv (b n : Nat) : Value := .slice (some ⟨b, 0, none⟩) n n
def L7 (V0 : Value) (V1 V2 : Value) (n b1 b2 b3 b4 : Nat) (v9 : Value) : List (Nat × Tmp × Value) :=
 [(0, 30, V0), (1, 31, V1), (2, 32, V2), (3, 33, V0), (4, 34, .int .i64 (n : Int)), (5, 35, slv b1 n), (6, 36, V0), (7, 37, .int .i64 (n : Int)), (8, 38, slv b2 n), (9, 39, v9), (10, 40, .pointer (some ⟨b3, 0, none⟩)), (11, 8, .pointer (some ⟨b4, 0, none⟩))]
def zrow (n : Nat) : Obj := .cells (Array.replicate n (.int .u16 0)) 51 (0, 0)
structure F7 (V0 V1 V2 : Value) (n : Nat) (w0 : World) (b : Nat → Bool) (w : World) (b1 b2 b3 b4 : Nat) (v9 : Value) : Prop where
 h9 : b 9 = true → v9 = .agg #[V0, V1, V2, slv b1 n, slv b2 n]
 bel : Below w0.heap.size w0 w
 h1 : b 5 = true → w.heap[b1]? = some (zrow n)
 h2 : b 8 = true → w.heap[b2]? = some (zrow n)
 ne : b 5 = true → b 8 = true → b1 ≠ b2
 h3 : b 10 = true → w.heap[b3]? = some (.cells #[V0, V1, V2, slv b1 n, slv b2 n] 64 (0, 0))
 h4 : b 11 = true → b 12 = false → w.heap[b4]? = some (.cells #[.pointer none] 49 (0, 0))
 h5 : b 12 = true → w.heap[b4]? = some (.cells #[.pointer (some ⟨b3, 0, none⟩)] 49 (0, 0))
 g1 : b 5 = true → w0.heap.size ≤ b1
 g2 : b 8 = true → w0.heap.size ≤ b2
 g3 : b 10 = true → w0.heap.size ≤ b3
 g4 : b 11 = true → w0.heap.size ≤ b4
def I7 (V0 V1 V2 : Value) (n : Nat) (w0 : World) (a0 : Act) (b : Nat → Bool) (a : Act) (w : World) : Prop := ∃ b1 b2 b3 b4 v9, a = putSel a0 b (L7 V0 V1 V2 n b1 b2 b3 b4 v9) ∧ F7 V0 V1 V2 n w0 b w b1 b2 b3 b4 v9
theorem F7.same {V0 V1 V2 : Value} {n : Nat} {w0 w : World} {b : Nat → Bool} {b1 b2 b3 b4 : Nat} {v9 : Value} (h : F7 V0 V1 V2 n w0 b w b1 b2 b3 b4 v9) {i : Nat} (hi : i ≠ 5 ∧ i ≠ 8 ∧ i ≠ 9 ∧ i ≠ 10 ∧ i ≠ 11 ∧ i ≠ 12) : F7 V0 V1 V2 n w0 (up b i) w b1 b2 b3 b4 v9 := by
 obtain ⟨i5, i8, i9, i10, i11, i12⟩ := hi
 have e9 := up_ne (b := b) (Ne.symm i9)
 have e5 := up_ne (b := b) (Ne.symm i5)
 have e8 := up_ne (b := b) (Ne.symm i8)
 have e10 := up_ne (b := b) (Ne.symm i10)
 have e11 := up_ne (b := b) (Ne.symm i11)
 have e12 := up_ne (b := b) (Ne.symm i12)
 exact ⟨by rw [e9]; exact h.h9, h.bel, by rw [e5]; exact h.h1, by rw [e8]; exact h.h2, by rw [e5, e8]; exact h.ne, by rw [e10]; exact h.h3, by rw [e11, e12]; exact h.h4, by rw [e12]; exact h.h5, by rw [e5]; exact h.g1, by rw [e8]; exact h.g2, by rw [e10]; exact h.g3, by rw [e11]; exact h.g4⟩
set_option maxRecDepth 100000 in
set_option maxHeartbeats 4000000 in
theorem region7 (A0 A1 A2 : Option Addr) (n n1 n2 c0 c1 c2 : Nat) (a0 : Act) (hsz : 97 ≤ a0.tmps.size) (e0 : a0.tmps[0]? = some (.slice A0 n c0)) (e4 : a0.tmps[4]? = some (.slice A1 n1 c1)) (e6 : a0.tmps[6]? = some (.slice A2 n2 c2)) (hn : n ≤ 8) (w0 w : World) (hw : Below w0.heap.size w0 w)
  (Q : Exit → Act → World → Prop) (hQ : ∀ a' w', I7 (.slice A0 n c0) (.slice A1 n1 c1) (.slice A2 n2 c2) n w0 a0 (fun _ => true) a' w' → Q .normal a' w') :
  (Code.region 7 (opsOf Tryd.f58 7) true).wp Tryd.prog Q a0 w := by
 refine start_ (n := 13) (S := fun _ => True) (ds := []) #[false, false, false, false, false, false, false, false, false, false, false, false, false] (by kernel_rfl) rfl rfl trivial (fun _ => ?_)
 refine inv_ (T := (true, [([], []), ([], []), ([], []), ([], []), ([3], [3]), ([4, 4], [4]), ([], []), ([6], [6]), ([7, 7], [7]), ([0, 1, 2, 5, 8], [0, 1, 2, 5, 8]), ([9], [9]), ([], []), ([11, 10, 0, 1, 2, 3, 4, 5, 6, 7, 8, 9, 10, 11], [10, 11])])) (B := [0, 0, 0, 0, 8, 24, 0, 64, 192, 511, 1023, 0, 4095]) [0, 1, 2, 3, 4, 5, 6, 7, 8, 9, 10, 11, 12]
  (I7 (.slice A0 n c0) (.slice A1 n1 c1) (.slice A2 n2 c2) n w0 a0) (by kernel_rfl) (by kernel_rfl) (by kernel_rfl) (by kernel_rfl) ?h0 ?hs ?hend
 case h0 => exact ⟨0, 0, 0, 0, undef, rfl, ⟨fun h => (by cases h), hw.drew, fun h => (by cases h), fun h => (by cases h), fun h => (by cases h), fun h => (by cases h), fun h => (by cases h), fun h => (by cases h), fun h => (by cases h), fun h => (by cases h), fun h => (by cases h), fun h => (by cases h)⟩⟩
 case hend =>
  rintro b a w h ⟨b1, b2, b3, b4, v9, ha, hF⟩
  have q : ∀ j, j < 13 → b j = true := by
   intro j hj
   refine h j ?_
   have : j = 0 ∨ j = 1 ∨ j = 2 ∨ j = 3 ∨ j = 4 ∨ j = 5 ∨ j = 6 ∨ j = 7 ∨ j = 8 ∨ j = 9 ∨ j = 10 ∨ j = 11 ∨ j = 12 := by omega
   rcases this with rfl | rfl | rfl | rfl | rfl | rfl | rfl | rfl | rfl | rfl | rfl | rfl | rfl <;> rfl
  refine hQ a w ⟨b1, b2, b3, b4, v9, ?_, ⟨fun _ => hF.h9 (q 9 (by omega)), hF.bel, fun _ => hF.h1 (q 5 (by omega)), fun _ => hF.h2 (q 8 (by omega)), fun _ _ => hF.ne (q 5 (by omega)) (q 8 (by omega)), fun _ => hF.h3 (q 10 (by omega)), fun _ h => (by cases h), fun _ => hF.h5 (q 12 (by omega)), fun _ => hF.g1 (q 5 (by omega)), fun _ => hF.g2 (q 8 (by omega)), fun _ => hF.g3 (q 10 (by omega)), fun _ => hF.g4 (q 11 (by omega))⟩⟩
  rw [ha]
  simp only [L7, putSel, q 0 (by omega), q 1 (by omega), q 2 (by omega), q 3 (by omega), q 4 (by omega), q 5 (by omega), q 6 (by omega), q 7 (by omega), q 8 (by omega), q 9 (by omega), q 10 (by omega), q 11 (by omega)]
 case hs =>
  refine steps_cons (step_val 30 rfl rfl rfl ?s0) (steps_cons (step_val 31 rfl rfl rfl ?s1) (steps_cons (step_val 32 rfl rfl rfl ?s2) (steps_cons (step_val 33 rfl rfl rfl ?s3) (steps_cons (step_val 34 rfl rfl rfl ?s4) (steps_cons (step_val 35 rfl rfl rfl ?s5) (steps_cons (step_val 36 rfl rfl rfl ?s6) (steps_cons (step_val 37 rfl rfl rfl ?s7) (steps_cons (step_val 38 rfl rfl rfl ?s8) (steps_cons (step_val 39 rfl rfl rfl ?s9) (steps_cons (step_val 40 rfl rfl rfl ?s10) (steps_cons (step_val 8 rfl rfl rfl ?s11) (steps_cons (step_skip rfl rfl rfl ?s12) steps_nil))))))))))))
  case s0 =>
   rintro b a w ⟨b1, b2, b3, b4, v9, rfl, hF⟩ hb d1 d2
   have v0 : (putSel a0 b (L7 (.slice A0 n c0) (.slice A1 n1 c1) (.slice A2 n2 c2) n b1 b2 b3 b4 v9)).eval (.tmp 0) = .slice A0 n c0 := eval_of ((putSel_off rfl).trans e0)
   exact ⟨_, w, op_move rfl v0, b1, b2, b3, b4, v9, putSel_upk 0 hb rfl rfl rfl, hF.same (by decide)⟩
  case s1 =>
   rintro b a w ⟨b1, b2, b3, b4, v9, rfl, hF⟩ hb d1 d2
   have v0 : (putSel a0 b (L7 (.slice A0 n c0) (.slice A1 n1 c1) (.slice A2 n2 c2) n b1 b2 b3 b4 v9)).eval (.tmp 4) = .slice A1 n1 c1 := eval_of ((putSel_off rfl).trans e4)
   exact ⟨_, w, op_move rfl v0, b1, b2, b3, b4, v9, putSel_upk 1 hb rfl rfl rfl, hF.same (by decide)⟩
  case s2 =>
   rintro b a w ⟨b1, b2, b3, b4, v9, rfl, hF⟩ hb d1 d2
   have v0 : (putSel a0 b (L7 (.slice A0 n c0) (.slice A1 n1 c1) (.slice A2 n2 c2) n b1 b2 b3 b4 v9)).eval (.tmp 6) = .slice A2 n2 c2 := eval_of ((putSel_off rfl).trans e6)
   exact ⟨_, w, op_move rfl v0, b1, b2, b3, b4, v9, putSel_upk 2 hb rfl rfl rfl, hF.same (by decide)⟩
  case s3 =>
   rintro b a w ⟨b1, b2, b3, b4, v9, rfl, hF⟩ hb d1 d2
   have v0 : (putSel a0 b (L7 (.slice A0 n c0) (.slice A1 n1 c1) (.slice A2 n2 c2) n b1 b2 b3 b4 v9)).eval (.tmp 0) = .slice A0 n c0 := eval_of ((putSel_off rfl).trans e0)
   exact ⟨_, w, op_move rfl v0, b1, b2, b3, b4, v9, putSel_upk 3 hb rfl rfl rfl, hF.same (by decide)⟩
  case s6 =>
   rintro b a w ⟨b1, b2, b3, b4, v9, rfl, hF⟩ hb d1 d2
   have v0 : (putSel a0 b (L7 (.slice A0 n c0) (.slice A1 n1 c1) (.slice A2 n2 c2) n b1 b2 b3 b4 v9)).eval (.tmp 0) = .slice A0 n c0 := eval_of ((putSel_off rfl).trans e0)
   exact ⟨_, w, op_move rfl v0, b1, b2, b3, b4, v9, putSel_upk 6 hb rfl rfl rfl, hF.same (by decide)⟩
  case s4 =>
   rintro b a w ⟨b1, b2, b3, b4, v9, rfl, hF⟩ hb d1 d2
   have v0 : (putSel a0 b (L7 (.slice A0 n c0) (.slice A1 n1 c1) (.slice A2 n2 c2) n b1 b2 b3 b4 v9)).eval (.tmp 33) = .slice A0 n c0 := eval_of (putSel_on (e := (3, 33, .slice A0 n c0)) 3 rfl rfl (d1 3 (by decide)) (Nat.ble_eq_true_of_le (Nat.le_trans (show 33 + 1 ≤ 97 by decide) hsz)))
   exact ⟨.int .i64 (n : Int), w, op_len 23 39 Tryd.underlying23 rfl v0, b1, b2, b3, b4, v9, putSel_upk 4 hb rfl rfl rfl, hF.same (by decide)⟩
  case s7 =>
   rintro b a w ⟨b1, b2, b3, b4, v9, rfl, hF⟩ hb d1 d2
   have v0 : (putSel a0 b (L7 (.slice A0 n c0) (.slice A1 n1 c1) (.slice A2 n2 c2) n b1 b2 b3 b4 v9)).eval (.tmp 36) = .slice A0 n c0 := eval_of (putSel_on (e := (6, 36, .slice A0 n c0)) 6 rfl rfl (d1 6 (by decide)) (Nat.ble_eq_true_of_le (Nat.le_trans (show 36 + 1 ≤ 97 by decide) hsz)))
   exact ⟨.int .i64 (n : Int), w, op_len 23 39 Tryd.underlying23 rfl v0, b1, b2, b3, b4, v9, putSel_upk 7 hb rfl rfl rfl, hF.same (by decide)⟩
  case s5 =>
   rintro b a w ⟨b1, b2, b3, b4, v9, rfl, hF⟩ hb d1 d2
   have u34 : (putSel a0 b (L7 (.slice A0 n c0) (.slice A1 n1 c1) (.slice A2 n2 c2) n b1 b2 b3 b4 v9)).eval (.tmp 34) = .int .i64 (n : Int) := eval_of (putSel_on (e := (4, 34, .int .i64 (n : Int))) 4 rfl rfl (d1 4 (by decide)) (Nat.ble_eq_true_of_le (Nat.le_trans (show 34 + 1 ≤ 97 by decide) hsz)))
   have keep : ∀ {x o}, w.heap[x]? = some o → (w.alloc (zrow n)).heap[x]? = some o := fun h => (Below.heap_alloc w _ _ (Array.getElem?_eq_some_iff.1 h).1).trans h
   have hsz2 : w0.heap.size ≤ w.heap.size := hF.bel.size
   refine ⟨slv w.heap.size n, w.alloc (zrow n), op_mkslice rfl (by rw [u34]; exact mk_sets n hn w), w.heap.size, b2, b3, b4, v9, putSel_upk 5 hb rfl rfl rfl, ?_⟩
   exact ⟨fun q => (by rw [up_ne (show 9 ≠ 5 by decide), d2 9 (by decide)] at q; cases q), hF.bel.alloc hsz2 _, fun _ => World.alloc_heap_new w _, by rw [up_ne (show 8 ≠ 5 by decide)]; exact fun q => keep (hF.h2 q), fun q1 q2 => (Nat.ne_of_gt (Array.getElem?_eq_some_iff.1 (hF.h2 (by rw [up_ne (show 8 ≠ 5 by decide)] at q2; exact q2))).1), fun q => (by rw [up_ne (show 10 ≠ 5 by decide), d2 10 (by decide)] at q; cases q), by rw [up_ne (show 11 ≠ 5 by decide), up_ne (show 12 ≠ 5 by decide)]; exact fun q q' => keep (hF.h4 q q'), fun q => (by rw [up_ne (show 12 ≠ 5 by decide), d2 12 (by decide)] at q; cases q), fun _ => hsz2, by rw [up_ne (show 8 ≠ 5 by decide)]; exact hF.g2, fun q => (by rw [up_ne (show 10 ≠ 5 by decide), d2 10 (by decide)] at q; cases q), by rw [up_ne (show 11 ≠ 5 by decide)]; exact hF.g4⟩
  case s8 =>
   rintro b a w ⟨b1, b2, b3, b4, v9, rfl, hF⟩ hb d1 d2
   have u37 : (putSel a0 b (L7 (.slice A0 n c0) (.slice A1 n1 c1) (.slice A2 n2 c2) n b1 b2 b3 b4 v9)).eval (.tmp 37) = .int .i64 (n : Int) := eval_of (putSel_on (e := (7, 37, .int .i64 (n : Int))) 7 rfl rfl (d1 7 (by decide)) (Nat.ble_eq_true_of_le (Nat.le_trans (show 37 + 1 ≤ 97 by decide) hsz)))
   have keep : ∀ {x o}, w.heap[x]? = some o → (w.alloc (zrow n)).heap[x]? = some o := fun h => (Below.heap_alloc w _ _ (Array.getElem?_eq_some_iff.1 h).1).trans h
   have hsz2 : w0.heap.size ≤ w.heap.size := hF.bel.size
   refine ⟨slv w.heap.size n, w.alloc (zrow n), op_mkslice rfl (by rw [u37]; exact mk_sets n hn w), b1, w.heap.size, b3, b4, v9, putSel_upk 8 hb rfl rfl rfl, ?_⟩
   exact ⟨fun q => (by rw [up_ne (show 9 ≠ 8 by decide), d2 9 (by decide)] at q; cases q), hF.bel.alloc hsz2 _, by rw [up_ne (show 5 ≠ 8 by decide)]; exact fun q => keep (hF.h1 q), fun _ => World.alloc_heap_new w _, fun q1 q2 => (Nat.ne_of_lt (Array.getElem?_eq_some_iff.1 (hF.h1 (by rw [up_ne (show 5 ≠ 8 by decide)] at q1; exact q1))).1), fun q => (by rw [up_ne (show 10 ≠ 8 by decide), d2 10 (by decide)] at q; cases q), by rw [up_ne (show 11 ≠ 8 by decide), up_ne (show 12 ≠ 8 by decide)]; exact fun q q' => keep (hF.h4 q q'), fun q => (by rw [up_ne (show 12 ≠ 8 by decide), d2 12 (by decide)] at q; cases q), by rw [up_ne (show 5 ≠ 8 by decide)]; exact hF.g1, fun _ => hsz2, fun q => (by rw [up_ne (show 10 ≠ 8 by decide), d2 10 (by decide)] at q; cases q), by rw [up_ne (show 11 ≠ 8 by decide)]; exact hF.g4⟩
  case s9 =>
   rintro b a w ⟨b1, b2, b3, b4, v9, rfl, hF⟩ hb d1 d2
   have u30 : (putSel a0 b (L7 (.slice A0 n c0) (.slice A1 n1 c1) (.slice A2 n2 c2) n b1 b2 b3 b4 v9)).eval (.tmp 30) = .slice A0 n c0 := eval_of (putSel_on (e := (0, 30, .slice A0 n c0)) 0 rfl rfl (d1 0 (by decide)) (Nat.ble_eq_true_of_le (Nat.le_trans (show 30 + 1 ≤ 97 by decide) hsz)))
   have u31 : (putSel a0 b (L7 (.slice A0 n c0) (.slice A1 n1 c1) (.slice A2 n2 c2) n b1 b2 b3 b4 v9)).eval (.tmp 31) = .slice A1 n1 c1 := eval_of (putSel_on (e := (1, 31, .slice A1 n1 c1)) 1 rfl rfl (d1 1 (by decide)) (Nat.ble_eq_true_of_le (Nat.le_trans (show 31 + 1 ≤ 97 by decide) hsz)))
   have u32 : (putSel a0 b (L7 (.slice A0 n c0) (.slice A1 n1 c1) (.slice A2 n2 c2) n b1 b2 b3 b4 v9)).eval (.tmp 32) = .slice A2 n2 c2 := eval_of (putSel_on (e := (2, 32, .slice A2 n2 c2)) 2 rfl rfl (d1 2 (by decide)) (Nat.ble_eq_true_of_le (Nat.le_trans (show 32 + 1 ≤ 97 by decide) hsz)))
   have u35 : (putSel a0 b (L7 (.slice A0 n c0) (.slice A1 n1 c1) (.slice A2 n2 c2) n b1 b2 b3 b4 v9)).eval (.tmp 35) = slv b1 n := eval_of (putSel_on (e := (5, 35, slv b1 n)) 5 rfl rfl (d1 5 (by decide)) (Nat.ble_eq_true_of_le (Nat.le_trans (show 35 + 1 ≤ 97 by decide) hsz)))
   have u38 : (putSel a0 b (L7 (.slice A0 n c0) (.slice A1 n1 c1) (.slice A2 n2 c2) n b1 b2 b3 b4 v9)).eval (.tmp 38) = slv b2 n := eval_of (putSel_on (e := (8, 38, slv b2 n)) 8 rfl rfl (d1 8 (by decide)) (Nat.ble_eq_true_of_le (Nat.le_trans (show 38 + 1 ≤ 97 by decide) hsz)))
   refine ⟨.agg #[.slice A0 n c0, .slice A1 n1 c1, .slice A2 n2 c2, slv b1 n, slv b2 n], w, op_build rfl ?_, b1, b2, b3, b4, _, putSel_upk 9 hb rfl rfl rfl, ?_⟩
   ·simp only [List.map_toArray, List.map_cons, List.map_nil, u30, u31, u32, u35, u38]
    exact Go.run_build _ _ _ _ (by kernel_rfl)
   ·exact ⟨fun _ => rfl, hF.bel, by rw [up_ne (show 5 ≠ 9 by decide)]; exact hF.h1, by rw [up_ne (show 8 ≠ 9 by decide)]; exact hF.h2, by rw [up_ne (show 5 ≠ 9 by decide), up_ne (show 8 ≠ 9 by decide)]; exact hF.ne, by rw [up_ne (show 10 ≠ 9 by decide)]; exact hF.h3, by rw [up_ne (show 11 ≠ 9 by decide), up_ne (show 12 ≠ 9 by decide)]; exact hF.h4, by rw [up_ne (show 12 ≠ 9 by decide)]; exact hF.h5, by rw [up_ne (show 5 ≠ 9 by decide)]; exact hF.g1, by rw [up_ne (show 8 ≠ 9 by decide)]; exact hF.g2, by rw [up_ne (show 10 ≠ 9 by decide)]; exact hF.g3, by rw [up_ne (show 11 ≠ 9 by decide)]; exact hF.g4⟩
  case s10 =>
   rintro b a w ⟨b1, b2, b3, b4, v9, rfl, hF⟩ hb d1 d2
   have q9 := d1 9 (by decide)
   have u39 : (putSel a0 b (L7 (.slice A0 n c0) (.slice A1 n1 c1) (.slice A2 n2 c2) n b1 b2 b3 b4 v9)).eval (.tmp 39) = v9 := eval_of (putSel_on (e := (9, 39, v9)) 9 rfl rfl q9 (Nat.ble_eq_true_of_le (Nat.le_trans (show 39 + 1 ≤ 97 by decide) hsz)))
   have keep : ∀ {x o}, w.heap[x]? = some o → (w.alloc (.cells #[.slice A0 n c0, .slice A1 n1 c1, .slice A2 n2 c2, slv b1 n, slv b2 n] 64 (0, 0))).heap[x]? = some o := fun h => (Below.heap_alloc w _ _ (Array.getElem?_eq_some_iff.1 h).1).trans h
   have hsz2 : w0.heap.size ≤ w.heap.size := hF.bel.size
   refine ⟨.pointer (some ⟨w.heap.size, 0, none⟩), w.alloc (.cells #[.slice A0 n c0, .slice A1 n1 c1, .slice A2 n2 c2, slv b1 n, slv b2 n] 64 (0, 0)), op_box rfl (by rw [u39, hF.h9 q9]; simp [Instr.box, newVar, newRow, Value.cells]), b1, b2, w.heap.size, b4, v9, putSel_upk 10 hb rfl rfl rfl, ?_⟩
   exact ⟨by rw [up_ne (show 9 ≠ 10 by decide)]; exact hF.h9, hF.bel.alloc hsz2 _, by rw [up_ne (show 5 ≠ 10 by decide)]; exact fun q => keep (hF.h1 q), by rw [up_ne (show 8 ≠ 10 by decide)]; exact fun q => keep (hF.h2 q), by rw [up_ne (show 5 ≠ 10 by decide), up_ne (show 8 ≠ 10 by decide)]; exact hF.ne, fun _ => World.alloc_heap_new w _, by rw [up_ne (show 11 ≠ 10 by decide), up_ne (show 12 ≠ 10 by decide)]; exact fun q q' => keep (hF.h4 q q'), fun q => (by rw [up_ne (show 12 ≠ 10 by decide), d2 12 (by decide)] at q; cases q), by rw [up_ne (show 5 ≠ 10 by decide)]; exact hF.g1, by rw [up_ne (show 8 ≠ 10 by decide)]; exact hF.g2, fun _ => hsz2, by rw [up_ne (show 11 ≠ 10 by decide)]; exact hF.g4⟩
  case s11 =>
   rintro b a w ⟨b1, b2, b3, b4, v9, rfl, hF⟩ hb d1 d2
   have keep : ∀ {x o}, w.heap[x]? = some o → (w.alloc (.cells #[.pointer none] 49 (0, 0))).heap[x]? = some o := fun h => (Below.heap_alloc w _ _ (Array.getElem?_eq_some_iff.1 h).1).trans h
   have hsz2 : w0.heap.size ≤ w.heap.size := hF.bel.size
   refine ⟨.pointer (some ⟨w.heap.size, 0, none⟩), w.alloc (.cells #[.pointer none] 49 (0, 0)), op_alloc rfl ?_, b1, b2, b3, w.heap.size, v9, putSel_upk 11 hb rfl rfl rfl, ?_⟩
   ·obtain ⟨i0, hi, hz0, hz1, hz2⟩ := info_parts infoPG
    simp [Instr.alloc, zeroValue, typeInfo, hi, hz0, newVar, newRow, Value.cells]
   ·exact ⟨by rw [up_ne (show 9 ≠ 11 by decide)]; exact hF.h9, hF.bel.alloc hsz2 _, by rw [up_ne (show 5 ≠ 11 by decide)]; exact fun q => keep (hF.h1 q), by rw [up_ne (show 8 ≠ 11 by decide)]; exact fun q => keep (hF.h2 q), by rw [up_ne (show 5 ≠ 11 by decide), up_ne (show 8 ≠ 11 by decide)]; exact hF.ne, by rw [up_ne (show 10 ≠ 11 by decide)]; exact fun q => keep (hF.h3 q), fun _ _ => World.alloc_heap_new w _, fun q => (by rw [up_ne (show 12 ≠ 11 by decide), d2 12 (by decide)] at q; cases q), by rw [up_ne (show 5 ≠ 11 by decide)]; exact hF.g1, by rw [up_ne (show 8 ≠ 11 by decide)]; exact hF.g2, by rw [up_ne (show 10 ≠ 11 by decide)]; exact hF.g3, fun _ => hsz2⟩
  case s12 =>
   rintro b a w ⟨b1, b2, b3, b4, v9, rfl, hF⟩ hb d1 d2
   have u8 : (putSel a0 b (L7 (.slice A0 n c0) (.slice A1 n1 c1) (.slice A2 n2 c2) n b1 b2 b3 b4 v9)).eval (.tmp 8) = .pointer (some ⟨b4, 0, none⟩) := eval_of (putSel_on (e := (11, 8, .pointer (some ⟨b4, 0, none⟩))) 11 rfl rfl (d1 11 (by decide)) (Nat.ble_eq_true_of_le (Nat.le_trans (show 8 + 1 ≤ 97 by decide) hsz)))
   have u40 : (putSel a0 b (L7 (.slice A0 n c0) (.slice A1 n1 c1) (.slice A2 n2 c2) n b1 b2 b3 b4 v9)).eval (.tmp 40) = .pointer (some ⟨b3, 0, none⟩) := eval_of (putSel_on (e := (10, 40, .pointer (some ⟨b3, 0, none⟩))) 10 rfl rfl (d1 10 (by decide)) (Nat.ble_eq_true_of_le (Nat.le_trans (show 40 + 1 ≤ 97 by decide) hsz)))
   have hb4 := hF.h4 (d1 11 (by decide)) hb
   have hlt := (Array.getElem?_eq_some_iff.1 hb4).1
   have far : ∀ {x o}, w.heap[x]? = some o → x ≠ b4 → (w.setCell ⟨b4, 0, none⟩ (.pointer (some ⟨b3, 0, none⟩))).heap[x]? = some o := fun h hne => (Below.heap_setCell w _ _ _ hne).trans h
   have hsz2 : w0.heap.size ≤ w.heap.size := hF.bel.size
   have n1 : ∀ {x cs t}, w.heap[x]? = some (.cells cs t (0, 0)) → t ≠ 49 → x ≠ b4 := by
    rintro x cs t h ht rfl
    rw [hb4] at h
    injection h with h
    injection h with h1 h2
    exact ht h2.symm
   refine ⟨w.setCell ⟨b4, 0, none⟩ (.pointer (some ⟨b3, 0, none⟩)), op_store (u := ()) rfl ?_, b1, b2, b3, b4, v9, rfl, ?_⟩
   ·rw [u8, u40]
    exact (run_store_run 49 (.pointer (some ⟨b3, 0, none⟩)) [.pointer (some ⟨b3, 0, none⟩)] hb4 rfl (by kernel_rfl) (by simp) (by simp [Value.oneCell'])).trans rfl
   ·exact ⟨by rw [up_ne (show 9 ≠ 12 by decide)]; exact hF.h9, hF.bel.setCell (hF.g4 (d1 11 (by decide))) _, by rw [up_ne (show 5 ≠ 12 by decide)]; exact fun q => far (hF.h1 q) (n1 (hF.h1 q) (by decide)), by rw [up_ne (show 8 ≠ 12 by decide)]; exact fun q => far (hF.h2 q) (n1 (hF.h2 q) (by decide)), by rw [up_ne (show 5 ≠ 12 by decide), up_ne (show 8 ≠ 12 by decide)]; exact hF.ne,
     by rw [up_ne (show 10 ≠ 12 by decide)]; exact fun q => far (hF.h3 q) (n1 (hF.h3 q) (by decide)), fun _ q => (by rw [up_self] at q; cases q), fun _ => (blk_set hb4 0 _).trans rfl, by rw [up_ne (show 5 ≠ 12 by decide)]; exact hF.g1, by rw [up_ne (show 8 ≠ 12 by decide)]; exact hF.g2, by rw [up_ne (show 10 ≠ 12 by decide)]; exact hF.g3, by rw [up_ne (show 11 ≠ 12 by decide)]; exact hF.g4⟩
end Go.Proofs.YtajapkjplgaigaaDoor.P
end
section
namespace Go.Proofs.YtajapkjplgaigaaDoor.P
open Go.RowKit Go.Shelf Go.Proofs.YtajapkjplgaigaaDoorW.PrintWords Go.Proofs.YtajapkjplgaigaaDoorW.PrintLast Go.Proofs.YtajapkjplgaigaaDoorW.PrintMore
set_option linter.unusedVariables false
set_option linter.unusedSimpArgs false
theorem withI_quiet (a i : Int) (h : 0 ≤ i) (w : World) (m : Nat) : Calls Tryd.prog 50 #[.int .u16 a, .int .i64 i] (w.drewN m) fun e w' => e = .returned (.int .u16 (withI a i)) ∧ ∃ m', w' = w.drewN m' := by
 refine (withI_calls a i h (w.drewN m)).mono ?_
 rintro e w' ⟨rfl, ⟨k, rfl⟩⟩
 exact ⟨rfl, m + k, by rw [World.drewN_drewN]⟩
theorem shl_one : ∀ i, i < 8 → shl .u16 1 ((i : Nat) : Int) = ((2 ^ i : Nat) : Int) := by decide +kernel
theorem withI_nat (s i : Nat) (hs : s < 256) (hi : i < 8) : withI (s : Int) (i : Int) = ((s ||| 2 ^ i : Nat) : Int) := by
 unfold withI
 rw [shl_one i hi, u16_or_nat s (2 ^ i) (by omega) (Nat.lt_of_lt_of_le (Nat.pow_lt_pow_right (by omega) hi) (by decide))]
theorem hasB_nat : ∀ s, s < 256 → ∀ i, i < 8 → hasB ((s : Nat) : Int) ((i : Nat) : Int) = s.testBit i := by decide +kernel
theorem orI_nat (a b : Nat) (ha : a < 256) (hb : b < 256) : Go.bits .or .u16 (a : Int) (b : Int) = ((a ||| b : Nat) : Int) := u16_or_nat a b (by omega) (by omega)
theorem or_lt8 {a b n : Nat} (ha : a < 2 ^ n) (hb : b < 2 ^ n) : a ||| b < 2 ^ n := Nat.or_lt_two_pow ha hb
theorem pow_lt8 {i n : Nat} (h : i < n) : 2 ^ i < 2 ^ n := Nat.pow_lt_pow_right (by omega) h
theorem with_lt {s i n : Nat} (hs : s < 2 ^ n) (hi : i < n) : s ||| 2 ^ i < 2 ^ n := Nat.or_lt_two_pow hs (pow_lt8 hi)
theorem lt256 {s n : Nat} (hs : s < 2 ^ n) (hn : n ≤ 8) : s < 256 := Nat.lt_of_lt_of_le hs (Nat.pow_le_pow_right (by omega) hn)
theorem bit_lt {s n i : Nat} (hs : s < 2 ^ n) (h : s.testBit i = true) : i < n := by
 rcases Nat.lt_or_ge i n with h' | h'
 ·exact h'
 ·rw [Nat.testBit_lt_two_pow (Nat.lt_of_lt_of_le hs (Nat.pow_le_pow_right (by omega) h'))] at h
  cases h
def nI (l : List Nat) : List Int := l.map fun (x : Nat) => (x : Int)
theorem nI_length (l : List Nat) : (nI l).length = l.length := by simp [nI]
theorem rd_nI (l : List Nat) (i : Nat) : rd (nI l) (i : Int) = ((l.getD i 0 : Nat) : Int) := by
 simp only [rd, nI, Int.toNat_natCast, List.getD_eq_getElem?_getD, List.getElem?_map]
 cases l[i]? <;> rfl
theorem nI_append (l m : List Nat) : nI (l ++ m) = nI l ++ nI m := by simp [nI]
theorem cell_alloc {w : World} {a : Addr} {v : Value} (h : w.cell? a = some v) (o : Obj) : (w.alloc o).cell? a = some v :=
 (Below.cell ((Below.refl _ w).alloc (Nat.le_refl _) o) (World.block_lt_of_cell? w a h)).trans h
def rowU (l : List Nat) : Obj := .cells (((nI l).map (Value.int .u16)).toArray) 51 (0, 0)
theorem rowU_get (l : List Nat) (i : Nat) (h : i < l.length) : (((nI l).map (Value.int .u16)).toArray)[i]? = some (.int .u16 ((l.getD i 0 : Nat) : Int)) := by
 simp [nI, List.getD_eq_getElem?_getD, h]
theorem rowU_cell {W : World} {b : Nat} {l : List Nat} (h : W.heap[b]? = some (rowU l)) (i : Nat) (hi : i < l.length) : W.cell? ⟨b, i, none⟩ = some (.int .u16 ((l.getD i 0 : Nat) : Int)) := (blk_cell h i).trans (rowU_get l i hi)
theorem rowU_set {W : World} {b : Nat} {l : List Nat} (h : W.heap[b]? = some (rowU l)) (i x : Nat) : (W.setCell ⟨b, i, none⟩ (.int .u16 (x : Int))).heap[b]? = some (rowU (l.set i x)) := by
 rw [blk_set h i]
 simp [rowU, nI]
theorem rowU_reads {W : World} {b : Nat} {l : List Nat} (h : W.heap[b]? = some (rowU l)) (hl : l.length ≤ 8) : ReadsOf (Value.int .u16) (0 : Int) W (some ⟨b, 0, none⟩) l.length (nI l) := by
 refine ⟨nI_length l, by omega, fun _ => ⟨_, rfl, fun i hi => ?_⟩⟩
 have h1 := rowU_cell h i hi
 have e : (⟨b, 0, none⟩ : Addr).add i = ⟨b, i, none⟩ := by simp [Addr.add]; exact fun h => h.symm
 rw [e, h1]
 have h2 := rd_nI l i
 simp only [rd, Int.toNat_natCast] at h2
 rw [h2]
theorem rowU_zero (n : Nat) : Obj.cells (Array.replicate n (.int .u16 0)) 51 (0, 0) = rowU (List.replicate n 0) := by
 simp [rowU, nI]
end Go.Proofs.YtajapkjplgaigaaDoor.P
end
section
namespace Go.Proofs.YtajapkjplgaigaaDoor
open Go.RowKit Go.Shelf Go.Proofs.YtajapkjplgaigaaDoorW.PrintWords Go.Proofs.YtajapkjplgaigaaDoorW.PrintLast Go.Proofs.YtajapkjplgaigaaDoorW.PrintMore
set_option linter.unusedVariables false
set_option linter.unusedSimpArgs false
def setAll : Array Value → List Tmp → List Value → Array Value
 | T, s :: ss, v :: vs => setAll (T.setIfInBounds s v) ss vs
 | T, _, _ => T
theorem wp_loop_slots {P : Program} {Q : Exit → Act → World → Prop} {T : Array Value} {ds : List Deferred} {w : World} {c : Code} (ss : List Tmp) (vs : List Value) (R : Nat → List Value → List Deferred → World → Prop) (n₀ : Nat)
  (hT : setAll T ss vs = T) (h₀ : R n₀ vs ds w)
  (round : ∀ n vs ds w, R n vs ds w → ∀ K : Act → World → Prop, (∀ n' vs' ds' w', n' < n → R n' vs' ds' w' → K { tmps := setAll T ss vs', defers := ds' } w') → c.wp P (Exit.then K Q) { tmps := setAll T ss vs, defers := ds } w) :
  (Code.loop c).wp P Q { tmps := T, defers := ds } w := by
 refine wp_loop_ghost (fun n a w => ∃ vs ds, a = { tmps := setAll T ss vs, defers := ds } ∧ R n vs ds w) n₀ ⟨vs, ds, by rw [hT], h₀⟩ ?_
 rintro n a w ⟨vs, ds, rfl, h⟩
 exact round n vs ds w h _ (fun n' vs' ds' w' hlt hR => ⟨n', hlt, vs', ds', rfl, hR⟩)
def MarksLt (B : Nat) (ds : List Deferred) : Prop := ∀ d ∈ ds, ∃ D, d = markOf D ∧ D < B
theorem Marks.ltOf {B : Nat} {ds : List Deferred} {W : World} (h : Marks B ds W) : MarksLt W.heap.size ds := h.lt
theorem MarksLt.le {B B' : Nat} {ds : List Deferred} (h : MarksLt B ds) (hle : B ≤ B') : MarksLt B' ds := fun d hd => by
 obtain ⟨D, e, hD⟩ := h d hd
 exact ⟨D, e, by omega⟩
theorem Marks.block {B B1 : Nat} : ∀ {ds : List Deferred} {W W' : World}, Marks B ds W → MarksLt B1 ds → (∀ k, k < B1 → W'.heap[k]? = W.heap[k]?) → Marks B ds W'
 | [], _, _, _, _, _ => trivial
 | d :: ds, W, W', ⟨⟨D, he, hB, hD, hn⟩, h⟩, hl, hk => by
  obtain ⟨D', he', hD'⟩ := hl d List.mem_cons_self
  have : D = D' := by rw [he] at he'; simpa [markOf] using he'
  subst this
  exact ⟨⟨D, he, hB, (hk D hD').trans hD, hn⟩, h.block (fun d' h' => hl d' (List.mem_cons_of_mem _ h')) hk⟩
theorem own_marks {β : Type} (B0 B : Nat) (ds : List Deferred) (hl : MarksLt B ds) : OwnFrom B (fun (_ : β) W => Marks B0 ds W) := by
 intro s W W' row h hg hr
 have hs := h.ltOf
 have : ∀ (ds : List Deferred), Marks B0 ds W → MarksLt B ds → Marks B0 ds W' := by
  intro ds
  induction ds with
  | nil => intro _ _; trivial
  | cons d ds ih =>
   rintro ⟨⟨D, he, hB, hD, hn⟩, h⟩ hl
   obtain ⟨D', he', hD'⟩ := hl d List.mem_cons_self
   have e : D = D' := by rw [he] at he'; simpa [markOf] using he'
   subst e
   refine ⟨⟨D, he, hB, (hg.block D (Array.getElem?_eq_some_iff.1 hD).1 (fun e => ?_)).trans hD, hn⟩, ih h (fun d' h' => hl d' (List.mem_cons_of_mem _ h'))⟩
   have := (hr D e.symm).1
   omega
 exact this ds h hl
theorem Marks.cons {B D : Nat} {ds : List Deferred} {W : World} (h : Marks B ds W) (hB : B ≤ D) (hD : W.heap[D]? = some (.deferred (some []))) (hl : MarksLt D ds) : Marks B (markOf D :: ds) W :=
 ⟨⟨D, rfl, hB, hD, fun d hd e => by
  obtain ⟨D', e', hD'⟩ := hl d hd
  rw [e'] at e
  have : D' = D := by simpa [markOf] using e
  omega⟩, h⟩
theorem own_blk {β : Type} (B b : Nat) (cs : β → Array Value) (t : TypeId) : OwnFrom B (fun s W => W.heap[b]? = some (.cells (cs s) t (0, 0))) := by
 intro s W W' row h hg hr
 refine blk_grown h hg (fun e => ?_)
 obtain ⟨_, o, ho, hc⟩ := hr b e.symm
 rw [h] at ho
 cases ho
 cases hc
end Go.Proofs.YtajapkjplgaigaaDoor
end
section
namespace Go.Proofs.YtajapkjplgaigaaDoor
open Go.RowKit
set_option linter.unusedVariables false
set_option linter.unusedSimpArgs false
section
variable {P : Program} {ops hd : Array Oper} {md : Region.Mode} {C : World → Prop} {n : Nat}
structure Ag (n m : Nat) (lh lf : Array Bool) : Prop where
 sh : lh.size = n
 sf : lf.size = m
 lo : ∀ j, j < n → lf[j]? = lh[j]?
 hi : ∀ t, n ≤ t → t < m → lf[t]? = some false
def headB (md : Region.Mode) (ops : Array Oper) (n : Nat) : Bool :=
 decide (n < ops.size) && ((List.range n).all fun i => match ops[i]? with | some o => o.guard.isNone && o.after.all (fun e => !Region.binds md e || decide (e.on < i)) | none => false) &&
 ((List.range n).all fun i => Region.waitsFor md ops n i) && Region.chainB md ops n && Region.seqB md ops (ops.size - n) n (Array.replicate n true ++ Array.replicate (ops.size - n) false)
theorem getD_of {l : Array Bool} {j : Nat} {d : Bool} : l.getD j d = (l[j]?).getD d := by simp [Array.getD_eq_getD_getElem?]
theorem Ag.put {m i : Nat} {lh lf : Array Bool} (h : Ag n m lh lf) (hi : i < n) (hm : n ≤ m) : Ag n m (lh.setIfInBounds i true) (lf.setIfInBounds i true) := by
 refine ⟨by simp [h.sh], by simp [h.sf], fun j hj => ?_, fun t ht hm' => ?_⟩
 ·simp only [Array.getElem?_setIfInBounds, h.lo j hj, h.sh, h.sf]
  by_cases hij : i = j
  ·simp [hij, hj, show j < m by omega]
  ·simp [hij]
 ·simp only [Array.getElem?_setIfInBounds]
  rw [if_neg (by omega)]
  exact h.hi t ht hm'
theorem wpAny_of_qhead {Q : Act → Prop} {Q' : Exit → Act → World → Prop} {tl : List Oper} (hh : ∀ j, j < n → hd[j]? = ops[j]?) (hs : hd.size = n) (hB : headB md ops n = true)
  (htl : ∀ j, tl[j]? = ops[n + j]?) (hlen : tl.length = ops.size - n) (hQ : ∀ a w, C w → Q a → wpList P ops Q' tl a w) :
  ∀ (f : Nat) (lh lf : Array Bool) (a : Act) (w : World), Ag n ops.size lh lf → lh.toList.count false = f → C w → wpAnyQ P md hd C Q f lh a → wpAny P md ops Q' (f + tl.length) lf a w := by
 simp only [headB, Bool.and_eq_true, decide_eq_true_eq, List.all_eq_true, List.mem_range] at hB
 obtain ⟨⟨⟨⟨hn, hrow⟩, hwait⟩, hchain⟩, hseq⟩ := hB
 have row : ∀ i, i < n → ∃ o, ops[i]? = some o ∧ o.guard = none ∧ ∀ e ∈ o.after, Region.binds md e = true → e.on < i := by
  intro i hi
  have h := hrow i hi
  cases ho : ops[i]? with
  | none => rw [ho] at h; cases h
  | some o =>
   rw [ho] at h
   simp only [Bool.and_eq_true, Option.isNone_iff_eq_none, Array.all_eq_true_iff_forall_mem] at h
   refine ⟨o, rfl, h.1, fun e he hb => ?_⟩
   have h2 := h.2 e he
   simpa [hb] using h2
 intro f
 induction f with
 | zero =>
  intro lh lf a w hA hc hC h
  have all : ∀ j, j < n → lf[j]? = some true := by
   intro j hj
   rw [hA.lo j hj]
   have hj' : j < lh.size := by rw [hA.sh]; exact hj
   rw [Array.getElem?_eq_getElem hj']
   have : lh[j] ∈ lh.toList := by simp
   cases hv : lh[j] with
   | true => rfl
   | false => exact absurd (List.count_eq_zero.1 hc) (by simp only [Classical.not_not]; rw [← hv]; exact this)
  have e : lf = Array.replicate n true ++ Array.replicate (ops.size - n) false := by
   apply Array.ext_getElem?
   intro j
   rw [Array.getElem?_append]
   by_cases hj : j < n
   ·simp [hj, all j hj]
   ·by_cases hj2 : j < ops.size
    ·simp [hj, hA.hi j (by omega) hj2, show j - n < ops.size - n by omega]
    ·simp [hj, show ¬ j - n < ops.size - n by omega]
     rw [hA.sf]; omega
  rw [Nat.zero_add]
  refine wpAny_of_seq tl n lf a w htl ?_ (hQ a w hC h.2)
  rw [hlen, e]
  exact hseq
 | succ f ih =>
  intro lh lf a w hA hc hC h
  rw [show f + 1 + tl.length = (f + tl.length) + 1 by omega]
  -- the first one that is not listed
  have some0 : ∃ k, k < n ∧ lf[k]? = some false ∧ ∀ j, j < k → lf[j]? = some true := by
   have hm : false ∈ lh.toList := List.count_pos_iff.1 (by omega)
   obtain ⟨k, hk, hv⟩ := List.getElem_of_mem hm
   have hk0 : k < n := by rw [← hA.sh]; simpa using hk
   have hk1 : lf[k]? = some false := by rw [hA.lo k hk0, Array.getElem?_eq_getElem (by simpa using hk)]; simpa using hv
   clear hv hk
   induction k using Nat.strongRecOn with
   | _ k ihk =>
    by_cases hx : ∃ j, j < k ∧ lf[j]? = some false
    ·obtain ⟨j, hj, hj2⟩ := hx
     exact ihk j hj (by omega) hj2
    ·refine ⟨k, hk0, hk1, fun j hj => ?_⟩
     have hjs : j < lf.size := by rw [hA.sf]; omega
     rw [Array.getElem?_eq_getElem hjs]
     cases hv : lf[j] with
     | true => rfl
     | false => exact absurd ⟨j, hj, by rw [Array.getElem?_eq_getElem hjs, hv]⟩ hx
  obtain ⟨k, hk, hkf, hkl⟩ := some0
  obtain ⟨ok, hok, _, hkd⟩ := row k hk
  have hkr : k ∈ Region.ready md ops lf := mem_ready.2 ⟨by rw [getD_of, hkf]; rfl, ok, hok, fun e he hb => by rw [getD_of, hkl _ (hkd e he hb)]; rfl⟩
  refine ⟨fun h0 => (by rw [h0] at hkr; cases hkr), fun i hi => ?_⟩
  obtain ⟨hi1, oi, hoi, hid⟩ := mem_ready.1 hi
  have him : i < ops.size := (Array.getElem?_eq_some_iff.1 hoi).1
  -- no other one is ready yet
  have hin : i < n := by
   rcases Nat.lt_or_ge i n with h' | h'
   ·exact h'
   ·exfalso
    by_cases hin : i = n
    ·obtain ⟨o', ho', e, he, hb, hon⟩ := Region.waitsFor_spec (hwait k hk)
     rw [← hin, hoi] at ho'
     cases ho'
     have := hid e he hb
     rw [hon, getD_of, hkf] at this
     cases this
    ·have h1 := List.all_eq_true.1 hchain i (List.mem_range.2 him)
     simp only [Bool.or_eq_true, decide_eq_true_eq] at h1
     rcases h1 with h1 | h1
     ·omega
     ·obtain ⟨o', ho', e, he, hb, hon⟩ := Region.waitsFor_spec h1
      rw [hoi] at ho'
      cases ho'
      have := hid e he hb
      rw [hon, getD_of, hA.hi (i - 1) (by omega) (by omega)] at this
      cases this
  obtain ⟨o', ho', hg, hdep⟩ := row i hin
  rw [hoi] at ho'
  cases ho'
  have hih : i ∈ Region.ready md hd lh := by
   refine mem_ready.2 ⟨?_, oi, (hh i hin).trans hoi, fun e he hb => ?_⟩
   ·rw [getD_of, ← hA.lo i hin, ← getD_of]; exact hi1
   ·have := hid e he hb
    rw [getD_of, hA.lo _ (by have := hdep e he hb; omega), ← getD_of] at this
    exact this
  have hil : i < lh.toList.length := by simp [hA.sh, hin]
  have hif : lh.toList[i] = false := by
   have := (mem_ready.1 hih).1
   rw [getD_of, Array.getElem?_eq_getElem (by simpa using hil)] at this
   simpa using this
  have hq := h.2 i hih
  have step : wpOp P hd Q' i (wpAny P md ops Q' (f + tl.length) (lf.setIfInBounds i true)) a w := by
   refine wpOp_of_qOp hC (fun a' w' hC' hK => ?_) hq
   refine ih _ _ a' w' (hA.put hin (Nat.le_of_lt hn)) ?_ hC' hK
   rw [Array.toList_setIfInBounds, List.count_set hil, hif]
   simp only [beq_self_eq_true, if_true, show (true == false) = false from rfl, Bool.false_eq_true, if_false]
   omega
  unfold wpOp at step ⊢
  rw [hh i hin] at step
  simp only [hoi, Region.wanted, hg] at step ⊢
  exact step
theorem wp_region_qtail {Q : Exit → Act → World → Prop} {a : Act} {w : World} {ol : List Oper} (k : Nat) (hm : P.follows .mixedOrders = true) (hB : headB .any ol.toArray k = true) (hL : Region.lexB .any (ol.take k).toArray = true)
  (h : wpQuiet P (ol.take k).toArray (fun w' => ∃ m, w' = w.drewN m) (fun a' => ∀ w', (∃ m, w' = w.drewN m) → wpList P ol.toArray Q (ol.drop k) a' w') (ol.take k) a) : wpAny P .any ol.toArray Q ol.toArray.size (Array.replicate ol.toArray.size false) a { w with drawn := w.drawn + 1 } := by
 have hk : k < ol.length := by
  have := hB
  simp only [headB, Bool.and_eq_true, decide_eq_true_eq] at this
  simpa using this.1.1.1.1
 have lt : (ol.take k).length = k := List.length_take_of_le (Nat.le_of_lt hk)
 simp only [Region.lexB, Bool.and_eq_true] at hL
 have hq := wpAnyQ_lex (C := fun w' => ∃ m, w' = w.drewN m) (md := .any) hL.1 (ol.take k) 0 (Array.replicate (ol.take k).toArray.size false) a (by simp) (by simpa using hL.2) h
 have := wpAny_of_qhead (P := P) (ops := ol.toArray) (hd := (ol.take k).toArray) (n := k) (tl := ol.drop k) (Q' := Q) (C := fun w' => ∃ m, w' = w.drewN m) (Q := fun a' => ∀ w', (∃ m, w' = w.drewN m) → wpList P ol.toArray Q (ol.drop k) a' w') (fun j hj => by simp [hj]) (by simpa using lt) hB (fun j => by simp [List.getElem?_drop]) (by simp)
  (fun a' w' hC hQ => hQ w' hC) k (Array.replicate k false) (Array.replicate ol.toArray.size false) a { w with drawn := w.drawn + 1 }
  ⟨by simp, by simp, fun j hj => by simp [hj, show j < ol.length by omega], fun t ht ht' => by simp at ht'; simp [ht']⟩ (by simp) ⟨1, rfl⟩ (by simpa [lt] using hq)
 rw [show k + (ol.drop k).length = ol.toArray.size by simp; omega] at this
 exact this
end
section
variable {P : Program} {l n : Nat}
theorem wpIn_region_qtail {id : Nat} {Q : Exit → Act → World → Prop} {a : Act} {w : World} {ol : List Oper} (k : Nat) (hQ : ¬ LetsOut Q) (hd : noDeferB ol.toArray = true) (hm : P.follows .mixedOrders = true) (hB : headB .any ol.toArray k = true) (hL : Region.lexB .any (ol.take k).toArray = true)
  (h : wpQuiet P (ol.take k).toArray (fun w' => ∃ m, w' = w.drewN m) (fun a' => ∀ w', (∃ m, w' = w.drewN m) → wpList P ol.toArray Q (ol.drop k) a' w') (ol.take k) a) : (Code.region id ol.toArray true).wpIn (Fence.wide.inRound l) n P Q a w :=
 wpIn_region_of_any hQ hd hm (wp_region_qtail k hm hB hL h)
end
end Go.Proofs.YtajapkjplgaigaaDoor
end
section
namespace Go.Proofs.YtajapkjplgaigaaDoor
open Go.RowKit Go.Proofs.YtajapkjplgaigaaDoorW.PrintWords Go.Proofs.YtajapkjplgaigaaDoorW.PrintLast Go.Proofs.YtajapkjplgaigaaDoorW.PrintMore
theorem R_makecap {P : Program} {ops : Array Oper} {o : Oper} {a : Act} {Q : Exit → Act → World → Prop} {rest : List Oper} {α : Type} (d : Kd α) {W : World} (e : Nat) (hgd : o.guard = none) (t : TypeId) (x y : Operand) (ho : o.op = .makeSlice t x y)
  (c : Nat) (hx : a.eval x = .int .i64 0) (hy : a.eval y = .int .i64 (c : Int)) (ht : P.underlying t = some (.slice e)) (z : Value) (bytes : Nat) (hinfo : (P.info? e).map (fun i => (i.zero, i.size, i.bytes)) = some (some z, d.sz, bytes)) (hl : bytes * c ≤ 281474976710656) (hc : c ≤ 9223372036854775807)
  (h : ∀ v1 w1, d.R e w1 W.heap.size (fun _ => True) v1 ([] : List α) → Below W.heap.size W w1 → W.grownBy w1 none → (∃ b, v1.ownBlock = some b ∧ W.heap.size ≤ b) → wpList P ops Q rest (a.put o.dst v1) w1) : wpList P ops Q (o :: rest) a W := by
 obtain ⟨i0, hi, hzz⟩ := Option.map_eq_some_iff.1 hinfo
 simp only [Prod.mk.injEq] at hzz
 obtain ⟨hz0, hz1, hz2⟩ := hzz
 obtain ⟨w', hr, hown, hg⟩ := run_make_own (P := P) W W.heap.size t e i0 z d.sz ht hi hz0 hz1 .i64 .i64 c (by rw [hz2]; exact hl) (by simpa [maxLen] using hc) (Nat.le_refl _)
 refine Kd.event_run hgd (v := .slice (some ⟨W.heap.size, 0, none⟩) 0 c) (w1 := w') (by simp [execOp, ho, hx, hy, hr]) (h _ _ ⟨fun _ _ => trivial, [], hown, Reps.none _ _⟩ ((Below.refl _ _).grown hg (Nat.le_refl _) (fun k e => by cases e)) hg ⟨W.heap.size, by simp [Value.ownBlock], Nat.le_refl _⟩)
end Go.Proofs.YtajapkjplgaigaaDoor
end
section
namespace Go.Proofs.YtajapkjplgaigaaDoor.P
open Go.RowKit Go.Proofs.YtajapkjplgaigaaDoorW.PrintWords Go.Proofs.YtajapkjplgaigaaDoorW.PrintLast Go.Proofs.YtajapkjplgaigaaDoorW.PrintMore
attribute [local go_sem] max2_int min2_int max_two min_two max_three min_three max_four min_four   -- for this text's walks alone
set_option linter.unusedVariables false
set_option linter.unusedSimpArgs false
def impl_within.f (a0 : Int) (a1 : Int) (a2 : Int) : Option (Bool) := if a0 ≥ a1 then (some (decide (a0 ≤ a2))) else (some false)
set_option maxHeartbeats 8000000 in
set_option maxRecDepth 100000 in
theorem impl_within.calls (a0 : Int) (a1 : Int) (a2 : Int) (r : Bool) (w : World) (h : impl_within.f a0 a1 a2 = some r) :
  Calls Tryd.prog 48 #[.int .i64 a0, .int .i64 a1, .int .i64 a2] w fun e w' => e = .returned (.bool r) ∧ Drawn0 w w' := by
 have H : (if a0 ≥ a1 then (some (decide (a0 ≤ a2))) else (some false)) = some r := h
 clear h
 by_cases c4 : a0 ≥ a1
 ·rw [if_pos c4] at H
  have c4b0 : decide (a1 ≤ a0) = true := decide_eq_true c4
  clear c4
  obtain rfl := Option.some.inj H
  go_enter Tryd.func48, Tryd.ntmps48
  go_wp2
  go_ret
  exact ⟨by first | rfl | (simp; done) | (simp [*]; done), by repeat (first | exact Drawn0.refl _ | apply Drawn0.step)⟩
 ·rw [if_neg c4] at H
  have c4b0 : decide (a1 ≤ a0) = false := decide_eq_false c4
  clear c4
  obtain rfl := Option.some.inj H
  go_enter Tryd.func48, Tryd.ntmps48
  go_wp2
  go_ret
  exact ⟨by first | rfl | (simp; done) | (simp [*]; done), by repeat (first | exact Drawn0.refl _ | apply Drawn0.step)⟩
end Go.Proofs.YtajapkjplgaigaaDoor.P
end
section
namespace Go.Proofs.YtajapkjplgaigaaDoor.P
open Go.RowKit Go.Proofs.YtajapkjplgaigaaDoorW.PrintWords Go.Proofs.YtajapkjplgaigaaDoorW.PrintLast Go.Proofs.YtajapkjplgaigaaDoorW.PrintMore
attribute [local go_sem] max2_int min2_int max_two min_two max_three min_three max_four min_four   -- for this text's walks alone
set_option linter.unusedVariables false
set_option linter.unusedSimpArgs false
def impl_setOf.l0 : Nat → Int → Int → Int → List Int → Int → Int → Option (Int × Bool)
 | 0, _, _, _, _, _, _ => none
 | k + 1, x1, x6, x7, x10, x11, x12 => if x12 < x11 then (if 0 ≤ x12 then (if x12 < (x10.length : Int) then ((impl_within.f (rd x10 x12) (wrap64 (x7 + 1)) (wrap64 (x1 - 1))).bind fun t333 => (if t333 = true then ((impl_set_with.f x6 (rd x10 x12)).bind fun t334 => (impl_setOf.l0 k x1 t334 (rd x10 x12) x10 x11 (wrap64 (x12 + 1)))) else (some (0, false)))) else (none)) else (none)) else (some (x6, true))
def impl_setOf.f (k : Nat) (l0 : List Int) (a1 : Int) : Option (Int × Bool) := impl_setOf.l0 k a1 0 (-1) l0 (l0.length : Int) 0
set_option maxHeartbeats 8000000 in
set_option maxRecDepth 100000 in
theorem impl_setOf.calls (k : Nat) (A0 : Option Addr) (c0 : Nat) (l0 : List Int) (a1 : Int) (r1 : Int) (r2 : Bool) (w : World) (hr0 : Kd.C (Kd.int .i64) w A0 l0.length l0) (hc0 : l0.length ≤ c0) (h : impl_setOf.f k l0 a1 = some (r1, r2)) :
  Calls Tryd.prog 71 #[.slice A0 l0.length c0, .int .i64 a1] w fun e w' => e = .returned (.tuple #[.int .u16 r1, .bool r2]) ∧ Drawn0 w w' := by
 have HR0 := Aside0.mk hr0
 have HC0 := Aside0.mk hc0
 clear hr0 hc0
 have H : (impl_setOf.l0 k a1 0 (-1) l0 (l0.length : Int) 0) = some (r1, r2) := h
 clear h
 have H' := Aside0.mk H
 clear H
 go_enter Tryd.func71, Tryd.ntmps71
 go_wp2
 go_loopg [6, 7, 12] k (fun kq v6 v7 v12 w' => ∃ (x6_1 : Int) (x7_1 : Int) (x12_1 : Int), v6 = .int .u16 x6_1 ∧ v7 = .int .i64 x7_1 ∧ v12 = .int .i64 x12_1 ∧ Aside0 (impl_setOf.l0 kq a1 x6_1 x7_1 l0 (l0.length : Int) x12_1 = some (r1, r2)) ∧ Aside0 (kq ≤ k) ∧ Drawn0 w w')
 case atStart => exact ⟨(0), ((-1)), (0), (by first | rfl | (simp; done) | (simp [*]; done)), (by first | rfl | (simp; done) | (simp [*]; done)), (by first | rfl | (simp; done) | (simp [*]; done)), H', ⟨Nat.le_refl _⟩, by repeat (first | exact Drawn0.refl _ | apply Drawn0.step)⟩
 case round =>
  clear H'
  try clear p2
  obtain ⟨x6_1, x7_1, x12_1, rfl, rfl, rfl, HA, HK1, ⟨m1, rfl⟩⟩ := hrel
  cases gk with
  | zero => exact absurd HA.out (by simp [impl_setOf.l0])
  | succ k1 =>
   have H := HA.out
   clear HA
   simp only [impl_setOf.l0] at H
   by_cases c3 : x12_1 < (l0.length : Int)
   ·rw [if_pos c3] at H
    have c3b0 : decide (x12_1 < (l0.length : Int)) = true := decide_eq_true c3
    clear c3
    by_cases c4 : 0 ≤ x12_1
    ·rw [if_pos c4] at H
     have c4b0 : decide (0 ≤ x12_1) = true := decide_eq_true c4
     clear c4
     by_cases c5 : x12_1 < (l0.length : Int)
     ·rw [if_pos c5] at H
      have c5b0 : decide (x12_1 < (l0.length : Int)) = true := decide_eq_true c5
      clear c5
      replace H := Option.bind_eq_some_iff.mp H
      obtain ⟨t333, A60, H⟩ := H
      replace H : (if t333 = true then ((impl_set_with.f x6_1 (rd l0 x12_1)).bind fun t334 => (impl_setOf.l0 k1 a1 t334 (rd l0 x12_1) l0 (l0.length : Int) (wrap64 (x12_1 + 1)))) else (some (0, false))) = some (r1, r2) := H
      have A6 := Aside0.mk A60
      clear A60
      by_cases c7 : t333 = true
      ·subst c7
       have H1 : ((impl_set_with.f x6_1 (rd l0 x12_1)).bind fun t334 => (impl_setOf.l0 k1 a1 t334 (rd l0 x12_1) l0 (l0.length : Int) (wrap64 (x12_1 + 1)))) = some (r1, r2) := by rw [if_pos rfl] at H; exact H
       clear H
       have H := H1
       clear H1
       replace H := Option.bind_eq_some_iff.mp H
       obtain ⟨t334, A80, H⟩ := H
       replace H : (impl_setOf.l0 k1 a1 t334 (rd l0 x12_1) l0 (l0.length : Int) (wrap64 (x12_1 + 1))) = some (r1, r2) := H
       have A8 := Aside0.mk A80
       clear A80
       have H' := Aside0.mk H
       clear H
       have p332 : 0 ≤ (x12_1 : Int) := of_decide_eq_true (by first | (with_reducible assumption) | assumption)
       have q332 : x12_1 < (l0.length : Int) := of_decide_eq_true (by first | (with_reducible assumption) | assumption)
       obtain ⟨ad332, e332, hx332_0⟩ := Kd.at_int HR0.out x12_1 p332 q332
       cases e332
       replace p332 := eq_true p332
       replace q332 := eq_true q332
       go_wp2_with (first | ((with_reducible refine gate_callee (f := 48) rfl ?_); refine goesL_ (some 21) rfl rfl Tryd.func48 (by kernel_rfl) rfl #[.int .i64 (rd l0 x12_1), .int .i64 (wrap64 (x7_1 + 1)), .int .i64 (wrap64 (a1 - 1))] rfl (by (try simp only [List.map_toArray, List.map_cons, List.map_nil]); first | done | rfl | (simp only [List.length_drop, List.length_take]; rfl)) ?_; (with_reducible refine (impl_within.calls (rd l0 x12_1) (wrap64 (x7_1 + 1)) (wrap64 (a1 - 1)) true _ A6.out).mono ?_); rintro e w' ⟨rfl, ⟨nd, rfl⟩⟩; refine ⟨_, rfl, ?_⟩) | ((with_reducible refine gate_callee (f := 50) rfl ?_); refine goesL_ (some 25) rfl rfl Tryd.func50 (by kernel_rfl) rfl #[.int .u16 x6_1, .int .i64 (rd l0 x12_1)] rfl (by (try simp only [List.map_toArray, List.map_cons, List.map_nil]); first | done | rfl | (simp only [List.length_drop, List.length_take]; rfl)) ?_; (with_reducible refine (impl_set_with.calls x6_1 (rd l0 x12_1) t334 _ A8.out).mono ?_); rintro e w' ⟨rfl, ⟨nd, rfl⟩⟩; refine ⟨_, rfl, ?_⟩))
       go_roundg k1
       case measure => have := HK1.out; omega
       case rel => exact ⟨(t334), (rd l0 x12_1), (wrap64 (x12_1 + 1)), (by first | rfl | (simp; done) | (simp [*]; done)), (by first | rfl | (simp; done) | (simp [*]; done)), (by first | rfl | (simp; done) | (simp [*]; done)), H', ⟨by have := HK1.out; omega⟩, by repeat (first | exact Drawn0.refl _ | apply Drawn0.step)⟩
      ·replace c7 := Bool.eq_false_iff.mpr c7
       subst c7
       have H1 : (some (0, false)) = some (r1, r2) := by rw [if_neg (show ¬ (false = true) by decide)] at H; exact H
       clear H
       have H := H1
       clear H1
       simp only [Option.some.injEq, Prod.mk.injEq] at H
       obtain ⟨rfl, rfl⟩ := H
       have p332 : 0 ≤ (x12_1 : Int) := of_decide_eq_true (by first | (with_reducible assumption) | assumption)
       have q332 : x12_1 < (l0.length : Int) := of_decide_eq_true (by first | (with_reducible assumption) | assumption)
       obtain ⟨ad332, e332, hx332_0⟩ := Kd.at_int HR0.out x12_1 p332 q332
       cases e332
       replace p332 := eq_true p332
       replace q332 := eq_true q332
       go_wp2_with (first | ((with_reducible refine gate_callee (f := 48) rfl ?_); refine goesL_ (some 21) rfl rfl Tryd.func48 (by kernel_rfl) rfl #[.int .i64 (rd l0 x12_1), .int .i64 (wrap64 (x7_1 + 1)), .int .i64 (wrap64 (a1 - 1))] rfl (by (try simp only [List.map_toArray, List.map_cons, List.map_nil]); first | done | rfl | (simp only [List.length_drop, List.length_take]; rfl)) ?_; (with_reducible refine (impl_within.calls (rd l0 x12_1) (wrap64 (x7_1 + 1)) (wrap64 (a1 - 1)) false _ A6.out).mono ?_); rintro e w' ⟨rfl, ⟨nd, rfl⟩⟩; refine ⟨_, rfl, ?_⟩))
       go_ret2
       exact ⟨by first | rfl | (simp; done) | (simp [*]; done), by repeat (first | exact Drawn0.refl _ | apply Drawn0.step)⟩
     ·rw [if_neg c5] at H
      exact absurd H (by simp)
    ·rw [if_neg c4] at H
     exact absurd H (by simp)
   ·rw [if_neg c3] at H
    have c3b0 : decide (x12_1 < (l0.length : Int)) = false := decide_eq_false c3
    clear c3
    simp only [Option.some.injEq, Prod.mk.injEq] at H
    obtain ⟨rfl, rfl⟩ := H
    go_wp2
    go_ret2
    exact ⟨by first | rfl | (simp; done) | (simp [*]; done), by repeat (first | exact Drawn0.refl _ | apply Drawn0.step)⟩
end Go.Proofs.YtajapkjplgaigaaDoor.P
end
