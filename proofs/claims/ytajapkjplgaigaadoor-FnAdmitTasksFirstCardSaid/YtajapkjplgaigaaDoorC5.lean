/- The law 'FnAdmitTasksFirst' holds for every input: its card. No condition but the row's own. -/
import Derived.Test.YtajapkjplgaigaaDoorC50
import Derived.Test.YtajapkjplgaigaaDoorC51
import Derived.Test.YtajapkjplgaigaaDoorC52
import Derived.Test.YtajapkjplgaigaaDoorC53
import Derived.Test.YtajapkjplgaigaaDoorC5WMore
import Derived.IntWalk
import Derived.Laws.BitsLemmas
import Derived.Test.YtajapkjplgaigaaDoorRows
import Derived.WalkKit
import Derived.ProofKit
import Derived.OpenShut
import Derived.ShutString
import Derived.ChangeOld
import Derived.Below
import Derived.SizedLaws
import Derived.Test.YtajapkjplgaigaaDoorC5WSized
import Derived.Test.YtajapkjplgaigaaDoorCards
import Derived.Test.YtajapkjplgaigaaDoorTie
import Derived.Deep.DeepHandedRow
import Derived.Lib.LaidTab
section
namespace Go.Proofs.YtajapkjplgaigaaDoor.P
open Go.RowKit Go.Proofs.YtajapkjplgaigaaDoorW.PrintWords Go.Proofs.YtajapkjplgaigaaDoorW.PrintLast Go.Proofs.YtajapkjplgaigaaDoorW.PrintMore
attribute [local go_sem] max2_int min2_int max_two min_two max_three min_three max_four min_four   -- for this text's walks alone
set_option linter.unusedVariables false
set_option linter.unusedSimpArgs false
mutual
def spec_AdmitTasks.j0 : Nat → List (S39) → List Int → List Int → List Int → Int → Bool → Option (List Int)
 | 0, _, _, _, _, _, _ => none
 | k + 1, x0, x1, x2, x3, x4, x29 => if x29 = true then (some ([] : List Int)) else (spec_AdmitTasks.l0 k x0 x1 x2 x3 x4 0)
def spec_AdmitTasks.l0 : Nat → List (S39) → List Int → List Int → List Int → Int → Int → Option (List Int)
 | 0, _, _, _, _, _, _ => none
 | k + 1, x0, x1, x2, x3, x4, x11 => if x11 < (x3.length : Int) then (if 0 ≤ x11 then ((spec_isIn.f k x2 (rd x3 x11)).bind fun t776 => (if t776 = true then (some ([] : List Int)) else (if x11 ≤ (x3.length : Int) then ((spec_isIn.f k (x3.take (x11 : Int).toNat) (rd x3 x11)).bind fun t779 => (if t779 = true then (some ([] : List Int)) else (spec_AdmitTasks.l0 k x0 x1 x2 x3 x4 (wrap64 (x11 + 1))))) else (none)))) else (none)) else ((spec_admit.f k x0 x1 x2 x3 x4).bind fun t772 => (some t772))
end
def spec_AdmitTasks.f (k : Nat) (l0 : List (S39)) (l1 : List Int) (l2 : List Int) (l3 : List Int) (a4 : Int) : Option (List Int) := (spec_validRunning.f k l0 l1 l2).bind fun t769 => (if t769 = true then ((spec_inRange.f a4 1 4).bind fun t770 => (if t770 = true then ((spec_allIn.f k l3 0 (wrap64 ((l0.length : Int) - 1))).bind fun t771 => (spec_AdmitTasks.j0 k l0 l1 l2 l3 a4 (!t771))) else (spec_AdmitTasks.j0 k l0 l1 l2 l3 a4 true))) else (spec_AdmitTasks.j0 k l0 l1 l2 l3 a4 true))
set_option maxHeartbeats 8000000 in
set_option maxRecDepth 100000 in
theorem spec_AdmitTasks.calls (k : Nat) (A0 : Option Addr) (c0 : Nat) (l0 : List (S39)) (A1 : Option Addr) (c1 : Nat) (l1 : List Int) (A2 : Option Addr) (c2 : Nat) (l2 : List Int) (A3 : Option Addr) (c3 : Nat) (l3 : List Int) (a4 : Int) (r : List Int) (w : World) (hr0 : Kd.C k39 w A0 l0.length l0) (hc0 : l0.length ≤ c0) (hr1 : Kd.C (Kd.int .i64) w A1 l1.length l1) (hc1 : l1.length ≤ c1) (hr2 : Kd.C (Kd.int .i64) w A2 l2.length l2) (hc2 : l2.length ≤ c2) (hr3 : Kd.C (Kd.int .i64) w A3 l3.length l3) (hc3 : l3.length ≤ c3) (h : spec_AdmitTasks.f k l0 l1 l2 l3 a4 = some r) :
  Calls Tryd.prog 35 #[.slice A0 l0.length c0, .slice A1 l1.length c1, .slice A2 l2.length c2, .slice A3 l3.length c3, .int .i64 a4] w fun e w' => ∃ v0_ : Value, e = .returned (v0_) ∧ Kd.R (Kd.int .i64) 3 w' w.heap.size (fun _ => True) v0_ r ∧ Below w.heap.size w w' := by
 have HR0 := Aside0.mk hr0
 have HC0 := Aside0.mk hc0
 clear hr0 hc0
 have HR1 := Aside0.mk hr1
 have HC1 := Aside0.mk hc1
 clear hr1 hc1
 have HR2 := Aside0.mk hr2
 have HC2 := Aside0.mk hc2
 clear hr2 hc2
 have HR3 := Aside0.mk hr3
 have HC3 := Aside0.mk hc3
 clear hr3 hc3
 have HB := Aside0.mk (Below.refl w.heap.size w)
 have H : ((spec_validRunning.f k l0 l1 l2).bind fun t769 => (if t769 = true then ((spec_inRange.f a4 1 4).bind fun t770 => (if t770 = true then ((spec_allIn.f k l3 0 (wrap64 ((l0.length : Int) - 1))).bind fun t771 => (spec_AdmitTasks.j0 k l0 l1 l2 l3 a4 (!t771))) else (spec_AdmitTasks.j0 k l0 l1 l2 l3 a4 true))) else (spec_AdmitTasks.j0 k l0 l1 l2 l3 a4 true))) = some r := h
 clear h
 have HC6 := Aside0.mk H
 clear H
 go_enter Tryd.func35, Tryd.ntmps35
 go_upto_region 1 with (fail)
 repeat (go_quiet (fail); go_upto_region 1 with (fail))
 go_cut [29] (fun v29 wc => ∃ (kq : Nat) (x29_5 : Bool), v29 = .bool x29_5 ∧ Aside0 (spec_AdmitTasks.j0 kq l0 l1 l2 l3 a4 x29_5 = some r) ∧ Aside0 (kq ≤ k) ∧ Aside0 (Below w.heap.size w wc))
 case first =>
  have H := HC6.out
  clear HC6
  replace H := Option.bind_eq_some_iff.mp H
  obtain ⟨t769, A70, H⟩ := H
  replace H : (if t769 = true then ((spec_inRange.f a4 1 4).bind fun t770 => (if t770 = true then ((spec_allIn.f k l3 0 (wrap64 ((l0.length : Int) - 1))).bind fun t771 => (spec_AdmitTasks.j0 k l0 l1 l2 l3 a4 (!t771))) else (spec_AdmitTasks.j0 k l0 l1 l2 l3 a4 true))) else (spec_AdmitTasks.j0 k l0 l1 l2 l3 a4 true)) = some r := H
  have A7 := Aside0.mk A70
  clear A70
  by_cases c8 : t769 = true
  ·subst c8
   have H1 : ((spec_inRange.f a4 1 4).bind fun t770 => (if t770 = true then ((spec_allIn.f k l3 0 (wrap64 ((l0.length : Int) - 1))).bind fun t771 => (spec_AdmitTasks.j0 k l0 l1 l2 l3 a4 (!t771))) else (spec_AdmitTasks.j0 k l0 l1 l2 l3 a4 true))) = some r := by rw [if_pos rfl] at H; exact H
   clear H
   have H := H1
   clear H1
   replace H := Option.bind_eq_some_iff.mp H
   obtain ⟨t770, A90, H⟩ := H
   replace H : (if t770 = true then ((spec_allIn.f k l3 0 (wrap64 ((l0.length : Int) - 1))).bind fun t771 => (spec_AdmitTasks.j0 k l0 l1 l2 l3 a4 (!t771))) else (spec_AdmitTasks.j0 k l0 l1 l2 l3 a4 true)) = some r := H
   have A9 := Aside0.mk A90
   clear A90
   by_cases c10 : t770 = true
   ·subst c10
    have H1 : ((spec_allIn.f k l3 0 (wrap64 ((l0.length : Int) - 1))).bind fun t771 => (spec_AdmitTasks.j0 k l0 l1 l2 l3 a4 (!t771))) = some r := by rw [if_pos rfl] at H; exact H
    clear H
    have H := H1
    clear H1
    replace H := Option.bind_eq_some_iff.mp H
    obtain ⟨t771, A110, H⟩ := H
    replace H : (spec_AdmitTasks.j0 k l0 l1 l2 l3 a4 (!t771)) = some r := H
    have A11 := Aside0.mk A110
    clear A110
    have H' := Aside0.mk H
    clear H
    iterate 7 (first | go_quiet (first | (go_at_call 66; (with_reducible refine (spec_validRunning.calls k _ _ l0 _ _ l1 _ _ l2 true _ ?side1 ?side2 ?side3 ?side4 ?side5 ?side6 A7.out).mono ?_); (case side1 => repeat (first | exact (Kd.C_below HR0.out HB.out) | (with_reducible refine Kd.C_alloc ?_ _) | (with_reducible refine Kd.C_drewN ?_ _) | (with_reducible refine Kd.C_drew ?_))); (case side2 => exact HC0.out); (case side3 => repeat (first | exact (Kd.C_below HR1.out HB.out) | (with_reducible refine Kd.C_alloc ?_ _) | (with_reducible refine Kd.C_drewN ?_ _) | (with_reducible refine Kd.C_drew ?_))); (case side4 => exact HC1.out); (case side5 => repeat (first | exact (Kd.C_below HR2.out HB.out) | (with_reducible refine Kd.C_alloc ?_ _) | (with_reducible refine Kd.C_drewN ?_ _) | (with_reducible refine Kd.C_drew ?_))); (case side6 => exact HC2.out); rintro e w12 ⟨rfl, hb⟩; have n0_ := Aside0.mk (below_step (by repeat (first | (with_reducible first | exact HB.out | apply below_alloc | apply pw_below_drewN | apply below_drew1) | exact HB.out)) hb); clear HB; have HB := n0_; clear n0_; (try clear hb); (try clear hb2); (try clear hk); (try clear hi)) | (go_at_call 52; (with_reducible refine (spec_inRange.calls a4 1 4 true _ A9.out).mono ?_); rintro e w' ⟨rfl, ⟨nd, rfl⟩⟩; (try first | exact ⟨rfl, _, World.drewN_drewN _ _ _⟩ | exact ⟨rfl, _, Eq.trans (World.drewN_drewN _ _ _) (congrArg (World.drewN _) (Nat.add_assoc _ _ _))⟩)) | (go_at_call 74; (with_reducible refine (spec_allIn.calls k _ _ l3 0 (wrap64 ((l0.length : Int) - 1)) t771 _ ?side1 ?side2 A11.out).mono ?_); (case side1 => repeat (first | exact (Kd.C_below HR3.out (by repeat (first | (with_reducible first | exact HB.out | apply below_alloc | apply pw_below_drewN | apply below_drew1) | exact HB.out))) | (with_reducible refine Kd.C_alloc ?_ _) | (with_reducible refine Kd.C_drewN ?_ _) | (with_reducible refine Kd.C_drew ?_))); (case side2 => exact HC3.out); rintro e w' ⟨rfl, ⟨nd, rfl⟩⟩; (try first | exact ⟨rfl, _, World.drewN_drewN _ _ _⟩ | exact ⟨rfl, _, Eq.trans (World.drewN_drewN _ _ _) (congrArg (World.drewN _) (Nat.add_assoc _ _ _))⟩))) | go_wp2_with (first | (go_at_call 66; (with_reducible refine (spec_validRunning.calls k _ _ l0 _ _ l1 _ _ l2 true _ ?side1 ?side2 ?side3 ?side4 ?side5 ?side6 A7.out).mono ?_); (case side1 => repeat (first | exact (Kd.C_below HR0.out HB.out) | (with_reducible refine Kd.C_alloc ?_ _) | (with_reducible refine Kd.C_drewN ?_ _) | (with_reducible refine Kd.C_drew ?_))); (case side2 => exact HC0.out); (case side3 => repeat (first | exact (Kd.C_below HR1.out HB.out) | (with_reducible refine Kd.C_alloc ?_ _) | (with_reducible refine Kd.C_drewN ?_ _) | (with_reducible refine Kd.C_drew ?_))); (case side4 => exact HC1.out); (case side5 => repeat (first | exact (Kd.C_below HR2.out HB.out) | (with_reducible refine Kd.C_alloc ?_ _) | (with_reducible refine Kd.C_drewN ?_ _) | (with_reducible refine Kd.C_drew ?_))); (case side6 => exact HC2.out); rintro e w12 ⟨rfl, hb⟩; have n0_ := Aside0.mk (below_step (by repeat (first | (with_reducible first | exact HB.out | apply below_alloc | apply pw_below_drewN | apply below_drew1) | exact HB.out)) hb); clear HB; have HB := n0_; clear n0_; (try clear hb); (try clear hb2); (try clear hk); (try clear hi)) | (go_at_call 52; (with_reducible refine (spec_inRange.calls a4 1 4 true _ A9.out).mono ?_); rintro e w' ⟨rfl, ⟨nd, rfl⟩⟩; (try first | exact ⟨rfl, _, World.drewN_drewN _ _ _⟩ | exact ⟨rfl, _, Eq.trans (World.drewN_drewN _ _ _) (congrArg (World.drewN _) (Nat.add_assoc _ _ _))⟩)) | (go_at_call 74; (with_reducible refine (spec_allIn.calls k _ _ l3 0 (wrap64 ((l0.length : Int) - 1)) t771 _ ?side1 ?side2 A11.out).mono ?_); (case side1 => repeat (first | exact (Kd.C_below HR3.out (by repeat (first | (with_reducible first | exact HB.out | apply below_alloc | apply pw_below_drewN | apply below_drew1) | exact HB.out))) | (with_reducible refine Kd.C_alloc ?_ _) | (with_reducible refine Kd.C_drewN ?_ _) | (with_reducible refine Kd.C_drew ?_))); (case side2 => exact HC3.out); rintro e w' ⟨rfl, ⟨nd, rfl⟩⟩; (try first | exact ⟨rfl, _, World.drewN_drewN _ _ _⟩ | exact ⟨rfl, _, Eq.trans (World.drewN_drewN _ _ _) (congrArg (World.drewN _) (Nat.add_assoc _ _ _))⟩))) | skip)
    go_meet
    case rel => exact ⟨_, (!t771), (by first | rfl | (simp; done) | (simp [*]; done)), H', ⟨by first | omega | exact Nat.le_refl _⟩, ⟨by repeat (first | (with_reducible first | exact HB.out | apply below_alloc | apply pw_below_drewN | apply below_drew1) | exact HB.out)⟩⟩
   ·replace c10 := Bool.eq_false_iff.mpr c10
    subst c10
    have H1 : (spec_AdmitTasks.j0 k l0 l1 l2 l3 a4 true) = some r := by rw [if_neg (show ¬ (false = true) by decide)] at H; exact H
    clear H
    have H := H1
    clear H1
    have H' := Aside0.mk H
    clear H
    iterate 7 (first | go_quiet (first | (go_at_call 66; (with_reducible refine (spec_validRunning.calls k _ _ l0 _ _ l1 _ _ l2 true _ ?side1 ?side2 ?side3 ?side4 ?side5 ?side6 A7.out).mono ?_); (case side1 => repeat (first | exact (Kd.C_below HR0.out HB.out) | (with_reducible refine Kd.C_alloc ?_ _) | (with_reducible refine Kd.C_drewN ?_ _) | (with_reducible refine Kd.C_drew ?_))); (case side2 => exact HC0.out); (case side3 => repeat (first | exact (Kd.C_below HR1.out HB.out) | (with_reducible refine Kd.C_alloc ?_ _) | (with_reducible refine Kd.C_drewN ?_ _) | (with_reducible refine Kd.C_drew ?_))); (case side4 => exact HC1.out); (case side5 => repeat (first | exact (Kd.C_below HR2.out HB.out) | (with_reducible refine Kd.C_alloc ?_ _) | (with_reducible refine Kd.C_drewN ?_ _) | (with_reducible refine Kd.C_drew ?_))); (case side6 => exact HC2.out); rintro e w13 ⟨rfl, hb⟩; have n0_ := Aside0.mk (below_step (by repeat (first | (with_reducible first | exact HB.out | apply below_alloc | apply pw_below_drewN | apply below_drew1) | exact HB.out)) hb); clear HB; have HB := n0_; clear n0_; (try clear hb); (try clear hb2); (try clear hk); (try clear hi)) | (go_at_call 52; (with_reducible refine (spec_inRange.calls a4 1 4 false _ A9.out).mono ?_); rintro e w' ⟨rfl, ⟨nd, rfl⟩⟩; (try first | exact ⟨rfl, _, World.drewN_drewN _ _ _⟩ | exact ⟨rfl, _, Eq.trans (World.drewN_drewN _ _ _) (congrArg (World.drewN _) (Nat.add_assoc _ _ _))⟩))) | go_wp2_with (first | (go_at_call 66; (with_reducible refine (spec_validRunning.calls k _ _ l0 _ _ l1 _ _ l2 true _ ?side1 ?side2 ?side3 ?side4 ?side5 ?side6 A7.out).mono ?_); (case side1 => repeat (first | exact (Kd.C_below HR0.out HB.out) | (with_reducible refine Kd.C_alloc ?_ _) | (with_reducible refine Kd.C_drewN ?_ _) | (with_reducible refine Kd.C_drew ?_))); (case side2 => exact HC0.out); (case side3 => repeat (first | exact (Kd.C_below HR1.out HB.out) | (with_reducible refine Kd.C_alloc ?_ _) | (with_reducible refine Kd.C_drewN ?_ _) | (with_reducible refine Kd.C_drew ?_))); (case side4 => exact HC1.out); (case side5 => repeat (first | exact (Kd.C_below HR2.out HB.out) | (with_reducible refine Kd.C_alloc ?_ _) | (with_reducible refine Kd.C_drewN ?_ _) | (with_reducible refine Kd.C_drew ?_))); (case side6 => exact HC2.out); rintro e w13 ⟨rfl, hb⟩; have n0_ := Aside0.mk (below_step (by repeat (first | (with_reducible first | exact HB.out | apply below_alloc | apply pw_below_drewN | apply below_drew1) | exact HB.out)) hb); clear HB; have HB := n0_; clear n0_; (try clear hb); (try clear hb2); (try clear hk); (try clear hi)) | (go_at_call 52; (with_reducible refine (spec_inRange.calls a4 1 4 false _ A9.out).mono ?_); rintro e w' ⟨rfl, ⟨nd, rfl⟩⟩; (try first | exact ⟨rfl, _, World.drewN_drewN _ _ _⟩ | exact ⟨rfl, _, Eq.trans (World.drewN_drewN _ _ _) (congrArg (World.drewN _) (Nat.add_assoc _ _ _))⟩))) | skip)
    go_meet
    case rel => exact ⟨_, (true), (by first | rfl | (simp; done) | (simp [*]; done)), H', ⟨by first | omega | exact Nat.le_refl _⟩, ⟨by repeat (first | (with_reducible first | exact HB.out | apply below_alloc | apply pw_below_drewN | apply below_drew1) | exact HB.out)⟩⟩
  ·replace c8 := Bool.eq_false_iff.mpr c8
   subst c8
   have H1 : (spec_AdmitTasks.j0 k l0 l1 l2 l3 a4 true) = some r := by rw [if_neg (show ¬ (false = true) by decide)] at H; exact H
   clear H
   have H := H1
   clear H1
   have H' := Aside0.mk H
   clear H
   iterate 7 (first | go_quiet (first | (go_at_call 66; (with_reducible refine (spec_validRunning.calls k _ _ l0 _ _ l1 _ _ l2 false _ ?side1 ?side2 ?side3 ?side4 ?side5 ?side6 A7.out).mono ?_); (case side1 => repeat (first | exact (Kd.C_below HR0.out HB.out) | (with_reducible refine Kd.C_alloc ?_ _) | (with_reducible refine Kd.C_drewN ?_ _) | (with_reducible refine Kd.C_drew ?_))); (case side2 => exact HC0.out); (case side3 => repeat (first | exact (Kd.C_below HR1.out HB.out) | (with_reducible refine Kd.C_alloc ?_ _) | (with_reducible refine Kd.C_drewN ?_ _) | (with_reducible refine Kd.C_drew ?_))); (case side4 => exact HC1.out); (case side5 => repeat (first | exact (Kd.C_below HR2.out HB.out) | (with_reducible refine Kd.C_alloc ?_ _) | (with_reducible refine Kd.C_drewN ?_ _) | (with_reducible refine Kd.C_drew ?_))); (case side6 => exact HC2.out); rintro e w14 ⟨rfl, hb⟩; have n0_ := Aside0.mk (below_step (by repeat (first | (with_reducible first | exact HB.out | apply below_alloc | apply pw_below_drewN | apply below_drew1) | exact HB.out)) hb); clear HB; have HB := n0_; clear n0_; (try clear hb); (try clear hb2); (try clear hk); (try clear hi))) | go_wp2_with (first | (go_at_call 66; (with_reducible refine (spec_validRunning.calls k _ _ l0 _ _ l1 _ _ l2 false _ ?side1 ?side2 ?side3 ?side4 ?side5 ?side6 A7.out).mono ?_); (case side1 => repeat (first | exact (Kd.C_below HR0.out HB.out) | (with_reducible refine Kd.C_alloc ?_ _) | (with_reducible refine Kd.C_drewN ?_ _) | (with_reducible refine Kd.C_drew ?_))); (case side2 => exact HC0.out); (case side3 => repeat (first | exact (Kd.C_below HR1.out HB.out) | (with_reducible refine Kd.C_alloc ?_ _) | (with_reducible refine Kd.C_drewN ?_ _) | (with_reducible refine Kd.C_drew ?_))); (case side4 => exact HC1.out); (case side5 => repeat (first | exact (Kd.C_below HR2.out HB.out) | (with_reducible refine Kd.C_alloc ?_ _) | (with_reducible refine Kd.C_drewN ?_ _) | (with_reducible refine Kd.C_drew ?_))); (case side6 => exact HC2.out); rintro e w14 ⟨rfl, hb⟩; have n0_ := Aside0.mk (below_step (by repeat (first | (with_reducible first | exact HB.out | apply below_alloc | apply pw_below_drewN | apply below_drew1) | exact HB.out)) hb); clear HB; have HB := n0_; clear n0_; (try clear hb); (try clear hb2); (try clear hk); (try clear hi))) | skip)
   go_meet
   case rel => exact ⟨_, (true), (by first | rfl | (simp; done) | (simp [*]; done)), H', ⟨by first | omega | exact Nat.le_refl _⟩, ⟨by repeat (first | (with_reducible first | exact HB.out | apply below_alloc | apply pw_below_drewN | apply below_drew1) | exact HB.out)⟩⟩
 case rest =>
  clear HC6
  try clear c1
  try clear c2
  try clear p2
  try clear c3
  try clear p6
  try clear c8
  try clear c10
  obtain ⟨kq, x29_5, rfl, HA, HJ5, HB⟩ := hcut
  cases kq with
  | zero => exact absurd HA.out (by simp [spec_AdmitTasks.j0])
  | succ kj5 =>
   have H := HA.out
   clear HA
   simp only [spec_AdmitTasks.j0] at H
   by_cases c15 : x29_5 = true
   ·subst c15
    have H1 : (some ([] : List Int)) = some r := by rw [if_pos rfl] at H; exact H
    clear H
    have H := H1
    clear H1
    obtain rfl := Option.some.inj H
    go_wp2
    repeat (go_quiet (fail); try go_wp2)
    go_ret
    exact ⟨_, by first | rfl | (simp [errW_none, errW_some] <;> rfl) | (simp [*, errW_none, errW_some] <;> rfl), by first | exact Kd.R_nil _ _ _ _ _ | exact Kd.N_nil _ _ _ _ _ | exact Kd.V_nil _ _ _ _ _ | exact Kd.Q_nil _ _ _ _ _ | exact Kd.S_nil _ _ _ _ _, by repeat (first | (with_reducible first | exact HB.out | apply below_alloc | apply pw_below_drewN | apply below_drew1) | exact HB.out)⟩
   ·replace c15 := Bool.eq_false_iff.mpr c15
    subst c15
    have H1 : (spec_AdmitTasks.l0 kj5 l0 l1 l2 l3 a4 0) = some r := by rw [if_neg (show ¬ (false = true) by decide)] at H; exact H
    clear H
    have H := H1
    clear H1
    have H' := Aside0.mk H
    clear H
    go_wp2
    repeat (go_quiet (fail); try go_wp2)
    go_loopg [11] kj5 (fun kq v11 w' => ∃ (x11_2 : Int), v11 = .int .i64 x11_2 ∧ Aside0 (spec_AdmitTasks.l0 kq l0 l1 l2 l3 a4 x11_2 = some r) ∧ Aside0 (kq ≤ kj5) ∧ Aside0 (Below w.heap.size w w'))
    case atStart => exact ⟨(0), (by first | rfl | (simp; done) | (simp [*]; done)), H', ⟨Nat.le_refl _⟩, ⟨by repeat (first | (with_reducible first | exact HB.out | apply below_alloc | apply pw_below_drewN | apply below_drew1) | exact HB.out)⟩⟩
    case round =>
     clear H'
     try clear c1
     try clear c2
     try clear p2
     try clear c3
     try clear p6
     try clear c8
     try clear c10
     try clear c15
     try clear p2
     try clear p6
     obtain ⟨x11_2, rfl, HA, HK2, HB⟩ := hrel
     cases gk with
     | zero => exact absurd HA.out (by simp [spec_AdmitTasks.l0])
     | succ k2 =>
      have H := HA.out
      clear HA
      simp only [spec_AdmitTasks.l0] at H
      by_cases c16 : x11_2 < (l3.length : Int)
      ·rw [if_pos c16] at H
       have c16b0 : decide (x11_2 < (l3.length : Int)) = true := decide_eq_true c16
       clear c16
       by_cases c17 : 0 ≤ x11_2
       ·rw [if_pos c17] at H
        have c17b0 : decide (0 ≤ x11_2) = true := decide_eq_true c17
        clear c17
        replace H := Option.bind_eq_some_iff.mp H
        obtain ⟨t776, A180, H⟩ := H
        replace H : (if t776 = true then (some ([] : List Int)) else (if x11_2 ≤ (l3.length : Int) then ((spec_isIn.f k2 (l3.take (x11_2 : Int).toNat) (rd l3 x11_2)).bind fun t779 => (if t779 = true then (some ([] : List Int)) else (spec_AdmitTasks.l0 k2 l0 l1 l2 l3 a4 (wrap64 (x11_2 + 1))))) else (none))) = some r := H
        have A18 := Aside0.mk A180
        clear A180
        by_cases c19 : t776 = true
        ·subst c19
         have H1 : (some ([] : List Int)) = some r := by rw [if_pos rfl] at H; exact H
         clear H
         have H := H1
         clear H1
         obtain rfl := Option.some.inj H
         have p775 : 0 ≤ (x11_2 : Int) := of_decide_eq_true (by first | (with_reducible assumption) | assumption)
         have q775 : x11_2 < (l3.length : Int) := of_decide_eq_true (by first | (with_reducible assumption) | assumption)
         obtain ⟨ad775, e775, hx775_0⟩ := Kd.at_int HR3.out x11_2 p775 q775
         cases e775
         replace hx775_0 := (HB.out.cell (World.block_lt_of_cell? w _ hx775_0)).trans hx775_0
         replace p775 := eq_true p775
         replace q775 := eq_true q775
         iterate 7 (first | go_quiet (first | (go_at_call 45; (with_reducible refine (spec_isIn.calls k2 _ _ l2 (rd l3 x11_2) true _ ?side1 ?side2 A18.out).mono ?_); (case side1 => repeat (first | exact (Kd.C_below HR2.out HB.out) | (with_reducible refine Kd.C_alloc ?_ _) | (with_reducible refine Kd.C_drewN ?_ _) | (with_reducible refine Kd.C_drew ?_))); (case side2 => exact HC2.out); rintro e w' ⟨rfl, ⟨nd, rfl⟩⟩; (try first | exact ⟨rfl, _, World.drewN_drewN _ _ _⟩ | exact ⟨rfl, _, Eq.trans (World.drewN_drewN _ _ _) (congrArg (World.drewN _) (Nat.add_assoc _ _ _))⟩))) | go_wp2_with (first | (go_at_call 45; (with_reducible refine (spec_isIn.calls k2 _ _ l2 (rd l3 x11_2) true _ ?side1 ?side2 A18.out).mono ?_); (case side1 => repeat (first | exact (Kd.C_below HR2.out HB.out) | (with_reducible refine Kd.C_alloc ?_ _) | (with_reducible refine Kd.C_drewN ?_ _) | (with_reducible refine Kd.C_drew ?_))); (case side2 => exact HC2.out); rintro e w' ⟨rfl, ⟨nd, rfl⟩⟩; (try first | exact ⟨rfl, _, World.drewN_drewN _ _ _⟩ | exact ⟨rfl, _, Eq.trans (World.drewN_drewN _ _ _) (congrArg (World.drewN _) (Nat.add_assoc _ _ _))⟩))) | skip)
         go_ret
         exact ⟨_, by first | rfl | (simp [errW_none, errW_some] <;> rfl) | (simp [*, errW_none, errW_some] <;> rfl), by first | exact Kd.R_nil _ _ _ _ _ | exact Kd.N_nil _ _ _ _ _ | exact Kd.V_nil _ _ _ _ _ | exact Kd.Q_nil _ _ _ _ _ | exact Kd.S_nil _ _ _ _ _, by repeat (first | (with_reducible first | exact HB.out | apply below_alloc | apply pw_below_drewN | apply below_drew1) | exact HB.out)⟩
        ·replace c19 := Bool.eq_false_iff.mpr c19
         subst c19
         have H1 : (if x11_2 ≤ (l3.length : Int) then ((spec_isIn.f k2 (l3.take (x11_2 : Int).toNat) (rd l3 x11_2)).bind fun t779 => (if t779 = true then (some ([] : List Int)) else (spec_AdmitTasks.l0 k2 l0 l1 l2 l3 a4 (wrap64 (x11_2 + 1))))) else (none)) = some r := by rw [if_neg (show ¬ (false = true) by decide)] at H; exact H
         clear H
         have H := H1
         clear H1
         have c20b0 := eq_true (of_decide_eq_true (by first | (with_reducible assumption) | assumption) : 0 ≤ x11_2)
         by_cases c21 : x11_2 ≤ (l3.length : Int)
         ·rw [if_pos c21] at H
          have c21b0 := eq_true c21
          have c21b1 : decide (x11_2 ≤ (l3.length : Int)) = true := decide_eq_true c21
          clear c21
          replace H := Option.bind_eq_some_iff.mp H
          obtain ⟨t779, A220, H⟩ := H
          replace H : (if t779 = true then (some ([] : List Int)) else (spec_AdmitTasks.l0 k2 l0 l1 l2 l3 a4 (wrap64 (x11_2 + 1)))) = some r := H
          have A22 := Aside0.mk A220
          clear A220
          by_cases c23 : t779 = true
          ·subst c23
           have H1 : (some ([] : List Int)) = some r := by rw [if_pos rfl] at H; exact H
           clear H
           have H := H1
           clear H1
           obtain rfl := Option.some.inj H
           have p775 : 0 ≤ (x11_2 : Int) := of_decide_eq_true (by first | (with_reducible assumption) | assumption)
           have q775 : x11_2 < (l3.length : Int) := of_decide_eq_true (by first | (with_reducible assumption) | assumption)
           obtain ⟨ad775, e775, hx775_0⟩ := Kd.at_int HR3.out x11_2 p775 q775
           cases e775
           replace hx775_0 := (HB.out.cell (World.block_lt_of_cell? w _ hx775_0)).trans hx775_0
           replace p775 := eq_true p775
           replace q775 := eq_true q775
           obtain ⟨i024, hi024, _, hsz24, _⟩ := info_parts info3; obtain ⟨hcut24, hA24, hC24⟩ := print_take_of (P := Tryd.prog) (Value.int .i64) 0 24 3 .i64 Tryd.underlying24 hi024 hsz24 (some ad775) c3 l3 x11_2 (of_decide_eq_true (by first | (with_reducible assumption) | assumption)) (of_decide_eq_true (by first | (with_reducible assumption) | assumption)) HC3.out; have HR777 := Aside0.mk (Kd.C_of_reads (h1 := fun _ => rfl) (hA24 _ (Kd.reads_of_C HR3.out))); have HC777 := Aside0.mk hC24; clear hA24 hC24 hi024 hsz24; have p778 : 0 ≤ (x11_2 : Int) := of_decide_eq_true (by first | (with_reducible assumption) | assumption); have q778 : x11_2 < (l3.length : Int) := of_decide_eq_true (by first | (with_reducible assumption) | assumption); obtain ⟨ad778, e778, hx778_0⟩ := Kd.at_int HR3.out x11_2 p778 q778; obtain rfl : ad775 = ad778 := (by injection e778); replace hx778_0 := (HB.out.cell (World.block_lt_of_cell? w _ hx778_0)).trans hx778_0; replace p778 := eq_true p778; replace q778 := eq_true q778
           iterate 7 (first | go_quiet (first | (go_at_call 45; (with_reducible refine (spec_isIn.calls k2 _ _ l2 (rd l3 x11_2) false _ ?side1 ?side2 A18.out).mono ?_); (case side1 => repeat (first | exact (Kd.C_below HR2.out HB.out) | (with_reducible refine Kd.C_alloc ?_ _) | (with_reducible refine Kd.C_drewN ?_ _) | (with_reducible refine Kd.C_drew ?_))); (case side2 => exact HC2.out); rintro e w' ⟨rfl, ⟨nd, rfl⟩⟩; (try first | exact ⟨rfl, _, World.drewN_drewN _ _ _⟩ | exact ⟨rfl, _, Eq.trans (World.drewN_drewN _ _ _) (congrArg (World.drewN _) (Nat.add_assoc _ _ _))⟩)) | (go_at_call 45; (try rw [show (x11_2 : Int).toNat = (l3.take (x11_2 : Int).toNat).length from by (rw [List.length_take]; have h1_ := of_eq_true p778; have h2_ := of_eq_true q778; omega)]); (with_reducible refine (spec_isIn.calls k2 _ _ (l3.take (x11_2 : Int).toNat) (rd l3 x11_2) true _ ?side1 ?side2 A22.out).mono ?_); (case side1 => repeat (first | exact (Kd.C_below HR777.out (by repeat (first | (with_reducible first | exact HB.out | apply below_alloc | apply pw_below_drewN | apply below_drew1) | exact HB.out))) | (with_reducible refine Kd.C_alloc ?_ _) | (with_reducible refine Kd.C_drewN ?_ _) | (with_reducible refine Kd.C_drew ?_))); (case side2 => exact HC777.out); rintro e w' ⟨rfl, ⟨nd, rfl⟩⟩; (try first | exact ⟨rfl, _, World.drewN_drewN _ _ _⟩ | exact ⟨rfl, _, Eq.trans (World.drewN_drewN _ _ _) (congrArg (World.drewN _) (Nat.add_assoc _ _ _))⟩))) | go_wp2_with (first | (go_at_call 45; (with_reducible refine (spec_isIn.calls k2 _ _ l2 (rd l3 x11_2) false _ ?side1 ?side2 A18.out).mono ?_); (case side1 => repeat (first | exact (Kd.C_below HR2.out HB.out) | (with_reducible refine Kd.C_alloc ?_ _) | (with_reducible refine Kd.C_drewN ?_ _) | (with_reducible refine Kd.C_drew ?_))); (case side2 => exact HC2.out); rintro e w' ⟨rfl, ⟨nd, rfl⟩⟩; (try first | exact ⟨rfl, _, World.drewN_drewN _ _ _⟩ | exact ⟨rfl, _, Eq.trans (World.drewN_drewN _ _ _) (congrArg (World.drewN _) (Nat.add_assoc _ _ _))⟩)) | (go_at_call 45; (try rw [show (x11_2 : Int).toNat = (l3.take (x11_2 : Int).toNat).length from by (rw [List.length_take]; have h1_ := of_eq_true p778; have h2_ := of_eq_true q778; omega)]); (with_reducible refine (spec_isIn.calls k2 _ _ (l3.take (x11_2 : Int).toNat) (rd l3 x11_2) true _ ?side1 ?side2 A22.out).mono ?_); (case side1 => repeat (first | exact (Kd.C_below HR777.out (by repeat (first | (with_reducible first | exact HB.out | apply below_alloc | apply pw_below_drewN | apply below_drew1) | exact HB.out))) | (with_reducible refine Kd.C_alloc ?_ _) | (with_reducible refine Kd.C_drewN ?_ _) | (with_reducible refine Kd.C_drew ?_))); (case side2 => exact HC777.out); rintro e w' ⟨rfl, ⟨nd, rfl⟩⟩; (try first | exact ⟨rfl, _, World.drewN_drewN _ _ _⟩ | exact ⟨rfl, _, Eq.trans (World.drewN_drewN _ _ _) (congrArg (World.drewN _) (Nat.add_assoc _ _ _))⟩))) | skip)
           go_ret
           exact ⟨_, by first | rfl | (simp [errW_none, errW_some] <;> rfl) | (simp [*, errW_none, errW_some] <;> rfl), by first | exact Kd.R_nil _ _ _ _ _ | exact Kd.N_nil _ _ _ _ _ | exact Kd.V_nil _ _ _ _ _ | exact Kd.Q_nil _ _ _ _ _ | exact Kd.S_nil _ _ _ _ _, by repeat (first | (with_reducible first | exact HB.out | apply below_alloc | apply pw_below_drewN | apply below_drew1) | exact HB.out)⟩
          ·replace c23 := Bool.eq_false_iff.mpr c23
           subst c23
           have H1 : (spec_AdmitTasks.l0 k2 l0 l1 l2 l3 a4 (wrap64 (x11_2 + 1))) = some r := by rw [if_neg (show ¬ (false = true) by decide)] at H; exact H
           clear H
           have H := H1
           clear H1
           have H' := Aside0.mk H
           clear H
           have p775 : 0 ≤ (x11_2 : Int) := of_decide_eq_true (by first | (with_reducible assumption) | assumption)
           have q775 : x11_2 < (l3.length : Int) := of_decide_eq_true (by first | (with_reducible assumption) | assumption)
           obtain ⟨ad775, e775, hx775_0⟩ := Kd.at_int HR3.out x11_2 p775 q775
           cases e775
           replace hx775_0 := (HB.out.cell (World.block_lt_of_cell? w _ hx775_0)).trans hx775_0
           replace p775 := eq_true p775
           replace q775 := eq_true q775
           obtain ⟨i025, hi025, _, hsz25, _⟩ := info_parts info3; obtain ⟨hcut25, hA25, hC25⟩ := print_take_of (P := Tryd.prog) (Value.int .i64) 0 24 3 .i64 Tryd.underlying24 hi025 hsz25 (some ad775) c3 l3 x11_2 (of_decide_eq_true (by first | (with_reducible assumption) | assumption)) (of_decide_eq_true (by first | (with_reducible assumption) | assumption)) HC3.out; have HR777 := Aside0.mk (Kd.C_of_reads (h1 := fun _ => rfl) (hA25 _ (Kd.reads_of_C HR3.out))); have HC777 := Aside0.mk hC25; clear hA25 hC25 hi025 hsz25; have p778 : 0 ≤ (x11_2 : Int) := of_decide_eq_true (by first | (with_reducible assumption) | assumption); have q778 : x11_2 < (l3.length : Int) := of_decide_eq_true (by first | (with_reducible assumption) | assumption); obtain ⟨ad778, e778, hx778_0⟩ := Kd.at_int HR3.out x11_2 p778 q778; obtain rfl : ad775 = ad778 := (by injection e778); replace hx778_0 := (HB.out.cell (World.block_lt_of_cell? w _ hx778_0)).trans hx778_0; replace p778 := eq_true p778; replace q778 := eq_true q778
           iterate 7 (first | go_quiet (first | (go_at_call 45; (with_reducible refine (spec_isIn.calls k2 _ _ l2 (rd l3 x11_2) false _ ?side1 ?side2 A18.out).mono ?_); (case side1 => repeat (first | exact (Kd.C_below HR2.out HB.out) | (with_reducible refine Kd.C_alloc ?_ _) | (with_reducible refine Kd.C_drewN ?_ _) | (with_reducible refine Kd.C_drew ?_))); (case side2 => exact HC2.out); rintro e w' ⟨rfl, ⟨nd, rfl⟩⟩; (try first | exact ⟨rfl, _, World.drewN_drewN _ _ _⟩ | exact ⟨rfl, _, Eq.trans (World.drewN_drewN _ _ _) (congrArg (World.drewN _) (Nat.add_assoc _ _ _))⟩)) | (go_at_call 45; (try rw [show (x11_2 : Int).toNat = (l3.take (x11_2 : Int).toNat).length from by (rw [List.length_take]; have h1_ := of_eq_true p778; have h2_ := of_eq_true q778; omega)]); (with_reducible refine (spec_isIn.calls k2 _ _ (l3.take (x11_2 : Int).toNat) (rd l3 x11_2) false _ ?side1 ?side2 A22.out).mono ?_); (case side1 => repeat (first | exact (Kd.C_below HR777.out (by repeat (first | (with_reducible first | exact HB.out | apply below_alloc | apply pw_below_drewN | apply below_drew1) | exact HB.out))) | (with_reducible refine Kd.C_alloc ?_ _) | (with_reducible refine Kd.C_drewN ?_ _) | (with_reducible refine Kd.C_drew ?_))); (case side2 => exact HC777.out); rintro e w' ⟨rfl, ⟨nd, rfl⟩⟩; (try first | exact ⟨rfl, _, World.drewN_drewN _ _ _⟩ | exact ⟨rfl, _, Eq.trans (World.drewN_drewN _ _ _) (congrArg (World.drewN _) (Nat.add_assoc _ _ _))⟩))) | go_wp2_with (first | (go_at_call 45; (with_reducible refine (spec_isIn.calls k2 _ _ l2 (rd l3 x11_2) false _ ?side1 ?side2 A18.out).mono ?_); (case side1 => repeat (first | exact (Kd.C_below HR2.out HB.out) | (with_reducible refine Kd.C_alloc ?_ _) | (with_reducible refine Kd.C_drewN ?_ _) | (with_reducible refine Kd.C_drew ?_))); (case side2 => exact HC2.out); rintro e w' ⟨rfl, ⟨nd, rfl⟩⟩; (try first | exact ⟨rfl, _, World.drewN_drewN _ _ _⟩ | exact ⟨rfl, _, Eq.trans (World.drewN_drewN _ _ _) (congrArg (World.drewN _) (Nat.add_assoc _ _ _))⟩)) | (go_at_call 45; (try rw [show (x11_2 : Int).toNat = (l3.take (x11_2 : Int).toNat).length from by (rw [List.length_take]; have h1_ := of_eq_true p778; have h2_ := of_eq_true q778; omega)]); (with_reducible refine (spec_isIn.calls k2 _ _ (l3.take (x11_2 : Int).toNat) (rd l3 x11_2) false _ ?side1 ?side2 A22.out).mono ?_); (case side1 => repeat (first | exact (Kd.C_below HR777.out (by repeat (first | (with_reducible first | exact HB.out | apply below_alloc | apply pw_below_drewN | apply below_drew1) | exact HB.out))) | (with_reducible refine Kd.C_alloc ?_ _) | (with_reducible refine Kd.C_drewN ?_ _) | (with_reducible refine Kd.C_drew ?_))); (case side2 => exact HC777.out); rintro e w' ⟨rfl, ⟨nd, rfl⟩⟩; (try first | exact ⟨rfl, _, World.drewN_drewN _ _ _⟩ | exact ⟨rfl, _, Eq.trans (World.drewN_drewN _ _ _) (congrArg (World.drewN _) (Nat.add_assoc _ _ _))⟩))) | skip)
           go_roundg k2
           case measure => have := HJ5.out; have := HK2.out; omega
           case rel => exact ⟨(wrap64 (x11_2 + 1)), (by first | rfl | (simp; done) | (simp [*]; done)), H', ⟨by have := HJ5.out; have := HK2.out; omega⟩, ⟨by repeat (first | (with_reducible first | exact HB.out | apply below_alloc | apply pw_below_drewN | apply below_drew1) | exact HB.out)⟩⟩
         ·rw [if_neg c21] at H
          exact absurd H (by simp)
       ·rw [if_neg c17] at H
        exact absurd H (by simp)
      ·rw [if_neg c16] at H
       have c16b0 : decide (x11_2 < (l3.length : Int)) = false := decide_eq_false c16
       clear c16
       replace H := Option.bind_eq_some_iff.mp H
       obtain ⟨t772, A260, H⟩ := H
       replace H : (some t772) = some r := H
       have A26 := Aside0.mk A260
       clear A260
       obtain rfl := Option.some.inj H
       iterate 7 (first | go_quiet (first | (go_at_call 75; (with_reducible refine (spec_admit.calls k2 _ _ l0 _ _ l1 _ _ l2 _ _ l3 a4 t772 _ ?side1 ?side2 ?side3 ?side4 ?side5 ?side6 ?side7 ?side8 A26.out).mono ?_); (case side1 => repeat (first | exact (Kd.C_below HR0.out HB.out) | (with_reducible refine Kd.C_alloc ?_ _) | (with_reducible refine Kd.C_drewN ?_ _) | (with_reducible refine Kd.C_drew ?_))); (case side2 => exact HC0.out); (case side3 => repeat (first | exact (Kd.C_below HR1.out HB.out) | (with_reducible refine Kd.C_alloc ?_ _) | (with_reducible refine Kd.C_drewN ?_ _) | (with_reducible refine Kd.C_drew ?_))); (case side4 => exact HC1.out); (case side5 => repeat (first | exact (Kd.C_below HR2.out HB.out) | (with_reducible refine Kd.C_alloc ?_ _) | (with_reducible refine Kd.C_drewN ?_ _) | (with_reducible refine Kd.C_drew ?_))); (case side6 => exact HC2.out); (case side7 => repeat (first | exact (Kd.C_below HR3.out HB.out) | (with_reducible refine Kd.C_alloc ?_ _) | (with_reducible refine Kd.C_drewN ?_ _) | (with_reducible refine Kd.C_drew ?_))); (case side8 => exact HC3.out); rintro e w27 ⟨v773, rfl, ho0, hb⟩; have n0_ := Aside0.mk (Kd.R_lower ho0 (below_size (by repeat (first | (with_reducible first | exact HB.out | apply below_alloc | apply pw_below_drewN | apply below_drew1) | exact HB.out)))); have n1_ := Aside0.mk (below_step (by repeat (first | (with_reducible first | exact HB.out | apply below_alloc | apply pw_below_drewN | apply below_drew1) | exact HB.out)) hb); clear HB; have HO774 := n0_; have HB := n1_; clear n0_ n1_; (try clear hb); (try clear hb2); (try clear hk); (try clear hi); (try clear ho0))) | go_wp2_with (first | (go_at_call 75; (with_reducible refine (spec_admit.calls k2 _ _ l0 _ _ l1 _ _ l2 _ _ l3 a4 t772 _ ?side1 ?side2 ?side3 ?side4 ?side5 ?side6 ?side7 ?side8 A26.out).mono ?_); (case side1 => repeat (first | exact (Kd.C_below HR0.out HB.out) | (with_reducible refine Kd.C_alloc ?_ _) | (with_reducible refine Kd.C_drewN ?_ _) | (with_reducible refine Kd.C_drew ?_))); (case side2 => exact HC0.out); (case side3 => repeat (first | exact (Kd.C_below HR1.out HB.out) | (with_reducible refine Kd.C_alloc ?_ _) | (with_reducible refine Kd.C_drewN ?_ _) | (with_reducible refine Kd.C_drew ?_))); (case side4 => exact HC1.out); (case side5 => repeat (first | exact (Kd.C_below HR2.out HB.out) | (with_reducible refine Kd.C_alloc ?_ _) | (with_reducible refine Kd.C_drewN ?_ _) | (with_reducible refine Kd.C_drew ?_))); (case side6 => exact HC2.out); (case side7 => repeat (first | exact (Kd.C_below HR3.out HB.out) | (with_reducible refine Kd.C_alloc ?_ _) | (with_reducible refine Kd.C_drewN ?_ _) | (with_reducible refine Kd.C_drew ?_))); (case side8 => exact HC3.out); rintro e w27 ⟨v773, rfl, ho0, hb⟩; have n0_ := Aside0.mk (Kd.R_lower ho0 (below_size (by repeat (first | (with_reducible first | exact HB.out | apply below_alloc | apply pw_below_drewN | apply below_drew1) | exact HB.out)))); have n1_ := Aside0.mk (below_step (by repeat (first | (with_reducible first | exact HB.out | apply below_alloc | apply pw_below_drewN | apply below_drew1) | exact HB.out)) hb); clear HB; have HO774 := n0_; have HB := n1_; clear n0_ n1_; (try clear hb); (try clear hb2); (try clear hk); (try clear hi); (try clear ho0))) | skip)
       go_ret
       exact ⟨_, by first | rfl | (simp [errW_none, errW_some] <;> rfl) | (simp [*, errW_none, errW_some] <;> rfl), by (with_reducible repeat (first | apply Kd.R_alloc | apply Kd.R_drewN | apply Kd.R_drew)); exact HO774.out, by repeat (first | (with_reducible first | exact HB.out | apply below_alloc | apply pw_below_drewN | apply below_drew1) | exact HB.out)⟩
end Go.Proofs.YtajapkjplgaigaaDoor.P
end
section
namespace Go.Proofs.YtajapkjplgaigaaDoor.P
open Go.RowKit Go.Proofs.YtajapkjplgaigaaDoorW.PrintWords Go.Proofs.YtajapkjplgaigaaDoorW.PrintLast Go.Proofs.YtajapkjplgaigaaDoorW.PrintMore
attribute [local go_sem] max2_int min2_int max_two min_two max_three min_three max_four min_four   -- for this text's walks alone
set_option linter.unusedVariables false
set_option linter.unusedSimpArgs false
def laws_FnAdmitTasksFirst.j0 : Nat → List (S39) → List Int → List Int → List Int → Int → List Int → Bool → Option (Bool)
 | 0, _, _, _, _, _, _, _ => none
 | k + 1, x3, x4, x5, x6, x7, x8, x45 => if x45 = true then ((spec_AdmitTasks.f k x3 x4 x5 x6 x7).bind fun t800 => ((laws_equalInts.f k x8 t800).bind fun t803 => (some t803))) else ((impl_AdmitTasks.f x3 x4 ([] : List Int) x6 x7).bind fun t804 => (if (t804.length : Int) > 0 then (if 0 < (t804.length : Int) then (if 0 < (x6.length : Int) then (if (rd t804 0) = (rd x6 0) then (some (decide ((t804.length : Int) ≤ x7))) else (some false)) else (none)) else (none)) else (some false)))
def laws_FnAdmitTasksFirst.f (k : Nat) (l0 : List Int) : Option (Bool) := if (l0.length : Int) > 1048576 then (some true) else ((spec_DrawAdmitTasks.f k l0).bind fun bt780 => ((impl_AdmitTasks.f bt780.1 bt780.2.1 bt780.2.2.1 bt780.2.2.2.1 bt780.2.2.2.2).bind fun t793 => ((spec_AdmitTasks.f k bt780.1 bt780.2.1 bt780.2.2.1 bt780.2.2.2.1 bt780.2.2.2.2).bind fun t796 => ((laws_equalInts.f k t793 t796).bind fun t799 => (if t799 = true then (if (t793.length : Int) = 0 then (laws_FnAdmitTasksFirst.j0 k bt780.1 bt780.2.1 bt780.2.2.1 bt780.2.2.2.1 bt780.2.2.2.2 t793 true) else (laws_FnAdmitTasksFirst.j0 k bt780.1 bt780.2.1 bt780.2.2.1 bt780.2.2.2.1 bt780.2.2.2.2 t793 ((bt780.2.2.2.1.length : Int) == 0))) else (laws_FnAdmitTasksFirst.j0 k bt780.1 bt780.2.1 bt780.2.2.1 bt780.2.2.2.1 bt780.2.2.2.2 t793 true))))))
set_option maxHeartbeats 8000000 in
set_option maxRecDepth 100000 in
theorem laws_FnAdmitTasksFirst.calls (k : Nat) (A0 : Option Addr) (c0 : Nat) (l0 : List Int) (r : Bool) (w : World) (hr0 : Kd.C (Kd.int .u8) w A0 l0.length l0) (hc0 : l0.length ≤ c0) (h : laws_FnAdmitTasksFirst.f k l0 = some r) (hTab0 : TabOK w) :
  Calls Tryd.prog 7 #[.slice A0 l0.length c0] w fun e w' => e = .returned (.bool r) ∧ Below w.heap.size w w' := by
 have hTab := Aside0.mk hTab0
 clear hTab0
 have HR0 := Aside0.mk hr0
 have HC0 := Aside0.mk hc0
 clear hr0 hc0
 have HB := Aside0.mk (Below.refl w.heap.size w)
 have H : (if (l0.length : Int) > 1048576 then (some true) else ((spec_DrawAdmitTasks.f k l0).bind fun bt780 => ((impl_AdmitTasks.f bt780.1 bt780.2.1 bt780.2.2.1 bt780.2.2.2.1 bt780.2.2.2.2).bind fun t793 => ((spec_AdmitTasks.f k bt780.1 bt780.2.1 bt780.2.2.1 bt780.2.2.2.1 bt780.2.2.2.2).bind fun t796 => ((laws_equalInts.f k t793 t796).bind fun t799 => (if t799 = true then (if (t793.length : Int) = 0 then (laws_FnAdmitTasksFirst.j0 k bt780.1 bt780.2.1 bt780.2.2.1 bt780.2.2.2.1 bt780.2.2.2.2 t793 true) else (laws_FnAdmitTasksFirst.j0 k bt780.1 bt780.2.1 bt780.2.2.1 bt780.2.2.2.1 bt780.2.2.2.2 t793 ((bt780.2.2.2.1.length : Int) == 0))) else (laws_FnAdmitTasksFirst.j0 k bt780.1 bt780.2.1 bt780.2.2.1 bt780.2.2.2.1 bt780.2.2.2.2 t793 true))))))) = some r := h
 clear h
 by_cases c2 : (l0.length : Int) > 1048576
 ·rw [if_pos c2] at H
  have c2b0 : decide (1048576 < (l0.length : Int)) = true := decide_eq_true c2
  have c2b1 : decide (1048576 < l0.length) = true := decide_eq_true (by omega)
  clear c2
  obtain rfl := Option.some.inj H
  go_enter Tryd.func7, Tryd.ntmps7
  go_wp2
  repeat (go_quiet (fail); try go_wp2)
  go_ret
  exact ⟨by first | rfl | (simp [errW_none, errW_some] <;> rfl) | (simp [*, errW_none, errW_some] <;> rfl), by repeat (first | (with_reducible first | exact HB.out | apply below_alloc | apply pw_below_drewN | apply below_drew1) | exact HB.out)⟩
 ·rw [if_neg c2] at H
  have c2b0 : decide (1048576 < (l0.length : Int)) = false := decide_eq_false c2
  have c2b1 : decide (1048576 < l0.length) = false := decide_eq_false (by omega)
  clear c2
  replace H := Option.bind_eq_some_iff.mp H
  obtain ⟨⟨t780, t783, t786, t789, t792⟩, A30, H⟩ := H
  replace H : ((impl_AdmitTasks.f t780 t783 t786 t789 t792).bind fun t793 => ((spec_AdmitTasks.f k t780 t783 t786 t789 t792).bind fun t796 => ((laws_equalInts.f k t793 t796).bind fun t799 => (if t799 = true then (if (t793.length : Int) = 0 then (laws_FnAdmitTasksFirst.j0 k t780 t783 t786 t789 t792 t793 true) else (laws_FnAdmitTasksFirst.j0 k t780 t783 t786 t789 t792 t793 ((t789.length : Int) == 0))) else (laws_FnAdmitTasksFirst.j0 k t780 t783 t786 t789 t792 t793 true))))) = some r := H
  have A3 := Aside0.mk A30
  clear A30
  replace H := Option.bind_eq_some_iff.mp H
  obtain ⟨t793, A40, H⟩ := H
  replace H : ((spec_AdmitTasks.f k t780 t783 t786 t789 t792).bind fun t796 => ((laws_equalInts.f k t793 t796).bind fun t799 => (if t799 = true then (if (t793.length : Int) = 0 then (laws_FnAdmitTasksFirst.j0 k t780 t783 t786 t789 t792 t793 true) else (laws_FnAdmitTasksFirst.j0 k t780 t783 t786 t789 t792 t793 ((t789.length : Int) == 0))) else (laws_FnAdmitTasksFirst.j0 k t780 t783 t786 t789 t792 t793 true)))) = some r := H
  have A4 := Aside0.mk A40
  clear A40
  have HC5 := Aside0.mk H
  clear H
  go_enter Tryd.func7, Tryd.ntmps7
  go_upto_region 5 with (first | (go_at_call 33; (with_reducible refine (spec_DrawAdmitTasks.calls k _ _ l0 t780 t783 t786 t789 t792 _ ?side1 ?side2 A3.out).mono ?_); (case side1 => repeat (first | exact HR0.out | (with_reducible refine Kd.C_alloc ?_ _) | (with_reducible refine Kd.C_drewN ?_ _) | (with_reducible refine Kd.C_drew ?_))); (case side2 => exact HC0.out); rintro e w6 ⟨v781, v784, v787, v790, rfl, ho0, ho1, ho2, ho3, hb⟩; have n0_ := Aside0.mk (Kd.N_lower (Kd.N_mono (ok' := fun k_ => some k_ ≠ (v784 : Value).ownBlock ∧ some k_ ≠ (v787 : Value).ownBlock ∧ some k_ ≠ (v790 : Value).ownBlock) ho0 (fun k_ hk_ => ⟨hk_.2.1, hk_.2.2.1, hk_.2.2.2⟩)) (below_size (by repeat (first | (with_reducible first | exact HB.out | apply below_alloc | apply pw_below_drewN | apply below_drew1) | exact HB.out)))); have n1_ := Aside0.mk (Kd.Q_lower (Kd.Q_mono (ok' := fun k_ => some k_ ≠ (v787 : Value).ownBlock ∧ some k_ ≠ (v790 : Value).ownBlock) ho1 (fun _ hk_ => hk_.2)) (below_size (by repeat (first | (with_reducible first | exact HB.out | apply below_alloc | apply pw_below_drewN | apply below_drew1) | exact HB.out)))); have n2_ := Aside0.mk (Kd.R_lower (Kd.R_mono (ok' := fun k_ => some k_ ≠ (v784 : Value).ownBlock ∧ some k_ ≠ (v790 : Value).ownBlock) ho2 (fun _ hk_ => hk_.2)) (below_size (by repeat (first | (with_reducible first | exact HB.out | apply below_alloc | apply pw_below_drewN | apply below_drew1) | exact HB.out)))); have n3_ := Aside0.mk (Kd.Q_lower (Kd.Q_mono (ok' := fun k_ => some k_ ≠ (v784 : Value).ownBlock ∧ some k_ ≠ (v787 : Value).ownBlock) ho3 (fun _ hk_ => hk_.2)) (below_size (by repeat (first | (with_reducible first | exact HB.out | apply below_alloc | apply pw_below_drewN | apply below_drew1) | exact HB.out)))); have n4_ := Aside0.mk (below_step (by repeat (first | (with_reducible first | exact HB.out | apply below_alloc | apply pw_below_drewN | apply below_drew1) | exact HB.out)) hb); clear HB; have HO782 := n0_; have HO785 := n1_; have HO788 := n2_; have HO791 := n3_; have HB := n4_; clear n0_ n1_ n2_ n3_ n4_; (try clear hb); (try clear hb2); (try clear hk); (try clear hi); (try clear ho0); (try clear ho1); (try clear ho2); (try clear ho3); obtain ⟨Ao7, co7, eo7⟩ := Kd.N_slice HO782.out; subst eo7; obtain ⟨Ao8, co8, eo8, _⟩ := Kd.Q_slice HO785.out; subst eo8; obtain ⟨Ao9, co9, eo9⟩ := Kd.R_slice HO788.out; subst eo9; obtain ⟨Ao10, co10, eo10, _⟩ := Kd.Q_slice HO791.out; subst eo10) | (go_at_call 34; (with_reducible refine (impl_AdmitTasks.calls _ _ t780 _ _ t783 _ _ t786 _ _ t789 t792 t793 _ ?side1 ?side2 ?side3 ?side4 ?side5 ?side6 ?side7 ?side8 A4.out ?sideTab).mono ?_); (case sideTab => exact TabOK.below hTab.out (by repeat (first | (with_reducible first | exact HB.out | apply below_alloc | apply pw_below_drewN | apply below_drew1) | exact HB.out))); (case side1 => repeat (first | exact (Kd.N_reads' HO782.out).2.2 | (with_reducible refine Kd.C_alloc ?_ _) | (with_reducible refine Kd.C_drewN ?_ _) | (with_reducible refine Kd.C_drew ?_))); (case side2 => exact (Kd.N_reads' HO782.out).2.1); (case side3 => repeat (first | exact (Kd.Q_reads' HO785.out).2.2 | (with_reducible refine Kd.C_alloc ?_ _) | (with_reducible refine Kd.C_drewN ?_ _) | (with_reducible refine Kd.C_drew ?_))); (case side4 => exact (Kd.Q_reads' HO785.out).2.1); (case side5 => repeat (first | exact (Kd.R_reads' HO788.out).2.2 | (with_reducible refine Kd.C_alloc ?_ _) | (with_reducible refine Kd.C_drewN ?_ _) | (with_reducible refine Kd.C_drew ?_))); (case side6 => exact (Kd.R_reads' HO788.out).2.1); (case side7 => repeat (first | exact (Kd.Q_reads' HO791.out).2.2 | (with_reducible refine Kd.C_alloc ?_ _) | (with_reducible refine Kd.C_drewN ?_ _) | (with_reducible refine Kd.C_drew ?_))); (case side8 => exact (Kd.Q_reads' HO791.out).2.1); rintro e w11 ⟨v794, rfl, ho0, hb⟩; have n0_ := Aside0.mk (Kd.N_elder' (by (with_reducible repeat (first | apply Kd.N_alloc | apply Kd.N_drewN | apply Kd.N_drew)); exact HO782.out) (Kd.R_base ho0) hb); have n1_ := Aside0.mk (Kd.Q_elder' (by (with_reducible repeat (first | apply Kd.Q_alloc | apply Kd.Q_drewN | apply Kd.Q_drew)); exact HO785.out) (Kd.R_base ho0) hb); have n2_ := Aside0.mk (Kd.R_elder' (by (with_reducible repeat (first | apply Kd.R_alloc | apply Kd.R_drewN | apply Kd.R_drew)); exact HO788.out) (Kd.R_base ho0) hb); have n3_ := Aside0.mk (Kd.Q_elder' (by (with_reducible repeat (first | apply Kd.Q_alloc | apply Kd.Q_drewN | apply Kd.Q_drew)); exact HO791.out) (Kd.R_base ho0) hb); have n4_ := Aside0.mk (Kd.R_lower (Kd.R_new' (Kd.R_new' (Kd.R_new' ho0 (Kd.Q_lt (by (with_reducible repeat (first | apply Kd.Q_alloc | apply Kd.Q_drewN | apply Kd.Q_drew)); exact HO785.out))) (Kd.R_lt (by (with_reducible repeat (first | apply Kd.R_alloc | apply Kd.R_drewN | apply Kd.R_drew)); exact HO788.out))) (Kd.Q_lt (by (with_reducible repeat (first | apply Kd.Q_alloc | apply Kd.Q_drewN | apply Kd.Q_drew)); exact HO791.out))) (below_size (by repeat (first | (with_reducible first | exact HB.out | apply below_alloc | apply pw_below_drewN | apply below_drew1) | exact HB.out)))); have n5_ := Aside0.mk (below_step (by repeat (first | (with_reducible first | exact HB.out | apply below_alloc | apply pw_below_drewN | apply below_drew1) | exact HB.out)) hb); clear HO782; clear HO785; clear HO788; clear HO791; clear HB; have HO782 := n0_; have HO785 := n1_; have HO788 := n2_; have HO791 := n3_; have HO795 := n4_; have HB := n5_; clear n0_ n1_ n2_ n3_ n4_ n5_; (try clear hb); (try clear hb2); (try clear hk); (try clear hi); (try clear ho0)))
  repeat (go_quiet (first | (go_at_call 33; (with_reducible refine (spec_DrawAdmitTasks.calls k _ _ l0 t780 t783 t786 t789 t792 _ ?side1 ?side2 A3.out).mono ?_); (case side1 => repeat (first | exact HR0.out | (with_reducible refine Kd.C_alloc ?_ _) | (with_reducible refine Kd.C_drewN ?_ _) | (with_reducible refine Kd.C_drew ?_))); (case side2 => exact HC0.out); rintro e w6 ⟨v781, v784, v787, v790, rfl, ho0, ho1, ho2, ho3, hb⟩; have n0_ := Aside0.mk (Kd.N_lower (Kd.N_mono (ok' := fun k_ => some k_ ≠ (v784 : Value).ownBlock ∧ some k_ ≠ (v787 : Value).ownBlock ∧ some k_ ≠ (v790 : Value).ownBlock) ho0 (fun k_ hk_ => ⟨hk_.2.1, hk_.2.2.1, hk_.2.2.2⟩)) (below_size (by repeat (first | (with_reducible first | exact HB.out | apply below_alloc | apply pw_below_drewN | apply below_drew1) | exact HB.out)))); have n1_ := Aside0.mk (Kd.Q_lower (Kd.Q_mono (ok' := fun k_ => some k_ ≠ (v787 : Value).ownBlock ∧ some k_ ≠ (v790 : Value).ownBlock) ho1 (fun _ hk_ => hk_.2)) (below_size (by repeat (first | (with_reducible first | exact HB.out | apply below_alloc | apply pw_below_drewN | apply below_drew1) | exact HB.out)))); have n2_ := Aside0.mk (Kd.R_lower (Kd.R_mono (ok' := fun k_ => some k_ ≠ (v784 : Value).ownBlock ∧ some k_ ≠ (v790 : Value).ownBlock) ho2 (fun _ hk_ => hk_.2)) (below_size (by repeat (first | (with_reducible first | exact HB.out | apply below_alloc | apply pw_below_drewN | apply below_drew1) | exact HB.out)))); have n3_ := Aside0.mk (Kd.Q_lower (Kd.Q_mono (ok' := fun k_ => some k_ ≠ (v784 : Value).ownBlock ∧ some k_ ≠ (v787 : Value).ownBlock) ho3 (fun _ hk_ => hk_.2)) (below_size (by repeat (first | (with_reducible first | exact HB.out | apply below_alloc | apply pw_below_drewN | apply below_drew1) | exact HB.out)))); have n4_ := Aside0.mk (below_step (by repeat (first | (with_reducible first | exact HB.out | apply below_alloc | apply pw_below_drewN | apply below_drew1) | exact HB.out)) hb); clear HB; have HO782 := n0_; have HO785 := n1_; have HO788 := n2_; have HO791 := n3_; have HB := n4_; clear n0_ n1_ n2_ n3_ n4_; (try clear hb); (try clear hb2); (try clear hk); (try clear hi); (try clear ho0); (try clear ho1); (try clear ho2); (try clear ho3); obtain ⟨Ao7, co7, eo7⟩ := Kd.N_slice HO782.out; subst eo7; obtain ⟨Ao8, co8, eo8, _⟩ := Kd.Q_slice HO785.out; subst eo8; obtain ⟨Ao9, co9, eo9⟩ := Kd.R_slice HO788.out; subst eo9; obtain ⟨Ao10, co10, eo10, _⟩ := Kd.Q_slice HO791.out; subst eo10) | (go_at_call 34; (with_reducible refine (impl_AdmitTasks.calls _ _ t780 _ _ t783 _ _ t786 _ _ t789 t792 t793 _ ?side1 ?side2 ?side3 ?side4 ?side5 ?side6 ?side7 ?side8 A4.out ?sideTab).mono ?_); (case sideTab => exact TabOK.below hTab.out (by repeat (first | (with_reducible first | exact HB.out | apply below_alloc | apply pw_below_drewN | apply below_drew1) | exact HB.out))); (case side1 => repeat (first | exact (Kd.N_reads' HO782.out).2.2 | (with_reducible refine Kd.C_alloc ?_ _) | (with_reducible refine Kd.C_drewN ?_ _) | (with_reducible refine Kd.C_drew ?_))); (case side2 => exact (Kd.N_reads' HO782.out).2.1); (case side3 => repeat (first | exact (Kd.Q_reads' HO785.out).2.2 | (with_reducible refine Kd.C_alloc ?_ _) | (with_reducible refine Kd.C_drewN ?_ _) | (with_reducible refine Kd.C_drew ?_))); (case side4 => exact (Kd.Q_reads' HO785.out).2.1); (case side5 => repeat (first | exact (Kd.R_reads' HO788.out).2.2 | (with_reducible refine Kd.C_alloc ?_ _) | (with_reducible refine Kd.C_drewN ?_ _) | (with_reducible refine Kd.C_drew ?_))); (case side6 => exact (Kd.R_reads' HO788.out).2.1); (case side7 => repeat (first | exact (Kd.Q_reads' HO791.out).2.2 | (with_reducible refine Kd.C_alloc ?_ _) | (with_reducible refine Kd.C_drewN ?_ _) | (with_reducible refine Kd.C_drew ?_))); (case side8 => exact (Kd.Q_reads' HO791.out).2.1); rintro e w11 ⟨v794, rfl, ho0, hb⟩; have n0_ := Aside0.mk (Kd.N_elder' (by (with_reducible repeat (first | apply Kd.N_alloc | apply Kd.N_drewN | apply Kd.N_drew)); exact HO782.out) (Kd.R_base ho0) hb); have n1_ := Aside0.mk (Kd.Q_elder' (by (with_reducible repeat (first | apply Kd.Q_alloc | apply Kd.Q_drewN | apply Kd.Q_drew)); exact HO785.out) (Kd.R_base ho0) hb); have n2_ := Aside0.mk (Kd.R_elder' (by (with_reducible repeat (first | apply Kd.R_alloc | apply Kd.R_drewN | apply Kd.R_drew)); exact HO788.out) (Kd.R_base ho0) hb); have n3_ := Aside0.mk (Kd.Q_elder' (by (with_reducible repeat (first | apply Kd.Q_alloc | apply Kd.Q_drewN | apply Kd.Q_drew)); exact HO791.out) (Kd.R_base ho0) hb); have n4_ := Aside0.mk (Kd.R_lower (Kd.R_new' (Kd.R_new' (Kd.R_new' ho0 (Kd.Q_lt (by (with_reducible repeat (first | apply Kd.Q_alloc | apply Kd.Q_drewN | apply Kd.Q_drew)); exact HO785.out))) (Kd.R_lt (by (with_reducible repeat (first | apply Kd.R_alloc | apply Kd.R_drewN | apply Kd.R_drew)); exact HO788.out))) (Kd.Q_lt (by (with_reducible repeat (first | apply Kd.Q_alloc | apply Kd.Q_drewN | apply Kd.Q_drew)); exact HO791.out))) (below_size (by repeat (first | (with_reducible first | exact HB.out | apply below_alloc | apply pw_below_drewN | apply below_drew1) | exact HB.out)))); have n5_ := Aside0.mk (below_step (by repeat (first | (with_reducible first | exact HB.out | apply below_alloc | apply pw_below_drewN | apply below_drew1) | exact HB.out)) hb); clear HO782; clear HO785; clear HO788; clear HO791; clear HB; have HO782 := n0_; have HO785 := n1_; have HO788 := n2_; have HO791 := n3_; have HO795 := n4_; have HB := n5_; clear n0_ n1_ n2_ n3_ n4_ n5_; (try clear hb); (try clear hb2); (try clear hk); (try clear hi); (try clear ho0))); go_upto_region 5 with (first | (go_at_call 33; (with_reducible refine (spec_DrawAdmitTasks.calls k _ _ l0 t780 t783 t786 t789 t792 _ ?side1 ?side2 A3.out).mono ?_); (case side1 => repeat (first | exact HR0.out | (with_reducible refine Kd.C_alloc ?_ _) | (with_reducible refine Kd.C_drewN ?_ _) | (with_reducible refine Kd.C_drew ?_))); (case side2 => exact HC0.out); rintro e w6 ⟨v781, v784, v787, v790, rfl, ho0, ho1, ho2, ho3, hb⟩; have n0_ := Aside0.mk (Kd.N_lower (Kd.N_mono (ok' := fun k_ => some k_ ≠ (v784 : Value).ownBlock ∧ some k_ ≠ (v787 : Value).ownBlock ∧ some k_ ≠ (v790 : Value).ownBlock) ho0 (fun k_ hk_ => ⟨hk_.2.1, hk_.2.2.1, hk_.2.2.2⟩)) (below_size (by repeat (first | (with_reducible first | exact HB.out | apply below_alloc | apply pw_below_drewN | apply below_drew1) | exact HB.out)))); have n1_ := Aside0.mk (Kd.Q_lower (Kd.Q_mono (ok' := fun k_ => some k_ ≠ (v787 : Value).ownBlock ∧ some k_ ≠ (v790 : Value).ownBlock) ho1 (fun _ hk_ => hk_.2)) (below_size (by repeat (first | (with_reducible first | exact HB.out | apply below_alloc | apply pw_below_drewN | apply below_drew1) | exact HB.out)))); have n2_ := Aside0.mk (Kd.R_lower (Kd.R_mono (ok' := fun k_ => some k_ ≠ (v784 : Value).ownBlock ∧ some k_ ≠ (v790 : Value).ownBlock) ho2 (fun _ hk_ => hk_.2)) (below_size (by repeat (first | (with_reducible first | exact HB.out | apply below_alloc | apply pw_below_drewN | apply below_drew1) | exact HB.out)))); have n3_ := Aside0.mk (Kd.Q_lower (Kd.Q_mono (ok' := fun k_ => some k_ ≠ (v784 : Value).ownBlock ∧ some k_ ≠ (v787 : Value).ownBlock) ho3 (fun _ hk_ => hk_.2)) (below_size (by repeat (first | (with_reducible first | exact HB.out | apply below_alloc | apply pw_below_drewN | apply below_drew1) | exact HB.out)))); have n4_ := Aside0.mk (below_step (by repeat (first | (with_reducible first | exact HB.out | apply below_alloc | apply pw_below_drewN | apply below_drew1) | exact HB.out)) hb); clear HB; have HO782 := n0_; have HO785 := n1_; have HO788 := n2_; have HO791 := n3_; have HB := n4_; clear n0_ n1_ n2_ n3_ n4_; (try clear hb); (try clear hb2); (try clear hk); (try clear hi); (try clear ho0); (try clear ho1); (try clear ho2); (try clear ho3); obtain ⟨Ao7, co7, eo7⟩ := Kd.N_slice HO782.out; subst eo7; obtain ⟨Ao8, co8, eo8, _⟩ := Kd.Q_slice HO785.out; subst eo8; obtain ⟨Ao9, co9, eo9⟩ := Kd.R_slice HO788.out; subst eo9; obtain ⟨Ao10, co10, eo10, _⟩ := Kd.Q_slice HO791.out; subst eo10) | (go_at_call 34; (with_reducible refine (impl_AdmitTasks.calls _ _ t780 _ _ t783 _ _ t786 _ _ t789 t792 t793 _ ?side1 ?side2 ?side3 ?side4 ?side5 ?side6 ?side7 ?side8 A4.out ?sideTab).mono ?_); (case sideTab => exact TabOK.below hTab.out (by repeat (first | (with_reducible first | exact HB.out | apply below_alloc | apply pw_below_drewN | apply below_drew1) | exact HB.out))); (case side1 => repeat (first | exact (Kd.N_reads' HO782.out).2.2 | (with_reducible refine Kd.C_alloc ?_ _) | (with_reducible refine Kd.C_drewN ?_ _) | (with_reducible refine Kd.C_drew ?_))); (case side2 => exact (Kd.N_reads' HO782.out).2.1); (case side3 => repeat (first | exact (Kd.Q_reads' HO785.out).2.2 | (with_reducible refine Kd.C_alloc ?_ _) | (with_reducible refine Kd.C_drewN ?_ _) | (with_reducible refine Kd.C_drew ?_))); (case side4 => exact (Kd.Q_reads' HO785.out).2.1); (case side5 => repeat (first | exact (Kd.R_reads' HO788.out).2.2 | (with_reducible refine Kd.C_alloc ?_ _) | (with_reducible refine Kd.C_drewN ?_ _) | (with_reducible refine Kd.C_drew ?_))); (case side6 => exact (Kd.R_reads' HO788.out).2.1); (case side7 => repeat (first | exact (Kd.Q_reads' HO791.out).2.2 | (with_reducible refine Kd.C_alloc ?_ _) | (with_reducible refine Kd.C_drewN ?_ _) | (with_reducible refine Kd.C_drew ?_))); (case side8 => exact (Kd.Q_reads' HO791.out).2.1); rintro e w11 ⟨v794, rfl, ho0, hb⟩; have n0_ := Aside0.mk (Kd.N_elder' (by (with_reducible repeat (first | apply Kd.N_alloc | apply Kd.N_drewN | apply Kd.N_drew)); exact HO782.out) (Kd.R_base ho0) hb); have n1_ := Aside0.mk (Kd.Q_elder' (by (with_reducible repeat (first | apply Kd.Q_alloc | apply Kd.Q_drewN | apply Kd.Q_drew)); exact HO785.out) (Kd.R_base ho0) hb); have n2_ := Aside0.mk (Kd.R_elder' (by (with_reducible repeat (first | apply Kd.R_alloc | apply Kd.R_drewN | apply Kd.R_drew)); exact HO788.out) (Kd.R_base ho0) hb); have n3_ := Aside0.mk (Kd.Q_elder' (by (with_reducible repeat (first | apply Kd.Q_alloc | apply Kd.Q_drewN | apply Kd.Q_drew)); exact HO791.out) (Kd.R_base ho0) hb); have n4_ := Aside0.mk (Kd.R_lower (Kd.R_new' (Kd.R_new' (Kd.R_new' ho0 (Kd.Q_lt (by (with_reducible repeat (first | apply Kd.Q_alloc | apply Kd.Q_drewN | apply Kd.Q_drew)); exact HO785.out))) (Kd.R_lt (by (with_reducible repeat (first | apply Kd.R_alloc | apply Kd.R_drewN | apply Kd.R_drew)); exact HO788.out))) (Kd.Q_lt (by (with_reducible repeat (first | apply Kd.Q_alloc | apply Kd.Q_drewN | apply Kd.Q_drew)); exact HO791.out))) (below_size (by repeat (first | (with_reducible first | exact HB.out | apply below_alloc | apply pw_below_drewN | apply below_drew1) | exact HB.out)))); have n5_ := Aside0.mk (below_step (by repeat (first | (with_reducible first | exact HB.out | apply below_alloc | apply pw_below_drewN | apply below_drew1) | exact HB.out)) hb); clear HO782; clear HO785; clear HO788; clear HO791; clear HB; have HO782 := n0_; have HO785 := n1_; have HO788 := n2_; have HO791 := n3_; have HO795 := n4_; have HB := n5_; clear n0_ n1_ n2_ n3_ n4_ n5_; (try clear hb); (try clear hb2); (try clear hk); (try clear hi); (try clear ho0))))
  (try simp only [Act.put, List.setIfInBounds_toArray, List.set_cons_zero, List.set_cons_succ])
  go_cut [45] (fun v45 wc => ∃ (kq : Nat) (x45_4 : Bool), v45 = .bool x45_4 ∧ Aside0 (laws_FnAdmitTasksFirst.j0 kq t780 t783 t786 t789 t792 t793 x45_4 = some r) ∧ Aside0 (kq ≤ k) ∧ Aside0 (Kd.N k39 39 wc w.heap.size (fun k_ => some k_ ≠ ((.slice Ao8 t783.length co8) : Value).ownBlock ∧ some k_ ≠ ((.slice Ao9 t786.length co9) : Value).ownBlock ∧ some k_ ≠ ((.slice Ao10 t789.length co10) : Value).ownBlock ∧ some k_ ≠ (v794 : Value).ownBlock) (.slice Ao7 t780.length co7) t780) ∧ Aside0 (Kd.Q (Kd.int .i64) 3 wc w.heap.size (fun k_ => some k_ ≠ ((.slice Ao9 t786.length co9) : Value).ownBlock ∧ some k_ ≠ ((.slice Ao10 t789.length co10) : Value).ownBlock ∧ some k_ ≠ (v794 : Value).ownBlock) (.slice Ao8 t783.length co8) t783) ∧ Aside0 (Kd.R (Kd.int .i64) 3 wc w.heap.size (fun k_ => some k_ ≠ ((.slice Ao8 t783.length co8) : Value).ownBlock ∧ some k_ ≠ ((.slice Ao10 t789.length co10) : Value).ownBlock ∧ some k_ ≠ (v794 : Value).ownBlock) (.slice Ao9 t786.length co9) t786) ∧ Aside0 (Kd.Q (Kd.int .i64) 3 wc w.heap.size (fun k_ => some k_ ≠ ((.slice Ao8 t783.length co8) : Value).ownBlock ∧ some k_ ≠ ((.slice Ao9 t786.length co9) : Value).ownBlock ∧ some k_ ≠ (v794 : Value).ownBlock) (.slice Ao10 t789.length co10) t789) ∧ Aside0 (Kd.R (Kd.int .i64) 3 wc w.heap.size (fun k_ => some k_ ≠ ((.slice Ao8 t783.length co8) : Value).ownBlock ∧ some k_ ≠ ((.slice Ao9 t786.length co9) : Value).ownBlock ∧ some k_ ≠ ((.slice Ao10 t789.length co10) : Value).ownBlock) v794 t793) ∧ Aside0 (Below w.heap.size w wc))
  case first =>
   have H := HC5.out
   clear HC5
   replace H := Option.bind_eq_some_iff.mp H
   obtain ⟨t796, A120, H⟩ := H
   replace H : ((laws_equalInts.f k t793 t796).bind fun t799 => (if t799 = true then (if (t793.length : Int) = 0 then (laws_FnAdmitTasksFirst.j0 k t780 t783 t786 t789 t792 t793 true) else (laws_FnAdmitTasksFirst.j0 k t780 t783 t786 t789 t792 t793 ((t789.length : Int) == 0))) else (laws_FnAdmitTasksFirst.j0 k t780 t783 t786 t789 t792 t793 true))) = some r := H
   have A12 := Aside0.mk A120
   clear A120
   replace H := Option.bind_eq_some_iff.mp H
   obtain ⟨t799, A130, H⟩ := H
   replace H : (if t799 = true then (if (t793.length : Int) = 0 then (laws_FnAdmitTasksFirst.j0 k t780 t783 t786 t789 t792 t793 true) else (laws_FnAdmitTasksFirst.j0 k t780 t783 t786 t789 t792 t793 ((t789.length : Int) == 0))) else (laws_FnAdmitTasksFirst.j0 k t780 t783 t786 t789 t792 t793 true)) = some r := H
   have A13 := Aside0.mk A130
   clear A130
   by_cases c14 : t799 = true
   ·subst c14
    have H1 : (if (t793.length : Int) = 0 then (laws_FnAdmitTasksFirst.j0 k t780 t783 t786 t789 t792 t793 true) else (laws_FnAdmitTasksFirst.j0 k t780 t783 t786 t789 t792 t793 ((t789.length : Int) == 0))) = some r := by rw [if_pos rfl] at H; exact H
    clear H
    have H := H1
    clear H1
    by_cases c15 : (t793.length : Int) = 0
    ·rw [if_pos c15] at H
     have c15b0 : ((t793.length : Int) == 0) = true := beq_iff_eq.mpr c15
     have c15b1 : ((t793.length : Int) != 0) = false := bne_eq_false_iff_eq.mpr c15
     clear c15
     (first | rw [c15b0] | (simp only [i64_w, i32_w]; rw [c15b0]) | skip)
     have H' := Aside0.mk H
     clear H
     iterate 7 (first | go_quiet (first | (go_at_call 35; (with_reducible refine (spec_AdmitTasks.calls k _ _ t780 _ _ t783 _ _ t786 _ _ t789 t792 t796 _ ?side1 ?side2 ?side3 ?side4 ?side5 ?side6 ?side7 ?side8 A12.out).mono ?_); (case side1 => repeat (first | exact (Kd.N_reads' HO782.out).2.2 | (with_reducible refine Kd.C_alloc ?_ _) | (with_reducible refine Kd.C_drewN ?_ _) | (with_reducible refine Kd.C_drew ?_))); (case side2 => exact (Kd.N_reads' HO782.out).2.1); (case side3 => repeat (first | exact (Kd.Q_reads' HO785.out).2.2 | (with_reducible refine Kd.C_alloc ?_ _) | (with_reducible refine Kd.C_drewN ?_ _) | (with_reducible refine Kd.C_drew ?_))); (case side4 => exact (Kd.Q_reads' HO785.out).2.1); (case side5 => repeat (first | exact (Kd.R_reads' HO788.out).2.2 | (with_reducible refine Kd.C_alloc ?_ _) | (with_reducible refine Kd.C_drewN ?_ _) | (with_reducible refine Kd.C_drew ?_))); (case side6 => exact (Kd.R_reads' HO788.out).2.1); (case side7 => repeat (first | exact (Kd.Q_reads' HO791.out).2.2 | (with_reducible refine Kd.C_alloc ?_ _) | (with_reducible refine Kd.C_drewN ?_ _) | (with_reducible refine Kd.C_drew ?_))); (case side8 => exact (Kd.Q_reads' HO791.out).2.1); rintro e w16 ⟨v797, rfl, ho0, hb⟩; have n0_ := Aside0.mk (Kd.N_elder' (by (with_reducible repeat (first | apply Kd.N_alloc | apply Kd.N_drewN | apply Kd.N_drew)); exact HO782.out) (Kd.R_base ho0) hb); have n1_ := Aside0.mk (Kd.Q_elder' (by (with_reducible repeat (first | apply Kd.Q_alloc | apply Kd.Q_drewN | apply Kd.Q_drew)); exact HO785.out) (Kd.R_base ho0) hb); have n2_ := Aside0.mk (Kd.R_elder' (by (with_reducible repeat (first | apply Kd.R_alloc | apply Kd.R_drewN | apply Kd.R_drew)); exact HO788.out) (Kd.R_base ho0) hb); have n3_ := Aside0.mk (Kd.Q_elder' (by (with_reducible repeat (first | apply Kd.Q_alloc | apply Kd.Q_drewN | apply Kd.Q_drew)); exact HO791.out) (Kd.R_base ho0) hb); have n4_ := Aside0.mk (Kd.R_elder' (by (with_reducible repeat (first | apply Kd.R_alloc | apply Kd.R_drewN | apply Kd.R_drew)); exact HO795.out) (Kd.R_base ho0) hb); have n5_ := Aside0.mk (Kd.R_lower (Kd.R_new' (Kd.R_new' (Kd.R_new' (Kd.R_new' ho0 (Kd.Q_lt (by (with_reducible repeat (first | apply Kd.Q_alloc | apply Kd.Q_drewN | apply Kd.Q_drew)); exact HO785.out))) (Kd.R_lt (by (with_reducible repeat (first | apply Kd.R_alloc | apply Kd.R_drewN | apply Kd.R_drew)); exact HO788.out))) (Kd.Q_lt (by (with_reducible repeat (first | apply Kd.Q_alloc | apply Kd.Q_drewN | apply Kd.Q_drew)); exact HO791.out))) (Kd.R_lt (by (with_reducible repeat (first | apply Kd.R_alloc | apply Kd.R_drewN | apply Kd.R_drew)); exact HO795.out))) (below_size (by repeat (first | (with_reducible first | exact HB.out | apply below_alloc | apply pw_below_drewN | apply below_drew1) | exact HB.out)))); have n6_ := Aside0.mk (below_step (by repeat (first | (with_reducible first | exact HB.out | apply below_alloc | apply pw_below_drewN | apply below_drew1) | exact HB.out)) hb); clear HO782; clear HO785; clear HO788; clear HO791; clear HO795; clear HB; have HO782 := n0_; have HO785 := n1_; have HO788 := n2_; have HO791 := n3_; have HO795 := n4_; have HO798 := n5_; have HB := n6_; clear n0_ n1_ n2_ n3_ n4_ n5_ n6_; (try clear hb); (try clear hb2); (try clear hk); (try clear hi); (try clear ho0); obtain ⟨Ao17, co17, eo17⟩ := Kd.R_slice HO795.out; subst eo17; obtain ⟨Ao18, co18, eo18⟩ := Kd.R_slice HO798.out; subst eo18) | (go_at_call 19; (with_reducible refine (laws_equalInts.calls k _ _ t793 _ _ t796 true _ ?side1 ?side2 ?side3 ?side4 A13.out).mono ?_); (case side1 => repeat (first | exact (Kd.R_reads' HO795.out).2.2 | (with_reducible refine Kd.C_alloc ?_ _) | (with_reducible refine Kd.C_drewN ?_ _) | (with_reducible refine Kd.C_drew ?_))); (case side2 => exact (Kd.R_reads' HO795.out).2.1); (case side3 => repeat (first | exact (Kd.R_reads' HO798.out).2.2 | (with_reducible refine Kd.C_alloc ?_ _) | (with_reducible refine Kd.C_drewN ?_ _) | (with_reducible refine Kd.C_drew ?_))); (case side4 => exact (Kd.R_reads' HO798.out).2.1); rintro e w' ⟨rfl, ⟨nd, rfl⟩⟩; (try first | exact ⟨rfl, _, World.drewN_drewN _ _ _⟩ | exact ⟨rfl, _, Eq.trans (World.drewN_drewN _ _ _) (congrArg (World.drewN _) (Nat.add_assoc _ _ _))⟩))) | go_wp2_with (first | (go_at_call 35; (with_reducible refine (spec_AdmitTasks.calls k _ _ t780 _ _ t783 _ _ t786 _ _ t789 t792 t796 _ ?side1 ?side2 ?side3 ?side4 ?side5 ?side6 ?side7 ?side8 A12.out).mono ?_); (case side1 => repeat (first | exact (Kd.N_reads' HO782.out).2.2 | (with_reducible refine Kd.C_alloc ?_ _) | (with_reducible refine Kd.C_drewN ?_ _) | (with_reducible refine Kd.C_drew ?_))); (case side2 => exact (Kd.N_reads' HO782.out).2.1); (case side3 => repeat (first | exact (Kd.Q_reads' HO785.out).2.2 | (with_reducible refine Kd.C_alloc ?_ _) | (with_reducible refine Kd.C_drewN ?_ _) | (with_reducible refine Kd.C_drew ?_))); (case side4 => exact (Kd.Q_reads' HO785.out).2.1); (case side5 => repeat (first | exact (Kd.R_reads' HO788.out).2.2 | (with_reducible refine Kd.C_alloc ?_ _) | (with_reducible refine Kd.C_drewN ?_ _) | (with_reducible refine Kd.C_drew ?_))); (case side6 => exact (Kd.R_reads' HO788.out).2.1); (case side7 => repeat (first | exact (Kd.Q_reads' HO791.out).2.2 | (with_reducible refine Kd.C_alloc ?_ _) | (with_reducible refine Kd.C_drewN ?_ _) | (with_reducible refine Kd.C_drew ?_))); (case side8 => exact (Kd.Q_reads' HO791.out).2.1); rintro e w16 ⟨v797, rfl, ho0, hb⟩; have n0_ := Aside0.mk (Kd.N_elder' (by (with_reducible repeat (first | apply Kd.N_alloc | apply Kd.N_drewN | apply Kd.N_drew)); exact HO782.out) (Kd.R_base ho0) hb); have n1_ := Aside0.mk (Kd.Q_elder' (by (with_reducible repeat (first | apply Kd.Q_alloc | apply Kd.Q_drewN | apply Kd.Q_drew)); exact HO785.out) (Kd.R_base ho0) hb); have n2_ := Aside0.mk (Kd.R_elder' (by (with_reducible repeat (first | apply Kd.R_alloc | apply Kd.R_drewN | apply Kd.R_drew)); exact HO788.out) (Kd.R_base ho0) hb); have n3_ := Aside0.mk (Kd.Q_elder' (by (with_reducible repeat (first | apply Kd.Q_alloc | apply Kd.Q_drewN | apply Kd.Q_drew)); exact HO791.out) (Kd.R_base ho0) hb); have n4_ := Aside0.mk (Kd.R_elder' (by (with_reducible repeat (first | apply Kd.R_alloc | apply Kd.R_drewN | apply Kd.R_drew)); exact HO795.out) (Kd.R_base ho0) hb); have n5_ := Aside0.mk (Kd.R_lower (Kd.R_new' (Kd.R_new' (Kd.R_new' (Kd.R_new' ho0 (Kd.Q_lt (by (with_reducible repeat (first | apply Kd.Q_alloc | apply Kd.Q_drewN | apply Kd.Q_drew)); exact HO785.out))) (Kd.R_lt (by (with_reducible repeat (first | apply Kd.R_alloc | apply Kd.R_drewN | apply Kd.R_drew)); exact HO788.out))) (Kd.Q_lt (by (with_reducible repeat (first | apply Kd.Q_alloc | apply Kd.Q_drewN | apply Kd.Q_drew)); exact HO791.out))) (Kd.R_lt (by (with_reducible repeat (first | apply Kd.R_alloc | apply Kd.R_drewN | apply Kd.R_drew)); exact HO795.out))) (below_size (by repeat (first | (with_reducible first | exact HB.out | apply below_alloc | apply pw_below_drewN | apply below_drew1) | exact HB.out)))); have n6_ := Aside0.mk (below_step (by repeat (first | (with_reducible first | exact HB.out | apply below_alloc | apply pw_below_drewN | apply below_drew1) | exact HB.out)) hb); clear HO782; clear HO785; clear HO788; clear HO791; clear HO795; clear HB; have HO782 := n0_; have HO785 := n1_; have HO788 := n2_; have HO791 := n3_; have HO795 := n4_; have HO798 := n5_; have HB := n6_; clear n0_ n1_ n2_ n3_ n4_ n5_ n6_; (try clear hb); (try clear hb2); (try clear hk); (try clear hi); (try clear ho0); obtain ⟨Ao17, co17, eo17⟩ := Kd.R_slice HO795.out; subst eo17; obtain ⟨Ao18, co18, eo18⟩ := Kd.R_slice HO798.out; subst eo18) | (go_at_call 19; (with_reducible refine (laws_equalInts.calls k _ _ t793 _ _ t796 true _ ?side1 ?side2 ?side3 ?side4 A13.out).mono ?_); (case side1 => repeat (first | exact (Kd.R_reads' HO795.out).2.2 | (with_reducible refine Kd.C_alloc ?_ _) | (with_reducible refine Kd.C_drewN ?_ _) | (with_reducible refine Kd.C_drew ?_))); (case side2 => exact (Kd.R_reads' HO795.out).2.1); (case side3 => repeat (first | exact (Kd.R_reads' HO798.out).2.2 | (with_reducible refine Kd.C_alloc ?_ _) | (with_reducible refine Kd.C_drewN ?_ _) | (with_reducible refine Kd.C_drew ?_))); (case side4 => exact (Kd.R_reads' HO798.out).2.1); rintro e w' ⟨rfl, ⟨nd, rfl⟩⟩; (try first | exact ⟨rfl, _, World.drewN_drewN _ _ _⟩ | exact ⟨rfl, _, Eq.trans (World.drewN_drewN _ _ _) (congrArg (World.drewN _) (Nat.add_assoc _ _ _))⟩))) | skip)
     go_meet
     case rel => exact ⟨_, (true), (by first | rfl | (simp; done) | (simp [*]; done)), H', ⟨by first | omega | exact Nat.le_refl _⟩, ⟨by (with_reducible repeat (first | apply Kd.N_alloc | apply Kd.N_drewN | apply Kd.N_drew)); exact Kd.N_mono HO782.out (fun _ hk => ⟨hk.1.1.1, ⟨hk.1.1.2.1, ⟨hk.1.1.2.2, hk.1.2⟩⟩⟩)⟩, ⟨by (with_reducible repeat (first | apply Kd.Q_alloc | apply Kd.Q_drewN | apply Kd.Q_drew)); exact Kd.Q_mono HO785.out (fun _ hk => ⟨hk.1.1.1, ⟨hk.1.1.2, hk.1.2⟩⟩)⟩, ⟨by (with_reducible repeat (first | apply Kd.R_alloc | apply Kd.R_drewN | apply Kd.R_drew)); exact Kd.R_mono HO788.out (fun _ hk => ⟨hk.1.1.1, ⟨hk.1.1.2, hk.1.2⟩⟩)⟩, ⟨by (with_reducible repeat (first | apply Kd.Q_alloc | apply Kd.Q_drewN | apply Kd.Q_drew)); exact Kd.Q_mono HO791.out (fun _ hk => ⟨hk.1.1.1, ⟨hk.1.1.2, hk.1.2⟩⟩)⟩, ⟨by (with_reducible repeat (first | apply Kd.R_alloc | apply Kd.R_drewN | apply Kd.R_drew)); exact Kd.R_mono HO795.out (fun _ hk => ⟨hk.1.1.1.2, ⟨hk.1.1.2, hk.1.2⟩⟩)⟩, ⟨by repeat (first | (with_reducible first | exact HB.out | apply below_alloc | apply pw_below_drewN | apply below_drew1) | exact HB.out)⟩⟩
    ·rw [if_neg c15] at H
     have c15b0 : ((t793.length : Int) == 0) = false := beq_eq_false_iff_ne.mpr c15
     have c15b1 : ((t793.length : Int) != 0) = true := bne_iff_ne.mpr c15
     have c15b2 : ¬ (t793 = []) := fun h_ => c15 (by rw [h_]; rfl)
     (first | rw [c15b0] | (simp only [i64_w, i32_w]; rw [c15b0]) | skip)
     have H' := Aside0.mk H
     clear H
     iterate 7 (first | go_quiet (first | (go_at_call 35; (with_reducible refine (spec_AdmitTasks.calls k _ _ t780 _ _ t783 _ _ t786 _ _ t789 t792 t796 _ ?side1 ?side2 ?side3 ?side4 ?side5 ?side6 ?side7 ?side8 A12.out).mono ?_); (case side1 => repeat (first | exact (Kd.N_reads' HO782.out).2.2 | (with_reducible refine Kd.C_alloc ?_ _) | (with_reducible refine Kd.C_drewN ?_ _) | (with_reducible refine Kd.C_drew ?_))); (case side2 => exact (Kd.N_reads' HO782.out).2.1); (case side3 => repeat (first | exact (Kd.Q_reads' HO785.out).2.2 | (with_reducible refine Kd.C_alloc ?_ _) | (with_reducible refine Kd.C_drewN ?_ _) | (with_reducible refine Kd.C_drew ?_))); (case side4 => exact (Kd.Q_reads' HO785.out).2.1); (case side5 => repeat (first | exact (Kd.R_reads' HO788.out).2.2 | (with_reducible refine Kd.C_alloc ?_ _) | (with_reducible refine Kd.C_drewN ?_ _) | (with_reducible refine Kd.C_drew ?_))); (case side6 => exact (Kd.R_reads' HO788.out).2.1); (case side7 => repeat (first | exact (Kd.Q_reads' HO791.out).2.2 | (with_reducible refine Kd.C_alloc ?_ _) | (with_reducible refine Kd.C_drewN ?_ _) | (with_reducible refine Kd.C_drew ?_))); (case side8 => exact (Kd.Q_reads' HO791.out).2.1); rintro e w19 ⟨v797, rfl, ho0, hb⟩; have n0_ := Aside0.mk (Kd.N_elder' (by (with_reducible repeat (first | apply Kd.N_alloc | apply Kd.N_drewN | apply Kd.N_drew)); exact HO782.out) (Kd.R_base ho0) hb); have n1_ := Aside0.mk (Kd.Q_elder' (by (with_reducible repeat (first | apply Kd.Q_alloc | apply Kd.Q_drewN | apply Kd.Q_drew)); exact HO785.out) (Kd.R_base ho0) hb); have n2_ := Aside0.mk (Kd.R_elder' (by (with_reducible repeat (first | apply Kd.R_alloc | apply Kd.R_drewN | apply Kd.R_drew)); exact HO788.out) (Kd.R_base ho0) hb); have n3_ := Aside0.mk (Kd.Q_elder' (by (with_reducible repeat (first | apply Kd.Q_alloc | apply Kd.Q_drewN | apply Kd.Q_drew)); exact HO791.out) (Kd.R_base ho0) hb); have n4_ := Aside0.mk (Kd.R_elder' (by (with_reducible repeat (first | apply Kd.R_alloc | apply Kd.R_drewN | apply Kd.R_drew)); exact HO795.out) (Kd.R_base ho0) hb); have n5_ := Aside0.mk (Kd.R_lower (Kd.R_new' (Kd.R_new' (Kd.R_new' (Kd.R_new' ho0 (Kd.Q_lt (by (with_reducible repeat (first | apply Kd.Q_alloc | apply Kd.Q_drewN | apply Kd.Q_drew)); exact HO785.out))) (Kd.R_lt (by (with_reducible repeat (first | apply Kd.R_alloc | apply Kd.R_drewN | apply Kd.R_drew)); exact HO788.out))) (Kd.Q_lt (by (with_reducible repeat (first | apply Kd.Q_alloc | apply Kd.Q_drewN | apply Kd.Q_drew)); exact HO791.out))) (Kd.R_lt (by (with_reducible repeat (first | apply Kd.R_alloc | apply Kd.R_drewN | apply Kd.R_drew)); exact HO795.out))) (below_size (by repeat (first | (with_reducible first | exact HB.out | apply below_alloc | apply pw_below_drewN | apply below_drew1) | exact HB.out)))); have n6_ := Aside0.mk (below_step (by repeat (first | (with_reducible first | exact HB.out | apply below_alloc | apply pw_below_drewN | apply below_drew1) | exact HB.out)) hb); clear HO782; clear HO785; clear HO788; clear HO791; clear HO795; clear HB; have HO782 := n0_; have HO785 := n1_; have HO788 := n2_; have HO791 := n3_; have HO795 := n4_; have HO798 := n5_; have HB := n6_; clear n0_ n1_ n2_ n3_ n4_ n5_ n6_; (try clear hb); (try clear hb2); (try clear hk); (try clear hi); (try clear ho0); obtain ⟨Ao20, co20, eo20⟩ := Kd.R_slice HO795.out; subst eo20; obtain ⟨Ao21, co21, eo21⟩ := Kd.R_slice HO798.out; subst eo21) | (go_at_call 19; (with_reducible refine (laws_equalInts.calls k _ _ t793 _ _ t796 true _ ?side1 ?side2 ?side3 ?side4 A13.out).mono ?_); (case side1 => repeat (first | exact (Kd.R_reads' HO795.out).2.2 | (with_reducible refine Kd.C_alloc ?_ _) | (with_reducible refine Kd.C_drewN ?_ _) | (with_reducible refine Kd.C_drew ?_))); (case side2 => exact (Kd.R_reads' HO795.out).2.1); (case side3 => repeat (first | exact (Kd.R_reads' HO798.out).2.2 | (with_reducible refine Kd.C_alloc ?_ _) | (with_reducible refine Kd.C_drewN ?_ _) | (with_reducible refine Kd.C_drew ?_))); (case side4 => exact (Kd.R_reads' HO798.out).2.1); rintro e w' ⟨rfl, ⟨nd, rfl⟩⟩; (try first | exact ⟨rfl, _, World.drewN_drewN _ _ _⟩ | exact ⟨rfl, _, Eq.trans (World.drewN_drewN _ _ _) (congrArg (World.drewN _) (Nat.add_assoc _ _ _))⟩))) | go_wp2_with (first | (go_at_call 35; (with_reducible refine (spec_AdmitTasks.calls k _ _ t780 _ _ t783 _ _ t786 _ _ t789 t792 t796 _ ?side1 ?side2 ?side3 ?side4 ?side5 ?side6 ?side7 ?side8 A12.out).mono ?_); (case side1 => repeat (first | exact (Kd.N_reads' HO782.out).2.2 | (with_reducible refine Kd.C_alloc ?_ _) | (with_reducible refine Kd.C_drewN ?_ _) | (with_reducible refine Kd.C_drew ?_))); (case side2 => exact (Kd.N_reads' HO782.out).2.1); (case side3 => repeat (first | exact (Kd.Q_reads' HO785.out).2.2 | (with_reducible refine Kd.C_alloc ?_ _) | (with_reducible refine Kd.C_drewN ?_ _) | (with_reducible refine Kd.C_drew ?_))); (case side4 => exact (Kd.Q_reads' HO785.out).2.1); (case side5 => repeat (first | exact (Kd.R_reads' HO788.out).2.2 | (with_reducible refine Kd.C_alloc ?_ _) | (with_reducible refine Kd.C_drewN ?_ _) | (with_reducible refine Kd.C_drew ?_))); (case side6 => exact (Kd.R_reads' HO788.out).2.1); (case side7 => repeat (first | exact (Kd.Q_reads' HO791.out).2.2 | (with_reducible refine Kd.C_alloc ?_ _) | (with_reducible refine Kd.C_drewN ?_ _) | (with_reducible refine Kd.C_drew ?_))); (case side8 => exact (Kd.Q_reads' HO791.out).2.1); rintro e w19 ⟨v797, rfl, ho0, hb⟩; have n0_ := Aside0.mk (Kd.N_elder' (by (with_reducible repeat (first | apply Kd.N_alloc | apply Kd.N_drewN | apply Kd.N_drew)); exact HO782.out) (Kd.R_base ho0) hb); have n1_ := Aside0.mk (Kd.Q_elder' (by (with_reducible repeat (first | apply Kd.Q_alloc | apply Kd.Q_drewN | apply Kd.Q_drew)); exact HO785.out) (Kd.R_base ho0) hb); have n2_ := Aside0.mk (Kd.R_elder' (by (with_reducible repeat (first | apply Kd.R_alloc | apply Kd.R_drewN | apply Kd.R_drew)); exact HO788.out) (Kd.R_base ho0) hb); have n3_ := Aside0.mk (Kd.Q_elder' (by (with_reducible repeat (first | apply Kd.Q_alloc | apply Kd.Q_drewN | apply Kd.Q_drew)); exact HO791.out) (Kd.R_base ho0) hb); have n4_ := Aside0.mk (Kd.R_elder' (by (with_reducible repeat (first | apply Kd.R_alloc | apply Kd.R_drewN | apply Kd.R_drew)); exact HO795.out) (Kd.R_base ho0) hb); have n5_ := Aside0.mk (Kd.R_lower (Kd.R_new' (Kd.R_new' (Kd.R_new' (Kd.R_new' ho0 (Kd.Q_lt (by (with_reducible repeat (first | apply Kd.Q_alloc | apply Kd.Q_drewN | apply Kd.Q_drew)); exact HO785.out))) (Kd.R_lt (by (with_reducible repeat (first | apply Kd.R_alloc | apply Kd.R_drewN | apply Kd.R_drew)); exact HO788.out))) (Kd.Q_lt (by (with_reducible repeat (first | apply Kd.Q_alloc | apply Kd.Q_drewN | apply Kd.Q_drew)); exact HO791.out))) (Kd.R_lt (by (with_reducible repeat (first | apply Kd.R_alloc | apply Kd.R_drewN | apply Kd.R_drew)); exact HO795.out))) (below_size (by repeat (first | (with_reducible first | exact HB.out | apply below_alloc | apply pw_below_drewN | apply below_drew1) | exact HB.out)))); have n6_ := Aside0.mk (below_step (by repeat (first | (with_reducible first | exact HB.out | apply below_alloc | apply pw_below_drewN | apply below_drew1) | exact HB.out)) hb); clear HO782; clear HO785; clear HO788; clear HO791; clear HO795; clear HB; have HO782 := n0_; have HO785 := n1_; have HO788 := n2_; have HO791 := n3_; have HO795 := n4_; have HO798 := n5_; have HB := n6_; clear n0_ n1_ n2_ n3_ n4_ n5_ n6_; (try clear hb); (try clear hb2); (try clear hk); (try clear hi); (try clear ho0); obtain ⟨Ao20, co20, eo20⟩ := Kd.R_slice HO795.out; subst eo20; obtain ⟨Ao21, co21, eo21⟩ := Kd.R_slice HO798.out; subst eo21) | (go_at_call 19; (with_reducible refine (laws_equalInts.calls k _ _ t793 _ _ t796 true _ ?side1 ?side2 ?side3 ?side4 A13.out).mono ?_); (case side1 => repeat (first | exact (Kd.R_reads' HO795.out).2.2 | (with_reducible refine Kd.C_alloc ?_ _) | (with_reducible refine Kd.C_drewN ?_ _) | (with_reducible refine Kd.C_drew ?_))); (case side2 => exact (Kd.R_reads' HO795.out).2.1); (case side3 => repeat (first | exact (Kd.R_reads' HO798.out).2.2 | (with_reducible refine Kd.C_alloc ?_ _) | (with_reducible refine Kd.C_drewN ?_ _) | (with_reducible refine Kd.C_drew ?_))); (case side4 => exact (Kd.R_reads' HO798.out).2.1); rintro e w' ⟨rfl, ⟨nd, rfl⟩⟩; (try first | exact ⟨rfl, _, World.drewN_drewN _ _ _⟩ | exact ⟨rfl, _, Eq.trans (World.drewN_drewN _ _ _) (congrArg (World.drewN _) (Nat.add_assoc _ _ _))⟩))) | skip)
     go_meet
     case rel => exact ⟨_, (((t789.length : Int) == 0)), (by first | rfl | (simp; done) | (simp [*]; done)), H', ⟨by first | omega | exact Nat.le_refl _⟩, ⟨by (with_reducible repeat (first | apply Kd.N_alloc | apply Kd.N_drewN | apply Kd.N_drew)); exact Kd.N_mono HO782.out (fun _ hk => ⟨hk.1.1.1, ⟨hk.1.1.2.1, ⟨hk.1.1.2.2, hk.1.2⟩⟩⟩)⟩, ⟨by (with_reducible repeat (first | apply Kd.Q_alloc | apply Kd.Q_drewN | apply Kd.Q_drew)); exact Kd.Q_mono HO785.out (fun _ hk => ⟨hk.1.1.1, ⟨hk.1.1.2, hk.1.2⟩⟩)⟩, ⟨by (with_reducible repeat (first | apply Kd.R_alloc | apply Kd.R_drewN | apply Kd.R_drew)); exact Kd.R_mono HO788.out (fun _ hk => ⟨hk.1.1.1, ⟨hk.1.1.2, hk.1.2⟩⟩)⟩, ⟨by (with_reducible repeat (first | apply Kd.Q_alloc | apply Kd.Q_drewN | apply Kd.Q_drew)); exact Kd.Q_mono HO791.out (fun _ hk => ⟨hk.1.1.1, ⟨hk.1.1.2, hk.1.2⟩⟩)⟩, ⟨by (with_reducible repeat (first | apply Kd.R_alloc | apply Kd.R_drewN | apply Kd.R_drew)); exact Kd.R_mono HO795.out (fun _ hk => ⟨hk.1.1.1.2, ⟨hk.1.1.2, hk.1.2⟩⟩)⟩, ⟨by repeat (first | (with_reducible first | exact HB.out | apply below_alloc | apply pw_below_drewN | apply below_drew1) | exact HB.out)⟩⟩
   ·replace c14 := Bool.eq_false_iff.mpr c14
    subst c14
    have H1 : (laws_FnAdmitTasksFirst.j0 k t780 t783 t786 t789 t792 t793 true) = some r := by rw [if_neg (show ¬ (false = true) by decide)] at H; exact H
    clear H
    have H := H1
    clear H1
    have H' := Aside0.mk H
    clear H
    iterate 7 (first | go_quiet (first | (go_at_call 35; (with_reducible refine (spec_AdmitTasks.calls k _ _ t780 _ _ t783 _ _ t786 _ _ t789 t792 t796 _ ?side1 ?side2 ?side3 ?side4 ?side5 ?side6 ?side7 ?side8 A12.out).mono ?_); (case side1 => repeat (first | exact (Kd.N_reads' HO782.out).2.2 | (with_reducible refine Kd.C_alloc ?_ _) | (with_reducible refine Kd.C_drewN ?_ _) | (with_reducible refine Kd.C_drew ?_))); (case side2 => exact (Kd.N_reads' HO782.out).2.1); (case side3 => repeat (first | exact (Kd.Q_reads' HO785.out).2.2 | (with_reducible refine Kd.C_alloc ?_ _) | (with_reducible refine Kd.C_drewN ?_ _) | (with_reducible refine Kd.C_drew ?_))); (case side4 => exact (Kd.Q_reads' HO785.out).2.1); (case side5 => repeat (first | exact (Kd.R_reads' HO788.out).2.2 | (with_reducible refine Kd.C_alloc ?_ _) | (with_reducible refine Kd.C_drewN ?_ _) | (with_reducible refine Kd.C_drew ?_))); (case side6 => exact (Kd.R_reads' HO788.out).2.1); (case side7 => repeat (first | exact (Kd.Q_reads' HO791.out).2.2 | (with_reducible refine Kd.C_alloc ?_ _) | (with_reducible refine Kd.C_drewN ?_ _) | (with_reducible refine Kd.C_drew ?_))); (case side8 => exact (Kd.Q_reads' HO791.out).2.1); rintro e w22 ⟨v797, rfl, ho0, hb⟩; have n0_ := Aside0.mk (Kd.N_elder' (by (with_reducible repeat (first | apply Kd.N_alloc | apply Kd.N_drewN | apply Kd.N_drew)); exact HO782.out) (Kd.R_base ho0) hb); have n1_ := Aside0.mk (Kd.Q_elder' (by (with_reducible repeat (first | apply Kd.Q_alloc | apply Kd.Q_drewN | apply Kd.Q_drew)); exact HO785.out) (Kd.R_base ho0) hb); have n2_ := Aside0.mk (Kd.R_elder' (by (with_reducible repeat (first | apply Kd.R_alloc | apply Kd.R_drewN | apply Kd.R_drew)); exact HO788.out) (Kd.R_base ho0) hb); have n3_ := Aside0.mk (Kd.Q_elder' (by (with_reducible repeat (first | apply Kd.Q_alloc | apply Kd.Q_drewN | apply Kd.Q_drew)); exact HO791.out) (Kd.R_base ho0) hb); have n4_ := Aside0.mk (Kd.R_elder' (by (with_reducible repeat (first | apply Kd.R_alloc | apply Kd.R_drewN | apply Kd.R_drew)); exact HO795.out) (Kd.R_base ho0) hb); have n5_ := Aside0.mk (Kd.R_lower (Kd.R_new' (Kd.R_new' (Kd.R_new' (Kd.R_new' ho0 (Kd.Q_lt (by (with_reducible repeat (first | apply Kd.Q_alloc | apply Kd.Q_drewN | apply Kd.Q_drew)); exact HO785.out))) (Kd.R_lt (by (with_reducible repeat (first | apply Kd.R_alloc | apply Kd.R_drewN | apply Kd.R_drew)); exact HO788.out))) (Kd.Q_lt (by (with_reducible repeat (first | apply Kd.Q_alloc | apply Kd.Q_drewN | apply Kd.Q_drew)); exact HO791.out))) (Kd.R_lt (by (with_reducible repeat (first | apply Kd.R_alloc | apply Kd.R_drewN | apply Kd.R_drew)); exact HO795.out))) (below_size (by repeat (first | (with_reducible first | exact HB.out | apply below_alloc | apply pw_below_drewN | apply below_drew1) | exact HB.out)))); have n6_ := Aside0.mk (below_step (by repeat (first | (with_reducible first | exact HB.out | apply below_alloc | apply pw_below_drewN | apply below_drew1) | exact HB.out)) hb); clear HO782; clear HO785; clear HO788; clear HO791; clear HO795; clear HB; have HO782 := n0_; have HO785 := n1_; have HO788 := n2_; have HO791 := n3_; have HO795 := n4_; have HO798 := n5_; have HB := n6_; clear n0_ n1_ n2_ n3_ n4_ n5_ n6_; (try clear hb); (try clear hb2); (try clear hk); (try clear hi); (try clear ho0); obtain ⟨Ao23, co23, eo23⟩ := Kd.R_slice HO795.out; subst eo23; obtain ⟨Ao24, co24, eo24⟩ := Kd.R_slice HO798.out; subst eo24) | (go_at_call 19; (with_reducible refine (laws_equalInts.calls k _ _ t793 _ _ t796 false _ ?side1 ?side2 ?side3 ?side4 A13.out).mono ?_); (case side1 => repeat (first | exact (Kd.R_reads' HO795.out).2.2 | (with_reducible refine Kd.C_alloc ?_ _) | (with_reducible refine Kd.C_drewN ?_ _) | (with_reducible refine Kd.C_drew ?_))); (case side2 => exact (Kd.R_reads' HO795.out).2.1); (case side3 => repeat (first | exact (Kd.R_reads' HO798.out).2.2 | (with_reducible refine Kd.C_alloc ?_ _) | (with_reducible refine Kd.C_drewN ?_ _) | (with_reducible refine Kd.C_drew ?_))); (case side4 => exact (Kd.R_reads' HO798.out).2.1); rintro e w' ⟨rfl, ⟨nd, rfl⟩⟩; (try first | exact ⟨rfl, _, World.drewN_drewN _ _ _⟩ | exact ⟨rfl, _, Eq.trans (World.drewN_drewN _ _ _) (congrArg (World.drewN _) (Nat.add_assoc _ _ _))⟩))) | go_wp2_with (first | (go_at_call 35; (with_reducible refine (spec_AdmitTasks.calls k _ _ t780 _ _ t783 _ _ t786 _ _ t789 t792 t796 _ ?side1 ?side2 ?side3 ?side4 ?side5 ?side6 ?side7 ?side8 A12.out).mono ?_); (case side1 => repeat (first | exact (Kd.N_reads' HO782.out).2.2 | (with_reducible refine Kd.C_alloc ?_ _) | (with_reducible refine Kd.C_drewN ?_ _) | (with_reducible refine Kd.C_drew ?_))); (case side2 => exact (Kd.N_reads' HO782.out).2.1); (case side3 => repeat (first | exact (Kd.Q_reads' HO785.out).2.2 | (with_reducible refine Kd.C_alloc ?_ _) | (with_reducible refine Kd.C_drewN ?_ _) | (with_reducible refine Kd.C_drew ?_))); (case side4 => exact (Kd.Q_reads' HO785.out).2.1); (case side5 => repeat (first | exact (Kd.R_reads' HO788.out).2.2 | (with_reducible refine Kd.C_alloc ?_ _) | (with_reducible refine Kd.C_drewN ?_ _) | (with_reducible refine Kd.C_drew ?_))); (case side6 => exact (Kd.R_reads' HO788.out).2.1); (case side7 => repeat (first | exact (Kd.Q_reads' HO791.out).2.2 | (with_reducible refine Kd.C_alloc ?_ _) | (with_reducible refine Kd.C_drewN ?_ _) | (with_reducible refine Kd.C_drew ?_))); (case side8 => exact (Kd.Q_reads' HO791.out).2.1); rintro e w22 ⟨v797, rfl, ho0, hb⟩; have n0_ := Aside0.mk (Kd.N_elder' (by (with_reducible repeat (first | apply Kd.N_alloc | apply Kd.N_drewN | apply Kd.N_drew)); exact HO782.out) (Kd.R_base ho0) hb); have n1_ := Aside0.mk (Kd.Q_elder' (by (with_reducible repeat (first | apply Kd.Q_alloc | apply Kd.Q_drewN | apply Kd.Q_drew)); exact HO785.out) (Kd.R_base ho0) hb); have n2_ := Aside0.mk (Kd.R_elder' (by (with_reducible repeat (first | apply Kd.R_alloc | apply Kd.R_drewN | apply Kd.R_drew)); exact HO788.out) (Kd.R_base ho0) hb); have n3_ := Aside0.mk (Kd.Q_elder' (by (with_reducible repeat (first | apply Kd.Q_alloc | apply Kd.Q_drewN | apply Kd.Q_drew)); exact HO791.out) (Kd.R_base ho0) hb); have n4_ := Aside0.mk (Kd.R_elder' (by (with_reducible repeat (first | apply Kd.R_alloc | apply Kd.R_drewN | apply Kd.R_drew)); exact HO795.out) (Kd.R_base ho0) hb); have n5_ := Aside0.mk (Kd.R_lower (Kd.R_new' (Kd.R_new' (Kd.R_new' (Kd.R_new' ho0 (Kd.Q_lt (by (with_reducible repeat (first | apply Kd.Q_alloc | apply Kd.Q_drewN | apply Kd.Q_drew)); exact HO785.out))) (Kd.R_lt (by (with_reducible repeat (first | apply Kd.R_alloc | apply Kd.R_drewN | apply Kd.R_drew)); exact HO788.out))) (Kd.Q_lt (by (with_reducible repeat (first | apply Kd.Q_alloc | apply Kd.Q_drewN | apply Kd.Q_drew)); exact HO791.out))) (Kd.R_lt (by (with_reducible repeat (first | apply Kd.R_alloc | apply Kd.R_drewN | apply Kd.R_drew)); exact HO795.out))) (below_size (by repeat (first | (with_reducible first | exact HB.out | apply below_alloc | apply pw_below_drewN | apply below_drew1) | exact HB.out)))); have n6_ := Aside0.mk (below_step (by repeat (first | (with_reducible first | exact HB.out | apply below_alloc | apply pw_below_drewN | apply below_drew1) | exact HB.out)) hb); clear HO782; clear HO785; clear HO788; clear HO791; clear HO795; clear HB; have HO782 := n0_; have HO785 := n1_; have HO788 := n2_; have HO791 := n3_; have HO795 := n4_; have HO798 := n5_; have HB := n6_; clear n0_ n1_ n2_ n3_ n4_ n5_ n6_; (try clear hb); (try clear hb2); (try clear hk); (try clear hi); (try clear ho0); obtain ⟨Ao23, co23, eo23⟩ := Kd.R_slice HO795.out; subst eo23; obtain ⟨Ao24, co24, eo24⟩ := Kd.R_slice HO798.out; subst eo24) | (go_at_call 19; (with_reducible refine (laws_equalInts.calls k _ _ t793 _ _ t796 false _ ?side1 ?side2 ?side3 ?side4 A13.out).mono ?_); (case side1 => repeat (first | exact (Kd.R_reads' HO795.out).2.2 | (with_reducible refine Kd.C_alloc ?_ _) | (with_reducible refine Kd.C_drewN ?_ _) | (with_reducible refine Kd.C_drew ?_))); (case side2 => exact (Kd.R_reads' HO795.out).2.1); (case side3 => repeat (first | exact (Kd.R_reads' HO798.out).2.2 | (with_reducible refine Kd.C_alloc ?_ _) | (with_reducible refine Kd.C_drewN ?_ _) | (with_reducible refine Kd.C_drew ?_))); (case side4 => exact (Kd.R_reads' HO798.out).2.1); rintro e w' ⟨rfl, ⟨nd, rfl⟩⟩; (try first | exact ⟨rfl, _, World.drewN_drewN _ _ _⟩ | exact ⟨rfl, _, Eq.trans (World.drewN_drewN _ _ _) (congrArg (World.drewN _) (Nat.add_assoc _ _ _))⟩))) | skip)
    go_meet
    case rel => exact ⟨_, (true), (by first | rfl | (simp; done) | (simp [*]; done)), H', ⟨by first | omega | exact Nat.le_refl _⟩, ⟨by (with_reducible repeat (first | apply Kd.N_alloc | apply Kd.N_drewN | apply Kd.N_drew)); exact Kd.N_mono HO782.out (fun _ hk => ⟨hk.1.1.1, ⟨hk.1.1.2.1, ⟨hk.1.1.2.2, hk.1.2⟩⟩⟩)⟩, ⟨by (with_reducible repeat (first | apply Kd.Q_alloc | apply Kd.Q_drewN | apply Kd.Q_drew)); exact Kd.Q_mono HO785.out (fun _ hk => ⟨hk.1.1.1, ⟨hk.1.1.2, hk.1.2⟩⟩)⟩, ⟨by (with_reducible repeat (first | apply Kd.R_alloc | apply Kd.R_drewN | apply Kd.R_drew)); exact Kd.R_mono HO788.out (fun _ hk => ⟨hk.1.1.1, ⟨hk.1.1.2, hk.1.2⟩⟩)⟩, ⟨by (with_reducible repeat (first | apply Kd.Q_alloc | apply Kd.Q_drewN | apply Kd.Q_drew)); exact Kd.Q_mono HO791.out (fun _ hk => ⟨hk.1.1.1, ⟨hk.1.1.2, hk.1.2⟩⟩)⟩, ⟨by (with_reducible repeat (first | apply Kd.R_alloc | apply Kd.R_drewN | apply Kd.R_drew)); exact Kd.R_mono HO795.out (fun _ hk => ⟨hk.1.1.1.2, ⟨hk.1.1.2, hk.1.2⟩⟩)⟩, ⟨by repeat (first | (with_reducible first | exact HB.out | apply below_alloc | apply pw_below_drewN | apply below_drew1) | exact HB.out)⟩⟩
  case rest =>
   clear HC5
   try clear c1
   try clear c2
   try clear c2b0
   try clear c2b1
   try clear p2
   try clear c7
   try clear c14
   try clear c15
   try clear c15b0
   try clear c15b1
   try clear c15b2
   obtain ⟨kq, x45_4, rfl, HA, HJ4, HO_3, HO_4, HO_5, HO_6, HO_8, HB⟩ := hcut
   cases kq with
   | zero => exact absurd HA.out (by simp [laws_FnAdmitTasksFirst.j0])
   | succ kj4 =>
    have H := HA.out
    clear HA
    simp only [laws_FnAdmitTasksFirst.j0] at H
    by_cases c25 : x45_4 = true
    ·subst c25
     have H1 : ((spec_AdmitTasks.f kj4 t780 t783 t786 t789 t792).bind fun t800 => ((laws_equalInts.f kj4 t793 t800).bind fun t803 => (some t803))) = some r := by rw [if_pos rfl] at H; exact H
     clear H
     have H := H1
     clear H1
     replace H := Option.bind_eq_some_iff.mp H
     obtain ⟨t800, A260, H⟩ := H
     replace H : ((laws_equalInts.f kj4 t793 t800).bind fun t803 => (some t803)) = some r := H
     have A26 := Aside0.mk A260
     clear A260
     replace H := Option.bind_eq_some_iff.mp H
     obtain ⟨t803, A270, H⟩ := H
     replace H : (some t803) = some r := H
     have A27 := Aside0.mk A270
     clear A270
     obtain rfl := Option.some.inj H
     iterate 7 (first | go_quiet (first | (go_at_call 35; (with_reducible refine (spec_AdmitTasks.calls kj4 _ _ t780 _ _ t783 _ _ t786 _ _ t789 t792 t800 _ ?side1 ?side2 ?side3 ?side4 ?side5 ?side6 ?side7 ?side8 A26.out).mono ?_); (case side1 => repeat (first | exact (Kd.N_reads' HO_3.out).2.2 | (with_reducible refine Kd.C_alloc ?_ _) | (with_reducible refine Kd.C_drewN ?_ _) | (with_reducible refine Kd.C_drew ?_))); (case side2 => exact (Kd.N_reads' HO_3.out).2.1); (case side3 => repeat (first | exact (Kd.Q_reads' HO_4.out).2.2 | (with_reducible refine Kd.C_alloc ?_ _) | (with_reducible refine Kd.C_drewN ?_ _) | (with_reducible refine Kd.C_drew ?_))); (case side4 => exact (Kd.Q_reads' HO_4.out).2.1); (case side5 => repeat (first | exact (Kd.R_reads' HO_5.out).2.2 | (with_reducible refine Kd.C_alloc ?_ _) | (with_reducible refine Kd.C_drewN ?_ _) | (with_reducible refine Kd.C_drew ?_))); (case side6 => exact (Kd.R_reads' HO_5.out).2.1); (case side7 => repeat (first | exact (Kd.Q_reads' HO_6.out).2.2 | (with_reducible refine Kd.C_alloc ?_ _) | (with_reducible refine Kd.C_drewN ?_ _) | (with_reducible refine Kd.C_drew ?_))); (case side8 => exact (Kd.Q_reads' HO_6.out).2.1); rintro e w28 ⟨v801, rfl, ho0, hb⟩; have n0_ := Aside0.mk (Kd.N_elder' (by (with_reducible repeat (first | apply Kd.N_alloc | apply Kd.N_drewN | apply Kd.N_drew)); exact HO_3.out) (Kd.R_base ho0) hb); have n1_ := Aside0.mk (Kd.Q_elder' (by (with_reducible repeat (first | apply Kd.Q_alloc | apply Kd.Q_drewN | apply Kd.Q_drew)); exact HO_4.out) (Kd.R_base ho0) hb); have n2_ := Aside0.mk (Kd.R_elder' (by (with_reducible repeat (first | apply Kd.R_alloc | apply Kd.R_drewN | apply Kd.R_drew)); exact HO_5.out) (Kd.R_base ho0) hb); have n3_ := Aside0.mk (Kd.Q_elder' (by (with_reducible repeat (first | apply Kd.Q_alloc | apply Kd.Q_drewN | apply Kd.Q_drew)); exact HO_6.out) (Kd.R_base ho0) hb); have n4_ := Aside0.mk (Kd.R_elder' (by (with_reducible repeat (first | apply Kd.R_alloc | apply Kd.R_drewN | apply Kd.R_drew)); exact HO_8.out) (Kd.R_base ho0) hb); have n5_ := Aside0.mk (Kd.R_lower (Kd.R_new' (Kd.R_new' (Kd.R_new' (Kd.R_new' ho0 (Kd.Q_lt (by (with_reducible repeat (first | apply Kd.Q_alloc | apply Kd.Q_drewN | apply Kd.Q_drew)); exact HO_4.out))) (Kd.R_lt (by (with_reducible repeat (first | apply Kd.R_alloc | apply Kd.R_drewN | apply Kd.R_drew)); exact HO_5.out))) (Kd.Q_lt (by (with_reducible repeat (first | apply Kd.Q_alloc | apply Kd.Q_drewN | apply Kd.Q_drew)); exact HO_6.out))) (Kd.R_lt (by (with_reducible repeat (first | apply Kd.R_alloc | apply Kd.R_drewN | apply Kd.R_drew)); exact HO_8.out))) (below_size (by repeat (first | (with_reducible first | exact HB.out | apply below_alloc | apply pw_below_drewN | apply below_drew1) | exact HB.out)))); have n6_ := Aside0.mk (below_step (by repeat (first | (with_reducible first | exact HB.out | apply below_alloc | apply pw_below_drewN | apply below_drew1) | exact HB.out)) hb); clear HO_3; clear HO_4; clear HO_5; clear HO_6; clear HO_8; clear HB; have HO_3 := n0_; have HO_4 := n1_; have HO_5 := n2_; have HO_6 := n3_; have HO_8 := n4_; have HO802 := n5_; have HB := n6_; clear n0_ n1_ n2_ n3_ n4_ n5_ n6_; (try clear hb); (try clear hb2); (try clear hk); (try clear hi); (try clear ho0); obtain ⟨Ao29, co29, eo29⟩ := Kd.R_slice HO_8.out; subst eo29; obtain ⟨Ao30, co30, eo30⟩ := Kd.R_slice HO802.out; subst eo30) | (go_at_call 19; (with_reducible refine (laws_equalInts.calls kj4 _ _ t793 _ _ t800 t803 _ ?side1 ?side2 ?side3 ?side4 A27.out).mono ?_); (case side1 => repeat (first | exact (Kd.R_reads' HO_8.out).2.2 | (with_reducible refine Kd.C_alloc ?_ _) | (with_reducible refine Kd.C_drewN ?_ _) | (with_reducible refine Kd.C_drew ?_))); (case side2 => exact (Kd.R_reads' HO_8.out).2.1); (case side3 => repeat (first | exact (Kd.R_reads' HO802.out).2.2 | (with_reducible refine Kd.C_alloc ?_ _) | (with_reducible refine Kd.C_drewN ?_ _) | (with_reducible refine Kd.C_drew ?_))); (case side4 => exact (Kd.R_reads' HO802.out).2.1); rintro e w' ⟨rfl, ⟨nd, rfl⟩⟩; (try first | exact ⟨rfl, _, World.drewN_drewN _ _ _⟩ | exact ⟨rfl, _, Eq.trans (World.drewN_drewN _ _ _) (congrArg (World.drewN _) (Nat.add_assoc _ _ _))⟩))) | go_wp2_with (first | (go_at_call 35; (with_reducible refine (spec_AdmitTasks.calls kj4 _ _ t780 _ _ t783 _ _ t786 _ _ t789 t792 t800 _ ?side1 ?side2 ?side3 ?side4 ?side5 ?side6 ?side7 ?side8 A26.out).mono ?_); (case side1 => repeat (first | exact (Kd.N_reads' HO_3.out).2.2 | (with_reducible refine Kd.C_alloc ?_ _) | (with_reducible refine Kd.C_drewN ?_ _) | (with_reducible refine Kd.C_drew ?_))); (case side2 => exact (Kd.N_reads' HO_3.out).2.1); (case side3 => repeat (first | exact (Kd.Q_reads' HO_4.out).2.2 | (with_reducible refine Kd.C_alloc ?_ _) | (with_reducible refine Kd.C_drewN ?_ _) | (with_reducible refine Kd.C_drew ?_))); (case side4 => exact (Kd.Q_reads' HO_4.out).2.1); (case side5 => repeat (first | exact (Kd.R_reads' HO_5.out).2.2 | (with_reducible refine Kd.C_alloc ?_ _) | (with_reducible refine Kd.C_drewN ?_ _) | (with_reducible refine Kd.C_drew ?_))); (case side6 => exact (Kd.R_reads' HO_5.out).2.1); (case side7 => repeat (first | exact (Kd.Q_reads' HO_6.out).2.2 | (with_reducible refine Kd.C_alloc ?_ _) | (with_reducible refine Kd.C_drewN ?_ _) | (with_reducible refine Kd.C_drew ?_))); (case side8 => exact (Kd.Q_reads' HO_6.out).2.1); rintro e w28 ⟨v801, rfl, ho0, hb⟩; have n0_ := Aside0.mk (Kd.N_elder' (by (with_reducible repeat (first | apply Kd.N_alloc | apply Kd.N_drewN | apply Kd.N_drew)); exact HO_3.out) (Kd.R_base ho0) hb); have n1_ := Aside0.mk (Kd.Q_elder' (by (with_reducible repeat (first | apply Kd.Q_alloc | apply Kd.Q_drewN | apply Kd.Q_drew)); exact HO_4.out) (Kd.R_base ho0) hb); have n2_ := Aside0.mk (Kd.R_elder' (by (with_reducible repeat (first | apply Kd.R_alloc | apply Kd.R_drewN | apply Kd.R_drew)); exact HO_5.out) (Kd.R_base ho0) hb); have n3_ := Aside0.mk (Kd.Q_elder' (by (with_reducible repeat (first | apply Kd.Q_alloc | apply Kd.Q_drewN | apply Kd.Q_drew)); exact HO_6.out) (Kd.R_base ho0) hb); have n4_ := Aside0.mk (Kd.R_elder' (by (with_reducible repeat (first | apply Kd.R_alloc | apply Kd.R_drewN | apply Kd.R_drew)); exact HO_8.out) (Kd.R_base ho0) hb); have n5_ := Aside0.mk (Kd.R_lower (Kd.R_new' (Kd.R_new' (Kd.R_new' (Kd.R_new' ho0 (Kd.Q_lt (by (with_reducible repeat (first | apply Kd.Q_alloc | apply Kd.Q_drewN | apply Kd.Q_drew)); exact HO_4.out))) (Kd.R_lt (by (with_reducible repeat (first | apply Kd.R_alloc | apply Kd.R_drewN | apply Kd.R_drew)); exact HO_5.out))) (Kd.Q_lt (by (with_reducible repeat (first | apply Kd.Q_alloc | apply Kd.Q_drewN | apply Kd.Q_drew)); exact HO_6.out))) (Kd.R_lt (by (with_reducible repeat (first | apply Kd.R_alloc | apply Kd.R_drewN | apply Kd.R_drew)); exact HO_8.out))) (below_size (by repeat (first | (with_reducible first | exact HB.out | apply below_alloc | apply pw_below_drewN | apply below_drew1) | exact HB.out)))); have n6_ := Aside0.mk (below_step (by repeat (first | (with_reducible first | exact HB.out | apply below_alloc | apply pw_below_drewN | apply below_drew1) | exact HB.out)) hb); clear HO_3; clear HO_4; clear HO_5; clear HO_6; clear HO_8; clear HB; have HO_3 := n0_; have HO_4 := n1_; have HO_5 := n2_; have HO_6 := n3_; have HO_8 := n4_; have HO802 := n5_; have HB := n6_; clear n0_ n1_ n2_ n3_ n4_ n5_ n6_; (try clear hb); (try clear hb2); (try clear hk); (try clear hi); (try clear ho0); obtain ⟨Ao29, co29, eo29⟩ := Kd.R_slice HO_8.out; subst eo29; obtain ⟨Ao30, co30, eo30⟩ := Kd.R_slice HO802.out; subst eo30) | (go_at_call 19; (with_reducible refine (laws_equalInts.calls kj4 _ _ t793 _ _ t800 t803 _ ?side1 ?side2 ?side3 ?side4 A27.out).mono ?_); (case side1 => repeat (first | exact (Kd.R_reads' HO_8.out).2.2 | (with_reducible refine Kd.C_alloc ?_ _) | (with_reducible refine Kd.C_drewN ?_ _) | (with_reducible refine Kd.C_drew ?_))); (case side2 => exact (Kd.R_reads' HO_8.out).2.1); (case side3 => repeat (first | exact (Kd.R_reads' HO802.out).2.2 | (with_reducible refine Kd.C_alloc ?_ _) | (with_reducible refine Kd.C_drewN ?_ _) | (with_reducible refine Kd.C_drew ?_))); (case side4 => exact (Kd.R_reads' HO802.out).2.1); rintro e w' ⟨rfl, ⟨nd, rfl⟩⟩; (try first | exact ⟨rfl, _, World.drewN_drewN _ _ _⟩ | exact ⟨rfl, _, Eq.trans (World.drewN_drewN _ _ _) (congrArg (World.drewN _) (Nat.add_assoc _ _ _))⟩))) | skip)
     go_ret
     exact ⟨by first | rfl | (simp [errW_none, errW_some] <;> rfl) | (simp [*, errW_none, errW_some] <;> rfl), by repeat (first | (with_reducible first | exact HB.out | apply below_alloc | apply pw_below_drewN | apply below_drew1) | exact HB.out)⟩
    ·replace c25 := Bool.eq_false_iff.mpr c25
     subst c25
     have H1 : ((impl_AdmitTasks.f t780 t783 ([] : List Int) t789 t792).bind fun t804 => (if (t804.length : Int) > 0 then (if 0 < (t804.length : Int) then (if 0 < (t789.length : Int) then (if (rd t804 0) = (rd t789 0) then (some (decide ((t804.length : Int) ≤ t792))) else (some false)) else (none)) else (none)) else (some false))) = some r := by rw [if_neg (show ¬ (false = true) by decide)] at H; exact H
     clear H
     have H := H1
     clear H1
     replace H := Option.bind_eq_some_iff.mp H
     obtain ⟨t804, A310, H⟩ := H
     replace H : (if (t804.length : Int) > 0 then (if 0 < (t804.length : Int) then (if 0 < (t789.length : Int) then (if (rd t804 0) = (rd t789 0) then (some (decide ((t804.length : Int) ≤ t792))) else (some false)) else (none)) else (none)) else (some false)) = some r := H
     have A31 := Aside0.mk A310
     clear A310
     by_cases c32 : (t804.length : Int) > 0
     ·rw [if_pos c32] at H
      have c32b0 : decide (0 < (t804.length : Int)) = true := decide_eq_true c32
      have c32b1 : decide (0 < t804.length) = true := decide_eq_true (by omega)
      clear c32
      by_cases c33 : 0 < (t804.length : Int)
      ·rw [if_pos c33] at H
       have c33b0 : decide (0 < (t804.length : Int)) = true := decide_eq_true c33
       have c33b1 : decide (0 < t804.length) = true := decide_eq_true (by omega)
       clear c33
       by_cases c34 : 0 < (t789.length : Int)
       ·rw [if_pos c34] at H
        have c34b0 : decide (0 < (t789.length : Int)) = true := decide_eq_true c34
        have c34b1 : decide (0 < t789.length) = true := decide_eq_true (by omega)
        clear c34
        by_cases c35 : (rd t804 0) = (rd t789 0)
        ·rw [if_pos c35] at H
         have c35b0 : ((rd t804 0) == (rd t789 0)) = true := beq_iff_eq.mpr c35
         have c35b1 : ((rd t804 0) != (rd t789 0)) = false := bne_eq_false_iff_eq.mpr c35
         clear c35
         obtain rfl := Option.some.inj H
         iterate 7 (first | go_quiet (first | (go_at_call 34; (refine (impl_AdmitTasks.calls _ _ t780 _ _ t783 _ _ ([] : List Int) _ _ t789 t792 t804 _ ?side1 ?side2 ?side3 ?side4 ?side5 ?side6 ?side7 ?side8 A31.out ?sideTab).mono ?_); (case sideTab => exact TabOK.below hTab.out (by repeat (first | (with_reducible first | exact HB.out | apply below_alloc | apply pw_below_drewN | apply below_drew1) | exact HB.out))); (case side1 => repeat (first | exact (Kd.N_reads' HO_3.out).2.2 | (with_reducible refine Kd.C_alloc ?_ _) | (with_reducible refine Kd.C_drewN ?_ _) | (with_reducible refine Kd.C_drew ?_))); (case side2 => exact (Kd.N_reads' HO_3.out).2.1); (case side3 => repeat (first | exact (Kd.Q_reads' HO_4.out).2.2 | (with_reducible refine Kd.C_alloc ?_ _) | (with_reducible refine Kd.C_drewN ?_ _) | (with_reducible refine Kd.C_drew ?_))); (case side4 => exact (Kd.Q_reads' HO_4.out).2.1); (case side5 => exact Kd.C_nil _ _); (case side6 => exact Nat.le_refl _); (case side7 => repeat (first | exact (Kd.Q_reads' HO_6.out).2.2 | (with_reducible refine Kd.C_alloc ?_ _) | (with_reducible refine Kd.C_drewN ?_ _) | (with_reducible refine Kd.C_drew ?_))); (case side8 => exact (Kd.Q_reads' HO_6.out).2.1); rintro e w36 ⟨v805, rfl, ho0, hb⟩; have n0_ := Aside0.mk (Kd.N_elder' (by (with_reducible repeat (first | apply Kd.N_alloc | apply Kd.N_drewN | apply Kd.N_drew)); exact HO_3.out) (Kd.R_base ho0) hb); have n1_ := Aside0.mk (Kd.Q_elder' (by (with_reducible repeat (first | apply Kd.Q_alloc | apply Kd.Q_drewN | apply Kd.Q_drew)); exact HO_4.out) (Kd.R_base ho0) hb); have n2_ := Aside0.mk (Kd.R_elder' (by (with_reducible repeat (first | apply Kd.R_alloc | apply Kd.R_drewN | apply Kd.R_drew)); exact HO_5.out) (Kd.R_base ho0) hb); have n3_ := Aside0.mk (Kd.Q_elder' (by (with_reducible repeat (first | apply Kd.Q_alloc | apply Kd.Q_drewN | apply Kd.Q_drew)); exact HO_6.out) (Kd.R_base ho0) hb); have n4_ := Aside0.mk (Kd.R_elder' (by (with_reducible repeat (first | apply Kd.R_alloc | apply Kd.R_drewN | apply Kd.R_drew)); exact HO_8.out) (Kd.R_base ho0) hb); have n5_ := Aside0.mk (Kd.R_lower (Kd.R_new' (Kd.R_new' (Kd.R_new' (Kd.R_new' ho0 (Kd.Q_lt (by (with_reducible repeat (first | apply Kd.Q_alloc | apply Kd.Q_drewN | apply Kd.Q_drew)); exact HO_4.out))) (Kd.R_lt (by (with_reducible repeat (first | apply Kd.R_alloc | apply Kd.R_drewN | apply Kd.R_drew)); exact HO_5.out))) (Kd.Q_lt (by (with_reducible repeat (first | apply Kd.Q_alloc | apply Kd.Q_drewN | apply Kd.Q_drew)); exact HO_6.out))) (Kd.R_lt (by (with_reducible repeat (first | apply Kd.R_alloc | apply Kd.R_drewN | apply Kd.R_drew)); exact HO_8.out))) (below_size (by repeat (first | (with_reducible first | exact HB.out | apply below_alloc | apply pw_below_drewN | apply below_drew1) | exact HB.out)))); have n6_ := Aside0.mk (below_step (by repeat (first | (with_reducible first | exact HB.out | apply below_alloc | apply pw_below_drewN | apply below_drew1) | exact HB.out)) hb); clear HO_3; clear HO_4; clear HO_5; clear HO_6; clear HO_8; clear HB; have HO_3 := n0_; have HO_4 := n1_; have HO_5 := n2_; have HO_6 := n3_; have HO_8 := n4_; have HO806 := n5_; have HB := n6_; clear n0_ n1_ n2_ n3_ n4_ n5_ n6_; (try clear hb); (try clear hb2); (try clear hk); (try clear hi); (try clear ho0); obtain ⟨Ao37, co37, eo37⟩ := Kd.R_slice HO806.out; subst eo37; have p807 : 0 ≤ (0 : Int) := (by omega); have q807 : 0 < (t804.length : Int) := of_decide_eq_true (by first | (with_reducible assumption) | assumption); obtain ⟨ad807, e807, hx807_0⟩ := Kd.at_int (Kd.R_reads' HO806.out).2.2 0 p807 q807; cases e807; have qi807 : (0 < t804.length) = True := eq_true (by omega); (try rw [show ((0 : Int)).toNat = 0 from rfl] at hx807_0); (try rw [Addr.add_zero'] at hx807_0); replace p807 := eq_true p807; replace q807 := eq_true q807; have p808 : 0 ≤ (0 : Int) := (by omega); have q808 : 0 < (t789.length : Int) := of_decide_eq_true (by first | (with_reducible assumption) | assumption); obtain ⟨ad808, e808, hx808_0⟩ := Kd.at_int (Kd.Q_reads' HO_6.out).2.2 0 p808 q808; cases e808; have qi808 : (0 < t789.length) = True := eq_true (by omega); (try rw [show ((0 : Int)).toNat = 0 from rfl] at hx808_0); (try rw [Addr.add_zero'] at hx808_0); replace p808 := eq_true p808; replace q808 := eq_true q808)) | go_wp2_with (first | (go_at_call 34; (refine (impl_AdmitTasks.calls _ _ t780 _ _ t783 _ _ ([] : List Int) _ _ t789 t792 t804 _ ?side1 ?side2 ?side3 ?side4 ?side5 ?side6 ?side7 ?side8 A31.out ?sideTab).mono ?_); (case sideTab => exact TabOK.below hTab.out (by repeat (first | (with_reducible first | exact HB.out | apply below_alloc | apply pw_below_drewN | apply below_drew1) | exact HB.out))); (case side1 => repeat (first | exact (Kd.N_reads' HO_3.out).2.2 | (with_reducible refine Kd.C_alloc ?_ _) | (with_reducible refine Kd.C_drewN ?_ _) | (with_reducible refine Kd.C_drew ?_))); (case side2 => exact (Kd.N_reads' HO_3.out).2.1); (case side3 => repeat (first | exact (Kd.Q_reads' HO_4.out).2.2 | (with_reducible refine Kd.C_alloc ?_ _) | (with_reducible refine Kd.C_drewN ?_ _) | (with_reducible refine Kd.C_drew ?_))); (case side4 => exact (Kd.Q_reads' HO_4.out).2.1); (case side5 => exact Kd.C_nil _ _); (case side6 => exact Nat.le_refl _); (case side7 => repeat (first | exact (Kd.Q_reads' HO_6.out).2.2 | (with_reducible refine Kd.C_alloc ?_ _) | (with_reducible refine Kd.C_drewN ?_ _) | (with_reducible refine Kd.C_drew ?_))); (case side8 => exact (Kd.Q_reads' HO_6.out).2.1); rintro e w36 ⟨v805, rfl, ho0, hb⟩; have n0_ := Aside0.mk (Kd.N_elder' (by (with_reducible repeat (first | apply Kd.N_alloc | apply Kd.N_drewN | apply Kd.N_drew)); exact HO_3.out) (Kd.R_base ho0) hb); have n1_ := Aside0.mk (Kd.Q_elder' (by (with_reducible repeat (first | apply Kd.Q_alloc | apply Kd.Q_drewN | apply Kd.Q_drew)); exact HO_4.out) (Kd.R_base ho0) hb); have n2_ := Aside0.mk (Kd.R_elder' (by (with_reducible repeat (first | apply Kd.R_alloc | apply Kd.R_drewN | apply Kd.R_drew)); exact HO_5.out) (Kd.R_base ho0) hb); have n3_ := Aside0.mk (Kd.Q_elder' (by (with_reducible repeat (first | apply Kd.Q_alloc | apply Kd.Q_drewN | apply Kd.Q_drew)); exact HO_6.out) (Kd.R_base ho0) hb); have n4_ := Aside0.mk (Kd.R_elder' (by (with_reducible repeat (first | apply Kd.R_alloc | apply Kd.R_drewN | apply Kd.R_drew)); exact HO_8.out) (Kd.R_base ho0) hb); have n5_ := Aside0.mk (Kd.R_lower (Kd.R_new' (Kd.R_new' (Kd.R_new' (Kd.R_new' ho0 (Kd.Q_lt (by (with_reducible repeat (first | apply Kd.Q_alloc | apply Kd.Q_drewN | apply Kd.Q_drew)); exact HO_4.out))) (Kd.R_lt (by (with_reducible repeat (first | apply Kd.R_alloc | apply Kd.R_drewN | apply Kd.R_drew)); exact HO_5.out))) (Kd.Q_lt (by (with_reducible repeat (first | apply Kd.Q_alloc | apply Kd.Q_drewN | apply Kd.Q_drew)); exact HO_6.out))) (Kd.R_lt (by (with_reducible repeat (first | apply Kd.R_alloc | apply Kd.R_drewN | apply Kd.R_drew)); exact HO_8.out))) (below_size (by repeat (first | (with_reducible first | exact HB.out | apply below_alloc | apply pw_below_drewN | apply below_drew1) | exact HB.out)))); have n6_ := Aside0.mk (below_step (by repeat (first | (with_reducible first | exact HB.out | apply below_alloc | apply pw_below_drewN | apply below_drew1) | exact HB.out)) hb); clear HO_3; clear HO_4; clear HO_5; clear HO_6; clear HO_8; clear HB; have HO_3 := n0_; have HO_4 := n1_; have HO_5 := n2_; have HO_6 := n3_; have HO_8 := n4_; have HO806 := n5_; have HB := n6_; clear n0_ n1_ n2_ n3_ n4_ n5_ n6_; (try clear hb); (try clear hb2); (try clear hk); (try clear hi); (try clear ho0); obtain ⟨Ao37, co37, eo37⟩ := Kd.R_slice HO806.out; subst eo37; have p807 : 0 ≤ (0 : Int) := (by omega); have q807 : 0 < (t804.length : Int) := of_decide_eq_true (by first | (with_reducible assumption) | assumption); obtain ⟨ad807, e807, hx807_0⟩ := Kd.at_int (Kd.R_reads' HO806.out).2.2 0 p807 q807; cases e807; have qi807 : (0 < t804.length) = True := eq_true (by omega); (try rw [show ((0 : Int)).toNat = 0 from rfl] at hx807_0); (try rw [Addr.add_zero'] at hx807_0); replace p807 := eq_true p807; replace q807 := eq_true q807; have p808 : 0 ≤ (0 : Int) := (by omega); have q808 : 0 < (t789.length : Int) := of_decide_eq_true (by first | (with_reducible assumption) | assumption); obtain ⟨ad808, e808, hx808_0⟩ := Kd.at_int (Kd.Q_reads' HO_6.out).2.2 0 p808 q808; cases e808; have qi808 : (0 < t789.length) = True := eq_true (by omega); (try rw [show ((0 : Int)).toNat = 0 from rfl] at hx808_0); (try rw [Addr.add_zero'] at hx808_0); replace p808 := eq_true p808; replace q808 := eq_true q808)) | skip)
         go_ret
         exact ⟨by first | rfl | (simp [errW_none, errW_some] <;> rfl) | (simp [*, errW_none, errW_some] <;> rfl), by repeat (first | (with_reducible first | exact HB.out | apply below_alloc | apply pw_below_drewN | apply below_drew1) | exact HB.out)⟩
        ·rw [if_neg c35] at H
         have c35b0 : ((rd t804 0) == (rd t789 0)) = false := beq_eq_false_iff_ne.mpr c35
         have c35b1 : ((rd t804 0) != (rd t789 0)) = true := bne_iff_ne.mpr c35
         obtain rfl := Option.some.inj H
         iterate 7 (first | go_quiet (first | (go_at_call 34; (refine (impl_AdmitTasks.calls _ _ t780 _ _ t783 _ _ ([] : List Int) _ _ t789 t792 t804 _ ?side1 ?side2 ?side3 ?side4 ?side5 ?side6 ?side7 ?side8 A31.out ?sideTab).mono ?_); (case sideTab => exact TabOK.below hTab.out (by repeat (first | (with_reducible first | exact HB.out | apply below_alloc | apply pw_below_drewN | apply below_drew1) | exact HB.out))); (case side1 => repeat (first | exact (Kd.N_reads' HO_3.out).2.2 | (with_reducible refine Kd.C_alloc ?_ _) | (with_reducible refine Kd.C_drewN ?_ _) | (with_reducible refine Kd.C_drew ?_))); (case side2 => exact (Kd.N_reads' HO_3.out).2.1); (case side3 => repeat (first | exact (Kd.Q_reads' HO_4.out).2.2 | (with_reducible refine Kd.C_alloc ?_ _) | (with_reducible refine Kd.C_drewN ?_ _) | (with_reducible refine Kd.C_drew ?_))); (case side4 => exact (Kd.Q_reads' HO_4.out).2.1); (case side5 => exact Kd.C_nil _ _); (case side6 => exact Nat.le_refl _); (case side7 => repeat (first | exact (Kd.Q_reads' HO_6.out).2.2 | (with_reducible refine Kd.C_alloc ?_ _) | (with_reducible refine Kd.C_drewN ?_ _) | (with_reducible refine Kd.C_drew ?_))); (case side8 => exact (Kd.Q_reads' HO_6.out).2.1); rintro e w38 ⟨v805, rfl, ho0, hb⟩; have n0_ := Aside0.mk (Kd.N_elder' (by (with_reducible repeat (first | apply Kd.N_alloc | apply Kd.N_drewN | apply Kd.N_drew)); exact HO_3.out) (Kd.R_base ho0) hb); have n1_ := Aside0.mk (Kd.Q_elder' (by (with_reducible repeat (first | apply Kd.Q_alloc | apply Kd.Q_drewN | apply Kd.Q_drew)); exact HO_4.out) (Kd.R_base ho0) hb); have n2_ := Aside0.mk (Kd.R_elder' (by (with_reducible repeat (first | apply Kd.R_alloc | apply Kd.R_drewN | apply Kd.R_drew)); exact HO_5.out) (Kd.R_base ho0) hb); have n3_ := Aside0.mk (Kd.Q_elder' (by (with_reducible repeat (first | apply Kd.Q_alloc | apply Kd.Q_drewN | apply Kd.Q_drew)); exact HO_6.out) (Kd.R_base ho0) hb); have n4_ := Aside0.mk (Kd.R_elder' (by (with_reducible repeat (first | apply Kd.R_alloc | apply Kd.R_drewN | apply Kd.R_drew)); exact HO_8.out) (Kd.R_base ho0) hb); have n5_ := Aside0.mk (Kd.R_lower (Kd.R_new' (Kd.R_new' (Kd.R_new' (Kd.R_new' ho0 (Kd.Q_lt (by (with_reducible repeat (first | apply Kd.Q_alloc | apply Kd.Q_drewN | apply Kd.Q_drew)); exact HO_4.out))) (Kd.R_lt (by (with_reducible repeat (first | apply Kd.R_alloc | apply Kd.R_drewN | apply Kd.R_drew)); exact HO_5.out))) (Kd.Q_lt (by (with_reducible repeat (first | apply Kd.Q_alloc | apply Kd.Q_drewN | apply Kd.Q_drew)); exact HO_6.out))) (Kd.R_lt (by (with_reducible repeat (first | apply Kd.R_alloc | apply Kd.R_drewN | apply Kd.R_drew)); exact HO_8.out))) (below_size (by repeat (first | (with_reducible first | exact HB.out | apply below_alloc | apply pw_below_drewN | apply below_drew1) | exact HB.out)))); have n6_ := Aside0.mk (below_step (by repeat (first | (with_reducible first | exact HB.out | apply below_alloc | apply pw_below_drewN | apply below_drew1) | exact HB.out)) hb); clear HO_3; clear HO_4; clear HO_5; clear HO_6; clear HO_8; clear HB; have HO_3 := n0_; have HO_4 := n1_; have HO_5 := n2_; have HO_6 := n3_; have HO_8 := n4_; have HO806 := n5_; have HB := n6_; clear n0_ n1_ n2_ n3_ n4_ n5_ n6_; (try clear hb); (try clear hb2); (try clear hk); (try clear hi); (try clear ho0); obtain ⟨Ao39, co39, eo39⟩ := Kd.R_slice HO806.out; subst eo39; have p807 : 0 ≤ (0 : Int) := (by omega); have q807 : 0 < (t804.length : Int) := of_decide_eq_true (by first | (with_reducible assumption) | assumption); obtain ⟨ad807, e807, hx807_0⟩ := Kd.at_int (Kd.R_reads' HO806.out).2.2 0 p807 q807; cases e807; have qi807 : (0 < t804.length) = True := eq_true (by omega); (try rw [show ((0 : Int)).toNat = 0 from rfl] at hx807_0); (try rw [Addr.add_zero'] at hx807_0); replace p807 := eq_true p807; replace q807 := eq_true q807; have p808 : 0 ≤ (0 : Int) := (by omega); have q808 : 0 < (t789.length : Int) := of_decide_eq_true (by first | (with_reducible assumption) | assumption); obtain ⟨ad808, e808, hx808_0⟩ := Kd.at_int (Kd.Q_reads' HO_6.out).2.2 0 p808 q808; cases e808; have qi808 : (0 < t789.length) = True := eq_true (by omega); (try rw [show ((0 : Int)).toNat = 0 from rfl] at hx808_0); (try rw [Addr.add_zero'] at hx808_0); replace p808 := eq_true p808; replace q808 := eq_true q808)) | go_wp2_with (first | (go_at_call 34; (refine (impl_AdmitTasks.calls _ _ t780 _ _ t783 _ _ ([] : List Int) _ _ t789 t792 t804 _ ?side1 ?side2 ?side3 ?side4 ?side5 ?side6 ?side7 ?side8 A31.out ?sideTab).mono ?_); (case sideTab => exact TabOK.below hTab.out (by repeat (first | (with_reducible first | exact HB.out | apply below_alloc | apply pw_below_drewN | apply below_drew1) | exact HB.out))); (case side1 => repeat (first | exact (Kd.N_reads' HO_3.out).2.2 | (with_reducible refine Kd.C_alloc ?_ _) | (with_reducible refine Kd.C_drewN ?_ _) | (with_reducible refine Kd.C_drew ?_))); (case side2 => exact (Kd.N_reads' HO_3.out).2.1); (case side3 => repeat (first | exact (Kd.Q_reads' HO_4.out).2.2 | (with_reducible refine Kd.C_alloc ?_ _) | (with_reducible refine Kd.C_drewN ?_ _) | (with_reducible refine Kd.C_drew ?_))); (case side4 => exact (Kd.Q_reads' HO_4.out).2.1); (case side5 => exact Kd.C_nil _ _); (case side6 => exact Nat.le_refl _); (case side7 => repeat (first | exact (Kd.Q_reads' HO_6.out).2.2 | (with_reducible refine Kd.C_alloc ?_ _) | (with_reducible refine Kd.C_drewN ?_ _) | (with_reducible refine Kd.C_drew ?_))); (case side8 => exact (Kd.Q_reads' HO_6.out).2.1); rintro e w38 ⟨v805, rfl, ho0, hb⟩; have n0_ := Aside0.mk (Kd.N_elder' (by (with_reducible repeat (first | apply Kd.N_alloc | apply Kd.N_drewN | apply Kd.N_drew)); exact HO_3.out) (Kd.R_base ho0) hb); have n1_ := Aside0.mk (Kd.Q_elder' (by (with_reducible repeat (first | apply Kd.Q_alloc | apply Kd.Q_drewN | apply Kd.Q_drew)); exact HO_4.out) (Kd.R_base ho0) hb); have n2_ := Aside0.mk (Kd.R_elder' (by (with_reducible repeat (first | apply Kd.R_alloc | apply Kd.R_drewN | apply Kd.R_drew)); exact HO_5.out) (Kd.R_base ho0) hb); have n3_ := Aside0.mk (Kd.Q_elder' (by (with_reducible repeat (first | apply Kd.Q_alloc | apply Kd.Q_drewN | apply Kd.Q_drew)); exact HO_6.out) (Kd.R_base ho0) hb); have n4_ := Aside0.mk (Kd.R_elder' (by (with_reducible repeat (first | apply Kd.R_alloc | apply Kd.R_drewN | apply Kd.R_drew)); exact HO_8.out) (Kd.R_base ho0) hb); have n5_ := Aside0.mk (Kd.R_lower (Kd.R_new' (Kd.R_new' (Kd.R_new' (Kd.R_new' ho0 (Kd.Q_lt (by (with_reducible repeat (first | apply Kd.Q_alloc | apply Kd.Q_drewN | apply Kd.Q_drew)); exact HO_4.out))) (Kd.R_lt (by (with_reducible repeat (first | apply Kd.R_alloc | apply Kd.R_drewN | apply Kd.R_drew)); exact HO_5.out))) (Kd.Q_lt (by (with_reducible repeat (first | apply Kd.Q_alloc | apply Kd.Q_drewN | apply Kd.Q_drew)); exact HO_6.out))) (Kd.R_lt (by (with_reducible repeat (first | apply Kd.R_alloc | apply Kd.R_drewN | apply Kd.R_drew)); exact HO_8.out))) (below_size (by repeat (first | (with_reducible first | exact HB.out | apply below_alloc | apply pw_below_drewN | apply below_drew1) | exact HB.out)))); have n6_ := Aside0.mk (below_step (by repeat (first | (with_reducible first | exact HB.out | apply below_alloc | apply pw_below_drewN | apply below_drew1) | exact HB.out)) hb); clear HO_3; clear HO_4; clear HO_5; clear HO_6; clear HO_8; clear HB; have HO_3 := n0_; have HO_4 := n1_; have HO_5 := n2_; have HO_6 := n3_; have HO_8 := n4_; have HO806 := n5_; have HB := n6_; clear n0_ n1_ n2_ n3_ n4_ n5_ n6_; (try clear hb); (try clear hb2); (try clear hk); (try clear hi); (try clear ho0); obtain ⟨Ao39, co39, eo39⟩ := Kd.R_slice HO806.out; subst eo39; have p807 : 0 ≤ (0 : Int) := (by omega); have q807 : 0 < (t804.length : Int) := of_decide_eq_true (by first | (with_reducible assumption) | assumption); obtain ⟨ad807, e807, hx807_0⟩ := Kd.at_int (Kd.R_reads' HO806.out).2.2 0 p807 q807; cases e807; have qi807 : (0 < t804.length) = True := eq_true (by omega); (try rw [show ((0 : Int)).toNat = 0 from rfl] at hx807_0); (try rw [Addr.add_zero'] at hx807_0); replace p807 := eq_true p807; replace q807 := eq_true q807; have p808 : 0 ≤ (0 : Int) := (by omega); have q808 : 0 < (t789.length : Int) := of_decide_eq_true (by first | (with_reducible assumption) | assumption); obtain ⟨ad808, e808, hx808_0⟩ := Kd.at_int (Kd.Q_reads' HO_6.out).2.2 0 p808 q808; cases e808; have qi808 : (0 < t789.length) = True := eq_true (by omega); (try rw [show ((0 : Int)).toNat = 0 from rfl] at hx808_0); (try rw [Addr.add_zero'] at hx808_0); replace p808 := eq_true p808; replace q808 := eq_true q808)) | skip)
         go_ret
         exact ⟨by first | rfl | (simp [errW_none, errW_some] <;> rfl) | (simp [*, errW_none, errW_some] <;> rfl), by repeat (first | (with_reducible first | exact HB.out | apply below_alloc | apply pw_below_drewN | apply below_drew1) | exact HB.out)⟩
       ·rw [if_neg c34] at H
        exact absurd H (by simp)
      ·rw [if_neg c33] at H
       exact absurd H (by simp)
     ·rw [if_neg c32] at H
      have c32b0 : decide (0 < (t804.length : Int)) = false := decide_eq_false c32
      have c32b1 : decide (0 < t804.length) = false := decide_eq_false (by omega)
      clear c32
      obtain rfl := Option.some.inj H
      iterate 7 (first | go_quiet (first | (go_at_call 34; (refine (impl_AdmitTasks.calls _ _ t780 _ _ t783 _ _ ([] : List Int) _ _ t789 t792 t804 _ ?side1 ?side2 ?side3 ?side4 ?side5 ?side6 ?side7 ?side8 A31.out ?sideTab).mono ?_); (case sideTab => exact TabOK.below hTab.out (by repeat (first | (with_reducible first | exact HB.out | apply below_alloc | apply pw_below_drewN | apply below_drew1) | exact HB.out))); (case side1 => repeat (first | exact (Kd.N_reads' HO_3.out).2.2 | (with_reducible refine Kd.C_alloc ?_ _) | (with_reducible refine Kd.C_drewN ?_ _) | (with_reducible refine Kd.C_drew ?_))); (case side2 => exact (Kd.N_reads' HO_3.out).2.1); (case side3 => repeat (first | exact (Kd.Q_reads' HO_4.out).2.2 | (with_reducible refine Kd.C_alloc ?_ _) | (with_reducible refine Kd.C_drewN ?_ _) | (with_reducible refine Kd.C_drew ?_))); (case side4 => exact (Kd.Q_reads' HO_4.out).2.1); (case side5 => exact Kd.C_nil _ _); (case side6 => exact Nat.le_refl _); (case side7 => repeat (first | exact (Kd.Q_reads' HO_6.out).2.2 | (with_reducible refine Kd.C_alloc ?_ _) | (with_reducible refine Kd.C_drewN ?_ _) | (with_reducible refine Kd.C_drew ?_))); (case side8 => exact (Kd.Q_reads' HO_6.out).2.1); rintro e w40 ⟨v805, rfl, ho0, hb⟩; have n0_ := Aside0.mk (Kd.N_elder' (by (with_reducible repeat (first | apply Kd.N_alloc | apply Kd.N_drewN | apply Kd.N_drew)); exact HO_3.out) (Kd.R_base ho0) hb); have n1_ := Aside0.mk (Kd.Q_elder' (by (with_reducible repeat (first | apply Kd.Q_alloc | apply Kd.Q_drewN | apply Kd.Q_drew)); exact HO_4.out) (Kd.R_base ho0) hb); have n2_ := Aside0.mk (Kd.R_elder' (by (with_reducible repeat (first | apply Kd.R_alloc | apply Kd.R_drewN | apply Kd.R_drew)); exact HO_5.out) (Kd.R_base ho0) hb); have n3_ := Aside0.mk (Kd.Q_elder' (by (with_reducible repeat (first | apply Kd.Q_alloc | apply Kd.Q_drewN | apply Kd.Q_drew)); exact HO_6.out) (Kd.R_base ho0) hb); have n4_ := Aside0.mk (Kd.R_elder' (by (with_reducible repeat (first | apply Kd.R_alloc | apply Kd.R_drewN | apply Kd.R_drew)); exact HO_8.out) (Kd.R_base ho0) hb); have n5_ := Aside0.mk (Kd.R_lower (Kd.R_new' (Kd.R_new' (Kd.R_new' (Kd.R_new' ho0 (Kd.Q_lt (by (with_reducible repeat (first | apply Kd.Q_alloc | apply Kd.Q_drewN | apply Kd.Q_drew)); exact HO_4.out))) (Kd.R_lt (by (with_reducible repeat (first | apply Kd.R_alloc | apply Kd.R_drewN | apply Kd.R_drew)); exact HO_5.out))) (Kd.Q_lt (by (with_reducible repeat (first | apply Kd.Q_alloc | apply Kd.Q_drewN | apply Kd.Q_drew)); exact HO_6.out))) (Kd.R_lt (by (with_reducible repeat (first | apply Kd.R_alloc | apply Kd.R_drewN | apply Kd.R_drew)); exact HO_8.out))) (below_size (by repeat (first | (with_reducible first | exact HB.out | apply below_alloc | apply pw_below_drewN | apply below_drew1) | exact HB.out)))); have n6_ := Aside0.mk (below_step (by repeat (first | (with_reducible first | exact HB.out | apply below_alloc | apply pw_below_drewN | apply below_drew1) | exact HB.out)) hb); clear HO_3; clear HO_4; clear HO_5; clear HO_6; clear HO_8; clear HB; have HO_3 := n0_; have HO_4 := n1_; have HO_5 := n2_; have HO_6 := n3_; have HO_8 := n4_; have HO806 := n5_; have HB := n6_; clear n0_ n1_ n2_ n3_ n4_ n5_ n6_; (try clear hb); (try clear hb2); (try clear hk); (try clear hi); (try clear ho0); obtain ⟨Ao41, co41, eo41⟩ := Kd.R_slice HO806.out; subst eo41)) | go_wp2_with (first | (go_at_call 34; (refine (impl_AdmitTasks.calls _ _ t780 _ _ t783 _ _ ([] : List Int) _ _ t789 t792 t804 _ ?side1 ?side2 ?side3 ?side4 ?side5 ?side6 ?side7 ?side8 A31.out ?sideTab).mono ?_); (case sideTab => exact TabOK.below hTab.out (by repeat (first | (with_reducible first | exact HB.out | apply below_alloc | apply pw_below_drewN | apply below_drew1) | exact HB.out))); (case side1 => repeat (first | exact (Kd.N_reads' HO_3.out).2.2 | (with_reducible refine Kd.C_alloc ?_ _) | (with_reducible refine Kd.C_drewN ?_ _) | (with_reducible refine Kd.C_drew ?_))); (case side2 => exact (Kd.N_reads' HO_3.out).2.1); (case side3 => repeat (first | exact (Kd.Q_reads' HO_4.out).2.2 | (with_reducible refine Kd.C_alloc ?_ _) | (with_reducible refine Kd.C_drewN ?_ _) | (with_reducible refine Kd.C_drew ?_))); (case side4 => exact (Kd.Q_reads' HO_4.out).2.1); (case side5 => exact Kd.C_nil _ _); (case side6 => exact Nat.le_refl _); (case side7 => repeat (first | exact (Kd.Q_reads' HO_6.out).2.2 | (with_reducible refine Kd.C_alloc ?_ _) | (with_reducible refine Kd.C_drewN ?_ _) | (with_reducible refine Kd.C_drew ?_))); (case side8 => exact (Kd.Q_reads' HO_6.out).2.1); rintro e w40 ⟨v805, rfl, ho0, hb⟩; have n0_ := Aside0.mk (Kd.N_elder' (by (with_reducible repeat (first | apply Kd.N_alloc | apply Kd.N_drewN | apply Kd.N_drew)); exact HO_3.out) (Kd.R_base ho0) hb); have n1_ := Aside0.mk (Kd.Q_elder' (by (with_reducible repeat (first | apply Kd.Q_alloc | apply Kd.Q_drewN | apply Kd.Q_drew)); exact HO_4.out) (Kd.R_base ho0) hb); have n2_ := Aside0.mk (Kd.R_elder' (by (with_reducible repeat (first | apply Kd.R_alloc | apply Kd.R_drewN | apply Kd.R_drew)); exact HO_5.out) (Kd.R_base ho0) hb); have n3_ := Aside0.mk (Kd.Q_elder' (by (with_reducible repeat (first | apply Kd.Q_alloc | apply Kd.Q_drewN | apply Kd.Q_drew)); exact HO_6.out) (Kd.R_base ho0) hb); have n4_ := Aside0.mk (Kd.R_elder' (by (with_reducible repeat (first | apply Kd.R_alloc | apply Kd.R_drewN | apply Kd.R_drew)); exact HO_8.out) (Kd.R_base ho0) hb); have n5_ := Aside0.mk (Kd.R_lower (Kd.R_new' (Kd.R_new' (Kd.R_new' (Kd.R_new' ho0 (Kd.Q_lt (by (with_reducible repeat (first | apply Kd.Q_alloc | apply Kd.Q_drewN | apply Kd.Q_drew)); exact HO_4.out))) (Kd.R_lt (by (with_reducible repeat (first | apply Kd.R_alloc | apply Kd.R_drewN | apply Kd.R_drew)); exact HO_5.out))) (Kd.Q_lt (by (with_reducible repeat (first | apply Kd.Q_alloc | apply Kd.Q_drewN | apply Kd.Q_drew)); exact HO_6.out))) (Kd.R_lt (by (with_reducible repeat (first | apply Kd.R_alloc | apply Kd.R_drewN | apply Kd.R_drew)); exact HO_8.out))) (below_size (by repeat (first | (with_reducible first | exact HB.out | apply below_alloc | apply pw_below_drewN | apply below_drew1) | exact HB.out)))); have n6_ := Aside0.mk (below_step (by repeat (first | (with_reducible first | exact HB.out | apply below_alloc | apply pw_below_drewN | apply below_drew1) | exact HB.out)) hb); clear HO_3; clear HO_4; clear HO_5; clear HO_6; clear HO_8; clear HB; have HO_3 := n0_; have HO_4 := n1_; have HO_5 := n2_; have HO_6 := n3_; have HO_8 := n4_; have HO806 := n5_; have HB := n6_; clear n0_ n1_ n2_ n3_ n4_ n5_ n6_; (try clear hb); (try clear hb2); (try clear hk); (try clear hi); (try clear ho0); obtain ⟨Ao41, co41, eo41⟩ := Kd.R_slice HO806.out; subst eo41)) | skip)
      go_ret
      exact ⟨by first | rfl | (simp [errW_none, errW_some] <;> rfl) | (simp [*, errW_none, errW_some] <;> rfl), by repeat (first | (with_reducible first | exact HB.out | apply below_alloc | apply pw_below_drewN | apply below_drew1) | exact HB.out)⟩
def laws_FnAdmitTasksFirst.Pure : Prop := ∀ (l0 : List Int), l0.length ≤ maxLen → l0.length * 1 ≤ 140737488351232 → (∀ x ∈ l0, (Lit.int .u8 x).wf = true) → ∃ k, laws_FnAdmitTasksFirst.f k l0 = some true
theorem laws_FnAdmitTasksFirst.walk (P : laws_FnAdmitTasksFirst.Pure) (a0 : Option Addr) (len0 cap0 : Nat) (z0 : List Int) (w : World) (w0 : (a0 = none ∧ len0 = 0 ∧ cap0 = 0 ∧ z0 = []) ∨ ∃ x, a0 = some x ∧ len0 ≤ cap0 ∧ cap0 ≤ maxLen ∧ z0.length = cap0 ∧ (∀ i, i < z0.length → w.cell? (x.add i) = some (.int .u8 (z0.getD i 0))) ∧ ∀ n ∈ z0, (Lit.int .u8 n).wf = true) (y0 : len0 * 1 ≤ 140737488351232) (hTab0 : TabOK w) :
  Calls Tryd.prog 7 #[.slice a0 len0 cap0] w fun e w' => e = .returned (.bool true) ∧ Below w.heap.size w w' := by
 obtain ⟨l0, rfl, hr0, hm0, hw0, hc0⟩ := ReadsInt.ofRowC w0
 obtain ⟨k, h⟩ := P l0 hm0 y0 hw0
 refine (laws_FnAdmitTasksFirst.calls k _ _ l0 true w (Kd.C_of_reads (d := (0 : Int)) (h1 := fun _ => rfl) hr0) hc0 h hTab0).mono ?_
 rintro e w' ⟨rfl, hd⟩
 exact ⟨rfl, hd⟩
end Go.Proofs.YtajapkjplgaigaaDoor.P
end
section
namespace Go.Proofs.YtajapkjplgaigaaDoor.P
open Go.RowKit Go.Proofs.YtajapkjplgaigaaDoorW.PrintWords Go.Proofs.YtajapkjplgaigaaDoorW.PrintLast Go.Proofs.YtajapkjplgaigaaDoorW.PrintMore
set_option linter.unusedVariables false
set_option linter.unusedSimpArgs false
def Ev {α : Type} (f : Nat → Option α) (x : α) : Prop := ∃ K, ∀ k, K ≤ k → f k = some x
section
variable {α β : Type} {f f' : Nat → Option α} {x : α} {y : β}
theorem Ev.get (h : Ev f x) : ∃ k, f k = some x := by
 obtain ⟨K, h⟩ := h
 exact ⟨K, h K (Nat.le_refl _)⟩
theorem Ev.pure (x : α) : Ev (fun _ => some x) x := ⟨0, fun _ _ => rfl⟩
theorem Ev.eq {o : Option α} (h : o = some x) : Ev (fun _ => o) x := ⟨0, fun _ _ => h⟩
theorem Ev.bind {g : Nat → α → Option β} (hf : Ev f x) (hg : Ev (fun k => g k x) y) : Ev (fun k => (f k).bind (g k)) y := by
 obtain ⟨K, hf⟩ := hf
 obtain ⟨L, hg⟩ := hg
 exact ⟨max K L, fun k hk => by show (f k).bind (g k) = some y; rw [hf k (by omega)]; exact hg k (by omega)⟩
theorem Ev.pos {c : Prop} [Decidable c] (hc : c) (h : Ev f x) : Ev (fun k => if c then f k else f' k) x := by
 obtain ⟨K, h⟩ := h
 exact ⟨K, fun k hk => (if_pos hc).trans (h k hk)⟩
theorem Ev.neg {c : Prop} [Decidable c] (hc : ¬ c) (h : Ev f' x) : Ev (fun k => if c then f k else f' k) x := by
 obtain ⟨K, h⟩ := h
 exact ⟨K, fun k hk => (if_neg hc).trans (h k hk)⟩
theorem Ev.ite {c : Prop} [Decidable c] (h : c → Ev f x) (h' : ¬ c → Ev f' x) : Ev (fun k => if c then f k else f' k) x := by
 by_cases hc : c
 ·exact Ev.pos hc (h hc)
 ·exact Ev.neg hc (h' hc)
theorem Ev.succ (h : Ev (fun k => f (k + 1)) x) : Ev f x := by
 obtain ⟨K, h⟩ := h
 exact ⟨K + 1, fun k hk => by
  obtain ⟨j, rfl⟩ : ∃ j, k = j + 1 := ⟨k - 1, by omega⟩
  exact h j (by omega)⟩
end
theorem w64 {n : Int} (h : -9223372036854775808 ≤ n) (h' : n ≤ 9223372036854775807) : wrap64 n = n := by unfold wrap64; omega
theorem w64n (n : Nat) (h : n < 4611686018427387904) : wrap64 ((n : Int) + 1) = ((n + 1 : Nat) : Int) := by rw [w64 (by omega) (by omega)]; omega
theorem snoc_eq {α : Type} (pre : List α) (x : α) (r : List α) : pre ++ x :: r = (pre ++ [x]) ++ r := by simp
theorem len_lt {α : Type} (pre : List α) (x : α) (r : List α) : (pre.length : Int) < ((pre ++ x :: r).length : Int) := by simp only [List.length_append, List.length_cons]; omega
theorem len_nlt {α : Type} (pre : List α) : ¬ (pre.length : Int) < ((pre ++ []).length : Int) := by simp
theorem len_next {α : Type} (pre : List α) (x : α) (h : pre.length < 4611686018427387904) : wrap64 ((pre.length : Int) + 1) = ((pre ++ [x]).length : Int) := by rw [w64n _ h]; simp
theorem rdm (pre : List Int) (x : Int) (r : List Int) : rd (pre ++ x :: r) (pre.length : Int) = x := by simp [rd]
end Go.Proofs.YtajapkjplgaigaaDoor.P
end
section
namespace Go.Proofs.YtajapkjplgaigaaDoor.P
open Go.RowKit Go.Shelf Go.Proofs.YtajapkjplgaigaaDoorW.PrintWords Go.Proofs.YtajapkjplgaigaaDoorW.PrintLast Go.Proofs.YtajapkjplgaigaaDoorW.PrintMore
set_option linter.unusedVariables false
set_option linter.unusedSimpArgs false
def inB (a b x : Int) : Bool := decide (a ≤ x ∧ x ≤ b)
theorem inRange_eq (x a b : Int) : spec_inRange.f x a b = some (inB a b x) := by
 unfold spec_inRange.f inB
 by_cases h : a ≤ x
 ·rw [if_pos h]; simp [h]
 ·rw [if_neg h]; simp [h]
theorem allIn_go (a b : Int) : ∀ (r pre : List Int), pre.length + r.length < 4611686018427387904 → Ev (fun k => spec_allIn.l0 k (pre ++ r) a b (pre.length : Int)) (r.all (inB a b))
 | [], pre, _ => by
  refine Ev.succ ?_
  simp only [spec_allIn.l0]
  exact Ev.neg (len_nlt pre) (Ev.pure _)
 | x :: r, pre, h => by
  refine Ev.succ ?_
  simp only [spec_allIn.l0]
  refine Ev.pos (len_lt _ _ _) (Ev.pos (by omega) (Ev.bind (Ev.eq (inRange_eq _ _ _)) ?_))
  rw [rdm]
  have hl : pre.length < 4611686018427387904 := by simp only [List.length_cons] at h; omega
  refine Ev.ite (fun hc => ?_) (fun hc => ?_)
  ·rw [len_next pre x hl, snoc_eq, List.all_cons, hc, Bool.true_and]
   exact allIn_go a b r (pre ++ [x]) (by simp only [List.length_append, List.length_cons, List.length_nil] at h ⊢; omega)
  ·rw [List.all_cons, Bool.eq_false_iff.2 hc, Bool.false_and]
   exact Ev.pure _
theorem allIn_ev (l : List Int) (a b : Int) (h : l.length < 4611686018427387904) : Ev (fun k => spec_allIn.f k l a b) (l.all (inB a b)) := allIn_go a b l [] (by simpa using h)
def ascB : List Int → Bool
 | x :: y :: r => decide (x < y) && ascB (y :: r)
 | _ => true
theorem ascends_go : ∀ (r pre : List Int) (x : Int), pre.length + r.length + 1 < 4611686018427387904 → Ev (fun k => spec_ascends.l0 k (pre ++ x :: r) ((pre.length : Int) + 1)) (ascB (x :: r))
 | [], pre, x, _ => by
  refine Ev.succ ?_
  simp only [spec_ascends.l0]
  exact Ev.neg (by simp) (Ev.pure _)
 | y :: r, pre, x, h => by
  have hl : pre.length < 4611686018427387904 := by simp only [List.length_cons] at h; omega
  have h1 : wrap64 ((pre.length : Int) + 1 - 1) = (pre.length : Int) := by rw [w64 (by omega) (by omega)]; omega
  have h2 : rd (pre ++ x :: y :: r) ((pre.length : Int) + 1) = y := by
   simp [rd]
  refine Ev.succ ?_
  simp only [spec_ascends.l0, h1, h2, rdm]
  refine Ev.pos (by simp only [List.length_append, List.length_cons]; omega) (Ev.pos (by omega) (Ev.pos (by omega) (Ev.pos (len_lt _ _ _) (Ev.ite (fun hc => ?_) (fun hc => ?_)))))
  ·rw [ascB, decide_eq_false (by omega), Bool.false_and]
   exact Ev.pure _
  ·have h3 : wrap64 ((pre.length : Int) + 1 + 1) = ((pre ++ [x]).length : Int) + 1 := by
    simp only [List.length_append, List.length_cons, List.length_nil] at h ⊢
    rw [w64 (by omega) (by omega)]; omega
   rw [h3, snoc_eq, ascB, decide_eq_true (by omega : x < y), Bool.true_and]
   exact ascends_go r (pre ++ [x]) y (by simp only [List.length_append, List.length_cons, List.length_nil] at h ⊢; omega)
theorem ascends_ev (l : List Int) (h : l.length < 4611686018427387904) : Ev (fun k => spec_ascends.f k l) (ascB l) := by
 cases l with
 | nil =>
  unfold spec_ascends.f
  refine Ev.succ ?_
  simp only [spec_ascends.l0]
  exact Ev.neg (by simp) (Ev.pure _)
 | cons x r => exact ascends_go r [] x (by simp only [List.length_cons, List.length_nil] at h ⊢; omega)
def taskB (n : Nat) (t : TT) : Bool := inB 1 20 t.f0 && inB 0 2 t.f2 && inB 1 4 t.f3 && t.f1.all (inB 0 ((n : Int) - 1)) && ascB t.f1
theorem validTask_ev (n : Nat) (t : TT) (hn : n < 4611686018427387904) (h : t.f1.length < 4611686018427387904) : Ev (fun k => spec_validTask.f k t.f0 t.f1 t.f2 t.f3 (n : Int)) (taskB n t) := by
 unfold spec_validTask.f taskB
 have hw : wrap64 ((n : Int) - 1) = (n : Int) - 1 := w64 (by omega) (by omega)
 rw [hw]
 refine Ev.bind (Ev.eq (inRange_eq _ _ _)) (Ev.ite (fun h0 => ?_) (fun h0 => ?_))
 ·refine Ev.bind (Ev.eq (inRange_eq _ _ _)) (Ev.ite (fun h1 => ?_) (fun h1 => ?_))
  ·refine Ev.bind (Ev.eq (inRange_eq _ _ _)) (Ev.ite (fun h2 => ?_) (fun h2 => ?_))
   ·refine Ev.bind (allIn_ev _ _ _ h) (Ev.ite (fun h3 => ?_) (fun h3 => ?_))
    ·rw [h0, h1, h2, h3]
     exact Ev.bind (ascends_ev _ h) (Ev.pure _)
    ·rw [Bool.eq_false_iff.2 h3]; simp only [Bool.and_false, Bool.false_and]; exact Ev.pure _
   ·rw [Bool.eq_false_iff.2 h2]; simp only [Bool.and_false, Bool.false_and]; exact Ev.pure _
  ·rw [Bool.eq_false_iff.2 h1]; simp only [Bool.and_false, Bool.false_and]; exact Ev.pure _
 ·rw [Bool.eq_false_iff.2 h0]; simp only [Bool.and_false, Bool.false_and]; exact Ev.pure _
def Small (ts : List TT) : Prop := ts.length < 1099511627776 ∧ ∀ t ∈ ts, t.f1.length < 1099511627776
theorem rdT (pre : List TT) (x : TT) (r : List TT) : rd_T39 (pre ++ x :: r) (pre.length : Int) = x := by simp [rd_T39]
def fineB (ts : List TT) : Bool := ts.all (taskB ts.length) && decide (ts.length ≤ 8)
theorem tasksFine_go (ts : List TT) (hs : Small ts) : ∀ (r pre : List TT), pre ++ r = ts → Ev (fun k => spec_tasksFine.l0 k ts (pre.length : Int)) (r.all (taskB ts.length) && decide (ts.length ≤ 8))
 | [], pre, he => by
  subst he
  refine Ev.succ ?_
  simp only [spec_tasksFine.l0]
  refine Ev.neg (len_nlt pre) ?_
  simp only [List.all_nil, Bool.true_and]
  refine Ev.eq ?_
  congr 1
  exact decide_eq_decide.2 (by omega)
 | x :: r, pre, he => by
  have hl := hs.1
  have hx := hs.2 x (by rw [← he]; simp)
  have h1 : rd_T39 ts (pre.length : Int) = x := by rw [← he]; exact rdT pre x r
  have h2 : (pre.length : Int) < (ts.length : Int) := by rw [← he]; exact len_lt _ _ _
  refine Ev.succ ?_
  simp only [spec_tasksFine.l0, h1]
  refine Ev.pos h2 (Ev.pos (by omega) (Ev.bind (validTask_ev ts.length x (by omega) (by omega)) (Ev.ite (fun hc => ?_) (fun hc => ?_))))
  ·rw [len_next pre x (by omega), List.all_cons, hc, Bool.true_and]
   exact tasksFine_go ts hs r (pre ++ [x]) (by rw [← he]; simp)
  ·rw [List.all_cons, Bool.eq_false_iff.2 hc, Bool.false_and, Bool.false_and]
   exact Ev.pure _
theorem tasksFine_ev (ts : List TT) (hs : Small ts) : Ev (fun k => spec_tasksFine.f k ts) (fineB ts) := tasksFine_go ts hs ts [] rfl
theorem isIn_go (n : Int) : ∀ (r pre : List Int), pre.length + r.length < 4611686018427387904 → Ev (fun k => spec_isIn.l0 k (pre ++ r) n (pre.length : Int)) (decide (n ∈ r))
 | [], pre, _ => by
  refine Ev.succ ?_
  simp only [spec_isIn.l0]
  exact Ev.neg (len_nlt pre) (Ev.eq (by simp))
 | x :: r, pre, h => by
  have hl : pre.length < 4611686018427387904 := by simp only [List.length_cons] at h; omega
  refine Ev.succ ?_
  simp only [spec_isIn.l0, rdm]
  refine Ev.pos (len_lt _ _ _) (Ev.pos (by omega) (Ev.ite (fun hc => ?_) (fun hc => ?_)))
  ·rw [decide_eq_true (by rw [hc]; exact List.mem_cons_self)]
   exact Ev.pure _
  ·rw [len_next pre x hl, snoc_eq, show decide (n ∈ x :: r) = decide (n ∈ r) from decide_eq_decide.2 (by rw [List.mem_cons]; exact ⟨fun h => h.resolve_left (fun e => hc e.symm), Or.inr⟩)]
   exact isIn_go n r (pre ++ [x]) (by simp only [List.length_append, List.length_cons, List.length_nil] at h ⊢; omega)
theorem isIn_ev (l : List Int) (n : Int) (h : l.length < 4611686018427387904) : Ev (fun k => spec_isIn.f k l n) (decide (n ∈ l)) := isIn_go n l [] (by simpa using h)
def subL (needs done : List Int) : Bool := needs.all fun x => decide (x ∈ done)
theorem allDone_go (done : List Int) (hd : done.length < 4611686018427387904) : ∀ (r pre : List Int), pre.length + r.length < 4611686018427387904 → Ev (fun k => spec_allDone.l0 k (pre ++ r) done (pre.length : Int)) (subL r done)
 | [], pre, _ => by
  refine Ev.succ ?_
  simp only [spec_allDone.l0]
  exact Ev.neg (len_nlt pre) (Ev.pure _)
 | x :: r, pre, h => by
  have hl : pre.length < 4611686018427387904 := by simp only [List.length_cons] at h; omega
  refine Ev.succ ?_
  simp only [spec_allDone.l0, rdm]
  refine Ev.pos (len_lt _ _ _) (Ev.pos (by omega) (Ev.bind (isIn_ev _ _ hd) (Ev.ite (fun hc => ?_) (fun hc => ?_))))
  ·rw [len_next pre x hl, snoc_eq, subL, List.all_cons, hc, Bool.true_and]
   exact allDone_go done hd r (pre ++ [x]) (by simp only [List.length_append, List.length_cons, List.length_nil] at h ⊢; omega)
  ·rw [subL, List.all_cons, Bool.eq_false_iff.2 hc, Bool.false_and]
   exact Ev.pure _
theorem allDone_ev (l done : List Int) (h : l.length < 4611686018427387904) (hd : done.length < 4611686018427387904) : Ev (fun k => spec_allDone.f k l done) (subL l done) := allDone_go done hd l [] (by simpa using h)
end Go.Proofs.YtajapkjplgaigaaDoor.P
end
section
namespace Go.Proofs.YtajapkjplgaigaaDoor.P
open Go.RowKit Go.Shelf Go.Proofs.YtajapkjplgaigaaDoorW.PrintWords Go.Proofs.YtajapkjplgaigaaDoorW.PrintLast Go.Proofs.YtajapkjplgaigaaDoorW.PrintMore
set_option linter.unusedVariables false
set_option linter.unusedSimpArgs false
def maskL (l : List Int) : Nat := l.foldl (fun s i => s ||| 2 ^ i.toNat) 0
theorem mask_bit (l : List Int) : ∀ (s : Nat) (j : Nat), (∀ x ∈ l, 0 ≤ x) → (l.foldl (fun s i => s ||| 2 ^ i.toNat) s).testBit j = (s.testBit j || decide ((j : Int) ∈ l)) := by
 induction l with
 | nil => intro s j _; simp
 | cons x r ih =>
  intro s j h
  have hx := h x List.mem_cons_self
  rw [List.foldl_cons, ih _ _ (fun y hy => h y (List.mem_cons_of_mem _ hy)), Nat.testBit_or, Nat.testBit_two_pow, Bool.or_assoc]
  congr 1
  rw [← Bool.decide_or]
  refine decide_eq_decide.2 ?_
  rw [List.mem_cons]
  constructor
  ·rintro (h1 | h1)
   ·exact Or.inl (by omega)
   ·exact Or.inr h1
  ·rintro (h1 | h1)
   ·exact Or.inl (by omega)
   ·exact Or.inr h1
theorem maskL_bit {l : List Int} (h : ∀ x ∈ l, 0 ≤ x) (j : Nat) : (maskL l).testBit j = decide ((j : Int) ∈ l) := by
 unfold maskL; rw [mask_bit l 0 j h]; simp
theorem setGo_eq (n : Nat) : ∀ (l : List Int) (last : Int) (s : Nat), -1 ≤ last → setGo n l last s = if (ascB (last :: l) && l.all (inB 0 ((n : Int) - 1))) = true then some (l.foldl (fun s i => s ||| 2 ^ i.toNat) s) else none
 | [], last, s, h => by simp [setGo, ascB]
 | i :: r, last, s, h => by
  unfold setGo
  by_cases hc : last + 1 ≤ i ∧ i < n
  ·rw [if_pos hc, setGo_eq n r i _ (by omega)]
   rw [ascB, List.all_cons, decide_eq_true (by omega : last < i), Bool.true_and, show inB 0 ((n : Int) - 1) i = true from decide_eq_true (by omega), Bool.true_and]
   rfl
  ·rw [if_neg hc, if_neg]
   intro h2
   rw [ascB, List.all_cons] at h2
   simp only [Bool.and_eq_true, decide_eq_true_eq, inB] at h2
   omega
theorem ascB_neg {l : List Int} (h : ∀ x ∈ l, 0 ≤ x) : ascB (-1 :: l) = ascB l := by
 cases l with
 | nil => rfl
 | cons x r => rw [ascB, decide_eq_true (by have := h x List.mem_cons_self; omega), Bool.true_and]
theorem setP_eq (l : List Int) (n : Nat) : setP l n = if (ascB l && l.all (inB 0 ((n : Int) - 1))) = true then some (maskL l) else none := by
 unfold setP
 rw [setGo_eq n l (-1) 0 (by omega)]
 by_cases hA : l.all (inB 0 ((n : Int) - 1)) = true
 ·have h0 : ∀ x ∈ l, 0 ≤ x := fun x hx => by
   have := List.all_eq_true.1 hA x hx
   simp only [inB, decide_eq_true_eq] at this
   exact this.1
  rw [ascB_neg h0]; rfl
 ·rw [Bool.eq_false_iff.2 hA, Bool.and_false, Bool.and_false]; rfl
theorem taskP_eq (n : Nat) (t : TT) : taskP n t = if taskB n t = true then some (maskL t.f1) else none := by
 unfold taskP taskB
 rw [setP_eq]
 by_cases h1 : (ascB t.f1 && t.f1.all (inB 0 ((n : Int) - 1))) = true
 ·rw [if_pos h1]
  have h2 := Bool.and_eq_true_iff.1 h1
  rw [h2.1, h2.2]
  simp only [Bool.and_true, inB, Bool.and_eq_true, decide_eq_true_eq, and_assoc]
 ·rw [if_neg h1, if_neg]
  intro h
  simp only [Bool.and_eq_true] at h h1
  exact h1 ⟨h.2, h.1.2⟩
theorem needsGo_eq (n : Nat) : ∀ (r : List TT) (acc : List Nat), needsGo n r acc = if r.all (taskB n) = true then some (acc ++ r.map fun t => maskL t.f1) else none
 | [], acc => by simp [needsGo]
 | t :: r, acc => by
  unfold needsGo
  rw [taskP_eq]
  by_cases h : taskB n t = true
  ·rw [if_pos h]
   show needsGo n r (acc ++ [maskL t.f1]) = _
   rw [needsGo_eq n r, List.all_cons, h, Bool.true_and, List.map_cons, List.append_assoc]
   rfl
  ·rw [if_neg h, List.all_cons, Bool.eq_false_iff.2 h, Bool.false_and]
   rfl
def needsM (ts : List TT) : List Nat := ts.map fun t => maskL t.f1
theorem needsP_eq (ts : List TT) : needsP ts = if fineB ts = true then some (needsM ts) else none := by
 unfold needsP fineB
 by_cases h : ts.length > 8
 ·rw [if_pos h, decide_eq_false (by omega), Bool.and_false]; rfl
 ·rw [if_neg h, needsGo_eq, decide_eq_true (by omega : ts.length ≤ 8), Bool.and_true]; rfl
theorem fine_task {ts : List TT} (h : fineB ts = true) {i : Nat} (hi : i < ts.length) : taskB ts.length ts[i] = true := by
 have := (Bool.and_eq_true_iff.1 h).1
 exact List.all_eq_true.1 this _ (List.getElem_mem hi)
theorem fine_len {ts : List TT} (h : fineB ts = true) : ts.length ≤ 8 := of_decide_eq_true (Bool.and_eq_true_iff.1 h).2
theorem task_mem {n : Nat} {t : TT} (h : taskB n t = true) : (∀ x ∈ t.f1, 0 ≤ x ∧ x < n) ∧ ascB t.f1 = true := by
 unfold taskB at h
 simp only [Bool.and_eq_true] at h
 refine ⟨fun x hx => ?_, h.2⟩
 have := List.all_eq_true.1 h.1.2 x hx
 simp only [inB, decide_eq_true_eq] at this
 omega
theorem needsM_get (ts : List TT) (i : Nat) (hi : i < ts.length) : (needsM ts).getD i 0 = maskL (ts[i].f1) := by
 simp [needsM, List.getD_eq_getElem?_getD, List.getElem?_map, List.getElem?_eq_getElem hi]
theorem rdT_at (ts : List TT) (i : Nat) (hi : i < ts.length) : rd_T39 ts (i : Int) = ts[i] := by
 simp [rd_T39, List.getElem?_eq_getElem hi]
theorem sub_eq {l done : List Int} (hl : ∀ x ∈ l, 0 ≤ x) (s : Nat) (hs : ∀ j, s.testBit j = decide ((j : Int) ∈ done)) : (maskL l &&& s == maskL l) = subL l done := by
 rw [Bool.eq_iff_iff]
 unfold subL
 rw [List.all_eq_true, beq_iff_eq]
 constructor
 ·intro h x hx
  have hx0 := hl x hx
  have h1 : (maskL l).testBit x.toNat = true := by rw [maskL_bit hl, decide_eq_true]; rwa [Int.toNat_of_nonneg hx0]
  rw [← h, Nat.testBit_and, hs, Bool.and_eq_true] at h1
  have h2 := of_decide_eq_true h1.2
  rw [Int.toNat_of_nonneg hx0] at h2
  exact decide_eq_true h2
 ·intro h
  refine Nat.eq_of_testBit_eq fun j => ?_
  rw [Nat.testBit_and, hs, maskL_bit hl]
  by_cases hj : (j : Int) ∈ l
  ·have := h _ hj
   rw [this, Bool.and_true]
  ·rw [decide_eq_false hj, Bool.false_and]
theorem canP_eq {ts : List TT} (hf : fineB ts = true) {done : List Int} {s : Nat} (hs : ∀ j, s.testBit j = decide ((j : Int) ∈ done)) {i : Nat} (hi : i < ts.length) :
  canP (needsM ts) s i = (!decide ((i : Int) ∈ done) && subL ts[i].f1 done) := by
 unfold canP
 rw [needsM_get ts i hi, sub_eq (fun x hx => ((task_mem (fine_task hf hi)).1 x hx).1) s hs, hs]
def findFrom (p : Nat → Bool) (n j : Nat) : Option Nat := ((List.range n).drop j).find? p
theorem findFrom_step (p : Nat → Bool) (n j : Nat) (h : j < n) : findFrom p n j = if p j then some j else findFrom p n (j + 1) := by
 unfold findFrom
 rw [List.drop_eq_getElem_cons (by simpa using h), List.find?_cons, List.getElem_range]
 cases p j <;> rfl
theorem findFrom_end (p : Nat → Bool) (n : Nat) : findFrom p n n = none := by
 unfold findFrom
 rw [List.drop_eq_nil_of_le (by simp)]; rfl
theorem top_l1 (ts : List TT) (hs : Small ts) (hf : fineB ts = true) (out : List Nat) (s : Nat) (hb : ∀ j, s.testBit j = decide (((j : Nat) : Int) ∈ nI out)) (hl : out.length ≤ 8) (r : List Int)
  (hnone : firstP (needsM ts) s = none → r = nI out)
  (hsome : ∀ i, firstP (needsM ts) s = some i → Ev (fun k => spec_topOrder.l0 k ts (nI (out ++ [i]))) r) :
  ∀ (m j : Nat), j + m = ts.length → findFrom (canP (needsM ts) s) ts.length j = firstP (needsM ts) s → Ev (fun k => spec_topOrder.l1 k ts (nI out) (-1) (j : Int)) r := by
 have hlen : ts.length ≤ 8 := fine_len hf
 have hnl : (nI out).length = out.length := nI_length out
 intro m
 induction m with
 | zero =>
  intro j hj hfind
  have hjn : j = ts.length := by omega
  subst hjn
  rw [findFrom_end] at hfind
  refine Ev.succ ?_
  simp only [spec_topOrder.l1]
  refine Ev.neg (by omega) (Ev.succ ?_)
  simp only [spec_topOrder.j2]
  refine Ev.neg (by simp) (Ev.pos (by omega) ?_)
  rw [hnone hfind.symm]
  exact Ev.pure _
 | succ m ih =>
  intro j hj hfind
  have hjl : j < ts.length := by omega
  have hw : wrap64 ((j : Int) + 1) = ((j + 1 : Nat) : Int) := w64n j (by omega)
  rw [findFrom_step _ _ _ hjl, canP_eq hf hb hjl] at hfind
  refine Ev.succ ?_
  simp only [spec_topOrder.l1]
  refine Ev.pos (by omega) (Ev.succ ?_)
  simp only [spec_topOrder.j2]
  refine Ev.pos (by simp) (Ev.bind (isIn_ev _ _ (by omega)) (Ev.ite (fun hc => ?_) (fun hc => ?_)))
  ·rw [hc] at hfind
   simp only [Bool.not_true, Bool.false_and] at hfind
   rw [hw]
   exact ih (j + 1) (by omega) hfind
  ·rw [Bool.eq_false_iff.2 hc] at hfind
   simp only [Bool.not_false, Bool.true_and] at hfind
   rw [rdT_at ts j hjl, hw]
   have h1 := hs.2 ts[j] (List.getElem_mem hjl)
   refine Ev.pos (by omega) (Ev.pos (by omega) (Ev.bind (allDone_ev _ _ (by omega) (by omega)) (Ev.ite (fun hd => ?_) (fun hd => ?_))))
   ·rw [if_pos hd] at hfind
    refine Ev.succ ?_
    simp only [spec_topOrder.l1]
    have hgo : Ev (fun k => spec_topOrder.j2 k ts (nI out) (j : Int) ((j + 1 : Nat) : Int) false) r := by
     refine Ev.succ ?_
     simp only [spec_topOrder.j2]
     refine Ev.neg (by simp) (Ev.neg (by omega) (Ev.pos (by omega) ?_))
     have := hsome j hfind.symm
     simpa [nI] using this
    refine Ev.ite (fun h2 => ?_) (fun h2 => hgo)
    rw [decide_eq_false (by omega)]
    exact hgo
   ·rw [if_neg hd] at hfind
    exact ih (j + 1) (by omega) hfind
theorem nodup_len : ∀ (a b : List Nat), a.Nodup → (∀ x ∈ a, x ∈ b) → a.length ≤ b.length
 | [], b, _, _ => Nat.zero_le _
 | x :: a, b, h, hs => by
  have hx : x ∈ b := hs x List.mem_cons_self
  have h1 := nodup_len a (b.erase x) (List.nodup_cons.1 h).2 (fun y hy => (List.mem_erase_of_ne (fun (e : y = x) => (List.nodup_cons.1 h).1 (by rw [← e]; exact hy))).2 (hs y (List.mem_cons_of_mem _ hy)))
  rw [List.length_erase_of_mem hx] at h1
  have : 0 < b.length := List.length_pos_of_mem hx
  rw [List.length_cons]
  omega
structure OrdOk (n : Nat) (out : List Nat) (s : Nat) : Prop where
 nd : out.Nodup
 lt : ∀ i ∈ out, i < n
 bit : ∀ j, s.testBit j = decide (j ∈ out)
theorem mem_nI {out : List Nat} {j : Nat} : ((j : Nat) : Int) ∈ nI out ↔ j ∈ out := by
 unfold nI
 rw [List.mem_map]
 exact ⟨fun ⟨x, hx, he⟩ => by rwa [show j = x by omega], fun h => ⟨j, h, rfl⟩⟩
theorem OrdOk.bits {n : Nat} {out : List Nat} {s : Nat} (h : OrdOk n out s) (j : Nat) : s.testBit j = decide (((j : Nat) : Int) ∈ nI out) := by
 rw [h.bit]; exact decide_eq_decide.2 mem_nI.symm
theorem OrdOk.len {n : Nat} {out : List Nat} {s : Nat} (h : OrdOk n out s) : out.length ≤ n := by
 have := nodup_len out (List.range n) h.nd (fun i hi => List.mem_range.2 (h.lt i hi))
 simpa using this
theorem OrdOk.add {n : Nat} {out : List Nat} {s i : Nat} (h : OrdOk n out s) (hi : i < n) (hn : s.testBit i = false) : OrdOk n (out ++ [i]) (s ||| 2 ^ i) := by
 have hni : i ∉ out := fun hm => by rw [h.bit, decide_eq_true hm] at hn; cases hn
 refine ⟨List.nodup_append.2 ⟨h.nd, by simp, fun a ha b hb => by rw [List.mem_singleton] at hb; subst hb; exact fun e => hni (e ▸ ha)⟩, fun j hj => ?_, fun j => ?_⟩
 ·rcases List.mem_append.1 hj with hj | hj
  ·exact h.lt j hj
  ·rw [List.mem_singleton.1 hj]; exact hi
 ·rw [Nat.testBit_or, h.bit, Nat.testBit_two_pow, ← Bool.decide_or]
  refine decide_eq_decide.2 ?_
  rw [List.mem_append, List.mem_singleton]
  exact or_congr Iff.rfl eq_comm
theorem firstP_can {nd : List Nat} {s i : Nat} (h : firstP nd s = some i) : i < nd.length ∧ canP nd s i = true := by
 refine ⟨firstP_lt h, ?_⟩
 have := List.find?_some h
 exact this
theorem OrdOk.full {n : Nat} {out : List Nat} {s : Nat} (h : OrdOk n out s) (hl : out.length = n) (nd : List Nat) (hnl : nd.length = n) : firstP nd s = none := by
 cases hf : firstP nd s with
 | none => rfl
 | some i =>
  obtain ⟨h1, h2⟩ := firstP_can hf
  have h3 : s.testBit i = false := by unfold canP at h2; simp only [Bool.and_eq_true, Bool.not_eq_true'] at h2; exact h2.1
  have h4 := (h.add (by omega) h3).len
  simp only [List.length_append, List.length_cons, List.length_nil] at h4
  omega
theorem orderGo_none {nd : List Nat} {s : List Nat × Nat} (h : firstP nd s.2 = none) : ∀ m, orderGo nd m s = s
 | 0 => rfl
 | m + 1 => by
  have : orderStep nd s = s := by unfold orderStep; rw [h]
  rw [orderGo, this]
  exact orderGo_none h m
theorem top_l0 (ts : List TT) (hs : Small ts) (hf : fineB ts = true) : ∀ (m : Nat) (out : List Nat) (s : Nat), OrdOk ts.length out s → out.length + m = ts.length →
  Ev (fun k => spec_topOrder.l0 k ts (nI out)) (nI (orderGo (needsM ts) m (out, s)).1) ∧ OrdOk ts.length (orderGo (needsM ts) m (out, s)).1 (orderGo (needsM ts) m (out, s)).2 := by
 have hlen : ts.length ≤ 8 := fine_len hf
 have hnl : (needsM ts).length = ts.length := by simp [needsM]
 intro m
 induction m with
 | zero =>
  intro out s ho hm
  have hno := ho.full (by omega) (needsM ts) hnl
  refine ⟨?_, by simpa [orderGo] using ho⟩
  refine Ev.succ ?_
  simp only [spec_topOrder.l0, orderGo]
  exact top_l1 ts hs hf out s ho.bits (by omega) _ (fun _ => rfl) (fun i hi => by rw [hno] at hi; cases hi) ts.length 0 (by omega) (by unfold findFrom firstP; rw [List.drop_zero, hnl])
 | succ m ih =>
  intro out s ho hm
  cases hfi : firstP (needsM ts) s with
  | none =>
   rw [orderGo_none (s := (out, s)) hfi]
   refine ⟨?_, ho⟩
   refine Ev.succ ?_
   simp only [spec_topOrder.l0]
   exact top_l1 ts hs hf out s ho.bits (by omega) _ (fun _ => rfl) (fun i hi => by rw [hfi] at hi; cases hi) ts.length 0 (by omega) (by unfold findFrom firstP; rw [List.drop_zero, hnl])
  | some i =>
   obtain ⟨h1, h2⟩ := firstP_can hfi
   have h3 : s.testBit i = false := by unfold canP at h2; simp only [Bool.and_eq_true, Bool.not_eq_true'] at h2; exact h2.1
   have hstep : orderStep (needsM ts) (out, s) = (out ++ [i], s ||| 2 ^ i) := by unfold orderStep; simp only [hfi]
   rw [orderGo, hstep]
   obtain ⟨e1, e2⟩ := ih (out ++ [i]) (s ||| 2 ^ i) (ho.add (by omega) h3) (by simp only [List.length_append, List.length_cons, List.length_nil]; omega)
   refine ⟨?_, e2⟩
   refine Ev.succ ?_
   simp only [spec_topOrder.l0]
   exact top_l1 ts hs hf out s ho.bits (by omega) _ (fun h => by rw [hfi] at h; cases h) (fun i' hi => by rw [hfi] at hi; injection hi with hi; subst hi; exact e1) ts.length 0 (by omega) (by unfold findFrom firstP; rw [List.drop_zero, hnl])
theorem ordOk_nil (n : Nat) : OrdOk n [] 0 := ⟨List.nodup_nil, fun i hi => (by cases hi), fun j => (by simp)⟩
theorem topOrder_ev (ts : List TT) (hs : Small ts) (hf : fineB ts = true) : Ev (fun k => spec_topOrder.f k ts) (nI (orderP (needsM ts)).1) ∧ OrdOk ts.length (orderP (needsM ts)).1 (orderP (needsM ts)).2 := by
 have h := top_l0 ts hs hf ts.length [] 0 (ordOk_nil _) (by simp)
 unfold orderP
 have hnl : (needsM ts).length = ts.length := by simp [needsM]
 rw [hnl]
 exact h
theorem OrdOk.all {n : Nat} {out : List Nat} {s : Nat} (h : OrdOk n out s) : out.length = n ↔ s = 2 ^ n - 1 := by
 constructor
 ·intro hl
  refine Nat.eq_of_testBit_eq fun j => ?_
  rw [h.bit, Nat.testBit_two_pow_sub_one]
  refine decide_eq_decide.2 ⟨fun hj => h.lt j hj, fun hj => ?_⟩
  by_cases hm : j ∈ out
  ·exact hm
  ·have h4 := (h.add hj (by rw [h.bit, decide_eq_false hm])).len
   simp only [List.length_append, List.length_cons, List.length_nil] at h4
   omega
 ·intro he
  have := nodup_len (List.range n) out List.nodup_range (fun j hj => by
   have h1 := h.bit j
   rw [he, Nat.testBit_two_pow_sub_one, decide_eq_true (List.mem_range.1 hj)] at h1
   exact of_decide_eq_true h1.symm)
  rw [List.length_range] at this
  have := h.len
  omega
theorem graphP_some (ts : List TT) : (graphP ts).isSome = (fineB ts && decide ((orderP (needsM ts)).2 = 2 ^ ts.length - 1)) := by
 unfold graphP
 rw [needsP_eq]
 cases hf : fineB ts with
 | false => rfl
 | true =>
  simp only [if_true, Bool.true_and]
  by_cases h : (orderP (needsM ts)).2 = 2 ^ ts.length - 1
  ·rw [if_pos h, decide_eq_true h]; rfl
  ·rw [if_neg h, decide_eq_false h]; rfl
theorem graphP_fine {ts : List TT} {G : GrN} (h : graphP ts = some G) : fineB ts = true ∧ G.nd = needsM ts ∧ G.ts = ts := by
 obtain ⟨h1, h2, _⟩ := graphP_ok h
 rw [needsP_eq] at h2
 by_cases hf : fineB ts = true
 ·rw [if_pos hf] at h2
  injection h2 with h2
  exact ⟨hf, h2.symm, h1⟩
 ·rw [if_neg hf] at h2; cases h2
theorem validGraph_ev (ts : List TT) (hs : Small ts) : Ev (fun k => spec_validGraph.f k ts) (graphP ts).isSome := by
 unfold spec_validGraph.f
 rw [graphP_some]
 refine Ev.bind (tasksFine_ev ts hs) (Ev.ite (fun hf => ?_) (fun hf => ?_))
 ·obtain ⟨h1, h2⟩ := topOrder_ev ts hs hf
  refine Ev.bind h1 (Ev.eq ?_)
  congr 1
  rw [hf, Bool.true_and, nI_length, Bool.eq_iff_iff, beq_iff_eq, decide_eq_true_iff, ← h2.all]
  omega
 ·rw [Bool.eq_false_iff.2 hf]
  exact Ev.pure _
end Go.Proofs.YtajapkjplgaigaaDoor.P
end
section
namespace Go.Proofs.YtajapkjplgaigaaDoor.P
open Go.RowKit Go.Proofs.YtajapkjplgaigaaDoorW.PrintWords Go.Proofs.YtajapkjplgaigaaDoorW.PrintLast Go.Proofs.YtajapkjplgaigaaDoorW.PrintMore
attribute [local go_sem] max2_int min2_int max_two min_two max_three min_three max_four min_four   -- for this text's walks alone
set_option linter.unusedVariables false
set_option linter.unusedSimpArgs false
mutual
def spec_validDone.j0 : Nat → List (S39) → List Int → Bool → Option (Bool)
 | 0, _, _, _ => none
 | k + 1, x0, x1, x21 => if x21 = true then (some false) else (spec_validDone.l0 k x0 x1 0)
def spec_validDone.l0 : Nat → List (S39) → List Int → Int → Option (Bool)
 | 0, _, _, _ => none
 | k + 1, x0, x1, x5 => if x5 < (x1.length : Int) then (if 0 ≤ x5 then (if 0 ≤ (rd x1 x5) then (if (rd x1 x5) < (x0.length : Int) then ((spec_allDone.f k ((rd_T39 x0 (rd x1 x5)).f1) x1).bind fun t267 => (if t267 = true then (spec_validDone.l0 k x0 x1 (wrap64 (x5 + 1))) else (some false))) else (none)) else (none)) else (none)) else (some true)
end
def spec_validDone.f (k : Nat) (l0 : List (S39)) (l1 : List Int) : Option (Bool) := (spec_validGraph.f k l0).bind fun t262 => (if t262 = true then ((spec_ascends.f k l1).bind fun t263 => (if t263 = true then ((spec_allIn.f k l1 0 (wrap64 ((l0.length : Int) - 1))).bind fun t264 => (spec_validDone.j0 k l0 l1 (!t264))) else (spec_validDone.j0 k l0 l1 true))) else (spec_validDone.j0 k l0 l1 true))
end Go.Proofs.YtajapkjplgaigaaDoor.P
end
section
namespace Go.Proofs.YtajapkjplgaigaaDoor.P
open Go.RowKit Go.Proofs.YtajapkjplgaigaaDoorW.PrintWords Go.Proofs.YtajapkjplgaigaaDoorW.PrintLast Go.Proofs.YtajapkjplgaigaaDoorW.PrintMore
attribute [local go_sem] max2_int min2_int max_two min_two max_three min_three max_four min_four   -- for this text's walks alone
set_option linter.unusedVariables false
set_option linter.unusedSimpArgs false
def spec_ready.l0 : Nat → List (S39) → List Int → List Int → Int → Option (List Int)
 | 0, _, _, _, _ => none
 | k + 1, x0, x1, x5, x6 => if x6 < (x0.length : Int) then ((spec_isIn.f k x1 x6).bind fun t271 => (if t271 = true then (spec_ready.l0 k x0 x1 x5 (wrap64 (x6 + 1))) else (if 0 ≤ x6 then ((spec_allDone.f k ((rd_T39 x0 x6).f1) x1).bind fun t273 => (if t273 = true then (if x5.length < 17592186044416 then (spec_ready.l0 k x0 x1 (x5 ++ [x6]) (wrap64 (x6 + 1))) else (none)) else (spec_ready.l0 k x0 x1 x5 (wrap64 (x6 + 1))))) else (none)))) else (some x5)
def spec_ready.f (k : Nat) (l0 : List (S39)) (l1 : List Int) : Option (List Int) := spec_ready.l0 k l0 l1 (([] : List Int)) 0
end Go.Proofs.YtajapkjplgaigaaDoor.P
end
section
namespace Go.Proofs.YtajapkjplgaigaaDoor.P
open Go.RowKit Go.Proofs.YtajapkjplgaigaaDoorW.PrintWords Go.Proofs.YtajapkjplgaigaaDoorW.PrintLast Go.Proofs.YtajapkjplgaigaaDoorW.PrintMore
attribute [local go_sem] max2_int min2_int max_two min_two max_three min_three max_four min_four   -- for this text's walks alone
set_option linter.unusedVariables false
set_option linter.unusedSimpArgs false
def spec_ReadyTasks.f (k : Nat) (l0 : List (S39)) (l1 : List Int) : Option (List Int) := (spec_validDone.f k l0 l1).bind fun t277 => (if t277 = true then ((spec_ready.f k l0 l1).bind fun t278 => (some t278)) else (some ([] : List Int)))
end Go.Proofs.YtajapkjplgaigaaDoor.P
end
section
namespace Go.Proofs.YtajapkjplgaigaaDoor.P
open Go.RowKit Go.Proofs.YtajapkjplgaigaaDoorW.PrintWords Go.Proofs.YtajapkjplgaigaaDoorW.PrintLast Go.Proofs.YtajapkjplgaigaaDoorW.PrintMore
attribute [local go_sem] max2_int min2_int max_two min_two max_three min_three max_four min_four   -- for this text's walks alone
set_option linter.unusedVariables false
set_option linter.unusedSimpArgs false
mutual
def spec_FinishTask.j0 : Nat → List (S39) → List Int → Int → List Int → Bool → Option (List Int × Bool)
 | 0, _, _, _, _, _ => none
 | k + 1, x0, x1, x2, x8, x22 => if x22 = true then (some (([] : List Int), false)) else (spec_FinishTask.l0 k x0 x1 x2 x8 0)
def spec_FinishTask.l0 : Nat → List (S39) → List Int → Int → List Int → Int → Option (List Int × Bool)
 | 0, _, _, _, _, _ => none
 | k + 1, x0, x1, x2, x8, x9 => if x9 < (x0.length : Int) then (if x9 = x2 then (if x8.length < 17592186044416 then (spec_FinishTask.l0 k x0 x1 x2 (x8 ++ [x9]) (wrap64 (x9 + 1))) else (none)) else ((spec_isIn.f k x1 x9).bind fun t292 => (if t292 = true then (if x8.length < 17592186044416 then (spec_FinishTask.l0 k x0 x1 x2 (x8 ++ [x9]) (wrap64 (x9 + 1))) else (none)) else (spec_FinishTask.l0 k x0 x1 x2 x8 (wrap64 (x9 + 1)))))) else (some (x8, true))
end
def spec_FinishTask.f (k : Nat) (l0 : List (S39)) (l1 : List Int) (a2 : Int) : Option (List Int × Bool) := (some (([] : List Int) : List Int)).bind fun y281 => ((spec_validDone.f k l0 l1).bind fun t284 => (if t284 = true then ((spec_ready.f k l0 l1).bind fun t285 => ((spec_isIn.f k t285 a2).bind fun t288 => (spec_FinishTask.j0 k l0 l1 a2 y281 (!t288)))) else (spec_FinishTask.j0 k l0 l1 a2 y281 true)))
end Go.Proofs.YtajapkjplgaigaaDoor.P
end
section
namespace Go.Proofs.YtajapkjplgaigaaDoor.P
open Go.RowKit Go.Shelf Go.Proofs.YtajapkjplgaigaaDoorW.PrintWords Go.Proofs.YtajapkjplgaigaaDoorW.PrintLast Go.Proofs.YtajapkjplgaigaaDoorW.PrintMore
set_option linter.unusedVariables false
set_option linter.unusedSimpArgs false
def keepsL (ts : List TT) (done : List Int) (d : Int) : Bool := subL (rd_T39 ts d).f1 done
def doneB (ts : List TT) (done : List Int) : Bool := (graphP ts).isSome && ascB done && done.all (inB 0 ((ts.length : Int) - 1)) && done.all (keepsL ts done)
theorem inB_all {l : List Int} {n : Nat} (h : l.all (inB 0 ((n : Int) - 1)) = true) : ∀ x ∈ l, 0 ≤ x ∧ x < n := fun x hx => by
 have := List.all_eq_true.1 h x hx
 simp only [inB, decide_eq_true_eq] at this
 omega
structure DoneOk (ts : List TT) (done : List Int) (G : GrN) (s : Nat) : Prop where
 g : graphP ts = some G
 fine : fineB ts = true
 nd : G.nd = needsM ts
 gts : G.ts = ts
 s : s = maskL done
 asc : ascB done = true
 rng : ∀ x ∈ done, 0 ≤ x ∧ x < ts.length
 keeps : done.all (keepsL ts done) = true
def pickN (p : Nat → Bool) (n : Nat) : List Nat := (List.range n).filter p
theorem bits_pick {m n : Nat} (hn : n ≤ 8) (hm : m < 2 ^ n) (p : Nat → Bool) (h : ∀ i, i < n → m.testBit i = p i) : bitsN m = pickN p n := by
 unfold bitsN pickN
 obtain ⟨c, rfl⟩ : ∃ c, c = 8 - n := ⟨_, rfl⟩
 have h8 : (8 : Nat) = n + (8 - n) := by omega
 rw [h8, List.range_add, List.filter_append]
 have h2 : ((List.range (8 - n)).map (n + ·)).filter (fun i => m.testBit i) = [] := by
  refine List.filter_eq_nil_iff.2 fun x hx => ?_
  obtain ⟨y, _, rfl⟩ := List.mem_map.1 hx
  rw [Nat.testBit_lt_two_pow (Nat.lt_of_lt_of_le hm (Nat.pow_le_pow_right (by omega) (by omega)))]
  simp
 rw [h2, List.append_nil]
 exact List.filter_congr fun x hx => h x (List.mem_range.1 hx)
def pR (ts : List TT) (done : List Int) (i : Nat) : Bool := !decide ((i : Int) ∈ done) && subL (rd_T39 ts (i : Int)).f1 done
def readyL (ts : List TT) (done : List Int) : List Int := nI (pickN (pR ts done) ts.length)
theorem ivs_nI (l : List Nat) : ivs l = nI l := rfl
def pF (done : List Int) (at_ : Int) (i : Nat) : Bool := decide ((i : Int) = at_) || decide ((i : Int) ∈ done)
def finishL (ts : List TT) (done : List Int) (at_ : Int) : List Int := nI (pickN (pF done at_) ts.length)
end Go.Proofs.YtajapkjplgaigaaDoor.P
end
section
namespace Go.Proofs.YtajapkjplgaigaaDoor.P
open Go.RowKit Go.Shelf Go.Proofs.YtajapkjplgaigaaDoorW.PrintWords Go.Proofs.YtajapkjplgaigaaDoorW.PrintLast Go.Proofs.YtajapkjplgaigaaDoorW.PrintMore
set_option linter.unusedVariables false
set_option linter.unusedSimpArgs false
structure RdOk (B : List Int) : Prop where
 len : B.length ≤ 2000
 byte : ∀ x ∈ B, 0 ≤ x ∧ x ≤ 255
theorem RdOk.at {B : List Int} (hB : RdOk B) (i : Int) : 0 ≤ rd B i ∧ rd B i ≤ 255 := by
 unfold rd
 rw [List.getD_eq_getElem?_getD]
 cases h : B[i.toNat]? with
 | none => simp
 | some x => exact hB.byte x (List.mem_of_getElem? h)
def Dr {α : Type} (m p : Int) (good : α → Prop) (f : Nat → Option (α × Int)) : Prop := ∃ r q, Ev f (r, q) ∧ good r ∧ p ≤ q ∧ q ≤ p + m
section
variable {α β : Type} {good good' : α → Prop} {goodb : β → Prop} {m m' n p : Int} {f : Nat → Option (α × Int)}
theorem Dr.mono (h : Dr m p good f) (hm : m ≤ m') (hg : ∀ r, good r → good' r) : Dr m' p good' f := by
 obtain ⟨r, q, h1, h2, h3, h4⟩ := h
 exact ⟨r, q, h1, hg r h2, h3, by omega⟩
theorem Dr.bind {g : Nat → α × Int → Option (β × Int)} (hf : Dr m p good f) (hg : ∀ r q, good r → p ≤ q → q ≤ p + m → Dr n q goodb (fun k => g k (r, q))) : Dr (m + n) p goodb (fun k => (f k).bind (g k)) := by
 obtain ⟨r, q, h1, h2, h3, h4⟩ := hf
 obtain ⟨r', q', e1, e2, e3, e4⟩ := hg r q h2 h3 h4
 exact ⟨r', q', h1.bind e1, e2, by omega, by omega⟩
theorem Dr.bind0 {γ : Type} {f : Nat → Option γ} {x : γ} {g : Nat → γ → Option (β × Int)} (hf : Ev f x) (hg : Dr m p goodb (fun k => g k x)) : Dr m p goodb (fun k => (f k).bind (g k)) := by
 obtain ⟨r', q', e1, e2, e3, e4⟩ := hg
 exact ⟨r', q', hf.bind e1, e2, e3, e4⟩
theorem Dr.pure {r : α} {q : Int} (h : good r) (h1 : p ≤ q) (h2 : q ≤ p + m) : Dr m p good (fun _ => some (r, q)) := ⟨r, q, Ev.pure _, h, h1, h2⟩
theorem Dr.here {r : α} {q : Int} (h : good r) (h0 : 0 ≤ m) : Dr m q good (fun _ => some (r, q)) := ⟨r, q, Ev.pure _, h, Int.le_refl _, by omega⟩
theorem Dr.succ {f : Nat → Option (α × Int)} (h : Dr m p good (fun k => f (k + 1))) : Dr m p good f := by
 obtain ⟨r, q, h1, h2⟩ := h
 exact ⟨r, q, h1.succ, h2⟩
theorem Dr.pos {c : Prop} [Decidable c] {g : Nat → Option (α × Int)} (hc : c) (h : Dr m p good f) : Dr m p good (fun k => if c then f k else g k) := by
 obtain ⟨r, q, h1, h2⟩ := h
 exact ⟨r, q, h1.pos hc, h2⟩
theorem Dr.neg {c : Prop} [Decidable c] {g : Nat → Option (α × Int)} (hc : ¬ c) (h : Dr m p good f) : Dr m p good (fun k => if c then g k else f k) := by
 obtain ⟨r, q, h1, h2⟩ := h
 exact ⟨r, q, h1.neg hc, h2⟩
theorem Dr.ite {c : Prop} [Decidable c] {g : Nat → Option (α × Int)} (h : c → Dr m p good f) (h' : ¬ c → Dr m p good g) : Dr m p good (fun k => if c then f k else g k) := by
 by_cases hc : c
 ·exact Dr.pos hc (h hc)
 ·exact Dr.neg hc (h' hc)
end
theorem xor64_nn (a b : Nat) (ha : a < 2 ^ 62) (hb : b < 2 ^ 62) : 0 ≤ Go.bits .xor .i64 (a : Int) (b : Int) ∧ Go.bits .xor .i64 (a : Int) (b : Int) < 2 ^ 62 := by
 have h1 : (BitVec.ofInt 64 (a : Int)).toNat = a := by
  rw [BitVec.ofInt_natCast, BitVec.toNat_ofNat]; exact Nat.mod_eq_of_lt (by omega)
 have h2 : (BitVec.ofInt 64 (b : Int)).toNat = b := by
  rw [BitVec.ofInt_natCast, BitVec.toNat_ofNat]; exact Nat.mod_eq_of_lt (by omega)
 have h3 : Go.bits .xor .i64 (a : Int) (b : Int) = IntKind.i64.wrap ((a ^^^ b : Nat) : Int) := by
  show IntKind.i64.wrap ((BitVec.ofInt 64 (a : Int) ^^^ BitVec.ofInt 64 (b : Int)).toNat : Int) = _
  rw [BitVec.toNat_xor, h1, h2]
 have h4 : a ^^^ b < 2 ^ 62 := Nat.xor_lt_two_pow ha hb
 rw [h3, IntKind.wrap_i64]
 omega
theorem tmod_in {a n : Int} (ha : 0 ≤ a) (hn : 1 ≤ n) : 0 ≤ Int.tmod a n ∧ Int.tmod a n < n := ⟨Int.tmod_nonneg _ ha, Int.tmod_lt_of_pos _ (by omega)⟩
theorem pick_ev {B : List Int} (hB : RdOk B) (n p : Int) (hp : 0 ≤ p) (hp' : p ≤ 1000000) : Dr 1 p (fun r => 0 ≤ r ∧ (1 ≤ n → r < n) ∧ (n < 1 → r = 0)) (fun k => spec_reader_pick.f k B p n) := by
 have hlen := hB.len
 have e1 : wrap64 (p + 1) = p + 1 := w64 (by omega) (by omega)
 have e2 : wrap64 (p + 1 - 1) = p := by rw [w64 (by omega) (by omega)]; omega
 have e3 : wrap64 (p * 7) = p * 7 := w64 (by omega) (by omega)
 have e4 : wrap64 (p * 7 + 3) = p * 7 + 3 := w64 (by omega) (by omega)
 unfold spec_reader_pick.f
 rw [e1]
 refine Dr.ite (fun hn => ?_) (fun hn => ?_)
 ·refine Dr.succ ?_
  simp only [spec_reader_pick.j0]
  exact Dr.pos (by simp) (Dr.pure ⟨by omega, by omega, fun _ => rfl⟩ (by omega) (by omega))
 ·refine Dr.succ ?_
  simp only [spec_reader_pick.j0, e2]
  refine Dr.ite (fun h0 => Dr.pure ⟨by omega, by omega, by omega⟩ (by omega) (by omega)) (fun h0 => ?_)
  have hB0 : 0 < B.length := by
   rcases Nat.eq_zero_or_pos B.length with h | h
   ·exact absurd (by rw [h]; rfl) h0
   ·exact h
  refine Dr.ite (fun h1 => ?_) (fun h1 => ?_)
  ·refine Dr.pos hp (Dr.neg (by omega) ?_)
   have hb := hB.at p
   rw [w64 (by omega) (by omega)]
   have ht := tmod_in hb.1 (by omega : 1 ≤ n)
   exact Dr.pure ⟨ht.1, fun _ => ht.2, by omega⟩ (by omega) (by omega)
  ·have t1 := tmod_in hp (by omega : (1 : Int) ≤ B.length)
   have t2 := tmod_in (by omega : 0 ≤ p * 7 + 3) (by omega : (1 : Int) ≤ B.length)
   simp only [e3, e4]
   refine Dr.neg (by omega) (Dr.pos t1.1 (Dr.pos t1.2 (Dr.pos t2.1 (Dr.pos t2.2 (Dr.neg (by omega) ?_)))))
   have b1 := hB.at (Int.tmod p (B.length : Int))
   have b2 := hB.at (Int.tmod (p * 7 + 3) (B.length : Int))
   obtain ⟨x1, hx1⟩ : ∃ x, x = rd B (Int.tmod p (B.length : Int)) := ⟨_, rfl⟩
   obtain ⟨x2, hx2⟩ : ∃ x, x = rd B (Int.tmod (p * 7 + 3) (B.length : Int)) := ⟨_, rfl⟩
   obtain ⟨d, hd⟩ : ∃ x, x = Int.tdiv p (B.length : Int) := ⟨_, rfl⟩
   have d0 : 0 ≤ d := by rw [hd]; exact Int.tdiv_nonneg hp (by omega)
   have d1 : d ≤ p := by rw [hd, Int.tdiv_eq_ediv_of_nonneg hp]; exact Int.ediv_le_self _ hp
   rw [← hx1] at b1 ⊢
   rw [← hx2] at b2 ⊢
   rw [← hd]
   simp only [w64 (n := x1) (by omega) (by omega), w64 (n := x2) (by omega) (by omega), w64 (n := x1 * 131) (by omega) (by omega), w64 (n := x2 * 1117) (by omega) (by omega), w64 (n := p * 29) (by omega) (by omega), w64 (n := d) (by omega) (by omega), w64 (n := d * 53) (by omega) (by omega),
    w64 (n := x1 * 131 + x2 * 1117) (by omega) (by omega), w64 (n := x1 * 131 + x2 * 1117 + p * 29) (by omega) (by omega), w64 (n := x1 * 131 + x2 * 1117 + p * 29 + d * 53) (by omega) (by omega)]
   obtain ⟨s, hs⟩ : ∃ s : Nat, x1 * 131 + x2 * 1117 + p * 29 + d * 53 = (s : Int) := ⟨(x1 * 131 + x2 * 1117 + p * 29 + d * 53).toNat, by omega⟩
   have hs2 : s < 1000000000000 := by omega
   rw [hs]
   have hdiv : wrap64 (Int.tdiv (s : Int) 64) = ((s / 64 : Nat) : Int) := by
    rw [Int.tdiv_eq_ediv_of_nonneg (by omega), w64 (by omega) (by omega)]; omega
   rw [hdiv]
   have hx := xor64_nn s (s / 64) (by omega) (by omega)
   have ht := tmod_in hx.1 (by omega : 1 ≤ n)
   exact Dr.pure ⟨ht.1, fun _ => ht.2, by omega⟩ (by omega) (by omega)
theorem one_ev {B : List Int} (hB : RdOk B) (l : List Int) (p : Int) (hl : 0 < l.length) (hp : 0 ≤ p) (hp' : p ≤ 1000000) : Dr 1 p (fun r => r ∈ l) (fun k => spec_reader_one.f k B p l) := by
 unfold spec_reader_one.f
 refine ((pick_ev hB (l.length : Int) p hp hp').bind (n := 0) (fun r q hr h1 h2 => ?_)).mono (by omega) (fun _ h => h)
 have h3 := hr.2.1 (by omega)
 refine Dr.pos hr.1 (Dr.pos h3 (Dr.here ?_ (by omega)))
 unfold rd
 rw [List.getD_eq_getElem?_getD, List.getElem?_eq_getElem (by omega)]
 exact List.getElem_mem _
theorem copyInts_eq (l : List Int) (h : l.length < 1099511627776) : spec_copyInts.f l = some l := by
 unfold spec_copyInts.f
 simp only [Option.bind_some]
 rw [if_pos (by simp; omega)]
 rfl
theorem spoil_ev {B : List Int} (hB : RdOk B) (l : List Int) (n p : Int) (hl : l.length ≤ 1000) (hp : 0 ≤ p) (hp' : p ≤ 900000) : Dr 3 p (fun r => r.length ≤ l.length + 1) (fun k => spec_reader_spoil.f k B p l n) := by
 unfold spec_reader_spoil.f
 refine Dr.bind0 (Ev.eq (copyInts_eq l (by omega))) (((pick_ev hB 20 p hp (by omega)).bind (n := 2) (fun r q hr h1 h2 => ?_)).mono (by omega) (fun _ h => h))
 refine Dr.ite (fun _ => Dr.pos (by omega) (Dr.here (by simp) (by omega))) (fun _ => Dr.ite (fun _ => ?_) (fun _ => Dr.ite (fun _ => ?_) (fun _ => Dr.here (by simp) (by omega))))
 ·exact Dr.ite (fun h => Dr.pos (by omega) (Dr.here (by simp; omega) (by omega))) (fun _ => Dr.here (by simp) (by omega))
 ·refine Dr.ite (fun h => ?_) (fun _ => Dr.here (by simp) (by omega))
  refine ((pick_ev hB (l.length : Int) q (by omega) (by omega)).bind (n := 1) (fun r2 q2 hr2 h3 h4 => ?_)).mono (by omega) (fun _ h => h)
  refine ((one_ev hB _ q2 (by simp) (by omega) (by omega)).bind (n := 0) (fun r3 q3 hr3 h5 h6 => ?_)).mono (by omega) (fun _ h => h)
  exact Dr.pos hr2.1 (Dr.pos (hr2.2.1 (by omega)) (Dr.here (by simp) (by omega)))
def GB (L M : Nat) (ts : List TT) : Prop := ts.length ≤ L ∧ ∀ t ∈ ts, t.f1.length ≤ M
theorem GB.small {L M : Nat} {ts : List TT} (h : GB L M ts) (hL : L ≤ 1000) (hM : M ≤ 1000) : Small ts := ⟨by have := h.1; omega, fun t ht => by have := h.2 t ht; omega⟩
theorem GB.snoc {L M : Nat} {ts : List TT} {t : TT} (h : GB L M ts) (ht : t.f1.length ≤ M) : GB (L + 1) M (ts ++ [t]) :=
 ⟨by have := h.1; simp; omega, fun x hx => by
  rcases List.mem_append.1 hx with hx | hx
  ·exact h.2 x hx
  ·rw [List.mem_singleton.1 hx]; exact ht⟩
theorem GB.set {L M : Nat} {ts : List TT} {t : TT} {i : Nat} (h : GB L M ts) (ht : t.f1.length ≤ M) : GB L M (ts.set i t) :=
 ⟨by have := h.1; simp; omega, fun x hx => by
  rcases List.mem_or_eq_of_mem_set hx with hx | hx
  ·exact h.2 x hx
  ·rw [hx]; exact ht⟩
theorem GB.mono {L M L' M' : Nat} {ts : List TT} (h : GB L M ts) (hL : L ≤ L') (hM : M ≤ M') : GB L' M' ts := ⟨by have := h.1; omega, fun x hx => by have := h.2 x hx; omega⟩
theorem GB.rd {L M : Nat} {ts : List TT} (h : GB L M ts) (i : Int) : (rd_T39 ts i).f1.length ≤ M := by
 unfold rd_T39
 rw [List.getD_eq_getElem?_getD]
 cases hh : ts[i.toNat]? with
 | none => simp [z39]
 | some t => exact h.2 t (List.mem_of_getElem? hh)
theorem turned_l1 (Q : List TT → Prop) (g : List TT) (out : List TT) (last i : Int) (a b c : Int) (nd : List Int) (hn : nd.length ≤ 1000)
  (hgo : ∀ acc : List Int, acc.length ≤ nd.length → ∃ r : List TT, Ev (fun k => spec_turned.l0 k g (out ++ [⟨a, acc, b, c⟩]) last (wrap64 (i - 1))) r ∧ Q r) (ho : out.length ≤ 1000) :
  ∀ (m : Nat) (acc : List Int), m ≤ nd.length → acc.length + m ≤ nd.length → ∃ r : List TT, Ev (fun k => spec_turned.l1 k g out last i acc ((m : Int) - 1) a nd b c) r ∧ Q r
 | 0, acc, _, ha => by
  obtain ⟨r, h1, h2⟩ := hgo acc (by omega)
  refine ⟨r, Ev.succ ?_, h2⟩
  simp only [spec_turned.l1]
  exact Ev.neg (by omega) (Ev.pos (by omega) h1)
 | m + 1, acc, hm, ha => by
  have hw : wrap64 (((m + 1 : Nat) : Int) - 1 - 1) = (m : Int) - 1 := by rw [w64 (by omega) (by omega)]; omega
  obtain ⟨r, h1, h2⟩ := turned_l1 Q g out last i a b c nd hn hgo ho m (acc ++ [wrap64 (last - Go.Proofs.YtajapkjplgaigaaDoorW.PrintWords.rd nd (((m + 1 : Nat) : Int) - 1))]) (by omega) (by simp only [List.length_append, List.length_cons, List.length_nil]; omega)
  refine ⟨r, Ev.succ ?_, h2⟩
  simp only [spec_turned.l1, hw]
  exact Ev.pos (by omega) (Ev.pos (by omega) (Ev.pos (by omega) (Ev.pos (by omega) h1)))
theorem turned_l0 (L M : Nat) (hL : L ≤ 1000) (hM : M ≤ 1000) (g : List TT) (hg : GB L M g) (last : Int) : ∀ (m : Nat) (out : List TT), m ≤ g.length → GB (g.length - m) M out → ∃ r, Ev (fun k => spec_turned.l0 k g out last ((m : Int) - 1)) r ∧ GB L M r
 | 0, out, _, ho => by
  refine ⟨out, Ev.succ ?_, ho.mono (by have := hg.1; omega) (Nat.le_refl _)⟩
  simp only [spec_turned.l0]
  exact Ev.neg (by omega) (Ev.pure _)
 | m + 1, out, hm, ho => by
  have hgl := hg.1
  have hol := ho.1
  have hrd := hg.rd (((m + 1 : Nat) : Int) - 1)
  have hw : wrap64 (((m + 1 : Nat) : Int) - 1 - 1) = (m : Int) - 1 := by rw [w64 (by omega) (by omega)]; omega
  obtain ⟨t, ht⟩ : ∃ t, t = rd_T39 g (((m + 1 : Nat) : Int) - 1) := ⟨_, rfl⟩
  rw [← ht] at hrd
  have hw2 : wrap64 ((t.f1.length : Int) - 1) = (t.f1.length : Int) - 1 := w64 (by omega) (by omega)
  obtain ⟨r, h1, h2⟩ := turned_l1 (GB L M) g out last (((m + 1 : Nat) : Int) - 1) t.f0 t.f2 t.f3 t.f1 (by omega) (fun acc ha => by
   rw [hw]
   exact turned_l0 L M hL hM g hg last m _ (by omega) ((ho.snoc (t := ⟨t.f0, acc, t.f2, t.f3⟩) (by show acc.length ≤ M; omega)).mono (by omega) (Nat.le_refl _))) (by omega) t.f1.length [] (Nat.le_refl _) (by simp)
  refine ⟨r, Ev.succ ?_, h2⟩
  simp only [spec_turned.l0, ← ht, hw2]
  exact Ev.pos (by omega) (Ev.pos (by omega) (Ev.pos (by omega) h1))
theorem turned_ev (L M : Nat) (hL : L ≤ 1000) (hM : M ≤ 1000) (g : List TT) (hg : GB L M g) : ∃ r, Ev (fun k => spec_turned.f k g) r ∧ GB L M r := by
 unfold spec_turned.f
 have hgl := hg.1
 rw [w64 (by omega) (by omega)]
 exact turned_l0 L M hL hM g hg _ g.length [] (Nat.le_refl _) ⟨by simp, fun t ht => by cases ht⟩
theorem some_l1 {B : List Int} (hB : RdOk B) (M : Int) (hM : 0 ≤ M) (good : List TT → Prop) (g : List TT) (hg : g.length ≤ 8) (n : Int) (a b c : Int) (E : Int) (hE : E ≤ 10000)
  (hgo : ∀ (acc : List Int) (q : Int), acc.length ≤ g.length → 0 ≤ q → q ≤ E → Dr M q good (fun k => spec_someGraph.l0 k (g ++ [⟨a, acc, b, c⟩]) (wrap64 (n - 1)) B q)) :
  ∀ (m j : Nat) (acc : List Int) (p : Int), j + m = g.length → acc.length ≤ j → 0 ≤ p → p + m ≤ E → Dr (m + M) p good (fun k => spec_someGraph.l1 k g n (j : Int) B p a acc b c)
 | 0, j, acc, p, hj, ha, hp, hp' => by
  refine Dr.succ ?_
  simp only [spec_someGraph.l1]
  exact Dr.neg (by omega) (Dr.pos (by omega) ((hgo acc p (by omega) hp (by omega)).mono (by omega) (fun _ h => h)))
 | m + 1, j, acc, p, hj, ha, hp, hp' => by
  have hw : wrap64 ((j : Int) + 1) = ((j + 1 : Nat) : Int) := w64n j (by omega)
  refine Dr.succ ?_
  simp only [spec_someGraph.l1, hw]
  refine Dr.pos (by omega) (((pick_ev hB 3 p hp (by omega)).bind (n := m + M) (fun r q hr h1 h2 => ?_)).mono (by omega) (fun _ h => h))
  exact Dr.ite (fun _ => Dr.pos (by omega) (some_l1 hB M hM good g hg n a b c E hE hgo m (j + 1) _ q (by omega) (by simp only [List.length_append, List.length_cons, List.length_nil]; omega) (by omega) (by omega))) (fun _ => some_l1 hB M hM good g hg n a b c E hE hgo m (j + 1) acc q (by omega) (by omega) (by omega) (by omega))
theorem some_l0 {B : List Int} (hB : RdOk B) : ∀ (n : Nat) (g : List TT) (p : Int), g.length + n ≤ 8 → GB 8 8 g → 0 ≤ p → p + 11 * n ≤ 5000 → Dr (11 * n + 1) p (GB 8 8) (fun k => spec_someGraph.l0 k g (n : Int) B p)
 | 0, g, p, hn, hg, hp, hp' => by
  refine Dr.succ ?_
  simp only [spec_someGraph.l0]
  refine Dr.neg (by omega) (Dr.ite (fun h => ?_) (fun h => Dr.here hg (by omega)))
  refine ((pick_ev hB 4 p hp (by omega)).bind (n := 0) (fun r q hr h1 h2 => ?_)).mono (by omega) (fun _ h => h)
  obtain ⟨t, h3, h4⟩ := turned_ev 8 8 (by omega) (by omega) g hg
  exact Dr.ite (fun _ => Dr.bind0 h3 (Dr.here h4 (by omega))) (fun _ => Dr.here hg (by omega))
 | n + 1, g, p, hn, hg, hp, hp' => by
  have hw : wrap64 (((n + 1 : Nat) : Int) - 1) = (n : Int) := by rw [w64 (by omega) (by omega)]; omega
  refine Dr.succ ?_
  simp only [spec_someGraph.l0]
  refine Dr.pos (by omega) (((one_ev hB _ p (by simp) hp (by omega)).bind (n := 2 + (8 + (11 * n + 1))) (fun r q hr h1 h2 => ?_)).mono (by omega) (fun _ h => h))
  refine ((pick_ev hB 3 q (by omega) (by omega)).bind (n := 1 + (8 + (11 * n + 1))) (fun r2 q2 hr2 h3 h4 => ?_)).mono (by omega) (fun _ h => h)
  refine ((pick_ev hB 4 q2 (by omega) (by omega)).bind (n := 8 + (11 * n + 1)) (fun r3 q3 hr3 h5 h6 => ?_)).mono (by omega) (fun _ h => h)
  refine (some_l1 hB (11 * n + 1) (by omega) (GB 8 8) g (by omega) ((n + 1 : Nat) : Int) r r2 (wrap64 (1 + r3)) (q3 + g.length) (by omega) (fun acc q4 ha h7 h8 => ?_) g.length 0 [] q3 (by omega) (by simp) (by omega) (by omega)).mono (by omega) (fun _ h => h)
  rw [hw]
  exact some_l0 hB n _ q4 (by simp; omega) ⟨by simp; omega, (hg.snoc (t := ⟨r, acc, r2, wrap64 (1 + r3)⟩) (by show acc.length ≤ 8; omega)).2⟩ h7 (by omega)
theorem someGraph_ev {B : List Int} (hB : RdOk B) (p : Int) (hp : 0 ≤ p) (hp' : p ≤ 1000) : Dr 100 p (GB 8 8) (fun k => spec_someGraph.f k B p 8) := by
 unfold spec_someGraph.f
 refine ((one_ev hB _ p (by simp) hp (by omega)).bind (n := 99) (fun r q hr h1 h2 => ?_)).mono (by omega) (fun _ h => h)
 obtain ⟨n, hn, hn8⟩ : ∃ n : Nat, mn 8 r = (n : Int) ∧ n ≤ 8 := by
  simp only [List.mem_cons, List.not_mem_nil, or_false] at hr
  unfold mn
  rcases hr with h | h | h | h | h | h | h | h <;> subst h
  ·exact ⟨4, by decide, by omega⟩
  ·exact ⟨5, by decide, by omega⟩
  ·exact ⟨3, by decide, by omega⟩
  ·exact ⟨6, by decide, by omega⟩
  ·exact ⟨2, by decide, by omega⟩
  ·exact ⟨1, by decide, by omega⟩
  ·exact ⟨0, by decide, by omega⟩
  ·exact ⟨8, by decide, by omega⟩
 rw [hn]
 exact (some_l0 hB n [] q (by simpa using hn8) ⟨by simp, fun t ht => by cases ht⟩ (by omega) (by omega)).mono (by omega) (fun _ h => h)
theorem anyGraph_ev {B : List Int} (hB : RdOk B) (p : Int) (hp : 0 ≤ p) (hp' : p ≤ 100) : Dr 300 p (GB 16 16) (fun k => spec_anyGraph.f k B p) := by
 unfold spec_anyGraph.f
 refine ((someGraph_ev hB p hp (by omega)).bind (n := 200) (fun g q hg h1 h2 => ?_)).mono (by omega) (fun _ h => h)
 have hg16 := hg.mono (L' := 16) (M' := 16) (by omega) (by omega)
 have hgl := hg.1
 refine Dr.ite (fun _ => Dr.here hg16 (by omega)) (fun h0 => ?_)
 have h0' : ¬ (g.length : Int) = 0 := h0
 refine ((pick_ev hB (g.length : Int) q (by omega) (by omega)).bind (n := 199) (fun a q2 ha h3 h4 => ?_)).mono (by omega) (fun _ h => h)
 have ha2 := ha.2.1 (by omega)
 refine ((pick_ev hB 24 q2 (by omega) (by omega)).bind (n := 198) (fun b q3 hb h5 h6 => ?_)).mono (by omega) (fun _ h => h)
 have hrd := hg.rd a
 refine Dr.ite (fun _ => ?_) (fun _ => Dr.ite (fun _ => ?_) (fun _ => Dr.ite (fun _ => ?_) (fun _ => Dr.ite (fun _ => ?_) (fun _ => Dr.ite (fun _ => ?_) (fun _ => Dr.here hg16 (by omega))))))
 ·refine ((one_ev hB _ q3 (by simp) (by omega) (by omega)).bind (n := 0) (fun r q4 hr h7 h8 => ?_)).mono (by omega) (fun _ h => h)
  exact Dr.pos ha.1 (Dr.pos ha2 (Dr.here (hg16.set (by show _ ≤ 16; dsimp only; omega)) (by omega)))
 ·refine Dr.pos ha.1 (Dr.pos ha2 (Dr.bind0 (Ev.pure _) ?_))
  refine ((pick_ev hB (g.length : Int) q3 (by omega) (by omega)).bind (n := 3) (fun r q4 hr h7 h8 => ?_)).mono (by omega) (fun _ h => h)
  refine Dr.bind0 (Ev.pure _) (Dr.pos (by simp only [List.length_cons, List.length_nil]; omega) ?_)
  refine ((spoil_ev hB _ 8 q4 (by simp only [List.length_append, List.length_cons, List.length_nil]; omega) (by omega) (by omega)).bind (n := 0) (fun r2 q5 hr2 h9 h10 => ?_)).mono (by omega) (fun _ h => h)
  simp only [List.length_append, List.length_cons, List.length_nil] at hr2
  exact Dr.here (hg16.set (by show r2.length ≤ 16; omega)) (by omega)
 ·refine ((one_ev hB _ q3 (by simp) (by omega) (by omega)).bind (n := 0) (fun r q4 hr h7 h8 => ?_)).mono (by omega) (fun _ h => h)
  exact Dr.pos ha.1 (Dr.pos ha2 (Dr.here (hg16.set (by show _ ≤ 16; dsimp only; omega)) (by omega)))
 ·refine ((one_ev hB _ q3 (by simp) (by omega) (by omega)).bind (n := 0) (fun r q4 hr h7 h8 => ?_)).mono (by omega) (fun _ h => h)
  exact Dr.pos ha.1 (Dr.pos ha2 (Dr.here (hg16.set (by show _ ≤ 16; dsimp only; omega)) (by omega)))
 ·refine ((someGraph_ev hB q3 (by omega) (by omega)).bind (n := 0) (fun r q4 hr h7 h8 => ?_)).mono (by omega) (fun _ h => h)
  have hrl := hr.1
  refine Dr.pos (by show g.length + r.length < _; omega) (Dr.here (show GB 16 16 (g ++ r) from ⟨by simp; omega, fun t ht => ?_⟩) (by omega))
  rcases List.mem_append.1 ht with ht | ht
  ·have := hg.2 t ht; omega
  ·have := hr.2 t ht; omega
theorem newReader_ev (l : List Int) (hb : ∀ x ∈ l, (Lit.int .u8 x).wf = true) : ∃ B : List Int, spec_newReader.f l = some (B, 0) ∧ RdOk B := by
 have hbyte : ∀ x ∈ l, 0 ≤ x ∧ x ≤ 255 := fun x hx => by
  have := hb x hx
  have h2 : (decide (IntKind.u8.min ≤ x) && decide (x ≤ IntKind.u8.max)) = true := this
  rw [Bool.and_eq_true, decide_eq_true_eq, decide_eq_true_eq] at h2
  exact h2
 unfold spec_newReader.f
 by_cases h : (l.length : Int) > 2000
 ·rw [if_pos h, if_pos (by omega)]
  exact ⟨_, rfl, by simp; omega, fun x hx => hbyte x (List.mem_of_mem_take hx)⟩
 ·rw [if_neg h]
  exact ⟨_, rfl, by omega, hbyte⟩
end Go.Proofs.YtajapkjplgaigaaDoor.P
end
section
namespace Go.Proofs.YtajapkjplgaigaaDoor.P
open Go.RowKit Go.Shelf Go.Proofs.YtajapkjplgaigaaDoorW.PrintWords Go.Proofs.YtajapkjplgaigaaDoorW.PrintLast Go.Proofs.YtajapkjplgaigaaDoorW.PrintMore
attribute [local go_sem] Oper.semAt_some
set_option linter.unusedVariables false
set_option linter.unusedSimpArgs false
def totI (ts : List TT) (xs : List Nat) : Int := xs.foldl (fun (a : Int) (i : Nat) => a + (rd_T39 ts (i : Int)).f0) 0
def allN (n : Nat) : Nat := 2 ^ n - 1
def progressP (ts : List TT) (done : List Int) : Int := match doneP ts done with
 | none => -1
 | some (G, s) => if ts.length = 0 then 1000 else (1000 * totI ts (bitsN s)) / totI ts (bitsN (allN ts.length))
def impl_ProgressOf.f (l0 : List TT) (l1 : List Int) : Option (Int) := some (progressP l0 l1)
end Go.Proofs.YtajapkjplgaigaaDoor.P
end
section
namespace Go.Proofs.YtajapkjplgaigaaDoor.P
open Go.RowKit Go.Proofs.YtajapkjplgaigaaDoorW.PrintWords Go.Proofs.YtajapkjplgaigaaDoorW.PrintLast Go.Proofs.YtajapkjplgaigaaDoorW.PrintMore
attribute [local go_sem] max2_int min2_int max_two min_two max_three min_three max_four min_four   -- for this text's walks alone
set_option linter.unusedVariables false
set_option linter.unusedSimpArgs false
def spec_someDone.l0 : Nat → List (S39) → List Int → Int → List Int → Int → Option (List Int × Int)
 | 0, _, _, _, _, _ => none
 | k + 1, x1, x5, x6, x1000, x1001 => if x6 > 0 then ((spec_ReadyTasks.f k x1 x5).bind fun t305 => (if (t305.length : Int) > 0 then ((spec_reader_pick.f k x1000 x1001 (t305.length : Int)).bind fun bt308 => (if 0 ≤ bt308.1 then (if bt308.1 < (t305.length : Int) then ((spec_FinishTask.f k x1 x5 (rd t305 bt308.1)).bind fun bt311 => (if bt311.2 = true then (spec_someDone.l0 k x1 bt311.1 (wrap64 (x6 - 1)) x1000 bt308.2) else (spec_someDone.l0 k x1 x5 (wrap64 (x6 - 1)) x1000 bt308.2))) else (none)) else (none))) else (spec_someDone.l0 k x1 x5 (wrap64 (x6 - 1)) x1000 x1001))) else ((spec_reader_spoil.f k x1000 x1001 x5 8).bind fun bt301 => (some (bt301.1, bt301.2)))
def spec_someDone.f (k : Nat) (s0_0 : List Int) (s0_1 : Int) (l1 : List (S39)) : Option (List Int × Int) := (spec_reader_pick.f k s0_0 s0_1 (wrap64 ((l1.length : Int) + 1))).bind fun bt299 => (spec_someDone.l0 k l1 (([] : List Int)) bt299.1 s0_0 bt299.2)
end Go.Proofs.YtajapkjplgaigaaDoor.P
end
section
namespace Go.Proofs.YtajapkjplgaigaaDoor.P
open Go.RowKit Go.Proofs.YtajapkjplgaigaaDoorW.PrintWords Go.Proofs.YtajapkjplgaigaaDoorW.PrintLast Go.Proofs.YtajapkjplgaigaaDoorW.PrintMore
attribute [local go_sem] max2_int min2_int max_two min_two max_three min_three max_four min_four   -- for this text's walks alone
set_option linter.unusedVariables false
set_option linter.unusedSimpArgs false
def spec_toInt.f (a0 : Bool) : Option (Int) := if a0 = true then (some 1) else (some 0)
end Go.Proofs.YtajapkjplgaigaaDoor.P
end
section
namespace Go.Proofs.YtajapkjplgaigaaDoor.P
open Go.RowKit Go.Proofs.YtajapkjplgaigaaDoorW.PrintWords Go.Proofs.YtajapkjplgaigaaDoorW.PrintLast Go.Proofs.YtajapkjplgaigaaDoorW.PrintMore
attribute [local go_sem] max2_int min2_int max_two min_two max_three min_three max_four min_four   -- for this text's walks alone
set_option linter.unusedVariables false
set_option linter.unusedSimpArgs false
def spec_ProgressOf.l0 : Nat → List (S39) → List Int → Int → Int → Int → Option (Int)
 | 0, _, _, _, _, _ => none
 | k + 1, x0, x1, x5, x6, x7 => if x7 < (x0.length : Int) then (if 0 ≤ x7 then ((spec_isIn.f k x1 x7).bind fun t363 => ((spec_toInt.f t363).bind fun t364 => (spec_ProgressOf.l0 k x0 x1 (wrap64 (x5 + (wrap64 (((rd_T39 x0 x7).f0) * t364)))) (wrap64 (x6 + ((rd_T39 x0 x7).f0))) (wrap64 (x7 + 1))))) else (none)) else (if x6 = 0 then (some 1000) else (some (wrap64 (Int.tdiv (wrap64 (1000 * x5)) x6))))
def spec_ProgressOf.f (k : Nat) (l0 : List (S39)) (l1 : List Int) : Option (Int) := (spec_validDone.f k l0 l1).bind fun t360 => (if t360 = true then (spec_ProgressOf.l0 k l0 l1 0 0 0) else (some (-1)))
end Go.Proofs.YtajapkjplgaigaaDoor.P
end
section
namespace Go.Proofs.YtajapkjplgaigaaDoor.P
open Go.RowKit Go.Shelf Go.Proofs.YtajapkjplgaigaaDoorW.PrintWords Go.Proofs.YtajapkjplgaigaaDoorW.PrintLast Go.Proofs.YtajapkjplgaigaaDoorW.PrintMore
set_option linter.unusedVariables false
set_option linter.unusedSimpArgs false
def sumP (ts : List TT) (p : Nat → Bool) (l : List Nat) : Int := l.foldl (fun (a : Int) (i : Nat) => if p i then a + (rd_T39 ts (i : Int)).f0 else a) 0
def inD (done : List Int) (i : Nat) : Bool := decide ((i : Int) ∈ done)
def progL (ts : List TT) (done : List Int) : Int := if ts.length = 0 then 1000 else (1000 * sumP ts (inD done) (List.range ts.length)) / sumP ts (fun _ => true) (List.range ts.length)
end Go.Proofs.YtajapkjplgaigaaDoor.P
end
section
namespace Go.Proofs.YtajapkjplgaigaaDoor.P
open Go.RowKit Go.Proofs.YtajapkjplgaigaaDoorW.PrintWords Go.Proofs.YtajapkjplgaigaaDoorW.PrintLast Go.Proofs.YtajapkjplgaigaaDoorW.PrintMore
attribute [local go_sem] max2_int min2_int max_two min_two max_three min_three max_four min_four   -- for this text's walks alone
set_option linter.unusedVariables false
set_option linter.unusedSimpArgs false
def spec_someAt.f (k : Nat) (s0_0 : List Int) (s0_1 : Int) (l1 : List (S39)) : Option (Int × Int) := (spec_reader_pick.f k s0_0 s0_1 10).bind fun bt398 => (if bt398.1 = 0 then ((spec_reader_one.f k s0_0 bt398.2 (([(-1), (l1.length : Int), 0] : List Int))).bind fun bt403 => (some (bt403.1, bt403.2))) else ((spec_reader_pick.f k s0_0 bt398.2 (mx 1 (l1.length : Int))).bind fun bt405 => (some (bt405.1, bt405.2))))
end Go.Proofs.YtajapkjplgaigaaDoor.P
end
section
namespace Go.Proofs.YtajapkjplgaigaaDoor.P
open Go.RowKit Go.Proofs.YtajapkjplgaigaaDoorW.PrintWords Go.Proofs.YtajapkjplgaigaaDoorW.PrintLast Go.Proofs.YtajapkjplgaigaaDoorW.PrintMore
attribute [local go_sem] max2_int min2_int max_two min_two max_three min_three max_four min_four   -- for this text's walks alone
set_option linter.unusedVariables false
set_option linter.unusedSimpArgs false
mutual
def spec_WaitsFor.j0 : Nat → List (S39) → List Int → Int → List Int → Bool → Option (List Int)
 | 0, _, _, _, _, _ => none
 | k + 1, x0, x1, x2, x7, x21 => if x21 = true then (some ([] : List Int)) else (spec_WaitsFor.l0 k x0 x1 x2 x7 0)
def spec_WaitsFor.l0 : Nat → List (S39) → List Int → Int → List Int → Int → Option (List Int)
 | 0, _, _, _, _, _ => none
 | k + 1, x0, x1, x2, x7, x8 => if 0 ≤ x2 then (if x2 < (x0.length : Int) then (if x8 < (((rd_T39 x0 x2).f1).length : Int) then (if 0 ≤ x8 then ((spec_isIn.f k x1 (rd ((rd_T39 x0 x2).f1) x8)).bind fun t443 => (if t443 = true then (spec_WaitsFor.l0 k x0 x1 x2 x7 (wrap64 (x8 + 1))) else (if x7.length < 17592186044416 then (spec_WaitsFor.l0 k x0 x1 x2 (x7 ++ [rd ((rd_T39 x0 x2).f1) x8]) (wrap64 (x8 + 1))) else (none)))) else (none)) else (some x7)) else (none)) else (none)
end
def spec_WaitsFor.f (k : Nat) (l0 : List (S39)) (l1 : List Int) (a2 : Int) : Option (List Int) := (some (([] : List Int) : List Int)).bind fun y435 => ((spec_validDone.f k l0 l1).bind fun t438 => (if t438 = true then ((spec_inRange.f a2 0 (wrap64 ((l0.length : Int) - 1))).bind fun t439 => (spec_WaitsFor.j0 k l0 l1 a2 y435 (!t439))) else (spec_WaitsFor.j0 k l0 l1 a2 y435 true)))
end Go.Proofs.YtajapkjplgaigaaDoor.P
end
section
namespace Go.Proofs.YtajapkjplgaigaaDoor.P
open Go.RowKit Go.Proofs.YtajapkjplgaigaaDoorW.PrintWords Go.Proofs.YtajapkjplgaigaaDoorW.PrintLast Go.Proofs.YtajapkjplgaigaaDoorW.PrintMore
attribute [local go_sem] max2_int min2_int max_two min_two max_three min_three max_four min_four   -- for this text's walks alone
set_option linter.unusedVariables false
set_option linter.unusedSimpArgs false
def laws_isIn.l0 : Nat → List Int → Int → Int → Option (Bool)
 | 0, _, _, _ => none
 | k + 1, x0, x1, x5 => if x5 < (x0.length : Int) then (if 0 ≤ x5 then (if (rd x0 x5) = x1 then (some true) else (laws_isIn.l0 k x0 x1 (wrap64 (x5 + 1)))) else (none)) else (some false)
def laws_isIn.f (k : Nat) (l0 : List Int) (a1 : Int) : Option (Bool) := laws_isIn.l0 k l0 a1 0
end Go.Proofs.YtajapkjplgaigaaDoor.P
end
section
namespace Go.Proofs.YtajapkjplgaigaaDoor.P
open Go.RowKit Go.Shelf Go.Proofs.YtajapkjplgaigaaDoorW.PrintWords Go.Proofs.YtajapkjplgaigaaDoorW.PrintLast Go.Proofs.YtajapkjplgaigaaDoorW.PrintMore
set_option linter.unusedVariables false
set_option linter.unusedSimpArgs false
theorem pairwise_asc : ∀ (l : List Int), ascB l = true → l.Pairwise (· < ·)
 | [], _ => List.Pairwise.nil
 | [x], _ => List.pairwise_singleton _ _
 | x :: y :: r, h => by
  rw [ascB, Bool.and_eq_true, decide_eq_true_eq] at h
  have h2 := pairwise_asc (y :: r) h.2
  refine List.pairwise_cons.2 ⟨fun z hz => ?_, h2⟩
  rcases List.mem_cons.1 hz with rfl | hz
  ·exact h.1
  ·have := (List.pairwise_cons.1 h2).1 z hz
   omega
theorem asc_ext : ∀ (a b : List Int), a.Pairwise (· < ·) → b.Pairwise (· < ·) → (∀ x, x ∈ a ↔ x ∈ b) → a = b
 | [], [], _, _, _ => rfl
 | [], y :: b, _, _, h => absurd ((h y).2 List.mem_cons_self) List.not_mem_nil
 | x :: a, [], _, _, h => absurd ((h x).1 List.mem_cons_self) List.not_mem_nil
 | x :: a, y :: b, ha, hb, h => by
  have ha2 := List.pairwise_cons.1 ha
  have hb2 := List.pairwise_cons.1 hb
  have hxy : x = y := by
   rcases List.mem_cons.1 ((h x).1 List.mem_cons_self) with e | e
   ·exact e
   ·rcases List.mem_cons.1 ((h y).2 List.mem_cons_self) with e2 | e2
    ·exact e2.symm
    ·have := hb2.1 x e
     have := ha2.1 y e2
     omega
  subst hxy
  rw [asc_ext a b ha2.2 hb2.2 (fun z => ⟨fun hz => ?_, fun hz => ?_⟩)]
  ·rcases List.mem_cons.1 ((h z).1 (List.mem_cons_of_mem _ hz)) with e | e
   ·have := ha2.1 z hz
    omega
   ·exact e
  ·rcases List.mem_cons.1 ((h z).2 (List.mem_cons_of_mem _ hz)) with e | e
   ·have := hb2.1 z hz
    omega
   ·exact e
theorem nI_pick_pairwise (p : Nat → Bool) (n : Nat) : (nI (pickN p n)).Pairwise (· < ·) := by
 unfold nI pickN
 rw [List.pairwise_map]
 exact (List.Pairwise.filter _ List.pairwise_lt_range).imp (fun h => by omega)
theorem mem_nI_pick {p : Nat → Bool} {n : Nat} {x : Int} : x ∈ nI (pickN p n) ↔ (0 ≤ x ∧ x < n) ∧ p x.toNat = true := by
 unfold pickN nI
 rw [List.mem_map]
 constructor
 ·rintro ⟨i, hi, rfl⟩
  rw [List.mem_filter, List.mem_range] at hi
  exact ⟨by omega, by simpa using hi.2⟩
 ·rintro ⟨h1, h2⟩
  exact ⟨x.toNat, List.mem_filter.2 ⟨List.mem_range.2 (by omega), h2⟩, by omega⟩
def waitL (needs done : List Int) : List Int := needs.filter fun x => !decide (x ∈ done)
def waitsL (ts : List TT) (done : List Int) (a : Int) : List Int := if (doneP ts done).isSome = true ∧ 0 ≤ a ∧ a < ts.length then waitL (rd_T39 ts a).f1 done else []
theorem equal_go : ∀ (a pre b : List Int), pre.length + a.length < 1099511627776 → a.length = b.length → Ev (fun k => laws_equalInts.l0 k (pre ++ a) (pre ++ b) (pre.length : Int)) (decide (a = b))
 | [], pre, b, _, hl => by
  have hb : b = [] := List.length_eq_zero_iff.1 (by simpa using hl.symm)
  subst hb
  refine Ev.succ ?_
  simp only [laws_equalInts.l0]
  exact Ev.neg (len_nlt pre) (Ev.eq (by simp))
 | x :: a, pre, [], _, hl => by simp at hl
 | x :: a, pre, y :: b, h, hl => by
  have hpl : pre.length < 1099511627776 := by omega
  refine Ev.succ ?_
  simp only [laws_equalInts.l0, rdm]
  refine Ev.pos (len_lt _ _ _) (Ev.pos (by omega) (Ev.pos (len_lt _ _ _) (Ev.ite (fun hc => ?_) (fun hc => ?_))))
  ·subst hc
   rw [len_next pre x (by omega), snoc_eq pre x a, snoc_eq pre x b, show decide (x :: a = x :: b) = decide (a = b) from decide_eq_decide.2 (by simp)]
   exact equal_go a (pre ++ [x]) b (by simp only [List.length_append, List.length_cons, List.length_nil] at h ⊢; omega) (by simpa using hl)
  ·rw [decide_eq_false (by simp [hc])]
   exact Ev.pure _
theorem equalInts_ev (a b : List Int) (h : a.length < 1099511627776) : Ev (fun k => laws_equalInts.f k a b) (decide (a = b)) := by
 unfold laws_equalInts.f
 refine Ev.ite (fun hl => ?_) (fun hl => ?_)
 ·exact equal_go a [] b (by simpa using h) (by omega)
 ·rw [decide_eq_false (fun e => hl (by rw [e]))]
  exact Ev.pure _
end Go.Proofs.YtajapkjplgaigaaDoor.P
end
section
namespace Go.Proofs.YtajapkjplgaigaaDoor.P
open Go.RowKit Go.Shelf Go.Proofs.YtajapkjplgaigaaDoorW.PrintWords Go.Proofs.YtajapkjplgaigaaDoorW.PrintLast Go.Proofs.YtajapkjplgaigaaDoorW.PrintMore
set_option linter.unusedVariables false
set_option linter.unusedSimpArgs false
theorem validRoom_ev (room : List Int) (h : room.length < 1099511627776) : Ev (fun k => spec_validRoom.f k room) (roomP room) := by
 unfold spec_validRoom.f roomP
 refine Ev.ite (fun hl => ?_) (fun hl => ?_)
 ·rw [decide_eq_true (by omega), Bool.true_and]
  exact Ev.bind (allIn_ev room 4 8 (by omega)) (Ev.pure _)
 ·rw [decide_eq_false (by omega), Bool.false_and]
  exact Ev.pure _
def unitsIn (ts : List TT) (p : Int) (i : Int) : Int := if (rd_T39 ts i).f2 = p then (rd_T39 ts i).f3 else 0
def usedL (ts : List TT) (l : List Int) (p : Int) : Int := (l.map (unitsIn ts p)).sum
theorem usedL_snoc (ts : List TT) (l : List Int) (x p : Int) : usedL ts (l ++ [x]) p = usedL ts l p + unitsIn ts p x := by simp [usedL]
theorem usedL_append (ts : List TT) (l r : List Int) (p : Int) : usedL ts (l ++ r) p = usedL ts l p + usedL ts r p := by simp [usedL]
structure Fine (ts : List TT) : Prop where
 n8 : ts.length ≤ 8
 pool : ∀ i : Int, 0 ≤ i → i < ts.length → 0 ≤ (rd_T39 ts i).f2 ∧ (rd_T39 ts i).f2 ≤ 2
 units : ∀ i : Int, 0 ≤ i → i < ts.length → 1 ≤ (rd_T39 ts i).f3 ∧ (rd_T39 ts i).f3 ≤ 4
theorem Fine.of {ts : List TT} (hf : fineB ts = true) : Fine ts := by
 have key : ∀ i : Int, 0 ≤ i → i < ts.length → (0 ≤ (rd_T39 ts i).f2 ∧ (rd_T39 ts i).f2 ≤ 2) ∧ (1 ≤ (rd_T39 ts i).f3 ∧ (rd_T39 ts i).f3 ≤ 4) := fun i h0 h1 => by
  have h := fine_task hf (i := i.toNat) (by omega)
  have e := rdT_at ts i.toNat (by omega)
  rw [Int.toNat_of_nonneg h0] at e
  rw [e]
  unfold taskB at h
  simp only [Bool.and_eq_true, inB, decide_eq_true_eq] at h
  exact ⟨h.1.1.1.2, h.1.1.2⟩
 exact ⟨fine_len hf, fun i h0 h1 => (key i h0 h1).1, fun i h0 h1 => (key i h0 h1).2⟩
def InR (ts : List TT) (l : List Int) : Prop := ∀ x ∈ l, 0 ≤ x ∧ x < ts.length
theorem unitsIn_in {ts : List TT} (hf : Fine ts) {i : Int} (h0 : 0 ≤ i) (h1 : i < ts.length) (p : Int) : 0 ≤ unitsIn ts p i ∧ unitsIn ts p i ≤ 4 := by
 have := hf.units i h0 h1
 unfold unitsIn
 split <;> omega
theorem usedL_in {ts : List TT} (hf : Fine ts) (p : Int) : ∀ (l : List Int), InR ts l → 0 ≤ usedL ts l p ∧ usedL ts l p ≤ 4 * l.length
 | [], _ => by simp [usedL]
 | x :: l, h => by
  have h1 := h x List.mem_cons_self
  have h2 := unitsIn_in hf h1.1 h1.2 p
  have h3 := usedL_in hf p l (fun y hy => h y (List.mem_cons_of_mem _ hy))
  have e : usedL ts (x :: l) p = unitsIn ts p x + usedL ts l p := by simp [usedL]
  rw [e, List.length_cons]
  omega
theorem used_go (ts : List TT) (hf : Fine ts) (run : List Int) (hr : InR ts run) (hl : run.length < 1099511627776) (p : Int) : ∀ (r pre : List Int), pre ++ r = run → Ev (fun k => spec_used.l0 k ts run p (usedL ts pre p) (pre.length : Int)) (usedL ts run p)
 | [], pre, he => by
  rw [List.append_nil] at he
  subst he
  refine Ev.succ ?_
  simp only [spec_used.l0]
  exact Ev.neg (by omega) (Ev.pure _)
 | x :: r, pre, he => by
  have hx := hr x (by rw [← he]; simp)
  have h1 : rd run (pre.length : Int) = x := by rw [← he]; exact rdm pre x r
  have h2 : (pre.length : Int) < (run.length : Int) := by rw [← he]; exact len_lt _ _ _
  have hpre : InR ts pre := fun y hy => hr y (by rw [← he]; exact List.mem_append_left _ hy)
  have hu := usedL_in hf p pre hpre
  have hun := hf.units x hx.1 hx.2
  have hpl : pre.length < 1099511627776 := by omega
  refine Ev.succ ?_
  simp only [spec_used.l0, h1]
  have hgo := used_go ts hf run hr hl p r (pre ++ [x]) (by rw [← he]; simp)
  rw [usedL_snoc] at hgo
  refine Ev.pos h2 (Ev.pos (by omega) (Ev.pos hx.1 (Ev.pos hx.2 (Ev.ite (fun hc => ?_) (fun hc => ?_)))))
  ·rw [len_next pre x (by omega), w64 (by omega) (by omega)]
   unfold unitsIn at hgo
   rw [if_pos hc] at hgo
   exact hgo
  ·rw [len_next pre x (by omega)]
   unfold unitsIn at hgo
   rw [if_neg hc, Int.add_zero] at hgo
   exact hgo
theorem used_ev (ts : List TT) (hf : Fine ts) (run : List Int) (hr : InR ts run) (hl : run.length < 1099511627776) (p : Int) : Ev (fun k => spec_used.f k ts run p) (usedL ts run p) := used_go ts hf run hr hl p run [] rfl
theorem addU_used {ts : List TT} (hf : Fine ts) {l : List Int} (hl : InR ts l) (hn : l.length ≤ 1000) {x : Int} (h0 : 0 ≤ x) (h1 : x < ts.length) :
  addU [usedL ts l 0, usedL ts l 1, usedL ts l 2] (rd_T39 ts x).f2 (rd_T39 ts x).f3 1 = [usedL ts (l ++ [x]) 0, usedL ts (l ++ [x]) 1, usedL ts (l ++ [x]) 2] := by
 have hp := hf.pool x h0 h1
 have hu := hf.units x h0 h1
 have b0 := usedL_in hf 0 l hl
 have b1 := usedL_in hf 1 l hl
 have b2 := usedL_in hf 2 l hl
 have e1 : wrap64 (1 * (rd_T39 ts x).f3) = (rd_T39 ts x).f3 := by rw [Int.one_mul]; exact w64 (by omega) (by omega)
 unfold addU
 rw [e1, usedL_snoc, usedL_snoc, usedL_snoc]
 unfold unitsIn
 obtain ⟨q, hq⟩ : ∃ q, q = (rd_T39 ts x).f2 := ⟨_, rfl⟩
 obtain ⟨u, hu2⟩ : ∃ u, u = (rd_T39 ts x).f3 := ⟨_, rfl⟩
 rw [← hq] at hp
 rw [← hu2] at hu
 rw [← hq, ← hu2]
 have h3 : q = 0 ∨ q = 1 ∨ q = 2 := by omega
 rcases h3 with rfl | rfl | rfl
 ·simp [rd]; exact w64 (by omega) (by omega)
 ·simp [rd]; exact w64 (by omega) (by omega)
 ·simp [rd]; exact w64 (by omega) (by omega)
theorem countU_used {ts : List TT} (hf : Fine ts) : ∀ (xs pre : List Nat), (∀ i ∈ pre ++ xs, i < ts.length) → pre.length + xs.length ≤ 1000 →
  xs.foldl (fun (a : List Int) (i : Nat) => addU a (rd_T39 ts (i : Int)).f2 (rd_T39 ts (i : Int)).f3 1) [usedL ts (nI pre) 0, usedL ts (nI pre) 1, usedL ts (nI pre) 2] = [usedL ts (nI (pre ++ xs)) 0, usedL ts (nI (pre ++ xs)) 1, usedL ts (nI (pre ++ xs)) 2]
 | [], pre, _, _ => by simp
 | x :: xs, pre, h, hl => by
  have hx := h x (by simp)
  have hin : InR ts (nI pre) := fun y hy => by
   obtain ⟨i, hi, rfl⟩ := List.mem_map.1 hy
   have := h i (List.mem_append_left _ hi)
   omega
  have e : nI pre ++ [(x : Int)] = nI (pre ++ [x]) := by simp [nI]
  rw [List.foldl_cons, addU_used hf hin (by rw [nI_length]; omega) (by omega) (by omega), e, countU_used hf xs (pre ++ [x]) (by simpa using h) (by simp only [List.length_append, List.length_cons, List.length_nil] at hl ⊢; omega)]
  simp
theorem countN_len : ∀ (xs : List Nat) (a : Nat), a + xs.length ≤ 1000 → xs.foldl (fun (a : Int) (_ : Nat) => addN a 1) (a : Int) = ((a + xs.length : Nat) : Int)
 | [], a, _ => by simp
 | x :: xs, a, h => by
  have : addN (a : Int) 1 = ((a + 1 : Nat) : Int) := by unfold addN; exact w64n a (by omega)
  rw [List.foldl_cons, this, countN_len xs (a + 1) (by simp only [List.length_cons] at h; omega)]
  simp only [List.length_cons]; omega
structure RunOk (ts : List TT) (room run : List Int) (s : Nat) : Prop where
 g : (graphP ts).isSome = true
 fine : Fine ts
 rm : roomP room = true
 asc : ascB run = true
 rng : InR ts run
 sm : s = maskL run
 set : setP run ts.length = some s
 fit : usedL ts run 0 ≤ rd room 0 ∧ usedL ts run 1 ≤ rd room 1 ∧ usedL ts run 2 ≤ rd room 2
theorem RunOk.bit {ts : List TT} {room run : List Int} {s : Nat} (h : RunOk ts room run s) (j : Nat) : s.testBit j = decide ((j : Int) ∈ run) := by
 rw [h.sm]; exact maskL_bit (fun x hx => (h.rng x hx).1) j
theorem bits_of_asc {n : Nat} (hn : n ≤ 8) {l : List Int} (ha : ascB l = true) (hr : ∀ x ∈ l, 0 ≤ x ∧ x < n) : nI (bitsN (maskL l)) = l := by
 have h0 : ∀ x ∈ l, 0 ≤ x := fun x hx => (hr x hx).1
 have hlt : maskL l < 2 ^ n := Nat.lt_pow_two_of_testBit _ fun i hi => by
  rw [maskL_bit h0]
  exact decide_eq_false (fun hm => by have := hr _ hm; omega)
 rw [bits_pick hn hlt (fun i => decide ((i : Int) ∈ l)) (fun i _ => maskL_bit h0 i)]
 refine asc_ext _ _ (nI_pick_pairwise _ _) (pairwise_asc _ ha) (fun x => ?_)
 rw [mem_nI_pick]
 constructor
 ·rintro ⟨h1, h2⟩
  rw [decide_eq_true_eq, Int.toNat_of_nonneg h1.1] at h2
  exact h2
 ·intro h
  have := hr x h
  refine ⟨this, ?_⟩
  rw [decide_eq_true_eq, Int.toNat_of_nonneg this.1]
  exact h
def runB (ts : List TT) (room run : List Int) : Bool := (graphP ts).isSome && roomP room && ascB run && run.all (inB 0 ((ts.length : Int) - 1)) && decide (usedL ts run 0 ≤ rd room 0) && decide (usedL ts run 1 ≤ rd room 1) && decide (usedL ts run 2 ≤ rd room 2)
theorem counts {ts : List TT} (hf : Fine ts) {run : List Int} (ha : ascB run = true) (hr : InR ts run) : countU ts (bitsN (maskL run)) = [usedL ts run 0, usedL ts run 1, usedL ts run 2] ∧ countN (bitsN (maskL run)) = (run.length : Int) := by
 have hb := bits_of_asc hf.n8 ha hr
 have hl := bitsN_len (maskL run)
 have hm : ∀ i ∈ bitsN (maskL run), i < ts.length := fun i hi => by
  have : (i : Int) ∈ run := by rw [← hb]; exact mem_nI.2 hi
  have := hr _ this
  omega
 constructor
 ·have := countU_used hf (bitsN (maskL run)) [] (by simpa using hm) (by simp; omega)
  rw [List.nil_append, hb] at this
  exact this
 ·have h1 := countN_len (bitsN (maskL run)) 0 (by omega)
  have h2 : (nI (bitsN (maskL run))).length = run.length := by rw [hb]
  rw [nI_length] at h2
  rw [Nat.zero_add, h2] at h1
  exact h1
theorem runsP_eq (ts : List TT) (room run : List Int) : (runsP ts room run = false ∧ runB ts room run = false) ∨ ∃ s, runsP ts room run = true ∧ runB ts room run = true ∧ RunOk ts room run s := by
 unfold runsP runB
 cases hg : graphP ts with
 | none => exact Or.inl ⟨rfl, rfl⟩
 | some G =>
  obtain ⟨hf, _, _⟩ := graphP_fine hg
  have hF := Fine.of hf
  simp only [Option.isSome_some, Bool.true_and]
  cases hrm : roomP room with
  | false => exact Or.inl ⟨rfl, rfl⟩
  | true =>
   simp only [Bool.true_and]
   rw [setP_eq]
   by_cases h1 : (ascB run && run.all (inB 0 ((ts.length : Int) - 1))) = true
   ·rw [if_pos h1, h1, Bool.true_and]
    have h2 := Bool.and_eq_true_iff.1 h1
    have hr : InR ts run := inB_all h2.2
    simp only
    rw [(counts hF h2.1 hr).1]
    unfold fitsB
    have e0 : rd [usedL ts run 0, usedL ts run 1, usedL ts run 2] 0 = usedL ts run 0 := rfl
    have e1 : rd [usedL ts run 0, usedL ts run 1, usedL ts run 2] 1 = usedL ts run 1 := rfl
    have e2 : rd [usedL ts run 0, usedL ts run 1, usedL ts run 2] 2 = usedL ts run 2 := rfl
    rw [e0, e1, e2]
    by_cases h3 : (decide (usedL ts run 0 ≤ rd room 0) && decide (usedL ts run 1 ≤ rd room 1) && decide (usedL ts run 2 ≤ rd room 2)) = true
    ·refine Or.inr ⟨maskL run, h3, h3, ?_⟩
     simp only [Bool.and_eq_true, decide_eq_true_eq] at h3
     exact ⟨by rw [hg]; rfl, hF, hrm, h2.1, hr, rfl, by rw [setP_eq, if_pos h1], h3.1.1, h3.1.2, h3.2⟩
    ·exact Or.inl ⟨Bool.eq_false_iff.2 h3, Bool.eq_false_iff.2 h3⟩
   ·rw [if_neg h1, Bool.eq_false_iff.2 h1]
    exact Or.inl ⟨rfl, rfl⟩
theorem validRunning_ev (ts : List TT) (hs : Small ts) (room run : List Int) (hr1 : room.length < 1099511627776) (hr2 : run.length < 1099511627776) : Ev (fun k => spec_validRunning.f k ts room run) (runsP ts room run) := by
 have hB : Ev (fun k => spec_validRunning.f k ts room run) (runB ts room run) := by
  unfold spec_validRunning.f runB
  have hl := hs.1
  have hno : Ev (fun k => spec_validRunning.j0 k ts room run true) false := by
   refine Ev.succ ?_
   simp only [spec_validRunning.j0]
   exact Ev.pos (by simp) (Ev.pure _)
  rw [w64 (n := (ts.length : Int) - 1) (by omega) (by omega)]
  refine Ev.bind (validGraph_ev ts hs) (Ev.ite (fun h0 => ?_) (fun h0 => ?_))
  ·refine Ev.bind (validRoom_ev room hr1) (Ev.ite (fun h1 => ?_) (fun h1 => ?_))
   ·refine Ev.bind (ascends_ev run (by omega)) (Ev.ite (fun h2 => ?_) (fun h2 => ?_))
    ·refine Ev.bind (allIn_ev run _ _ (by omega)) (Ev.succ ?_)
     simp only [spec_validRunning.j0]
     rw [h0, h1, h2]
     refine Ev.ite (fun h3 => ?_) (fun h3 => ?_)
     ·rw [show run.all (inB 0 ((ts.length : Int) - 1)) = false by simpa using h3]
      exact Ev.pure _
     ·have h4 : run.all (inB 0 ((ts.length : Int) - 1)) = true := by simpa using h3
      have hR : InR ts run := inB_all h4
      obtain ⟨G, hG⟩ := Option.isSome_iff_exists.1 h0
      have hF := Fine.of (graphP_fine hG).1
      have hl3 := roomP_len h1
      have w1 : wrap64 (0 + 1) = 1 := by unfold wrap64; omega
      have w2 : wrap64 (1 + 1) = 2 := by unfold wrap64; omega
      have w3 : wrap64 (2 + 1) = 3 := by unfold wrap64; omega
      rw [h4]
      simp only [Bool.true_and]
      refine Ev.succ ?_
      simp only [spec_validRunning.l0, w1]
      refine Ev.pos (by omega) (Ev.bind (used_ev ts hF run hR hr2 0) (Ev.pos (by omega) (Ev.pos (by omega) (Ev.ite (fun c0 => ?_) (fun c0 => ?_)))))
      ·rw [decide_eq_false (by omega)]; exact Ev.pure _
      ·rw [decide_eq_true (by omega : usedL ts run 0 ≤ rd room 0), Bool.true_and]
       refine Ev.succ ?_
       simp only [spec_validRunning.l0, w2]
       refine Ev.pos (by omega) (Ev.bind (used_ev ts hF run hR hr2 1) (Ev.pos (by omega) (Ev.pos (by omega) (Ev.ite (fun c1 => ?_) (fun c1 => ?_)))))
       ·rw [decide_eq_false (by omega : ¬ usedL ts run 1 ≤ rd room 1)]; exact Ev.pure _
       ·rw [decide_eq_true (by omega : usedL ts run 1 ≤ rd room 1), Bool.true_and]
        refine Ev.succ ?_
        simp only [spec_validRunning.l0, w3]
        refine Ev.pos (by omega) (Ev.bind (used_ev ts hF run hR hr2 2) (Ev.pos (by omega) (Ev.pos (by omega) (Ev.ite (fun c2 => ?_) (fun c2 => ?_)))))
        ·rw [decide_eq_false (by omega)]; exact Ev.pure _
        ·rw [decide_eq_true (by omega)]
         refine Ev.succ ?_
         simp only [spec_validRunning.l0]
         exact Ev.neg (by omega) (Ev.pure _)
    ·rw [Bool.eq_false_iff.2 h2]; simp only [Bool.and_false, Bool.false_and]; exact hno
   ·rw [Bool.eq_false_iff.2 h1]; simp only [Bool.and_false, Bool.false_and]; exact hno
  ·rw [Bool.eq_false_iff.2 h0]; simp only [Bool.and_false, Bool.false_and]; exact hno
 rcases runsP_eq ts room run with ⟨h1, h2⟩ | ⟨s, h1, h2, _⟩
 ·rw [h1, ← h2]; exact hB
 ·rw [h1, ← h2]; exact hB
def admL (ts : List TT) (room : List Int) (workers : Int) : List Int → List Int → List Int → List Int
 | now, out, [] => out
 | now, out, x :: r => if (now.length : Int) < workers ∧ usedL ts now (rd_T39 ts x).f2 + (rd_T39 ts x).f3 ≤ rd room (rd_T39 ts x).f2 then admL ts room workers (now ++ [x]) (out ++ [x]) r else admL ts room workers now out r
theorem admL_full (ts : List TT) (room : List Int) (workers : Int) : ∀ (r now out : List Int), workers ≤ now.length → admL ts room workers now out r = out
 | [], _, _, _ => rfl
 | x :: r, now, out, h => by
  rw [admL, if_neg (by omega)]
  exact admL_full ts room workers r now out h
theorem rd_used (ts : List TT) (l : List Int) (q : Int) (h0 : 0 ≤ q) (h2 : q ≤ 2) : rd [usedL ts l 0, usedL ts l 1, usedL ts l 2] q = usedL ts l q := by
 have : q = 0 ∨ q = 1 ∨ q = 2 := by omega
 rcases this with rfl | rfl | rfl <;> rfl
theorem admP_admL {ts : List TT} (hf : Fine ts) (room : List Int) (workers : Int) : ∀ (r now out : List Int), InR ts r → InR ts now → now.length + r.length ≤ 1000 →
  (r.foldl (admStep ts room workers) (out, (now.length : Int), [usedL ts now 0, usedL ts now 1, usedL ts now 2])).1 = admL ts room workers now out r
 | [], _, _, _, _, _ => rfl
 | x :: r, now, out, hr, hn, hl => by
  have hx := hr x List.mem_cons_self
  have hp := hf.pool x hx.1 hx.2
  have hu := hf.units x hx.1 hx.2
  have hb := usedL_in hf (rd_T39 ts x).f2 now hn
  have hr' : InR ts r := fun y hy => hr y (List.mem_cons_of_mem _ hy)
  have hl' : now.length + r.length + 1 ≤ 1000 := by simp only [List.length_cons] at hl; omega
  have ht : takesB (now.length : Int) [usedL ts now 0, usedL ts now 1, usedL ts now 2] (rd_T39 ts x).f2 (rd_T39 ts x).f3 room workers = decide ((now.length : Int) < workers ∧ usedL ts now (rd_T39 ts x).f2 + (rd_T39 ts x).f3 ≤ rd room (rd_T39 ts x).f2) := by
   unfold takesB
   rw [rd_used ts now _ hp.1 hp.2, w64 (by omega) (by omega), Bool.eq_iff_iff]
   simp only [Bool.not_eq_true', Bool.or_eq_false_iff, decide_eq_false_iff_not, decide_eq_true_eq]
   omega
  rw [List.foldl_cons, admL]
  by_cases hc : (now.length : Int) < workers ∧ usedL ts now (rd_T39 ts x).f2 + (rd_T39 ts x).f3 ≤ rd room (rd_T39 ts x).f2
  ·rw [if_pos hc]
   have hst : admStep ts room workers (out, (now.length : Int), [usedL ts now 0, usedL ts now 1, usedL ts now 2]) x = (out ++ [x], ((now ++ [x]).length : Int), [usedL ts (now ++ [x]) 0, usedL ts (now ++ [x]) 1, usedL ts (now ++ [x]) 2]) := by
    unfold admStep
    simp only
    rw [ht, if_pos (decide_eq_true hc), addU_used hf hn (by omega) hx.1 hx.2]
    have : addN (now.length : Int) 1 = ((now ++ [x]).length : Int) := by unfold addN; rw [w64n _ (by omega)]; simp
    rw [this]
   rw [hst]
   exact admP_admL hf room workers r (now ++ [x]) (out ++ [x]) hr' (fun y hy => by
    rcases List.mem_append.1 hy with hy | hy
    ·exact hn y hy
    ·rw [List.mem_singleton.1 hy]; exact hx) (by simp only [List.length_append, List.length_cons, List.length_nil]; omega)
  ·rw [if_neg hc]
   have hst : admStep ts room workers (out, (now.length : Int), [usedL ts now 0, usedL ts now 1, usedL ts now 2]) x = (out, (now.length : Int), [usedL ts now 0, usedL ts now 1, usedL ts now 2]) := by
    unfold admStep
    simp only
    rw [ht, if_neg (by rw [decide_eq_false hc]; simp)]
   rw [hst]
   exact admP_admL hf room workers r now out hr' hn (by omega)
theorem admit_go {ts : List TT} (hf : Fine ts) (room : List Int) (hl3 : room.length = 3) (list : List Int) (hll : list.length ≤ 1000) (hin : InR ts list) (workers : Int) : ∀ (r pre now out : List Int), pre ++ r = list → InR ts now → now.length + r.length ≤ 1000 → out.length ≤ pre.length →
  Ev (fun k => spec_admit.l0 k ts room list workers out now (pre.length : Int)) (admL ts room workers now out r)
 | [], pre, now, out, he, hn, hl, ho => by
  have h2 : ¬ (pre.length : Int) < (list.length : Int) := by rw [← he]; exact len_nlt pre
  refine Ev.succ ?_
  simp only [spec_admit.l0]
  refine Ev.neg h2 (Ev.succ ?_)
  simp only [spec_admit.j1]
  exact Ev.neg (by simp) (Ev.pure _)
 | x :: r, pre, now, out, he, hn, hl, ho => by
  have hx := hin x (by rw [← he]; simp)
  have h1 : rd list (pre.length : Int) = x := by rw [← he]; exact rdm pre x r
  have h2 : (pre.length : Int) < (list.length : Int) := by rw [← he]; exact len_lt _ _ _
  have hp := hf.pool x hx.1 hx.2
  have hu := hf.units x hx.1 hx.2
  have hb := usedL_in hf (rd_T39 ts x).f2 now hn
  have hl' : now.length + r.length + 1 ≤ 1000 := by simp only [List.length_cons] at hl; omega
  have hpl : pre.length < 1000 := by omega
  refine Ev.succ ?_
  simp only [spec_admit.l0]
  refine Ev.pos h2 (Ev.succ ?_)
  simp only [spec_admit.j1, h1]
  refine Ev.ite (fun hw => ?_) (fun hw => ?_)
  ·have hw' : (now.length : Int) < workers := of_decide_eq_true hw
   refine Ev.pos (by omega) (Ev.pos h2 (Ev.pos hx.1 (Ev.pos hx.2 (Ev.bind (used_ev ts hf now hn (by omega) _) (Ev.pos hp.1 (Ev.pos (by omega) ?_))))))
   rw [w64 (by omega) (by omega), len_next pre x (by omega), admL]
   refine Ev.ite (fun hc => ?_) (fun hc => ?_)
   ·rw [if_pos ⟨hw', hc⟩]
    refine Ev.pos (by omega) (Ev.pos (by omega) ?_)
    exact admit_go hf room hl3 list hll hin workers r (pre ++ [x]) (now ++ [x]) (out ++ [x]) (by rw [← he]; simp) (fun y hy => by
     rcases List.mem_append.1 hy with hy | hy
     ·exact hn y hy
     ·rw [List.mem_singleton.1 hy]; exact hx) (by simp only [List.length_append, List.length_cons, List.length_nil]; omega) (by simp only [List.length_append, List.length_cons, List.length_nil]; omega)
   ·rw [if_neg (fun h => hc h.2)]
    exact admit_go hf room hl3 list hll hin workers r (pre ++ [x]) now out (by rw [← he]; simp) hn (by omega) (by simp only [List.length_append, List.length_cons, List.length_nil]; omega)
  ·have hw' : ¬ (now.length : Int) < workers := fun h => hw (decide_eq_true h)
   rw [admL_full ts room workers _ now out (by omega)]
   exact Ev.pure _
def okL (run : List Int) : List Int → List Int → Bool
 | _, [] => true
 | pre, x :: r => if x ∈ run then false else if x ∈ pre then false else okL run (pre ++ [x]) r
theorem seen_ok {n : Nat} (run : List Int) : ∀ (r pre : List Int) (s : Nat), (∀ x ∈ r, 0 ≤ x ∧ x < n) → (∀ j, s.testBit j = decide ((j : Int) ∈ run ∨ (j : Int) ∈ pre)) → (seenGo n r s).isSome = okL run pre r
 | [], _, _, _, _ => rfl
 | x :: r, pre, s, hr, hs => by
  have hx := hr x List.mem_cons_self
  unfold seenGo okL
  have hb := hs x.toNat
  rw [Int.toNat_of_nonneg hx.1] at hb
  by_cases h1 : x ∈ run
  ·rw [if_pos h1, if_neg (by rw [hb]; simp [h1])]; rfl
  ·rw [if_neg h1]
   by_cases h2 : x ∈ pre
   ·rw [if_pos h2, if_neg (by rw [hb]; simp [h2])]; rfl
   ·rw [if_neg h2, if_pos ⟨hx, by rw [hb]; simp [h1, h2]⟩]
    refine seen_ok run r (pre ++ [x]) _ (fun y hy => hr y (List.mem_cons_of_mem _ hy)) (fun j => ?_)
    rw [Nat.testBit_or, hs, Nat.testBit_two_pow, ← Bool.decide_or]
    refine decide_eq_decide.2 ?_
    rw [List.mem_append, List.mem_singleton]
    constructor
    ·rintro ((h | h) | h)
     ·exact Or.inl h
     ·exact Or.inr (Or.inl h)
     ·exact Or.inr (Or.inr (by omega))
    ·rintro (h | h | h)
     ·exact Or.inl (Or.inl h)
     ·exact Or.inl (Or.inr h)
     ·exact Or.inr (by omega)
def admitL (ts : List TT) (room run list : List Int) (workers : Int) : List Int := if runsP ts room run = true ∧ (1 ≤ workers ∧ workers ≤ 4) ∧ list.all (inB 0 ((ts.length : Int) - 1)) = true ∧ okL run [] list = true then admL ts room workers run [] list else []
theorem admitP_eq (ts : List TT) (room run list : List Int) (workers : Int) (hl : list.length ≤ 900) : admitP ts room run list workers = admitL ts room run list workers := by
 unfold admitP admitL
 by_cases hw : 1 ≤ workers ∧ workers ≤ 4
 ·rw [if_pos hw]
  rcases runsP_eq ts room run with ⟨h1, _⟩ | ⟨s, h1, _, h2⟩
  ·rw [h1, if_neg (by simp), if_neg (by simp)]
  ·rw [h1, if_pos rfl, h2.set]
   simp only
   by_cases ha : list.all (inB 0 ((ts.length : Int) - 1)) = true
   ·have hin : InR ts list := inB_all ha
    have hsee := seen_ok (n := ts.length) run list [] s hin (fun j => by rw [h2.bit]; simp)
    have hrl : run.length ≤ 8 := by
     have := bits_of_asc h2.fine.n8 h2.asc h2.rng
     rw [← this, nI_length]
     exact bitsN_len _
    by_cases ho : okL run [] list = true
    ·rw [ho] at hsee
     obtain ⟨s', hs'⟩ := Option.isSome_iff_exists.1 hsee
     rw [if_pos ⟨by first | trivial | rfl, hw, ha, ho⟩, hs']
     simp only
     have hc := counts h2.fine h2.asc h2.rng
     rw [h2.sm, hc.1, hc.2]
     exact admP_admL h2.fine room workers list run [] hin h2.rng (by omega)
    ·rw [Bool.eq_false_iff.2 ho] at hsee
     rw [if_neg (fun h => ho h.2.2.2)]
     cases hq : seenGo ts.length list s with
     | none => rfl
     | some s' => rw [hq] at hsee; cases hsee
   ·rw [if_neg (fun h => ha h.2.2.1)]
    cases hq : seenGo ts.length list s with
    | none => rfl
    | some s' =>
     exfalso
     have := seenGo_in list s s' hq
     exact ha (List.all_eq_true.2 fun x hx => decide_eq_true (by have := this x hx; omega))
 ·rw [if_neg hw, if_neg (fun h => hw h.2.1)]
theorem adm_l0 {ts : List TT} (hf : Fine ts) (room run list : List Int) (hl3 : room.length = 3) (hll : list.length ≤ 900) (hin : InR ts list) (hrun : InR ts run) (hrl : run.length ≤ 8) (workers : Int) : ∀ (r pre : List Int), pre ++ r = list →
  Ev (fun k => spec_AdmitTasks.l0 k ts room run list workers (pre.length : Int)) (if okL run pre r = true then admL ts room workers run [] list else [])
 | [], pre, he => by
  have h2 : ¬ (pre.length : Int) < (list.length : Int) := by rw [← he]; exact len_nlt pre
  refine Ev.succ ?_
  simp only [spec_AdmitTasks.l0]
  refine Ev.neg h2 ?_
  rw [if_pos (show okL run pre [] = true by unfold okL; rfl)]
  refine Ev.bind ?_ (Ev.pure _)
  unfold spec_admit.f
  exact Ev.bind (Ev.eq (copyInts_eq run (by omega))) (admit_go hf room hl3 list (by omega) hin workers list [] run [] rfl hrun (by omega) (by simp))
 | x :: r, pre, he => by
  have h1 : rd list (pre.length : Int) = x := by rw [← he]; exact rdm pre x r
  have h2 : (pre.length : Int) < (list.length : Int) := by rw [← he]; exact len_lt _ _ _
  have h3 : list.take ((pre.length : Int)).toNat = pre := by rw [← he]; simp
  refine Ev.succ ?_
  simp only [spec_AdmitTasks.l0, h1, h3]
  refine Ev.pos h2 (Ev.pos (by omega) (Ev.bind (isIn_ev _ _ (by omega)) ?_))
  unfold okL
  refine Ev.ite (fun hc => ?_) (fun hc => ?_)
  ·rw [if_pos (of_decide_eq_true hc), if_neg (by simp)]
   exact Ev.pure _
  ·rw [if_neg (fun h => hc (decide_eq_true h))]
   refine Ev.pos (by omega) (Ev.bind (isIn_ev _ _ (by omega)) (Ev.ite (fun hd => ?_) (fun hd => ?_)))
   ·rw [if_pos (of_decide_eq_true hd), if_neg (by simp)]
    exact Ev.pure _
   ·rw [if_neg (fun h => hd (decide_eq_true h)), len_next pre x (by omega)]
    exact adm_l0 hf room run list hl3 hll hin hrun hrl workers r (pre ++ [x]) (by rw [← he]; simp)
theorem AdmitTasks_ev (ts : List TT) (hs : Small ts) (room run list : List Int) (hr1 : room.length < 1099511627776) (hr2 : run.length < 1099511627776) (hl : list.length ≤ 900) (workers : Int) : Ev (fun k => spec_AdmitTasks.f k ts room run list workers) (admitL ts room run list workers) := by
 unfold spec_AdmitTasks.f admitL
 have hlen := hs.1
 have hno : Ev (fun k => spec_AdmitTasks.j0 k ts room run list workers true) [] := by
  refine Ev.succ ?_
  simp only [spec_AdmitTasks.j0]
  exact Ev.pos (by simp) (Ev.pure _)
 rw [w64 (n := (ts.length : Int) - 1) (by omega) (by omega)]
 refine Ev.bind (validRunning_ev ts hs room run hr1 hr2) (Ev.ite (fun h0 => ?_) (fun h0 => ?_))
 ·refine Ev.bind (Ev.eq (inRange_eq _ _ _)) (Ev.ite (fun h1 => ?_) (fun h1 => ?_))
  ·have hw : 1 ≤ workers ∧ workers ≤ 4 := of_decide_eq_true h1
   refine Ev.bind (allIn_ev list _ _ (by omega)) (Ev.succ ?_)
   simp only [spec_AdmitTasks.j0]
   refine Ev.ite (fun h2 => ?_) (fun h2 => ?_)
   ·have h3 : list.all (inB 0 ((ts.length : Int) - 1)) = false := by simpa using h2
    rw [if_neg (fun h => by have := h.2.2.1; rw [h3] at this; cases this)]
    exact Ev.pure _
   ·have h3 : list.all (inB 0 ((ts.length : Int) - 1)) = true := by simpa using h2
    rcases runsP_eq ts room run with ⟨h4, _⟩ | ⟨s, h4, _, h5⟩
    ·rw [h4] at h0; cases h0
    ·have hrl : run.length ≤ 8 := by
      have := bits_of_asc h5.fine.n8 h5.asc h5.rng
      rw [← this, nI_length]
      exact bitsN_len _
     have := adm_l0 h5.fine room run list (roomP_len h5.rm) hl (inB_all h3) h5.rng hrl workers list [] rfl
     have e : (runsP ts room run = true ∧ (1 ≤ workers ∧ workers ≤ 4) ∧ list.all (inB 0 ((ts.length : Int) - 1)) = true ∧ okL run [] list = true) ↔ okL run [] list = true := ⟨fun h => h.2.2.2, fun h => ⟨h4, hw, h3, h⟩⟩
     rw [show (if runsP ts room run = true ∧ (1 ≤ workers ∧ workers ≤ 4) ∧ list.all (inB 0 ((ts.length : Int) - 1)) = true ∧ okL run [] list = true then admL ts room workers run [] list else []) = (if okL run [] list = true then admL ts room workers run [] list else []) from by
      by_cases hh : okL run [] list = true
      ·rw [if_pos (e.2 hh), if_pos hh]
      ·rw [if_neg (fun h => hh (e.1 h)), if_neg hh]]
     exact this
  ·rw [if_neg (fun h => h1 (decide_eq_true h.2.1))]
   exact hno
 ·rw [if_neg (fun h => h0 h.1)]
  exact hno
end Go.Proofs.YtajapkjplgaigaaDoor.P
end
section
namespace Go.Proofs.YtajapkjplgaigaaDoor.P
open Go.RowKit Go.Shelf Go.Proofs.YtajapkjplgaigaaDoorW.PrintWords Go.Proofs.YtajapkjplgaigaaDoorW.PrintLast Go.Proofs.YtajapkjplgaigaaDoorW.PrintMore
set_option linter.unusedVariables false
set_option linter.unusedSimpArgs false
theorem someRoom_ev {B : List Int} (hB : RdOk B) (p : Int) (hp : 0 ≤ p) (hp' : p ≤ 5000) : Dr 6 p (fun r => r.length ≤ 4) (fun k => spec_someRoom.f k B p) := by
 unfold spec_someRoom.f
 refine ((one_ev hB _ p (by simp) hp (by omega)).bind (n := 5) (fun a q ha h1 h2 => ?_)).mono (by omega) (fun _ h => h)
 refine ((one_ev hB _ q (by simp) (by omega) (by omega)).bind (n := 4) (fun b q2 hb h3 h4 => ?_)).mono (by omega) (fun _ h => h)
 refine ((one_ev hB _ q2 (by simp) (by omega) (by omega)).bind (n := 3) (fun c q3 hc h5 h6 => ?_)).mono (by omega) (fun _ h => h)
 refine ((spoil_ev hB _ 9 q3 (by simp) (by omega) (by omega)).bind (n := 0) (fun r q4 hr h7 h8 => ?_)).mono (by omega) (fun _ h => h)
 exact Dr.here (by simpa using hr) (by omega)
theorem drawAdmit_j1 {B : List Int} (hB : RdOk B) (g : List TT) (room run list : List Int) (b : Bool) (p : Int) (hp : 0 ≤ p) (hp' : p ≤ 10000) (hl : list.length ≤ 16) (hb : b = true → 1 < (list.length : Int)) :
  ∃ l' w', Ev (fun k => spec_DrawAdmitTasks.j1 k g room run list b B p) (g, room, run, l', w') ∧ l'.length ≤ 17 := by
 cases b with
 | true =>
  have h2 := hb rfl
  obtain ⟨l', q, e1, h3, h4, h5⟩ := spoil_ev hB ((list.set (0 : Int).toNat (rd list 1)).set (1 : Int).toNat (rd list 0)) 8 p (by simp; omega) hp (by omega)
  obtain ⟨w', q2, e2, _, _, _⟩ := one_ev hB [2, 3, 1, 4, 0, 5] q (by simp) (by omega) (by omega)
  refine ⟨l', w', Ev.succ ?_, by simp at h3; omega⟩
  simp only [spec_DrawAdmitTasks.j1]
  exact Ev.pos (by simp) (Ev.pos (by omega) (Ev.pos (by omega) (Ev.bind e1 (Ev.bind e2 (Ev.pure _)))))
 | false =>
  obtain ⟨l', q, e1, h3, h4, h5⟩ := spoil_ev hB list 8 p (by omega) hp (by omega)
  obtain ⟨w', q2, e2, _, _, _⟩ := one_ev hB [2, 3, 1, 4, 0, 5] q (by simp) (by omega) (by omega)
  refine ⟨l', w', Ev.succ ?_, by omega⟩
  simp only [spec_DrawAdmitTasks.j1]
  exact Ev.neg (by simp) (Ev.bind e1 (Ev.bind e2 (Ev.pure _)))
theorem drawAdmit_l0 {B : List Int} (hB : RdOk B) (g : List TT) (hg : GB 16 16 g) (room : List Int) (hr : room.length ≤ 4) : ∀ (m i : Nat) (run list : List Int) (p : Int), i + m = g.length → run.length ≤ i → list.length ≤ i → 0 ≤ p → p + m ≤ 5000 →
  ∃ run' l' w', Ev (fun k => spec_DrawAdmitTasks.l0 k g room run list (i : Int) B p) (g, room, run', l', w') ∧ run'.length ≤ 16 ∧ l'.length ≤ 17
 | 0, i, run, list, p, hi, h1, h2, hp, hp' => by
  have hgl := hg.1
  by_cases hc : (list.length : Int) > 1
  ·obtain ⟨a, q, e1, _, h3, h4⟩ := pick_ev hB 2 p hp (by omega)
   obtain ⟨l', w', e2, h5⟩ := drawAdmit_j1 hB g room run list (a == 0) q (by omega) (by omega) (by omega) (fun _ => hc)
   refine ⟨run, l', w', Ev.succ ?_, by omega, h5⟩
   simp only [spec_DrawAdmitTasks.l0]
   exact Ev.neg (by omega) (Ev.pos hc (Ev.bind e1 e2))
  ·obtain ⟨l', w', e2, h5⟩ := drawAdmit_j1 hB g room run list false p (by omega) (by omega) (by omega) (fun h => by cases h)
   refine ⟨run, l', w', Ev.succ ?_, by omega, h5⟩
   simp only [spec_DrawAdmitTasks.l0]
   exact Ev.neg (by omega) (Ev.neg hc e2)
 | m + 1, i, run, list, p, hi, h1, h2, hp, hp' => by
  have hgl := hg.1
  have hs := hg.small (by omega) (by omega)
  have hw : wrap64 ((i : Int) + 1) = ((i + 1 : Nat) : Int) := w64n i (by omega)
  obtain ⟨a, q, e1, ha, h3, h4⟩ := pick_ev hB 4 p hp (by omega)
  by_cases c0 : a = 0
  ·subst c0
   have e2 := validRunning_ev g hs room (run ++ [(i : Int)]) (by omega) (by simp; omega)
   cases hv : runsP g room (run ++ [(i : Int)]) with
   | true =>
    rw [hv] at e2
    obtain ⟨r', l', w', e3, h5⟩ := drawAdmit_l0 hB g hg room hr m (i + 1) (run ++ [(i : Int)]) list q (by omega) (by simp; omega) (by omega) (by omega) (by omega)
    refine ⟨r', l', w', Ev.succ ?_, h5⟩
    simp only [spec_DrawAdmitTasks.l0, hw]
    exact Ev.pos (by omega) (Ev.bind e1 (Ev.pos rfl (Ev.bind (Ev.eq (copyInts_eq run (by omega))) (Ev.pos (by omega) (Ev.bind e2 (Ev.pos rfl (Ev.pos (by omega) e3)))))))
   | false =>
    rw [hv] at e2
    obtain ⟨r', l', w', e3, h5⟩ := drawAdmit_l0 hB g hg room hr m (i + 1) run list q (by omega) (by omega) (by omega) (by omega) (by omega)
    refine ⟨r', l', w', Ev.succ ?_, h5⟩
    simp only [spec_DrawAdmitTasks.l0, hw]
    exact Ev.pos (by omega) (Ev.bind e1 (Ev.pos rfl (Ev.bind (Ev.eq (copyInts_eq run (by omega))) (Ev.pos (by omega) (Ev.bind e2 (Ev.neg (by simp) e3))))))
  ·obtain ⟨r', l', w', e3, h5⟩ := drawAdmit_l0 hB g hg room hr m (i + 1) run (list ++ [(i : Int)]) q (by omega) (by omega) (by simp; omega) (by omega) (by omega)
   by_cases c1 : a = 1
   ·refine ⟨r', l', w', Ev.succ ?_, h5⟩
    simp only [spec_DrawAdmitTasks.l0, hw]
    exact Ev.pos (by omega) (Ev.bind e1 (Ev.neg c0 (Ev.pos c1 (Ev.pos (by omega) e3))))
   ·by_cases c2 : a = 2
    ·refine ⟨r', l', w', Ev.succ ?_, h5⟩
     simp only [spec_DrawAdmitTasks.l0, hw]
     exact Ev.pos (by omega) (Ev.bind e1 (Ev.neg c0 (Ev.neg c1 (Ev.pos c2 (Ev.pos (by omega) e3)))))
    ·obtain ⟨r', l', w', e3, h5⟩ := drawAdmit_l0 hB g hg room hr m (i + 1) run list q (by omega) (by omega) (by omega) (by omega) (by omega)
     refine ⟨r', l', w', Ev.succ ?_, h5⟩
     simp only [spec_DrawAdmitTasks.l0, hw]
     exact Ev.pos (by omega) (Ev.bind e1 (Ev.neg c0 (Ev.neg c1 (Ev.neg c2 e3))))
theorem drawAdmit_ev (l0 : List Int) (hb : ∀ x ∈ l0, (Lit.int .u8 x).wf = true) : ∃ g room run list workers, Ev (fun k => spec_DrawAdmitTasks.f k l0) (g, room, run, list, workers) ∧ GB 16 16 g ∧ room.length ≤ 4 ∧ run.length ≤ 16 ∧ list.length ≤ 17 := by
 obtain ⟨B, e0, hB⟩ := newReader_ev l0 hb
 obtain ⟨g, q, e1, hg, h1, h2⟩ := anyGraph_ev hB 0 (by omega) (by omega)
 obtain ⟨room, q2, e2, hr, h3, h4⟩ := someRoom_ev hB q (by omega) (by omega)
 obtain ⟨run, list, workers, e3, h5, h6⟩ := drawAdmit_l0 hB g hg room hr g.length 0 [] [] q2 (by omega) (by simp) (by simp) (by omega) (by have := hg.1; omega)
 refine ⟨g, room, run, list, workers, ?_, hg, hr, h5, h6⟩
 unfold spec_DrawAdmitTasks.f
 exact Ev.bind (Ev.eq e0) (Ev.bind e1 (Ev.bind e2 e3))
theorem okL_spec (run : List Int) : ∀ (r pre : List Int), okL run pre r = true → (∀ x ∈ r, x ∉ run ∧ x ∉ pre) ∧ r.Nodup
 | [], _, _ => ⟨fun x hx => (by cases hx), List.nodup_nil⟩
 | x :: r, pre, h => by
  unfold okL at h
  by_cases h1 : x ∈ run
  ·rw [if_pos h1] at h; cases h
  ·rw [if_neg h1] at h
   by_cases h2 : x ∈ pre
   ·rw [if_pos h2] at h; cases h
   ·rw [if_neg h2] at h
    obtain ⟨h3, h4⟩ := okL_spec run r (pre ++ [x]) h
    refine ⟨fun y hy => ?_, List.nodup_cons.2 ⟨fun hx => (h3 x hx).2 (List.mem_append_right _ List.mem_cons_self), h4⟩⟩
    rcases List.mem_cons.1 hy with rfl | hy
    ·exact ⟨h1, h2⟩
    ·exact ⟨(h3 y hy).1, fun hm => (h3 y hy).2 (List.mem_append_left _ hm)⟩
theorem okL_of (run : List Int) : ∀ (r pre : List Int), (∀ x ∈ r, x ∉ run ∧ x ∉ pre) → r.Nodup → okL run pre r = true
 | [], _, _, _ => rfl
 | x :: r, pre, h, hn => by
  unfold okL
  rw [if_neg (h x List.mem_cons_self).1, if_neg (h x List.mem_cons_self).2]
  refine okL_of run r (pre ++ [x]) (fun y hy => ⟨(h y (List.mem_cons_of_mem _ hy)).1, fun hm => ?_⟩) (List.nodup_cons.1 hn).2
  rcases List.mem_append.1 hm with hm | hm
  ·exact (h y (List.mem_cons_of_mem _ hy)).2 hm
  ·rw [List.mem_singleton.1 hm] at hy
   exact (List.nodup_cons.1 hn).1 hy
structure Adm (ts : List TT) (room : List Int) (workers : Int) (now r e : List Int) : Prop where
 sub : e.Sublist r
 len : ((now ++ e).length : Int) ≤ workers ∨ e = []
 fit : ∀ p, 0 ≤ p → p ≤ 2 → usedL ts (now ++ e) p ≤ rd room p
 left : ∀ x ∈ r, x ∉ e → ((now ++ e).length : Int) < workers → rd room (rd_T39 ts x).f2 < usedL ts (now ++ e) (rd_T39 ts x).f2 + (rd_T39 ts x).f3
theorem adm_spec {ts : List TT} (hf : Fine ts) (room : List Int) (workers : Int) : ∀ (r now out : List Int), InR ts r → InR ts now → (∀ p, 0 ≤ p → p ≤ 2 → usedL ts now p ≤ rd room p) →
  ∃ e, admL ts room workers now out r = out ++ e ∧ Adm ts room workers now r e
 | [], now, out, _, _, hu => ⟨[], by simp [admL], List.Sublist.slnil, Or.inr rfl, by simpa using hu, fun x hx => by cases hx⟩
 | x :: r, now, out, hr, hn, hu => by
  have hx := hr x List.mem_cons_self
  have hr' : InR ts r := fun y hy => hr y (List.mem_cons_of_mem _ hy)
  by_cases hc : (now.length : Int) < workers ∧ usedL ts now (rd_T39 ts x).f2 + (rd_T39 ts x).f3 ≤ rd room (rd_T39 ts x).f2
  ·have hu2 : ∀ p, 0 ≤ p → p ≤ 2 → usedL ts (now ++ [x]) p ≤ rd room p := fun p h0 h2 => by
    rw [usedL_snoc]
    unfold unitsIn
    by_cases hp : (rd_T39 ts x).f2 = p
    ·rw [if_pos hp, ← hp]; exact hc.2
    ·rw [if_neg hp, Int.add_zero]; exact hu p h0 h2
   have hn2 : InR ts (now ++ [x]) := fun y hy => by
    rcases List.mem_append.1 hy with hy | hy
    ·exact hn y hy
    ·rw [List.mem_singleton.1 hy]; exact hx
   obtain ⟨e, h1, h2⟩ := adm_spec hf room workers r (now ++ [x]) (out ++ [x]) hr' hn2 hu2
   have ee : now ++ (x :: e) = (now ++ [x]) ++ e := by simp
   refine ⟨x :: e, by rw [admL, if_pos hc, h1]; simp, h2.sub.cons_cons x, ?_, by rw [ee]; exact h2.fit, fun y hy hne => ?_⟩
   ·left
    rcases h2.len with h3 | h3
    ·rw [ee]; exact h3
    ·rw [h3]; simp only [List.length_append, List.length_cons, List.length_nil]; omega
   ·rw [ee]
    rcases List.mem_cons.1 hy with rfl | hy
    ·exact absurd List.mem_cons_self hne
    ·exact h2.left y hy (fun hm => hne (List.mem_cons_of_mem _ hm))
  ·obtain ⟨e, h1, h2⟩ := adm_spec hf room workers r now out hr' hn hu
   refine ⟨e, by rw [admL, if_neg hc, h1], h2.sub.cons x, h2.len, h2.fit, fun y hy hne hw => ?_⟩
   rcases List.mem_cons.1 hy with rfl | hy
   ·have he : InR ts e := fun z hz => hr' z (h2.sub.subset hz)
    have h3 := usedL_in hf (rd_T39 ts y).f2 e he
    rw [usedL_append]
    simp only [List.length_append] at hw
    omega
   ·exact h2.left y hy hne hw
theorem room_ge {room : List Int} (h : roomP room = true) (p : Int) (h0 : 0 ≤ p) (h2 : p ≤ 2) : 4 ≤ rd room p := by
 have hl := roomP_len h
 have ha := (Bool.and_eq_true_iff.1 h).2
 have hm : rd room p ∈ room := by
  unfold rd
  rw [List.getD_eq_getElem?_getD, List.getElem?_eq_getElem (by omega)]
  exact List.getElem_mem _
 exact (of_decide_eq_true (List.all_eq_true.1 ha _ hm)).1
theorem RunOk.fits {ts : List TT} {room run : List Int} {s : Nat} (h : RunOk ts room run s) (p : Int) (h0 : 0 ≤ p) (h2 : p ≤ 2) : usedL ts run p ≤ rd room p := by
 have : p = 0 ∨ p = 1 ∨ p = 2 := by omega
 rcases this with rfl | rfl | rfl
 ·exact h.fit.1
 ·exact h.fit.2.1
 ·exact h.fit.2.2
theorem admit_facts {ts : List TT} {room run list : List Int} {workers : Int} (hne : admitL ts room run list workers ≠ []) : ∃ s, RunOk ts room run s ∧ (1 ≤ workers ∧ workers ≤ 4) ∧ InR ts list ∧ okL run [] list = true ∧ admitL ts room run list workers = admL ts room workers run [] list ∧ Adm ts room workers run list (admitL ts room run list workers) := by
 unfold admitL at hne ⊢
 by_cases hc : runsP ts room run = true ∧ (1 ≤ workers ∧ workers ≤ 4) ∧ list.all (inB 0 ((ts.length : Int) - 1)) = true ∧ okL run [] list = true
 ·rw [if_pos hc] at hne ⊢
  rcases runsP_eq ts room run with ⟨h1, _⟩ | ⟨s, h1, _, h2⟩
  ·rw [h1] at hc; cases hc.1
  ·obtain ⟨e, h3, h4⟩ := adm_spec h2.fine room workers list run [] (inB_all hc.2.2.1) h2.rng h2.fits
   rw [List.nil_append] at h3
   rw [h3]
   exact ⟨s, h2, hc.2.1, inB_all hc.2.2.1, hc.2.2.2, rfl, h4⟩
 ·rw [if_neg hc] at hne
  exact absurd rfl hne
theorem admitL_len (ts : List TT) (room run list : List Int) (workers : Int) : (admitL ts room run list workers).length ≤ list.length := by
 by_cases h : admitL ts room run list workers = []
 ·rw [h]; simp
 ·obtain ⟨s, _, _, _, _, _, h2⟩ := admit_facts h
  exact h2.sub.length_le
theorem impl_admit (ts : List TT) (room run list : List Int) (workers : Int) (hl : list.length ≤ 900) : impl_AdmitTasks.f ts room run list workers = some (admitL ts room run list workers) := by
 unfold impl_AdmitTasks.f
 rw [if_pos (by omega), admitP_eq ts room run list workers hl]
end Go.Proofs.YtajapkjplgaigaaDoor.P
end
section
namespace Go.Proofs.YtajapkjplgaigaaDoor.P
open Go.RowKit Go.Shelf Go.Proofs.YtajapkjplgaigaaDoorW.PrintWords Go.Proofs.YtajapkjplgaigaaDoorW.PrintLast Go.Proofs.YtajapkjplgaigaaDoorW.PrintMore
set_option linter.unusedVariables false
theorem equal_same (a : List Int) (h : a.length < 1099511627776) : Ev (fun k => laws_equalInts.f k a a) true := by
 have := equalInts_ev a a h
 rwa [decide_eq_true rfl] at this
theorem runsP_nil {ts : List TT} {room run : List Int} {s : Nat} (h : RunOk ts room run s) : runsP ts room [] = true := by
 have hb : runB ts room [] = true := by
  unfold runB
  rw [h.g, h.rm]
  have g0 := room_ge h.rm 0 (by omega) (by omega)
  have g1 := room_ge h.rm 1 (by omega) (by omega)
  have g2 := room_ge h.rm 2 (by omega) (by omega)
  have e : ∀ p, usedL ts [] p = 0 := fun _ => rfl
  rw [e, e, e, decide_eq_true (by omega), decide_eq_true (by omega), decide_eq_true (by omega)]
  rfl
 rcases runsP_eq ts room [] with ⟨h1, h2⟩ | ⟨s', h1, _, _⟩
 ·rw [h2] at hb; cases hb
 ·exact h1
end Go.Proofs.YtajapkjplgaigaaDoor.P
end
section
namespace Go.Proofs.YtajapkjplgaigaaDoor.Pure
open Go.RowKit Go.Proofs.YtajapkjplgaigaaDoor.P
open Go.Proofs.YtajapkjplgaigaaDoorW.PrintWords (rd)
set_option linter.unusedVariables false
theorem FnAdmitTasksFirst : laws_FnAdmitTasksFirst.Pure := by
 intro l0 _ _ hb
 refine Ev.get (f := fun k => laws_FnAdmitTasksFirst.f k l0) ?_
 unfold laws_FnAdmitTasksFirst.f
 refine Ev.ite (fun _ => Ev.pure _) (fun _ => ?_)
 obtain ⟨g, room, run, list, workers, e1, hg, hr1, hr2, hl⟩ := drawAdmit_ev l0 hb
 have hs := hg.small (by omega) (by omega)
 have hA := AdmitTasks_ev g hs room run list (by omega) (by omega) (by omega) workers
 have hlen := admitL_len g room run list workers
 have heq := equal_same (admitL g room run list workers) (by omega)
 have hj : Ev (fun k => laws_FnAdmitTasksFirst.j0 k g room run list workers (admitL g room run list workers) true) true := by
  refine Ev.succ ?_
  simp only [laws_FnAdmitTasksFirst.j0]
  exact Ev.pos (by simp) (Ev.bind hA (Ev.bind heq (Ev.pure _)))
 refine Ev.bind e1 (Ev.bind (Ev.eq (impl_admit g room run list workers (by omega))) (Ev.bind hA (Ev.bind heq (Ev.pos rfl (Ev.ite (fun _ => hj) (fun h0 => ?_))))))
 have hne : admitL g room run list workers ≠ [] := fun e => h0 (by rw [e]; rfl)
 obtain ⟨s, hR, hw, hin, hok, _, hAdm⟩ := admit_facts hne
 cases list with
 | nil =>
  have := hAdm.sub.length_le
  rw [List.length_nil] at this
  exact absurd (List.length_eq_zero_iff.1 (by omega)) hne
 | cons x r =>
  show Ev (fun k => laws_FnAdmitTasksFirst.j0 k g room run (x :: r) workers (admitL g room run (x :: r) workers) (((x :: r).length : Int) == 0)) true
  have hlf : ((((x :: r).length : Int)) == 0) = false := by
   rw [beq_eq_false_iff_ne]
   simp only [List.length_cons]
   omega
  rw [hlf]
  have hx := hin x List.mem_cons_self
  have hok2 : okL [] [] (x :: r) = true := okL_of [] (x :: r) [] (fun y _ => ⟨List.not_mem_nil, List.not_mem_nil⟩) (okL_spec run (x :: r) [] hok).2
  have hall : (x :: r).all (inB 0 ((g.length : Int) - 1)) = true := List.all_eq_true.2 fun y hy => by
   have := hin y hy
   exact decide_eq_true (by omega)
  have hp := hR.fine.pool x hx.1 hx.2
  have hu := hR.fine.units x hx.1 hx.2
  have hge := room_ge hR.rm (rd_T39 g x).f2 hp.1 hp.2
  have hfit0 : ∀ p, 0 ≤ p → p ≤ 2 → usedL g ([] ++ [x]) p ≤ rd room p := fun p h1 h2 => by
   have := room_ge hR.rm p h1 h2
   have h3 := unitsIn_in hR.fine hx.1 hx.2 p
   rw [usedL_snoc]
   have e : usedL g [] p = 0 := rfl
   rw [e]; omega
  have hstep : admL g room workers [] [] (x :: r) = admL g room workers ([] ++ [x]) ([] ++ [x]) r := by
   rw [admL, if_pos]
   have e : ∀ p, usedL g [] p = 0 := fun _ => rfl
   rw [e]
   exact ⟨by simp only [List.length_nil]; omega, by omega⟩
  obtain ⟨e, he1, he2⟩ := adm_spec hR.fine room workers r ([] ++ [x]) ([] ++ [x]) (fun y hy => hin y (List.mem_cons_of_mem _ hy)) (fun y hy => by
   rw [List.nil_append] at hy
   rw [List.mem_singleton.1 hy]; exact hx) hfit0
  have hfirst : admitL g room [] (x :: r) workers = x :: e := by
   unfold admitL
   rw [if_pos ⟨runsP_nil hR, hw, hall, hok2⟩, hstep, he1]
   rfl
  refine Ev.succ ?_
  simp only [laws_FnAdmitTasksFirst.j0]
  refine Ev.neg (by simp) (Ev.bind (x := x :: e) (Ev.eq ?_) ?_)
  ·rw [impl_admit g room [] (x :: r) workers (by omega), hfirst]
  ·have hlw : ((x :: e).length : Int) ≤ workers := by
    rcases he2.len with h3 | h3
    ·simpa using h3
    ·rw [h3]; simp only [List.length_cons, List.length_nil]; omega
   refine Ev.pos (by simp only [List.length_cons]; omega) (Ev.pos (by simp only [List.length_cons]; omega) (Ev.pos (by simp only [List.length_cons]; omega) (Ev.pos (by rfl) (Ev.eq ?_))))
   rw [decide_eq_true hlw]
end Go.Proofs.YtajapkjplgaigaaDoor.Pure
end
section
namespace Go.Proofs.YtajapkjplgaigaaDoor.fnAdmitTasksFirst
open Go.ChangeShapes Go.WideShapes Go.ChangeAt Go.RowKit
open Go.ChangeMaps (open_string shut_string)
open Go.Proofs.YtajapkjplgaigaaDoorW
set_option linter.unusedVariables false
theorem own : ownKnob Tryd.prog.godebug = none := by kernel_rfl
theorem laidOut : laidOutB Tryd.prog = true := by kernel_rfl
def IsRow (k : IntKind) (w : World) (a : Option Addr) (len cap : Nat) (zs : List Int) : Prop :=
 (a = none ∧ len = 0 ∧ cap = 0 ∧ zs = []) ∨
 ∃ x, a = some x ∧ len ≤ cap ∧ cap ≤ maxLen ∧ zs.length = cap ∧ (∀ i, i < zs.length → w.cell? (x.add i) = some (.int k (zs.getD i 0))) ∧ ∀ n ∈ zs, (Lit.int k n).wf = true
theorem gTab : Tryd.prog.globalNamed "math/bits.deBruijn32tab" = some 0 := by kernel_rfl
theorem gTabType : (Tryd.prog.globals[0]?).map (·.type) = some 107 := by kernel_rfl
theorem cellsTab : Tryd.prog.cellsOf 107 = 32 := by kernel_rfl
theorem cellsByte : Tryd.prog.cellsOf 5 = 1 := by kernel_rfl
theorem table {W : World} (h : laidMetH Tryd.prog Rows.fnAdmitTasksFirstRow.laid W) : Lib.TabIs Tryd.prog W "math/bits.deBruijn32tab" .u8 [0, 1, 28, 2, 29, 14, 24, 3, 30, 22, 20, 15, 25, 17, 4, 8, 31, 27, 13, 23, 21, 19, 16, 7, 26, 12, 18, 6, 11, 5, 10, 9] :=
 Lib.tabIs_of_head (rest := []) gTab gTabType Tryd.underlying107 Tryd.underlying5 cellsByte cellsTab h
theorem tabOK {W : World} (h : laidMetH Tryd.prog Rows.fnAdmitTasksFirstRow.laid W) : TabOK W := by
 intro j hj
 have h2 := (table h).cell gTab j (by simpa using hj)
 rw [h2]
 have h3 : ∀ j, j < 32 → (([0, 1, 28, 2, 29, 14, 24, 3, 30, 22, 20, 15, 25, 17, 4, 8, 31, 27, 13, 23, 21, 19, 16, 7, 26, 12, 18, 6, 11, 5, 10, 9] : List Int).getD j 0) = ((Lib.deBruijn32tab.getD j 0 : Nat) : Int) := by decide
 have h4 := h3 j hj
 simp only [List.getD_eq_getElem?_getD] at h4 ⊢
 first | (rw [h4]) | (simp at h4 ⊢; exact h4) | exact congrArg (fun z => some (Value.int IntKind.u8 z)) h4
noncomputable def laidWorld (os : Os) : World :=
 { World.holding Tryd.prog os ⟨#[], #[], []⟩ with heap := (World.holding Tryd.prog os ⟨#[], #[], []⟩).heap.modify 0 fun
   | .cells _ t frozen => .cells #[.int .u8 0, .int .u8 1, .int .u8 28, .int .u8 2, .int .u8 29, .int .u8 14, .int .u8 24, .int .u8 3, .int .u8 30, .int .u8 22, .int .u8 20, .int .u8 15, .int .u8 25, .int .u8 17, .int .u8 4, .int .u8 8, .int .u8 31, .int .u8 27, .int .u8 13, .int .u8 23, .int .u8 21, .int .u8 19, .int .u8 16, .int .u8 7, .int .u8 26, .int .u8 12, .int .u8 18, .int .u8 6, .int .u8 11, .int .u8 5, .int .u8 10, .int .u8 9] t frozen
   | o => o }
theorem laid_met (os : Os) : laidMet Tryd.prog Rows.fnAdmitTasksFirstRow.laid ((laidWorld os).forCall (fun _ _ => 0) ⟨#[], #[.slice none 0 0], []⟩).memory :=
 laidMet_of_run' 8 (by kernel_rfl) (by kernel_rfl)
theorem reads (os : Os) {H : Type} (enc : TypeId × Value → H) : ∃ places, DataW.whole enc Tryd.prog ((laidWorld os).forCall (fun _ _ => 0) ⟨#[], #[.slice none 0 0], []⟩).memory Tryd.f7.params.toList Rows.fnAdmitTasksFirstSpec.vars false #[Value.slice none 0 0].toList 8 = some ([.nil], [], places) :=
 ⟨[], by kernel_rfl⟩
set_option maxRecDepth 100000 in
theorem lifted (os : Os) (started : os.Started) (H : Type) (enc : TypeId × Value → H) (F : Stop.Interp) :
  ReturnsInHanded {} Tryd.checked os 7 .any ((OpenSpec.ofChange Rows.fnAdmitTasksFirstSpec).preRow enc Tryd.prog Tryd.f7 Rows.fnAdmitTasksFirstRow.domain false Rows.fnAdmitTasksFirstRow.laid) (((OpenSpec.ofChange Rows.fnAdmitTasksFirstSpec).at F).post enc Tryd.prog Tryd.f7 false true false false) := by
 obtain ⟨places, hx⟩ := reads os enc
 refine returnsInHanded_of_row (C := Tryd.checked) (s := OpenSpec.ofChange Rows.fnAdmitTasksFirstSpec) own started (by kernel_rfl) Tryd.func7
  (witness_row_at (enc := enc) (C := Tryd.checked) false (laidWorld os) #[.slice none 0 0] rfl (by kernel_rfl) (by kernel_rfl) (by kernel_rfl)
   (OpenSpec.preRow_of_cond 8 hx (by kernel_rfl) (fun k hk => by cases hk) (by kernel_rfl) (laid_met os))) ?_
 intro W base args ds gs before hval0 hW hcnd _ hsz0 hL _ _
 have hsz : (DataW.weightsEach Tryd.prog (Tryd.f7.params.toList ++ Rows.fnAdmitTasksFirstSpec.plain.varTypes Tryd.prog) (ds ++ gs)).all (· ≤ reachBytes) = true := hsz0
 have hval : ∀ (j : Nat) t v, Tryd.f7.params[j]? = some t → args[j]? = some v → Value.okWide Tryd.prog W .any base t v := hval0
 have hW' := hW
 obtain ⟨p, q, hA0, hV, rfl, hfz, hnd⟩ := hW
 have hA : DataW.TrodAll enc Tryd.prog W 0 (fun _ => true) true Tryd.f7.params.toList args.toList ds p := hA0
 rw [Tryd.params7] at hA hval hsz
 obtain ⟨v0, vs0, d0, ds0, p0, q0, hargs, rfl, rfl, h0, r0⟩ := trodAll_cons hA
 obtain ⟨rfl, rfl, rfl⟩ := trodAll_nil r0
 obtain rfl : args = #[v0] := by cases args; simp_all
 obtain ⟨rfl, rfl⟩ := trodVars_none hV
 obtain ⟨a0, len0, cap0, rfl⟩ := okWide_slice Tryd.underlying22 (hval 0 22 v0 rfl rfl)
 have k0 := h0
 have lt0 : ∀ x ∈ p0, x.block < W.heap.size := by obtain ⟨m, hm⟩ := k0; exact DataW.trod_lt m _ _ _ hm
 obtain ⟨z0, w0⟩ : ∃ zs, IsRow .u8 W a0 len0 cap0 zs := by
  obtain ⟨fuel, hf⟩ := h0
  rcases open_ints Tryd.underlying22 Tryd.underlying5 (by kernel_rfl) hf with ⟨hcs, _⟩ | ⟨x, l, c, zs, hcs, _, hl, hm, hz, _, hcell, hwz⟩
  ·simp [Value.cells] at hcs
   obtain ⟨rfl, rfl, rfl⟩ := hcs
   exact ⟨[], .inl ⟨rfl, rfl, rfl, rfl⟩⟩
  ·simp [Value.cells] at hcs
   obtain ⟨rfl, rfl, rfl⟩ := hcs
   exact ⟨zs, .inr ⟨_, rfl, hl, hm, by simpa using hz, hcell, hwz⟩⟩
 have y0 : len0 * 1 ≤ 140737488351232 := PrintWords.sized_ints hsz (j := 0) (t := 22) rfl rfl Tryd.underlying22 Tryd.underlying5 (by kernel_rfl) (by kernel_rfl) h0
 clear hA0 hval0 hsz0 hsz
 refine (P.laws_FnAdmitTasksFirst.walk Pure.FnAdmitTasksFirst a0 len0 cap0 z0 W w0 y0 (tabOK hL)).mono fun e W' ⟨he, bel⟩ => ?_
 subst he
 exact ⟨_, rfl, _, _, _, [], _, [], hW', trodAll_mk1 (shut_bool Tryd.underlying4 _), (trodAll_cons_mk (Below.trod laidOut (by kernel_rfl) (of_decide_eq_true (by kernel_rfl)) k0 bel lt0) trodAll_mk0), rfl, bel.frame _, fun h => by cases h⟩
theorem said : Rows.FnAdmitTasksFirstSaid :=
 OpenClaim.holds_of_cond 7 Tryd.f7 rfl rfl rfl rfl rfl rfl rfl ⟨rfl, rfl, rfl, rfl, rfl⟩ rfl rfl rfl rfl rfl (by kernel_rfl) Tryd.func7 (by kernel_rfl)
  (of_decide_eq_true (by kernel_rfl)) (by unfold Func.isWrapper; first | (rw [if_pos (by decide +kernel)]; kernel_rfl) | (rw [if_neg (by decide +kernel)]; exact ⟨rfl, rfl⟩))
  (fun os started H enc _ F => by rw [OpenClaim.pre_eq_preRow]; exact lifted os started H enc F)
theorem plain (f : FuncId) (fn : Func) (hf : Tryd.pinned.checked.prog.funcNamed "loop.example/buildscheduler/laws.FnAdmitTasksFirst" = some f) (hfn : Tryd.pinned.checked.prog.funcs[f]? = some fn) :
  false = Tryd.pinned.checked.prog.looks [] ∧ ∀ (j : Nat) t, fn.params[j]? = some t → Tryd.pinned.checked.prog.wantsStandIn t = false := by
 obtain rfl : f = 7 := Option.some.inj ((show Tryd.prog.funcNamed "loop.example/buildscheduler/laws.FnAdmitTasksFirst" = some 7 by kernel_rfl).symm.trans hf) |>.symm
 obtain rfl : fn = Tryd.f7 := (Option.some.inj (Tryd.func7.symm.trans hfn)).symm
 refine ⟨by kernel_rfl, fun j t ht => ?_⟩
 rw [Tryd.params7] at ht
 obtain rfl : t = 22 := by simpa using Array.mem_of_getElem? ht
 exact (show Tryd.prog.wantsStandIn 22 = false by kernel_rfl)
theorem card : Rows.FnAdmitTasksFirstCardSaid :=
 Claim7.holds_tied_plain_at .later [] _ _ _ _ said (fun _ h => by cases h) (by kernel_rfl) (fun _ h => by cases h) fnAdmitTasksFirst_row_tie rfl ⟨rfl, rfl⟩ (by kernel_rfl) rfl plain (by kernel_rfl)
end Go.Proofs.YtajapkjplgaigaaDoor.fnAdmitTasksFirst
namespace Go.Proofs.YtajapkjplgaigaaDoor
theorem fnAdmitTasksFirst_card : Rows.FnAdmitTasksFirstCardSaid := fnAdmitTasksFirst.card
end Go.Proofs.YtajapkjplgaigaaDoor
end
