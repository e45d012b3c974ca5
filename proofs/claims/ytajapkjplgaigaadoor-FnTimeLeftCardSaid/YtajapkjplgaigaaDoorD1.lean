/- The law 'FnTimeLeft' holds for every input: its card. No condition but the row's own. -/
import Derived.Test.YtajapkjplgaigaaDoorD10
import Derived.Test.YtajapkjplgaigaaDoorD12
import Derived.Test.YtajapkjplgaigaaDoorD1WMore
import Derived.IntWalk
import Derived.Laws.BitsLemmas
import Derived.Test.YtajapkjplgaigaaDoorD11
import Derived.Test.YtajapkjplgaigaaDoorRows
import Derived.WalkKit
import Derived.ProofKit
import Derived.OpenShut
import Derived.ShutString
import Derived.ChangeOld
import Derived.Below
import Derived.SizedLaws
import Derived.Test.YtajapkjplgaigaaDoorD1WSized
import Derived.Test.YtajapkjplgaigaaDoorCards
import Derived.Test.YtajapkjplgaigaaDoorTie
import Derived.Deep.DeepHandedRow
import Derived.Lib.LaidTab
section
namespace Go.Proofs.YtajapkjplgaigaaDoor.P
open Go.RowKit Go.Proofs.YtajapkjplgaigaaDoorW.PrintWords Go.Proofs.YtajapkjplgaigaaDoorW.PrintLast Go.Proofs.YtajapkjplgaigaaDoorW.PrintMore
attribute [local go_sem] max2_int min2_int max_two min_two max_three min_three max_four min_four   -- for this text's walks alone
set_option linter.unusedVariables false
set_option linter.unusedSimpArgs false
def spec_timeLeft.l0 : Nat → Int → List Int → List Int → Int → Option (Int)
 | 0, _, _, _, _ => none
 | k + 1, x5, x6, x7, x8 => if x8 < (x7.length : Int) then (if 0 ≤ x8 then (if 0 ≤ (rd x7 x8) then (if (rd x7 x8) < (x6.length : Int) then (spec_timeLeft.l0 k (mx x5 (rd x6 (rd x7 x8))) x6 x7 (wrap64 (x8 + 1))) else (none)) else (none)) else (none)) else (some x5)
def spec_timeLeft.f (k : Nat) (l0 : List (S39)) (l1 : List Int) : Option (Int) := (spec_tails.f k l0).bind fun t503 => ((spec_ready.f k l0 l1).bind fun t506 => (spec_timeLeft.l0 k 0 t503 t506 0))
set_option maxHeartbeats 8000000 in
set_option maxRecDepth 100000 in
theorem spec_timeLeft.calls (k : Nat) (A0 : Option Addr) (c0 : Nat) (l0 : List (S39)) (A1 : Option Addr) (c1 : Nat) (l1 : List Int) (r : Int) (w : World) (hr0 : Kd.C k39 w A0 l0.length l0) (hc0 : l0.length ≤ c0) (hr1 : Kd.C (Kd.int .i64) w A1 l1.length l1) (hc1 : l1.length ≤ c1) (h : spec_timeLeft.f k l0 l1 = some r) :
  Calls Tryd.prog 55 #[.slice A0 l0.length c0, .slice A1 l1.length c1] w fun e w' => e = .returned (.int .i64 r) ∧ Below w.heap.size w w' := by
 have HR0 := Aside0.mk hr0
 have HC0 := Aside0.mk hc0
 clear hr0 hc0
 have HR1 := Aside0.mk hr1
 have HC1 := Aside0.mk hc1
 clear hr1 hc1
 have HB := Aside0.mk (Below.refl w.heap.size w)
 have H : ((spec_tails.f k l0).bind fun t503 => ((spec_ready.f k l0 l1).bind fun t506 => (spec_timeLeft.l0 k 0 t503 t506 0))) = some r := h
 clear h
 replace H := Option.bind_eq_some_iff.mp H
 obtain ⟨t503, A30, H⟩ := H
 replace H : ((spec_ready.f k l0 l1).bind fun t506 => (spec_timeLeft.l0 k 0 t503 t506 0)) = some r := H
 have A3 := Aside0.mk A30
 clear A30
 replace H := Option.bind_eq_some_iff.mp H
 obtain ⟨t506, A40, H⟩ := H
 replace H : (spec_timeLeft.l0 k 0 t503 t506 0) = some r := H
 have A4 := Aside0.mk A40
 clear A40
 have H' := Aside0.mk H
 clear H
 go_enter Tryd.func55, Tryd.ntmps55
 go_wp2_with (first | ((with_reducible refine gate_callee (f := 86) rfl ?_); refine goesL_ (some 10) rfl rfl Tryd.func86 (by kernel_rfl) rfl #[.slice A0 l0.length c0] rfl (by (try simp only [List.map_toArray, List.map_cons, List.map_nil]); first | done | rfl | (simp only [List.length_drop, List.length_take]; rfl)) ?_; (with_reducible refine (spec_tails.calls k _ _ l0 t503 _ ?side1 ?side2 A3.out).mono ?_); (case side1 => repeat (first | exact HR0.out | (with_reducible refine Kd.C_alloc ?_ _) | (with_reducible refine Kd.C_drewN ?_ _) | (with_reducible refine Kd.C_drew ?_))); (case side2 => exact HC0.out); rintro e w5 ⟨v504, rfl, ho0, hb⟩; refine ⟨_, rfl, ?_⟩; have n0_ := Aside0.mk (Kd.R_lower ho0 (below_size (by repeat (first | (with_reducible first | exact HB.out | apply below_alloc | apply pw_below_drewN | apply below_drew1) | exact HB.out)))); have n1_ := Aside0.mk (below_step (by repeat (first | (with_reducible first | exact HB.out | apply below_alloc | apply pw_below_drewN | apply below_drew1) | exact HB.out)) hb); clear HB; have HO505 := n0_; have HB := n1_; clear n0_ n1_; (try clear hb); (try clear hb2); (try clear hk); (try clear hi); (try clear ho0)) | ((with_reducible refine gate_callee (f := 87) rfl ?_); refine goesL_ (some 13) rfl rfl Tryd.func87 (by kernel_rfl) rfl #[.slice A0 l0.length c0, .slice A1 l1.length c1] rfl (by (try simp only [List.map_toArray, List.map_cons, List.map_nil]); first | done | rfl | (simp only [List.length_drop, List.length_take]; rfl)) ?_; (with_reducible refine (spec_ready.calls k _ _ l0 _ _ l1 t506 _ ?side1 ?side2 ?side3 ?side4 A4.out).mono ?_); (case side1 => repeat (first | exact (Kd.C_below HR0.out HB.out) | (with_reducible refine Kd.C_alloc ?_ _) | (with_reducible refine Kd.C_drewN ?_ _) | (with_reducible refine Kd.C_drew ?_))); (case side2 => exact HC0.out); (case side3 => repeat (first | exact (Kd.C_below HR1.out HB.out) | (with_reducible refine Kd.C_alloc ?_ _) | (with_reducible refine Kd.C_drewN ?_ _) | (with_reducible refine Kd.C_drew ?_))); (case side4 => exact HC1.out); rintro e w6 ⟨v507, rfl, ho0, hb⟩; refine ⟨_, rfl, ?_⟩; have n0_ := Aside0.mk (Kd.R_elder' (by (with_reducible repeat (first | apply Kd.R_alloc | apply Kd.R_drewN | apply Kd.R_drew)); exact HO505.out) (Kd.R_base ho0) hb); have n1_ := Aside0.mk (Kd.R_lower (Kd.R_new' ho0 (Kd.R_lt (by (with_reducible repeat (first | apply Kd.R_alloc | apply Kd.R_drewN | apply Kd.R_drew)); exact HO505.out))) (below_size (by repeat (first | (with_reducible first | exact HB.out | apply below_alloc | apply pw_below_drewN | apply below_drew1) | exact HB.out)))); have n2_ := Aside0.mk (below_step (by repeat (first | (with_reducible first | exact HB.out | apply below_alloc | apply pw_below_drewN | apply below_drew1) | exact HB.out)) hb); clear HO505; clear HB; have HO505 := n0_; have HO508 := n1_; have HB := n2_; clear n0_ n1_ n2_; (try clear hb); (try clear hb2); (try clear hk); (try clear hi); (try clear ho0)))
 go_loopg [5, 8] k (fun kq v5 v8 w' => ∃ (x5_1 : Int) (x8_1 : Int), v5 = .int .i64 x5_1 ∧ v8 = .int .i64 x8_1 ∧ Aside0 (spec_timeLeft.l0 kq x5_1 t503 t506 x8_1 = some r) ∧ Aside0 (kq ≤ k) ∧ Aside0 (Kd.R (Kd.int .i64) 3 w' w.heap.size (fun k_ => some k_ ≠ (v507 : Value).ownBlock) v504 t503) ∧ Aside0 (Kd.R (Kd.int .i64) 3 w' w.heap.size (fun k_ => some k_ ≠ (v504 : Value).ownBlock) v507 t506) ∧ Aside0 (Below w.heap.size w w'))
 case atStart => exact ⟨(0), (0), (by first | rfl | (simp; done) | (simp [*]; done)), (by first | rfl | (simp; done) | (simp [*]; done)), H', ⟨Nat.le_refl _⟩, ⟨by (with_reducible repeat (first | apply Kd.R_alloc | apply Kd.R_drewN | apply Kd.R_drew)); exact Kd.R_mono HO505.out (fun _ hk => hk.2)⟩, ⟨by (with_reducible repeat (first | apply Kd.R_alloc | apply Kd.R_drewN | apply Kd.R_drew)); exact Kd.R_mono HO508.out (fun _ hk => hk.2)⟩, ⟨by repeat (first | (with_reducible first | exact HB.out | apply below_alloc | apply pw_below_drewN | apply below_drew1) | exact HB.out)⟩⟩
 case round =>
  clear H'
  try clear c1
  try clear p2
  try clear c5
  obtain ⟨x5_1, x8_1, rfl, rfl, HA, HK1, HO_6, HO_7, HB⟩ := hrel
  cases gk with
  | zero => exact absurd HA.out (by simp [spec_timeLeft.l0])
  | succ k1 =>
   have H := HA.out
   clear HA
   simp only [spec_timeLeft.l0] at H
   by_cases c7 : x8_1 < (t506.length : Int)
   ·rw [if_pos c7] at H
    have c7b0 : decide (x8_1 < (t506.length : Int)) = true := decide_eq_true c7
    clear c7
    by_cases c8 : 0 ≤ x8_1
    ·rw [if_pos c8] at H
     have c8b0 : decide (0 ≤ x8_1) = true := decide_eq_true c8
     clear c8
     by_cases c9 : 0 ≤ (rd t506 x8_1)
     ·rw [if_pos c9] at H
      have c9b0 : decide (0 ≤ (rd t506 x8_1)) = true := decide_eq_true c9
      clear c9
      by_cases c10 : (rd t506 x8_1) < (t503.length : Int)
      ·rw [if_pos c10] at H
       have c10b0 : decide ((rd t506 x8_1) < (t503.length : Int)) = true := decide_eq_true c10
       clear c10
       obtain ⟨ji11, hji11⟩ : ∃ j_ : Int, (mx x5_1 (rd t503 (rd t506 x8_1))) = j_ := ⟨_, rfl⟩
       replace H : (spec_timeLeft.l0 k1 ji11 t503 t506 (wrap64 (x8_1 + 1))) = some r := by first | (rw [hji11] at H; exact H) | (simp only [hji11] at H ⊢; exact H)
       have hji11_ : (if x5_1 < (rd t503 (rd t506 x8_1)) then (rd t503 (rd t506 x8_1)) else x5_1) = ji11 := hji11
       have H' := Aside0.mk H
       clear H
       obtain ⟨Ao12, co12, eo12⟩ := Kd.R_slice HO_7.out
       subst eo12
       have p509 : 0 ≤ (x8_1 : Int) := of_decide_eq_true (by first | (with_reducible assumption) | assumption)
       have q509 : x8_1 < (t506.length : Int) := of_decide_eq_true (by first | (with_reducible assumption) | assumption)
       obtain ⟨ad509, e509, hx509_0⟩ := Kd.at_int (Kd.R_reads' HO_7.out).2.2 x8_1 p509 q509
       cases e509
       replace p509 := eq_true p509
       replace q509 := eq_true q509
       obtain ⟨Ao13, co13, eo13⟩ := Kd.R_slice HO_6.out
       subst eo13
       have p510 : 0 ≤ ((rd t506 x8_1) : Int) := of_decide_eq_true (by first | (with_reducible assumption) | assumption)
       have q510 : (rd t506 x8_1) < (t503.length : Int) := of_decide_eq_true (by first | (with_reducible assumption) | assumption)
       obtain ⟨ad510, e510, hx510_0⟩ := Kd.at_int (Kd.R_reads' HO_6.out).2.2 (rd t506 x8_1) p510 q510
       cases e510
       replace p510 := eq_true p510
       replace q510 := eq_true q510
       go_wp2
       go_roundg k1
       case measure => have := HK1.out; omega
       case rel => exact ⟨(ji11), (wrap64 (x8_1 + 1)), (by first | rfl | (simp; done) | (simp only [← hji11] <;> (first | rfl | simp)) | (simp [*]; done)), (by first | rfl | (simp; done) | (simp [*]; done)), H', ⟨by have := HK1.out; omega⟩, ⟨by (with_reducible repeat (first | apply Kd.R_alloc | apply Kd.R_drewN | apply Kd.R_drew)); exact HO_6.out⟩, ⟨by (with_reducible repeat (first | apply Kd.R_alloc | apply Kd.R_drewN | apply Kd.R_drew)); exact HO_7.out⟩, ⟨by repeat (first | (with_reducible first | exact HB.out | apply below_alloc | apply pw_below_drewN | apply below_drew1) | exact HB.out)⟩⟩
      ·rw [if_neg c10] at H
       exact absurd H (by simp)
     ·rw [if_neg c9] at H
      exact absurd H (by simp)
    ·rw [if_neg c8] at H
     exact absurd H (by simp)
   ·rw [if_neg c7] at H
    have c7b0 : decide (x8_1 < (t506.length : Int)) = false := decide_eq_false c7
    clear c7
    obtain rfl := Option.some.inj H
    obtain ⟨Ao14, co14, eo14⟩ := Kd.R_slice HO_7.out
    subst eo14
    go_wp2
    go_ret
    exact ⟨by first | rfl | (simp [errW_none, errW_some] <;> rfl) | (simp [*, errW_none, errW_some] <;> rfl), by repeat (first | (with_reducible first | exact HB.out | apply below_alloc | apply pw_below_drewN | apply below_drew1) | exact HB.out)⟩
end Go.Proofs.YtajapkjplgaigaaDoor.P
end
section
namespace Go.Proofs.YtajapkjplgaigaaDoor.P
open Go.RowKit Go.Proofs.YtajapkjplgaigaaDoorW.PrintWords Go.Proofs.YtajapkjplgaigaaDoorW.PrintLast Go.Proofs.YtajapkjplgaigaaDoorW.PrintMore
attribute [local go_sem] max2_int min2_int max_two min_two max_three min_three max_four min_four   -- for this text's walks alone
set_option linter.unusedVariables false
set_option linter.unusedSimpArgs false
def spec_TimeLeft.f (k : Nat) (l0 : List (S39)) (l1 : List Int) : Option (Int) := (spec_validDone.f k l0 l1).bind fun t511 => (if t511 = true then ((spec_timeLeft.f k l0 l1).bind fun t512 => (some t512)) else (some (-1)))
set_option maxHeartbeats 8000000 in
set_option maxRecDepth 100000 in
theorem spec_TimeLeft.calls (k : Nat) (A0 : Option Addr) (c0 : Nat) (l0 : List (S39)) (A1 : Option Addr) (c1 : Nat) (l1 : List Int) (r : Int) (w : World) (hr0 : Kd.C k39 w A0 l0.length l0) (hc0 : l0.length ≤ c0) (hr1 : Kd.C (Kd.int .i64) w A1 l1.length l1) (hc1 : l1.length ≤ c1) (h : spec_TimeLeft.f k l0 l1 = some r) :
  Calls Tryd.prog 25 #[.slice A0 l0.length c0, .slice A1 l1.length c1] w fun e w' => e = .returned (.int .i64 r) ∧ Below w.heap.size w w' := by
 have HR0 := Aside0.mk hr0
 have HC0 := Aside0.mk hc0
 clear hr0 hc0
 have HR1 := Aside0.mk hr1
 have HC1 := Aside0.mk hc1
 clear hr1 hc1
 have HB := Aside0.mk (Below.refl w.heap.size w)
 have H : ((spec_validDone.f k l0 l1).bind fun t511 => (if t511 = true then ((spec_timeLeft.f k l0 l1).bind fun t512 => (some t512)) else (some (-1)))) = some r := h
 clear h
 replace H := Option.bind_eq_some_iff.mp H
 obtain ⟨t511, A30, H⟩ := H
 replace H : (if t511 = true then ((spec_timeLeft.f k l0 l1).bind fun t512 => (some t512)) else (some (-1))) = some r := H
 have A3 := Aside0.mk A30
 clear A30
 by_cases c4 : t511 = true
 ·subst c4
  have H1 : ((spec_timeLeft.f k l0 l1).bind fun t512 => (some t512)) = some r := by rw [if_pos rfl] at H; exact H
  clear H
  have H := H1
  clear H1
  replace H := Option.bind_eq_some_iff.mp H
  obtain ⟨t512, A50, H⟩ := H
  replace H : (some t512) = some r := H
  have A5 := Aside0.mk A50
  clear A50
  obtain rfl := Option.some.inj H
  go_enter Tryd.func25, Tryd.ntmps25
  go_wp2_with (first | ((with_reducible refine gate_callee (f := 43) rfl ?_); refine goesL_ (some 7) rfl rfl Tryd.func43 (by kernel_rfl) rfl #[.slice A0 l0.length c0, .slice A1 l1.length c1] rfl (by (try simp only [List.map_toArray, List.map_cons, List.map_nil]); first | done | rfl | (simp only [List.length_drop, List.length_take]; rfl)) ?_; (with_reducible refine (spec_validDone.calls k _ _ l0 _ _ l1 true _ ?side1 ?side2 ?side3 ?side4 A3.out).mono ?_); (case side1 => repeat (first | exact HR0.out | (with_reducible refine Kd.C_alloc ?_ _) | (with_reducible refine Kd.C_drewN ?_ _) | (with_reducible refine Kd.C_drew ?_))); (case side2 => exact HC0.out); (case side3 => repeat (first | exact HR1.out | (with_reducible refine Kd.C_alloc ?_ _) | (with_reducible refine Kd.C_drewN ?_ _) | (with_reducible refine Kd.C_drew ?_))); (case side4 => exact HC1.out); rintro e w6 ⟨rfl, hb⟩; refine ⟨_, rfl, ?_⟩; have n0_ := Aside0.mk (below_step (by repeat (first | (with_reducible first | exact HB.out | apply below_alloc | apply pw_below_drewN | apply below_drew1) | exact HB.out)) hb); clear HB; have HB := n0_; clear n0_; (try clear hb); (try clear hb2); (try clear hk); (try clear hi)) | ((with_reducible refine gate_callee (f := 55) rfl ?_); refine goesL_ (some 11) rfl rfl Tryd.func55 (by kernel_rfl) rfl #[.slice A0 l0.length c0, .slice A1 l1.length c1] rfl (by (try simp only [List.map_toArray, List.map_cons, List.map_nil]); first | done | rfl | (simp only [List.length_drop, List.length_take]; rfl)) ?_; (with_reducible refine (spec_timeLeft.calls k _ _ l0 _ _ l1 t512 _ ?side1 ?side2 ?side3 ?side4 A5.out).mono ?_); (case side1 => repeat (first | exact (Kd.C_below HR0.out HB.out) | (with_reducible refine Kd.C_alloc ?_ _) | (with_reducible refine Kd.C_drewN ?_ _) | (with_reducible refine Kd.C_drew ?_))); (case side2 => exact HC0.out); (case side3 => repeat (first | exact (Kd.C_below HR1.out HB.out) | (with_reducible refine Kd.C_alloc ?_ _) | (with_reducible refine Kd.C_drewN ?_ _) | (with_reducible refine Kd.C_drew ?_))); (case side4 => exact HC1.out); rintro e w7 ⟨rfl, hb⟩; refine ⟨_, rfl, ?_⟩; have n0_ := Aside0.mk (below_step (by repeat (first | (with_reducible first | exact HB.out | apply below_alloc | apply pw_below_drewN | apply below_drew1) | exact HB.out)) hb); clear HB; have HB := n0_; clear n0_; (try clear hb); (try clear hb2); (try clear hk); (try clear hi)))
  go_ret
  exact ⟨by first | rfl | (simp [errW_none, errW_some] <;> rfl) | (simp [*, errW_none, errW_some] <;> rfl), by repeat (first | (with_reducible first | exact HB.out | apply below_alloc | apply pw_below_drewN | apply below_drew1) | exact HB.out)⟩
 ·replace c4 := Bool.eq_false_iff.mpr c4
  subst c4
  have H1 : (some (-1)) = some r := by rw [if_neg (show ¬ (false = true) by decide)] at H; exact H
  clear H
  have H := H1
  clear H1
  obtain rfl := Option.some.inj H
  go_enter Tryd.func25, Tryd.ntmps25
  go_wp2_with (first | ((with_reducible refine gate_callee (f := 43) rfl ?_); refine goesL_ (some 7) rfl rfl Tryd.func43 (by kernel_rfl) rfl #[.slice A0 l0.length c0, .slice A1 l1.length c1] rfl (by (try simp only [List.map_toArray, List.map_cons, List.map_nil]); first | done | rfl | (simp only [List.length_drop, List.length_take]; rfl)) ?_; (with_reducible refine (spec_validDone.calls k _ _ l0 _ _ l1 false _ ?side1 ?side2 ?side3 ?side4 A3.out).mono ?_); (case side1 => repeat (first | exact HR0.out | (with_reducible refine Kd.C_alloc ?_ _) | (with_reducible refine Kd.C_drewN ?_ _) | (with_reducible refine Kd.C_drew ?_))); (case side2 => exact HC0.out); (case side3 => repeat (first | exact HR1.out | (with_reducible refine Kd.C_alloc ?_ _) | (with_reducible refine Kd.C_drewN ?_ _) | (with_reducible refine Kd.C_drew ?_))); (case side4 => exact HC1.out); rintro e w8 ⟨rfl, hb⟩; refine ⟨_, rfl, ?_⟩; have n0_ := Aside0.mk (below_step (by repeat (first | (with_reducible first | exact HB.out | apply below_alloc | apply pw_below_drewN | apply below_drew1) | exact HB.out)) hb); clear HB; have HB := n0_; clear n0_; (try clear hb); (try clear hb2); (try clear hk); (try clear hi)))
  go_ret
  exact ⟨by first | rfl | (simp [errW_none, errW_some] <;> rfl) | (simp [*, errW_none, errW_some] <;> rfl), by repeat (first | (with_reducible first | exact HB.out | apply below_alloc | apply pw_below_drewN | apply below_drew1) | exact HB.out)⟩
end Go.Proofs.YtajapkjplgaigaaDoor.P
end
section
namespace Go.Proofs.YtajapkjplgaigaaDoor.P
open Go.RowKit Go.Proofs.YtajapkjplgaigaaDoorW.PrintWords Go.Proofs.YtajapkjplgaigaaDoorW.PrintLast Go.Proofs.YtajapkjplgaigaaDoorW.PrintMore
attribute [local go_sem] max2_int min2_int max_two min_two max_three min_three max_four min_four   -- for this text's walks alone
set_option linter.unusedVariables false
set_option linter.unusedSimpArgs false
def impl_longest.l0 : Nat → Int → List Int → Int → Int → Option (Int)
 | 0, _, _, _, _ => none
 | k + 1, x3, x6, x7, x8 => if x8 < x7 then (if 0 ≤ x8 then (if x8 < (x6.length : Int) then (impl_longest.l0 k (mx x3 (rd x6 x8)) x6 x7 (wrap64 (x8 + 1))) else (none)) else (none)) else (some x3)
def impl_longest.f (k : Nat) (l0 : List Int) : Option (Int) := impl_longest.l0 k 0 l0 (l0.length : Int) 0
set_option maxHeartbeats 8000000 in
set_option maxRecDepth 100000 in
theorem impl_longest.calls (k : Nat) (A0 : Option Addr) (c0 : Nat) (l0 : List Int) (r : Int) (w : World) (hr0 : Kd.C (Kd.int .i64) w A0 l0.length l0) (hc0 : l0.length ≤ c0) (h : impl_longest.f k l0 = some r) :
  Calls Tryd.prog 78 #[.slice A0 l0.length c0] w fun e w' => e = .returned (.int .i64 r) ∧ Below w.heap.size w w' := by
 have HR0 := Aside0.mk hr0
 have HC0 := Aside0.mk hc0
 clear hr0 hc0
 have HB := Aside0.mk (Below.refl w.heap.size w)
 have H : (impl_longest.l0 k 0 l0 (l0.length : Int) 0) = some r := h
 clear h
 have H' := Aside0.mk H
 clear H
 go_enter Tryd.func78, Tryd.ntmps78
 go_wp2
 go_loopg [3, 8] k (fun kq v3 v8 w' => ∃ (x3_1 : Int) (x8_1 : Int), v3 = .int .i64 x3_1 ∧ v8 = .int .i64 x8_1 ∧ Aside0 (impl_longest.l0 kq x3_1 l0 (l0.length : Int) x8_1 = some r) ∧ Aside0 (kq ≤ k) ∧ Aside0 (Below w.heap.size w w'))
 case atStart => exact ⟨(0), (0), (by first | rfl | (simp; done) | (simp [*]; done)), (by first | rfl | (simp; done) | (simp [*]; done)), H', ⟨Nat.le_refl _⟩, ⟨by repeat (first | (with_reducible first | exact HB.out | apply below_alloc | apply pw_below_drewN | apply below_drew1) | exact HB.out)⟩⟩
 case round =>
  clear H'
  obtain ⟨x3_1, x8_1, rfl, rfl, HA, HK1, HB⟩ := hrel
  cases gk with
  | zero => exact absurd HA.out (by simp [impl_longest.l0])
  | succ k1 =>
   have H := HA.out
   clear HA
   simp only [impl_longest.l0] at H
   by_cases c2 : x8_1 < (l0.length : Int)
   ·rw [if_pos c2] at H
    have c2b0 : decide (x8_1 < (l0.length : Int)) = true := decide_eq_true c2
    clear c2
    by_cases c3 : 0 ≤ x8_1
    ·rw [if_pos c3] at H
     have c3b0 : decide (0 ≤ x8_1) = true := decide_eq_true c3
     clear c3
     by_cases c4 : x8_1 < (l0.length : Int)
     ·rw [if_pos c4] at H
      have c4b0 : decide (x8_1 < (l0.length : Int)) = true := decide_eq_true c4
      clear c4
      obtain ⟨ji5, hji5⟩ : ∃ j_ : Int, (mx x3_1 (rd l0 x8_1)) = j_ := ⟨_, rfl⟩
      replace H : (impl_longest.l0 k1 ji5 l0 (l0.length : Int) (wrap64 (x8_1 + 1))) = some r := by first | (rw [hji5] at H; exact H) | (simp only [hji5] at H ⊢; exact H)
      have hji5_ : (if x3_1 < (rd l0 x8_1) then (rd l0 x8_1) else x3_1) = ji5 := hji5
      have H' := Aside0.mk H
      clear H
      have p922 : 0 ≤ (x8_1 : Int) := of_decide_eq_true (by first | (with_reducible assumption) | assumption)
      have q922 : x8_1 < (l0.length : Int) := of_decide_eq_true (by first | (with_reducible assumption) | assumption)
      obtain ⟨ad922, e922, hx922_0⟩ := Kd.at_int HR0.out x8_1 p922 q922
      cases e922
      replace hx922_0 := (HB.out.cell (World.block_lt_of_cell? w _ hx922_0)).trans hx922_0
      replace p922 := eq_true p922
      replace q922 := eq_true q922
      go_wp2
      go_roundg k1
      case measure => have := HK1.out; omega
      case rel => exact ⟨(ji5), (wrap64 (x8_1 + 1)), (by first | rfl | (simp; done) | (simp only [← hji5] <;> (first | rfl | simp)) | (simp [*]; done)), (by first | rfl | (simp; done) | (simp [*]; done)), H', ⟨by have := HK1.out; omega⟩, ⟨by repeat (first | (with_reducible first | exact HB.out | apply below_alloc | apply pw_below_drewN | apply below_drew1) | exact HB.out)⟩⟩
     ·rw [if_neg c4] at H
      exact absurd H (by simp)
    ·rw [if_neg c3] at H
     exact absurd H (by simp)
   ·rw [if_neg c2] at H
    have c2b0 : decide (x8_1 < (l0.length : Int)) = false := decide_eq_false c2
    clear c2
    obtain rfl := Option.some.inj H
    go_wp2
    go_ret
    exact ⟨by first | rfl | (simp [errW_none, errW_some] <;> rfl) | (simp [*, errW_none, errW_some] <;> rfl), by repeat (first | (with_reducible first | exact HB.out | apply below_alloc | apply pw_below_drewN | apply below_drew1) | exact HB.out)⟩
end Go.Proofs.YtajapkjplgaigaaDoor.P
end
section
namespace Go.Proofs.YtajapkjplgaigaaDoor.P
open Go.RowKit Go.Shelf Go.Proofs.YtajapkjplgaigaaDoorW.PrintWords Go.Proofs.YtajapkjplgaigaaDoorW.PrintLast Go.Proofs.YtajapkjplgaigaaDoorW.PrintMore
attribute [local go_sem] Oper.semAt_some
set_option linter.unusedVariables false
set_option linter.unusedSimpArgs false
theorem longest_go (xs : List Int) (hl : xs.length ≤ 8) : ∀ (m j : Nat) (a : Int), j + m = xs.length → impl_longest.l0 (m + 1) a xs (xs.length : Int) (j : Int) = some ((xs.drop j).foldl mx a)
 | 0, j, a, hj => by
  unfold impl_longest.l0
  rw [if_neg (by omega), List.drop_eq_nil_of_le (by omega)]
  rfl
 | m + 1, j, a, hj => by
  unfold impl_longest.l0
  have hw : wrap64 ((j : Int) + 1) = ((j + 1 : Nat) : Int) := by rw [IntWalk.wrap64_in _ (by omega)]; omega
  have hr : rd xs (j : Int) = xs[j]'(by omega) := by simp [rd, show j < xs.length by omega]
  rw [if_pos (by omega), if_pos (by omega), if_pos (by omega), hw, longest_go xs hl m (j + 1) _ (by omega), List.drop_eq_getElem_cons (show j < xs.length by omega), List.foldl_cons, hr]
theorem longest_eq (xs : List Int) (hl : xs.length ≤ 8) : impl_longest.f (xs.length + 1) xs = some (xs.foldl mx 0) := by
 have := longest_go xs hl xs.length 0 0 (by omega)
 simpa [impl_longest.f] using this
theorem fnL_most (n : Nat) (f : Nat → Int) : (fnL n f).foldl mx 0 = mostF f (List.range n) := by
 unfold fnL mostF
 rw [List.foldl_map]
def longestW (ts : List TT) : Int := match graphP ts with
 | none => -1
 | some G => mostF (tailsW G.ts G.nd G.od.reverse) (List.range G.ts.length)
def impl_LongestTime.f (l0 : List TT) : Option (Int) := some (longestW l0)
set_option maxRecDepth 100000 in
set_option maxHeartbeats 1000000 in
theorem impl_LongestTime.calls (A0 : Option Addr) (c0 : Nat) (l0 : List TT) (r : Int) (w : World) (hr0 : Kd.C k39 w A0 l0.length l0) (hc0 : l0.length ≤ c0) (h : impl_LongestTime.f l0 = some r) (hTab : TabOK w) :
  Calls Tryd.prog 37 #[.slice A0 l0.length c0] w fun e w' => e = .returned (.int .i64 r) ∧ Below w.heap.size w w' := by
 have gc := Aside0.mk (graphOf_all A0 c0 l0 w hr0 hc0 hTab)
 have hT' := Aside0.mk hTab
 have hr0' := Aside0.mk hr0
 unfold impl_LongestTime.f longestW at h
 injection h with h
 clear hr0 hTab
 cases hd : graphP l0 with
 | none =>
  rw [hd] at h
  simp only at h
  subst h
  have hd' := Aside0.mk hd
  clear hd
  go_enter Tryd.func37, Tryd.ntmps37
  go_wp2_with (go_at_call 58; refine gc.out.mono ?_; rintro e w1 ⟨g, b, rfl, hB, hno, hyes⟩; obtain ⟨rfl, rfl⟩ := hno hd'.out; have hB' := Aside0.mk hB; clear hB hno hyes)
  go_ret
  exact ⟨rfl, hB'.out⟩
 | some G =>
  rw [hd] at h
  simp only at h
  subst h
  obtain ⟨hts, hnP, hOk⟩ := graphP_ok hd
  have hd' := Aside0.mk hd
  have hOk' := Aside0.mk hOk
  clear hd hts hnP hOk
  go_enter Tryd.func37, Tryd.ntmps37
  go_wp2_with (first | (go_at_call 58; refine gc.out.mono ?_; rintro e w1 ⟨g, b, rfl, hB, hno, hyes⟩; obtain ⟨rfl, a, rfl, hG0⟩ := hyes G hd'.out; have hG := graphOf_at hr0'.out hB hG0; have hB' := Aside0.mk hB; have hG' := Aside0.mk hG; have hT1 := Aside0.mk (hT'.out.below hB); clear hB hno hyes hG hG0) | (go_at_call 53; refine (tails_calls a G hOk'.out _ hG'.out hT1.out).mono ?_; rintro e w2 ⟨b, rfl, hbq, hbr, hB2⟩; have hB2' := Aside0.mk (below_step hB'.out hB2); have hbr' := Aside0.mk hbr; clear hbq hbr hB2) | (go_at_call 78; go_loud (have hll := longest_eq (fnL G.ts.length (tailsW G.ts G.nd G.od.reverse)) (by rw [fnL_len]; exact hOk'.out.n8); have lc := impl_longest.calls _ (some ⟨b, 0, none⟩) G.ts.length (fnL G.ts.length (tailsW G.ts G.nd G.od.reverse)) _ w2 (Kd.C_of_reads (rowF_reads hbr'.out hOk'.out.n8)) (by rw [fnL_len]; exact Nat.le_refl _) hll; rw [fnL_len, fnL_most] at lc; refine lc.mono ?_; rintro e w3 ⟨rfl, hB3⟩; have hB3' := Aside0.mk (below_step hB2'.out hB3); clear hB3)))
  go_ret
  exact ⟨rfl, hB3'.out⟩
end Go.Proofs.YtajapkjplgaigaaDoor.P
end
section
namespace Go.Proofs.YtajapkjplgaigaaDoor.P
open Go.RowKit Go.Proofs.YtajapkjplgaigaaDoorW.PrintWords Go.Proofs.YtajapkjplgaigaaDoorW.PrintLast Go.Proofs.YtajapkjplgaigaaDoorW.PrintMore
attribute [local go_sem] max2_int min2_int max_two min_two max_three min_three max_four min_four   -- for this text's walks alone
set_option linter.unusedVariables false
set_option linter.unusedSimpArgs false
mutual
def laws_FnTimeLeft.j0 : Nat → List (S39) → List Int → Int → Bool → Option (Bool)
 | 0, _, _, _, _ => none
 | k + 1, x3, x4, x5, x29 => if x29 = true then ((spec_TimeLeft.f k x3 x4).bind fun t934 => (some (x5 == t934))) else ((impl_ReadyTasks.f x3 x4).bind fun t935 => (laws_FnTimeLeft.l0 k x3 x4 x5 t935 0))
def laws_FnTimeLeft.l0 : Nat → List (S39) → List Int → Int → List Int → Int → Option (Bool)
 | 0, _, _, _, _, _ => none
 | k + 1, x3, x4, x5, x6, x7 => if x7 < (x6.length : Int) then (if 0 ≤ x7 then ((impl_FinishTask.f x3 x4 (rd x6 x7)).bind fun bt941 => (if bt941.2 = true then ((impl_TimeLeft.f x3 bt941.1).bind fun t945 => (if t945 > x5 then (some false) else (laws_FnTimeLeft.l0 k x3 x4 x5 x6 (wrap64 (x7 + 1))))) else (some false))) else (none)) else ((impl_TimeLeft.f x3 ([] : List Int)).bind fun t938 => ((impl_LongestTime.f x3).bind fun t939 => (if t938 = t939 then (some ((x5 == 0) == ((x4.length : Int) == (x3.length : Int)))) else (some false))))
end
def laws_FnTimeLeft.f (k : Nat) (l0 : List Int) : Option (Bool) := if (l0.length : Int) > 1048576 then (some true) else ((spec_DrawTimeLeft.f k l0).bind fun bt926 => ((impl_TimeLeft.f bt926.1 bt926.2).bind fun t932 => ((spec_TimeLeft.f k bt926.1 bt926.2).bind fun t933 => (if t932 = t933 then (laws_FnTimeLeft.j0 k bt926.1 bt926.2 t932 (decide (t932 < 0))) else (laws_FnTimeLeft.j0 k bt926.1 bt926.2 t932 true)))))
set_option maxHeartbeats 8000000 in
set_option maxRecDepth 100000 in
theorem laws_FnTimeLeft.calls (k : Nat) (A0 : Option Addr) (c0 : Nat) (l0 : List Int) (r : Bool) (w : World) (hr0 : Kd.C (Kd.int .u8) w A0 l0.length l0) (hc0 : l0.length ≤ c0) (h : laws_FnTimeLeft.f k l0 = some r) (hTab0 : TabOK w) :
  Calls Tryd.prog 11 #[.slice A0 l0.length c0] w fun e w' => e = .returned (.bool r) ∧ Below w.heap.size w w' := by
 have hTab := Aside0.mk hTab0
 clear hTab0
 have HR0 := Aside0.mk hr0
 have HC0 := Aside0.mk hc0
 clear hr0 hc0
 have HB := Aside0.mk (Below.refl w.heap.size w)
 have H : (if (l0.length : Int) > 1048576 then (some true) else ((spec_DrawTimeLeft.f k l0).bind fun bt926 => ((impl_TimeLeft.f bt926.1 bt926.2).bind fun t932 => ((spec_TimeLeft.f k bt926.1 bt926.2).bind fun t933 => (if t932 = t933 then (laws_FnTimeLeft.j0 k bt926.1 bt926.2 t932 (decide (t932 < 0))) else (laws_FnTimeLeft.j0 k bt926.1 bt926.2 t932 true)))))) = some r := h
 clear h
 by_cases c2 : (l0.length : Int) > 1048576
 ·rw [if_pos c2] at H
  have c2b0 : decide (1048576 < (l0.length : Int)) = true := decide_eq_true c2
  have c2b1 : decide (1048576 < l0.length) = true := decide_eq_true (by omega)
  clear c2
  obtain rfl := Option.some.inj H
  go_enter Tryd.func11, Tryd.ntmps11
  go_wp2
  go_ret
  exact ⟨by first | rfl | (simp [errW_none, errW_some] <;> rfl) | (simp [*, errW_none, errW_some] <;> rfl), by repeat (first | (with_reducible first | exact HB.out | apply below_alloc | apply pw_below_drewN | apply below_drew1) | exact HB.out)⟩
 ·rw [if_neg c2] at H
  have c2b0 : decide (1048576 < (l0.length : Int)) = false := decide_eq_false c2
  have c2b1 : decide (1048576 < l0.length) = false := decide_eq_false (by omega)
  clear c2
  replace H := Option.bind_eq_some_iff.mp H
  obtain ⟨⟨t926, t929⟩, A30, H⟩ := H
  replace H : ((impl_TimeLeft.f t926 t929).bind fun t932 => ((spec_TimeLeft.f k t926 t929).bind fun t933 => (if t932 = t933 then (laws_FnTimeLeft.j0 k t926 t929 t932 (decide (t932 < 0))) else (laws_FnTimeLeft.j0 k t926 t929 t932 true)))) = some r := H
  have A3 := Aside0.mk A30
  clear A30
  replace H := Option.bind_eq_some_iff.mp H
  obtain ⟨t932, A40, H⟩ := H
  replace H : ((spec_TimeLeft.f k t926 t929).bind fun t933 => (if t932 = t933 then (laws_FnTimeLeft.j0 k t926 t929 t932 (decide (t932 < 0))) else (laws_FnTimeLeft.j0 k t926 t929 t932 true))) = some r := H
  have A4 := Aside0.mk A40
  clear A40
  have HC5 := Aside0.mk H
  clear H
  go_enter Tryd.func11, Tryd.ntmps11
  go_upto_region 5 with (first | ((with_reducible refine gate_callee (f := 23) rfl ?_); refine goesL_ (some 15) rfl rfl Tryd.func23 (by kernel_rfl) rfl #[.slice A0 l0.length c0] rfl (by (try simp only [List.map_toArray, List.map_cons, List.map_nil]); first | done | rfl | (simp only [List.length_drop, List.length_take]; rfl)) ?_; (with_reducible refine (spec_DrawTimeLeft.calls k _ _ l0 t926 t929 _ ?side1 ?side2 A3.out).mono ?_); (case side1 => repeat (first | exact HR0.out | (with_reducible refine Kd.C_alloc ?_ _) | (with_reducible refine Kd.C_drewN ?_ _) | (with_reducible refine Kd.C_drew ?_))); (case side2 => exact HC0.out); rintro e w6 ⟨v927, v930, rfl, ho0, ho1, hb⟩; refine ⟨_, rfl, ?_⟩; have n0_ := Aside0.mk (Kd.N_lower (Kd.N_mono (ok' := fun k_ => some k_ ≠ (v930 : Value).ownBlock) ho0 (fun k_ hk_ => hk_.2)) (below_size (by repeat (first | (with_reducible first | exact HB.out | apply below_alloc | apply pw_below_drewN | apply below_drew1) | exact HB.out)))); have n1_ := Aside0.mk (Kd.Q_lower (Kd.Q_mono (ok' := fun k_ => True) ho1 (fun _ hk_ => trivial)) (below_size (by repeat (first | (with_reducible first | exact HB.out | apply below_alloc | apply pw_below_drewN | apply below_drew1) | exact HB.out)))); have n2_ := Aside0.mk (below_step (by repeat (first | (with_reducible first | exact HB.out | apply below_alloc | apply pw_below_drewN | apply below_drew1) | exact HB.out)) hb); clear HB; have HO928 := n0_; have HO931 := n1_; have HB := n2_; clear n0_ n1_ n2_; (try clear hb); (try clear hb2); (try clear hk); (try clear hi); (try clear ho0); (try clear ho1); obtain ⟨Ao7, co7, eo7⟩ := Kd.N_slice HO928.out; subst eo7; obtain ⟨Ao8, co8, eo8, _⟩ := Kd.Q_slice HO931.out; subst eo8) | ((with_reducible refine gate_callee (f := 24) rfl ?_); refine goesL_ (some 20) rfl rfl Tryd.func24 (by kernel_rfl) rfl #[.slice Ao7 t926.length co7, .slice Ao8 t929.length co8] rfl (by (try simp only [List.map_toArray, List.map_cons, List.map_nil]); first | done | rfl | (simp only [List.length_drop, List.length_take]; rfl)) ?_; (with_reducible refine (impl_TimeLeft.calls _ _ t926 _ _ t929 t932 _ ?side1 ?side2 ?side3 ?side4 A4.out ?sideTab).mono ?_); (case sideTab => exact TabOK.below hTab.out (by repeat (first | (with_reducible first | exact HB.out | apply below_alloc | apply pw_below_drewN | apply below_drew1) | exact HB.out))); (case side1 => repeat (first | exact (Kd.N_reads' HO928.out).2.2 | (with_reducible refine Kd.C_alloc ?_ _) | (with_reducible refine Kd.C_drewN ?_ _) | (with_reducible refine Kd.C_drew ?_))); (case side2 => exact (Kd.N_reads' HO928.out).2.1); (case side3 => repeat (first | exact (Kd.Q_reads' HO931.out).2.2 | (with_reducible refine Kd.C_alloc ?_ _) | (with_reducible refine Kd.C_drewN ?_ _) | (with_reducible refine Kd.C_drew ?_))); (case side4 => exact (Kd.Q_reads' HO931.out).2.1); rintro e w9 ⟨rfl, hb⟩; refine ⟨_, rfl, ?_⟩; have n0_ := Aside0.mk (Kd.N_below (by (with_reducible repeat (first | apply Kd.N_alloc | apply Kd.N_drewN | apply Kd.N_drew)); exact HO928.out) hb); have n1_ := Aside0.mk (Kd.Q_below (by (with_reducible repeat (first | apply Kd.Q_alloc | apply Kd.Q_drewN | apply Kd.Q_drew)); exact HO931.out) hb); have n2_ := Aside0.mk (below_step (by repeat (first | (with_reducible first | exact HB.out | apply below_alloc | apply pw_below_drewN | apply below_drew1) | exact HB.out)) hb); clear HO928; clear HO931; clear HB; have HO928 := n0_; have HO931 := n1_; have HB := n2_; clear n0_ n1_ n2_; (try clear hb); (try clear hb2); (try clear hk); (try clear hi)))
  (try simp only [Act.put, List.setIfInBounds_toArray, List.set_cons_zero, List.set_cons_succ])
  go_cut [29] (fun v29 wc => ∃ (kq : Nat) (x29_4 : Bool), v29 = .bool x29_4 ∧ Aside0 (laws_FnTimeLeft.j0 kq t926 t929 t932 x29_4 = some r) ∧ Aside0 (kq ≤ k) ∧ Aside0 (Kd.N k39 39 wc w.heap.size (fun k_ => some k_ ≠ ((.slice Ao8 t929.length co8) : Value).ownBlock) (.slice Ao7 t926.length co7) t926) ∧ Aside0 (Kd.Q (Kd.int .i64) 3 wc w.heap.size (fun _ => True) (.slice Ao8 t929.length co8) t929) ∧ Aside0 (Below w.heap.size w wc))
  case first =>
   have H := HC5.out
   clear HC5
   replace H := Option.bind_eq_some_iff.mp H
   obtain ⟨t933, A100, H⟩ := H
   replace H : (if t932 = t933 then (laws_FnTimeLeft.j0 k t926 t929 t932 (decide (t932 < 0))) else (laws_FnTimeLeft.j0 k t926 t929 t932 true)) = some r := H
   have A10 := Aside0.mk A100
   clear A100
   by_cases c11 : t932 = t933
   ·rw [if_pos c11] at H
    have c11b0 : (t932 == t933) = true := beq_iff_eq.mpr c11
    have c11b1 : (t932 != t933) = false := bne_eq_false_iff_eq.mpr c11
    clear c11
    (first | rw [c11b0] | (simp only [i64_w, i32_w]; rw [c11b0]) | skip)
    have H' := Aside0.mk H
    clear H
    go_wp2_with (first | ((with_reducible refine gate_callee (f := 25) rfl ?_); refine goesL_ (some 24) rfl rfl Tryd.func25 (by kernel_rfl) rfl #[.slice Ao7 t926.length co7, .slice Ao8 t929.length co8] rfl (by (try simp only [List.map_toArray, List.map_cons, List.map_nil]); first | done | rfl | (simp only [List.length_drop, List.length_take]; rfl)) ?_; (with_reducible refine (spec_TimeLeft.calls k _ _ t926 _ _ t929 t933 _ ?side1 ?side2 ?side3 ?side4 A10.out).mono ?_); (case side1 => repeat (first | exact (Kd.N_reads' HO928.out).2.2 | (with_reducible refine Kd.C_alloc ?_ _) | (with_reducible refine Kd.C_drewN ?_ _) | (with_reducible refine Kd.C_drew ?_))); (case side2 => exact (Kd.N_reads' HO928.out).2.1); (case side3 => repeat (first | exact (Kd.Q_reads' HO931.out).2.2 | (with_reducible refine Kd.C_alloc ?_ _) | (with_reducible refine Kd.C_drewN ?_ _) | (with_reducible refine Kd.C_drew ?_))); (case side4 => exact (Kd.Q_reads' HO931.out).2.1); rintro e w12 ⟨rfl, hb⟩; refine ⟨_, rfl, ?_⟩; have n0_ := Aside0.mk (Kd.N_below (by (with_reducible repeat (first | apply Kd.N_alloc | apply Kd.N_drewN | apply Kd.N_drew)); exact HO928.out) hb); have n1_ := Aside0.mk (Kd.Q_below (by (with_reducible repeat (first | apply Kd.Q_alloc | apply Kd.Q_drewN | apply Kd.Q_drew)); exact HO931.out) hb); have n2_ := Aside0.mk (below_step (by repeat (first | (with_reducible first | exact HB.out | apply below_alloc | apply pw_below_drewN | apply below_drew1) | exact HB.out)) hb); clear HO928; clear HO931; clear HB; have HO928 := n0_; have HO931 := n1_; have HB := n2_; clear n0_ n1_ n2_; (try clear hb); (try clear hb2); (try clear hk); (try clear hi)))
    go_meet
    case rel => exact ⟨_, (decide (t932 < 0)), (by first | rfl | (simp; done) | (simp [*]; done)), H', ⟨by first | omega | exact Nat.le_refl _⟩, ⟨by (with_reducible repeat (first | apply Kd.N_alloc | apply Kd.N_drewN | apply Kd.N_drew)); exact HO928.out⟩, ⟨by (with_reducible repeat (first | apply Kd.Q_alloc | apply Kd.Q_drewN | apply Kd.Q_drew)); exact HO931.out⟩, ⟨by repeat (first | (with_reducible first | exact HB.out | apply below_alloc | apply pw_below_drewN | apply below_drew1) | exact HB.out)⟩⟩
   ·rw [if_neg c11] at H
    have c11b0 : (t932 == t933) = false := beq_eq_false_iff_ne.mpr c11
    have c11b1 : (t932 != t933) = true := bne_iff_ne.mpr c11
    (first | rw [c11b0] | (simp only [i64_w, i32_w]; rw [c11b0]) | skip)
    have H' := Aside0.mk H
    clear H
    go_wp2_with (first | ((with_reducible refine gate_callee (f := 25) rfl ?_); refine goesL_ (some 24) rfl rfl Tryd.func25 (by kernel_rfl) rfl #[.slice Ao7 t926.length co7, .slice Ao8 t929.length co8] rfl (by (try simp only [List.map_toArray, List.map_cons, List.map_nil]); first | done | rfl | (simp only [List.length_drop, List.length_take]; rfl)) ?_; (with_reducible refine (spec_TimeLeft.calls k _ _ t926 _ _ t929 t933 _ ?side1 ?side2 ?side3 ?side4 A10.out).mono ?_); (case side1 => repeat (first | exact (Kd.N_reads' HO928.out).2.2 | (with_reducible refine Kd.C_alloc ?_ _) | (with_reducible refine Kd.C_drewN ?_ _) | (with_reducible refine Kd.C_drew ?_))); (case side2 => exact (Kd.N_reads' HO928.out).2.1); (case side3 => repeat (first | exact (Kd.Q_reads' HO931.out).2.2 | (with_reducible refine Kd.C_alloc ?_ _) | (with_reducible refine Kd.C_drewN ?_ _) | (with_reducible refine Kd.C_drew ?_))); (case side4 => exact (Kd.Q_reads' HO931.out).2.1); rintro e w13 ⟨rfl, hb⟩; refine ⟨_, rfl, ?_⟩; have n0_ := Aside0.mk (Kd.N_below (by (with_reducible repeat (first | apply Kd.N_alloc | apply Kd.N_drewN | apply Kd.N_drew)); exact HO928.out) hb); have n1_ := Aside0.mk (Kd.Q_below (by (with_reducible repeat (first | apply Kd.Q_alloc | apply Kd.Q_drewN | apply Kd.Q_drew)); exact HO931.out) hb); have n2_ := Aside0.mk (below_step (by repeat (first | (with_reducible first | exact HB.out | apply below_alloc | apply pw_below_drewN | apply below_drew1) | exact HB.out)) hb); clear HO928; clear HO931; clear HB; have HO928 := n0_; have HO931 := n1_; have HB := n2_; clear n0_ n1_ n2_; (try clear hb); (try clear hb2); (try clear hk); (try clear hi)))
    go_meet
    case rel => exact ⟨_, (true), (by first | rfl | (simp; done) | (simp [*]; done)), H', ⟨by first | omega | exact Nat.le_refl _⟩, ⟨by (with_reducible repeat (first | apply Kd.N_alloc | apply Kd.N_drewN | apply Kd.N_drew)); exact HO928.out⟩, ⟨by (with_reducible repeat (first | apply Kd.Q_alloc | apply Kd.Q_drewN | apply Kd.Q_drew)); exact HO931.out⟩, ⟨by repeat (first | (with_reducible first | exact HB.out | apply below_alloc | apply pw_below_drewN | apply below_drew1) | exact HB.out)⟩⟩
  case rest =>
   clear HC5
   try clear c1
   try clear c2
   try clear c2b0
   try clear c2b1
   try clear p2
   try clear c11
   try clear c11b0
   try clear c11b1
   obtain ⟨kq, x29_4, rfl, HA, HJ4, HO_3, HO_4, HB⟩ := hcut
   cases kq with
   | zero => exact absurd HA.out (by simp [laws_FnTimeLeft.j0])
   | succ kj4 =>
    have H := HA.out
    clear HA
    simp only [laws_FnTimeLeft.j0] at H
    by_cases c14 : x29_4 = true
    ·subst c14
     have H1 : ((spec_TimeLeft.f kj4 t926 t929).bind fun t934 => (some (t932 == t934))) = some r := by rw [if_pos rfl] at H; exact H
     clear H
     have H := H1
     clear H1
     replace H := Option.bind_eq_some_iff.mp H
     obtain ⟨t934, A150, H⟩ := H
     replace H : (some (t932 == t934)) = some r := H
     have A15 := Aside0.mk A150
     clear A150
     obtain rfl := Option.some.inj H
     go_wp2_with (first | ((with_reducible refine gate_callee (f := 25) rfl ?_); refine goesL_ (some 33) rfl rfl Tryd.func25 (by kernel_rfl) rfl #[.slice Ao7 t926.length co7, .slice Ao8 t929.length co8] rfl (by (try simp only [List.map_toArray, List.map_cons, List.map_nil]); first | done | rfl | (simp only [List.length_drop, List.length_take]; rfl)) ?_; (with_reducible refine (spec_TimeLeft.calls kj4 _ _ t926 _ _ t929 t934 _ ?side1 ?side2 ?side3 ?side4 A15.out).mono ?_); (case side1 => repeat (first | exact (Kd.N_reads' HO_3.out).2.2 | (with_reducible refine Kd.C_alloc ?_ _) | (with_reducible refine Kd.C_drewN ?_ _) | (with_reducible refine Kd.C_drew ?_))); (case side2 => exact (Kd.N_reads' HO_3.out).2.1); (case side3 => repeat (first | exact (Kd.Q_reads' HO_4.out).2.2 | (with_reducible refine Kd.C_alloc ?_ _) | (with_reducible refine Kd.C_drewN ?_ _) | (with_reducible refine Kd.C_drew ?_))); (case side4 => exact (Kd.Q_reads' HO_4.out).2.1); rintro e w16 ⟨rfl, hb⟩; refine ⟨_, rfl, ?_⟩; have n0_ := Aside0.mk (Kd.N_below (by (with_reducible repeat (first | apply Kd.N_alloc | apply Kd.N_drewN | apply Kd.N_drew)); exact HO_3.out) hb); have n1_ := Aside0.mk (Kd.Q_below (by (with_reducible repeat (first | apply Kd.Q_alloc | apply Kd.Q_drewN | apply Kd.Q_drew)); exact HO_4.out) hb); have n2_ := Aside0.mk (below_step (by repeat (first | (with_reducible first | exact HB.out | apply below_alloc | apply pw_below_drewN | apply below_drew1) | exact HB.out)) hb); clear HO_3; clear HO_4; clear HB; have HO_3 := n0_; have HO_4 := n1_; have HB := n2_; clear n0_ n1_ n2_; (try clear hb); (try clear hb2); (try clear hk); (try clear hi)))
     go_ret
     exact ⟨by first | rfl | (simp [errW_none, errW_some] <;> rfl) | (simp [*, errW_none, errW_some] <;> rfl), by repeat (first | (with_reducible first | exact HB.out | apply below_alloc | apply pw_below_drewN | apply below_drew1) | exact HB.out)⟩
    ·replace c14 := Bool.eq_false_iff.mpr c14
     subst c14
     have H1 : ((impl_ReadyTasks.f t926 t929).bind fun t935 => (laws_FnTimeLeft.l0 kj4 t926 t929 t932 t935 0)) = some r := by rw [if_neg (show ¬ (false = true) by decide)] at H; exact H
     clear H
     have H := H1
     clear H1
     replace H := Option.bind_eq_some_iff.mp H
     obtain ⟨t935, A170, H⟩ := H
     replace H : (laws_FnTimeLeft.l0 kj4 t926 t929 t932 t935 0) = some r := H
     have A17 := Aside0.mk A170
     clear A170
     have H' := Aside0.mk H
     clear H
     go_wp2_with (first | ((with_reducible refine gate_callee (f := 15) rfl ?_); refine goesL_ (some 37) rfl rfl Tryd.func15 (by kernel_rfl) rfl #[.slice Ao7 t926.length co7, .slice Ao8 t929.length co8] rfl (by (try simp only [List.map_toArray, List.map_cons, List.map_nil]); first | done | rfl | (simp only [List.length_drop, List.length_take]; rfl)) ?_; (with_reducible refine (impl_ReadyTasks.calls _ _ t926 _ _ t929 t935 _ ?side1 ?side2 ?side3 ?side4 A17.out ?sideTab).mono ?_); (case sideTab => exact TabOK.below hTab.out (by repeat (first | (with_reducible first | exact HB.out | apply below_alloc | apply pw_below_drewN | apply below_drew1) | exact HB.out))); (case side1 => repeat (first | exact (Kd.N_reads' HO_3.out).2.2 | (with_reducible refine Kd.C_alloc ?_ _) | (with_reducible refine Kd.C_drewN ?_ _) | (with_reducible refine Kd.C_drew ?_))); (case side2 => exact (Kd.N_reads' HO_3.out).2.1); (case side3 => repeat (first | exact (Kd.Q_reads' HO_4.out).2.2 | (with_reducible refine Kd.C_alloc ?_ _) | (with_reducible refine Kd.C_drewN ?_ _) | (with_reducible refine Kd.C_drew ?_))); (case side4 => exact (Kd.Q_reads' HO_4.out).2.1); rintro e w18 ⟨v936, rfl, ho0, hb⟩; refine ⟨_, rfl, ?_⟩; have n0_ := Aside0.mk (Kd.N_elder' (by (with_reducible repeat (first | apply Kd.N_alloc | apply Kd.N_drewN | apply Kd.N_drew)); exact HO_3.out) (Kd.R_base ho0) hb); have n1_ := Aside0.mk (Kd.Q_elder' (by (with_reducible repeat (first | apply Kd.Q_alloc | apply Kd.Q_drewN | apply Kd.Q_drew)); exact HO_4.out) (Kd.R_base ho0) hb); have n2_ := Aside0.mk (Kd.R_lower (Kd.R_new' ho0 (Kd.Q_lt (by (with_reducible repeat (first | apply Kd.Q_alloc | apply Kd.Q_drewN | apply Kd.Q_drew)); exact HO_4.out))) (below_size (by repeat (first | (with_reducible first | exact HB.out | apply below_alloc | apply pw_below_drewN | apply below_drew1) | exact HB.out)))); have n3_ := Aside0.mk (below_step (by repeat (first | (with_reducible first | exact HB.out | apply below_alloc | apply pw_below_drewN | apply below_drew1) | exact HB.out)) hb); clear HO_3; clear HO_4; clear HB; have HO_3 := n0_; have HO_4 := n1_; have HO937 := n2_; have HB := n3_; clear n0_ n1_ n2_ n3_; (try clear hb); (try clear hb2); (try clear hk); (try clear hi); (try clear ho0)))
     go_loopg [7] kj4 (fun kq v7 w' => ∃ (x7_2 : Int), v7 = .int .i64 x7_2 ∧ Aside0 (laws_FnTimeLeft.l0 kq t926 t929 t932 t935 x7_2 = some r) ∧ Aside0 (kq ≤ kj4) ∧ Aside0 (Kd.N k39 39 w' w.heap.size (fun k_ => some k_ ≠ ((.slice Ao8 t929.length co8) : Value).ownBlock ∧ some k_ ≠ (v936 : Value).ownBlock) (.slice Ao7 t926.length co7) t926) ∧ Aside0 (Kd.Q (Kd.int .i64) 3 w' w.heap.size (fun k_ => some k_ ≠ (v936 : Value).ownBlock) (.slice Ao8 t929.length co8) t929) ∧ Aside0 (Kd.R (Kd.int .i64) 3 w' w.heap.size (fun k_ => some k_ ≠ ((.slice Ao8 t929.length co8) : Value).ownBlock) v936 t935) ∧ Aside0 (Below w.heap.size w w'))
     case atStart => exact ⟨(0), (by first | rfl | (simp; done) | (simp [*]; done)), H', ⟨Nat.le_refl _⟩, ⟨by (with_reducible repeat (first | apply Kd.N_alloc | apply Kd.N_drewN | apply Kd.N_drew)); exact HO_3.out⟩, ⟨by (with_reducible repeat (first | apply Kd.Q_alloc | apply Kd.Q_drewN | apply Kd.Q_drew)); exact Kd.Q_mono HO_4.out (fun _ hk => hk.2)⟩, ⟨by (with_reducible repeat (first | apply Kd.R_alloc | apply Kd.R_drewN | apply Kd.R_drew)); exact Kd.R_mono HO937.out (fun _ hk => hk.2)⟩, ⟨by repeat (first | (with_reducible first | exact HB.out | apply below_alloc | apply pw_below_drewN | apply below_drew1) | exact HB.out)⟩⟩
     case round =>
      clear H'
      try clear c1
      try clear c2
      try clear c2b0
      try clear c2b1
      try clear p2
      try clear c11
      try clear c11b0
      try clear c11b1
      try clear c14
      try clear c15
      try clear p2
      obtain ⟨x7_2, rfl, HA, HK2, HO_3, HO_4, HO_6, HB⟩ := hrel
      cases gk with
      | zero => exact absurd HA.out (by simp [laws_FnTimeLeft.l0])
      | succ k2 =>
       have H := HA.out
       clear HA
       simp only [laws_FnTimeLeft.l0] at H
       by_cases c19 : x7_2 < (t935.length : Int)
       ·rw [if_pos c19] at H
        have c19b0 : decide (x7_2 < (t935.length : Int)) = true := decide_eq_true c19
        clear c19
        by_cases c20 : 0 ≤ x7_2
        ·rw [if_pos c20] at H
         have c20b0 : decide (0 ≤ x7_2) = true := decide_eq_true c20
         clear c20
         replace H := Option.bind_eq_some_iff.mp H
         obtain ⟨⟨t941, t942⟩, A210, H⟩ := H
         replace H : (if t942 = true then ((impl_TimeLeft.f t926 t941).bind fun t945 => (if t945 > t932 then (some false) else (laws_FnTimeLeft.l0 k2 t926 t929 t932 t935 (wrap64 (x7_2 + 1))))) else (some false)) = some r := H
         have A21 := Aside0.mk A210
         clear A210
         by_cases c22 : t942 = true
         ·subst c22
          have H1 : ((impl_TimeLeft.f t926 t941).bind fun t945 => (if t945 > t932 then (some false) else (laws_FnTimeLeft.l0 k2 t926 t929 t932 t935 (wrap64 (x7_2 + 1))))) = some r := by rw [if_pos rfl] at H; exact H
          clear H
          have H := H1
          clear H1
          replace H := Option.bind_eq_some_iff.mp H
          obtain ⟨t945, A230, H⟩ := H
          replace H : (if t945 > t932 then (some false) else (laws_FnTimeLeft.l0 k2 t926 t929 t932 t935 (wrap64 (x7_2 + 1)))) = some r := H
          have A23 := Aside0.mk A230
          clear A230
          by_cases c24 : t945 > t932
          ·rw [if_pos c24] at H
           have c24b0 : decide (t932 < t945) = true := decide_eq_true c24
           clear c24
           obtain rfl := Option.some.inj H
           obtain ⟨Ao25, co25, eo25⟩ := Kd.R_slice HO_6.out
           subst eo25
           have p940 : 0 ≤ (x7_2 : Int) := of_decide_eq_true (by first | (with_reducible assumption) | assumption)
           have q940 : x7_2 < (t935.length : Int) := of_decide_eq_true (by first | (with_reducible assumption) | assumption)
           obtain ⟨ad940, e940, hx940_0⟩ := Kd.at_int (Kd.R_reads' HO_6.out).2.2 x7_2 p940 q940
           cases e940
           replace p940 := eq_true p940
           replace q940 := eq_true q940
           go_wp2_with (first | ((with_reducible refine gate_callee (f := 16) rfl ?_); refine goesL_ (some 51) rfl rfl Tryd.func16 (by kernel_rfl) rfl #[.slice Ao7 t926.length co7, .slice Ao8 t929.length co8, .int .i64 (rd t935 x7_2)] rfl (by (try simp only [List.map_toArray, List.map_cons, List.map_nil]); first | done | rfl | (simp only [List.length_drop, List.length_take]; rfl)) ?_; (with_reducible refine (impl_FinishTask.calls _ _ t926 _ _ t929 (rd t935 x7_2) t941 true _ ?side1 ?side2 ?side3 ?side4 A21.out ?sideTab).mono ?_); (case sideTab => exact TabOK.below hTab.out (by repeat (first | (with_reducible first | exact HB.out | apply below_alloc | apply pw_below_drewN | apply below_drew1) | exact HB.out))); (case side1 => repeat (first | exact (Kd.N_reads' HO_3.out).2.2 | (with_reducible refine Kd.C_alloc ?_ _) | (with_reducible refine Kd.C_drewN ?_ _) | (with_reducible refine Kd.C_drew ?_))); (case side2 => exact (Kd.N_reads' HO_3.out).2.1); (case side3 => repeat (first | exact (Kd.Q_reads' HO_4.out).2.2 | (with_reducible refine Kd.C_alloc ?_ _) | (with_reducible refine Kd.C_drewN ?_ _) | (with_reducible refine Kd.C_drew ?_))); (case side4 => exact (Kd.Q_reads' HO_4.out).2.1); rintro e w26 ⟨v943, rfl, ho0, hb⟩; refine ⟨_, rfl, ?_⟩; have n0_ := Aside0.mk (Kd.N_elder' (by (with_reducible repeat (first | apply Kd.N_alloc | apply Kd.N_drewN | apply Kd.N_drew)); exact HO_3.out) (Kd.R_base ho0) hb); have n1_ := Aside0.mk (Kd.Q_elder' (by (with_reducible repeat (first | apply Kd.Q_alloc | apply Kd.Q_drewN | apply Kd.Q_drew)); exact HO_4.out) (Kd.R_base ho0) hb); have n2_ := Aside0.mk (Kd.R_elder' (by (with_reducible repeat (first | apply Kd.R_alloc | apply Kd.R_drewN | apply Kd.R_drew)); exact HO_6.out) (Kd.R_base ho0) hb); have n3_ := Aside0.mk (Kd.R_lower (Kd.R_new' (Kd.R_new' ho0 (Kd.Q_lt (by (with_reducible repeat (first | apply Kd.Q_alloc | apply Kd.Q_drewN | apply Kd.Q_drew)); exact HO_4.out))) (Kd.R_lt (by (with_reducible repeat (first | apply Kd.R_alloc | apply Kd.R_drewN | apply Kd.R_drew)); exact HO_6.out))) (below_size (by repeat (first | (with_reducible first | exact HB.out | apply below_alloc | apply pw_below_drewN | apply below_drew1) | exact HB.out)))); have n4_ := Aside0.mk (below_step (by repeat (first | (with_reducible first | exact HB.out | apply below_alloc | apply pw_below_drewN | apply below_drew1) | exact HB.out)) hb); clear HO_3; clear HO_4; clear HO_6; clear HB; have HO_3 := n0_; have HO_4 := n1_; have HO_6 := n2_; have HO944 := n3_; have HB := n4_; clear n0_ n1_ n2_ n3_ n4_; (try clear hb); (try clear hb2); (try clear hk); (try clear hi); (try clear ho0); obtain ⟨Ao27, co27, eo27⟩ := Kd.R_slice HO944.out; subst eo27) | (go_at_call 24; (with_reducible refine (impl_TimeLeft.calls _ _ t926 _ _ t941 t945 _ ?side1 ?side2 ?side3 ?side4 A23.out ?sideTab).mono ?_); (case sideTab => exact TabOK.below hTab.out (by repeat (first | (with_reducible first | exact HB.out | apply below_alloc | apply pw_below_drewN | apply below_drew1) | exact HB.out))); (case side1 => repeat (first | exact (Kd.N_reads' HO_3.out).2.2 | (with_reducible refine Kd.C_alloc ?_ _) | (with_reducible refine Kd.C_drewN ?_ _) | (with_reducible refine Kd.C_drew ?_))); (case side2 => exact (Kd.N_reads' HO_3.out).2.1); (case side3 => repeat (first | exact (Kd.R_reads' HO944.out).2.2 | (with_reducible refine Kd.C_alloc ?_ _) | (with_reducible refine Kd.C_drewN ?_ _) | (with_reducible refine Kd.C_drew ?_))); (case side4 => exact (Kd.R_reads' HO944.out).2.1); rintro e w28 ⟨rfl, hb⟩; have n0_ := Aside0.mk (Kd.N_below (by (with_reducible repeat (first | apply Kd.N_alloc | apply Kd.N_drewN | apply Kd.N_drew)); exact HO_3.out) hb); have n1_ := Aside0.mk (Kd.Q_below (by (with_reducible repeat (first | apply Kd.Q_alloc | apply Kd.Q_drewN | apply Kd.Q_drew)); exact HO_4.out) hb); have n2_ := Aside0.mk (Kd.R_below (by (with_reducible repeat (first | apply Kd.R_alloc | apply Kd.R_drewN | apply Kd.R_drew)); exact HO_6.out) hb); have n3_ := Aside0.mk (Kd.R_below (by (with_reducible repeat (first | apply Kd.R_alloc | apply Kd.R_drewN | apply Kd.R_drew)); exact HO944.out) hb); have n4_ := Aside0.mk (below_step (by repeat (first | (with_reducible first | exact HB.out | apply below_alloc | apply pw_below_drewN | apply below_drew1) | exact HB.out)) hb); clear HO_3; clear HO_4; clear HO_6; clear HO944; clear HB; have HO_3 := n0_; have HO_4 := n1_; have HO_6 := n2_; have HO944 := n3_; have HB := n4_; clear n0_ n1_ n2_ n3_ n4_; (try clear hb); (try clear hb2); (try clear hk); (try clear hi)))
           go_ret
           exact ⟨by first | rfl | (simp [errW_none, errW_some] <;> rfl) | (simp [*, errW_none, errW_some] <;> rfl), by repeat (first | (with_reducible first | exact HB.out | apply below_alloc | apply pw_below_drewN | apply below_drew1) | exact HB.out)⟩
          ·rw [if_neg c24] at H
           have c24b0 : decide (t932 < t945) = false := decide_eq_false c24
           clear c24
           have H' := Aside0.mk H
           clear H
           obtain ⟨Ao29, co29, eo29⟩ := Kd.R_slice HO_6.out
           subst eo29
           have p940 : 0 ≤ (x7_2 : Int) := of_decide_eq_true (by first | (with_reducible assumption) | assumption)
           have q940 : x7_2 < (t935.length : Int) := of_decide_eq_true (by first | (with_reducible assumption) | assumption)
           obtain ⟨ad940, e940, hx940_0⟩ := Kd.at_int (Kd.R_reads' HO_6.out).2.2 x7_2 p940 q940
           cases e940
           replace p940 := eq_true p940
           replace q940 := eq_true q940
           go_wp2_with (first | ((with_reducible refine gate_callee (f := 16) rfl ?_); refine goesL_ (some 51) rfl rfl Tryd.func16 (by kernel_rfl) rfl #[.slice Ao7 t926.length co7, .slice Ao8 t929.length co8, .int .i64 (rd t935 x7_2)] rfl (by (try simp only [List.map_toArray, List.map_cons, List.map_nil]); first | done | rfl | (simp only [List.length_drop, List.length_take]; rfl)) ?_; (with_reducible refine (impl_FinishTask.calls _ _ t926 _ _ t929 (rd t935 x7_2) t941 true _ ?side1 ?side2 ?side3 ?side4 A21.out ?sideTab).mono ?_); (case sideTab => exact TabOK.below hTab.out (by repeat (first | (with_reducible first | exact HB.out | apply below_alloc | apply pw_below_drewN | apply below_drew1) | exact HB.out))); (case side1 => repeat (first | exact (Kd.N_reads' HO_3.out).2.2 | (with_reducible refine Kd.C_alloc ?_ _) | (with_reducible refine Kd.C_drewN ?_ _) | (with_reducible refine Kd.C_drew ?_))); (case side2 => exact (Kd.N_reads' HO_3.out).2.1); (case side3 => repeat (first | exact (Kd.Q_reads' HO_4.out).2.2 | (with_reducible refine Kd.C_alloc ?_ _) | (with_reducible refine Kd.C_drewN ?_ _) | (with_reducible refine Kd.C_drew ?_))); (case side4 => exact (Kd.Q_reads' HO_4.out).2.1); rintro e w30 ⟨v943, rfl, ho0, hb⟩; refine ⟨_, rfl, ?_⟩; have n0_ := Aside0.mk (Kd.N_elder' (by (with_reducible repeat (first | apply Kd.N_alloc | apply Kd.N_drewN | apply Kd.N_drew)); exact HO_3.out) (Kd.R_base ho0) hb); have n1_ := Aside0.mk (Kd.Q_elder' (by (with_reducible repeat (first | apply Kd.Q_alloc | apply Kd.Q_drewN | apply Kd.Q_drew)); exact HO_4.out) (Kd.R_base ho0) hb); have n2_ := Aside0.mk (Kd.R_elder' (by (with_reducible repeat (first | apply Kd.R_alloc | apply Kd.R_drewN | apply Kd.R_drew)); exact HO_6.out) (Kd.R_base ho0) hb); have n3_ := Aside0.mk (Kd.R_lower (Kd.R_new' (Kd.R_new' ho0 (Kd.Q_lt (by (with_reducible repeat (first | apply Kd.Q_alloc | apply Kd.Q_drewN | apply Kd.Q_drew)); exact HO_4.out))) (Kd.R_lt (by (with_reducible repeat (first | apply Kd.R_alloc | apply Kd.R_drewN | apply Kd.R_drew)); exact HO_6.out))) (below_size (by repeat (first | (with_reducible first | exact HB.out | apply below_alloc | apply pw_below_drewN | apply below_drew1) | exact HB.out)))); have n4_ := Aside0.mk (below_step (by repeat (first | (with_reducible first | exact HB.out | apply below_alloc | apply pw_below_drewN | apply below_drew1) | exact HB.out)) hb); clear HO_3; clear HO_4; clear HO_6; clear HB; have HO_3 := n0_; have HO_4 := n1_; have HO_6 := n2_; have HO944 := n3_; have HB := n4_; clear n0_ n1_ n2_ n3_ n4_; (try clear hb); (try clear hb2); (try clear hk); (try clear hi); (try clear ho0); obtain ⟨Ao31, co31, eo31⟩ := Kd.R_slice HO944.out; subst eo31) | (go_at_call 24; (with_reducible refine (impl_TimeLeft.calls _ _ t926 _ _ t941 t945 _ ?side1 ?side2 ?side3 ?side4 A23.out ?sideTab).mono ?_); (case sideTab => exact TabOK.below hTab.out (by repeat (first | (with_reducible first | exact HB.out | apply below_alloc | apply pw_below_drewN | apply below_drew1) | exact HB.out))); (case side1 => repeat (first | exact (Kd.N_reads' HO_3.out).2.2 | (with_reducible refine Kd.C_alloc ?_ _) | (with_reducible refine Kd.C_drewN ?_ _) | (with_reducible refine Kd.C_drew ?_))); (case side2 => exact (Kd.N_reads' HO_3.out).2.1); (case side3 => repeat (first | exact (Kd.R_reads' HO944.out).2.2 | (with_reducible refine Kd.C_alloc ?_ _) | (with_reducible refine Kd.C_drewN ?_ _) | (with_reducible refine Kd.C_drew ?_))); (case side4 => exact (Kd.R_reads' HO944.out).2.1); rintro e w32 ⟨rfl, hb⟩; have n0_ := Aside0.mk (Kd.N_below (by (with_reducible repeat (first | apply Kd.N_alloc | apply Kd.N_drewN | apply Kd.N_drew)); exact HO_3.out) hb); have n1_ := Aside0.mk (Kd.Q_below (by (with_reducible repeat (first | apply Kd.Q_alloc | apply Kd.Q_drewN | apply Kd.Q_drew)); exact HO_4.out) hb); have n2_ := Aside0.mk (Kd.R_below (by (with_reducible repeat (first | apply Kd.R_alloc | apply Kd.R_drewN | apply Kd.R_drew)); exact HO_6.out) hb); have n3_ := Aside0.mk (Kd.R_below (by (with_reducible repeat (first | apply Kd.R_alloc | apply Kd.R_drewN | apply Kd.R_drew)); exact HO944.out) hb); have n4_ := Aside0.mk (below_step (by repeat (first | (with_reducible first | exact HB.out | apply below_alloc | apply pw_below_drewN | apply below_drew1) | exact HB.out)) hb); clear HO_3; clear HO_4; clear HO_6; clear HO944; clear HB; have HO_3 := n0_; have HO_4 := n1_; have HO_6 := n2_; have HO944 := n3_; have HB := n4_; clear n0_ n1_ n2_ n3_ n4_; (try clear hb); (try clear hb2); (try clear hk); (try clear hi)))
           go_roundg k2
           case measure => have := HJ4.out; have := HK2.out; omega
           case rel => exact ⟨(wrap64 (x7_2 + 1)), (by first | rfl | (simp; done) | (simp [*]; done)), H', ⟨by have := HJ4.out; have := HK2.out; omega⟩, ⟨by (with_reducible repeat (first | apply Kd.N_alloc | apply Kd.N_drewN | apply Kd.N_drew)); exact Kd.N_mono HO_3.out (fun _ hk => ⟨hk.1.1, hk.1.2⟩)⟩, ⟨by (with_reducible repeat (first | apply Kd.Q_alloc | apply Kd.Q_drewN | apply Kd.Q_drew)); exact Kd.Q_mono HO_4.out (fun _ hk => hk.1)⟩, ⟨by (with_reducible repeat (first | apply Kd.R_alloc | apply Kd.R_drewN | apply Kd.R_drew)); exact Kd.R_mono HO_6.out (fun _ hk => hk.1)⟩, ⟨by repeat (first | (with_reducible first | exact HB.out | apply below_alloc | apply pw_below_drewN | apply below_drew1) | exact HB.out)⟩⟩
         ·replace c22 := Bool.eq_false_iff.mpr c22
          subst c22
          have H1 : (some false) = some r := by rw [if_neg (show ¬ (false = true) by decide)] at H; exact H
          clear H
          have H := H1
          clear H1
          obtain rfl := Option.some.inj H
          obtain ⟨Ao33, co33, eo33⟩ := Kd.R_slice HO_6.out
          subst eo33
          have p940 : 0 ≤ (x7_2 : Int) := of_decide_eq_true (by first | (with_reducible assumption) | assumption)
          have q940 : x7_2 < (t935.length : Int) := of_decide_eq_true (by first | (with_reducible assumption) | assumption)
          obtain ⟨ad940, e940, hx940_0⟩ := Kd.at_int (Kd.R_reads' HO_6.out).2.2 x7_2 p940 q940
          cases e940
          replace p940 := eq_true p940
          replace q940 := eq_true q940
          go_wp2_with (first | ((with_reducible refine gate_callee (f := 16) rfl ?_); refine goesL_ (some 51) rfl rfl Tryd.func16 (by kernel_rfl) rfl #[.slice Ao7 t926.length co7, .slice Ao8 t929.length co8, .int .i64 (rd t935 x7_2)] rfl (by (try simp only [List.map_toArray, List.map_cons, List.map_nil]); first | done | rfl | (simp only [List.length_drop, List.length_take]; rfl)) ?_; (with_reducible refine (impl_FinishTask.calls _ _ t926 _ _ t929 (rd t935 x7_2) t941 false _ ?side1 ?side2 ?side3 ?side4 A21.out ?sideTab).mono ?_); (case sideTab => exact TabOK.below hTab.out (by repeat (first | (with_reducible first | exact HB.out | apply below_alloc | apply pw_below_drewN | apply below_drew1) | exact HB.out))); (case side1 => repeat (first | exact (Kd.N_reads' HO_3.out).2.2 | (with_reducible refine Kd.C_alloc ?_ _) | (with_reducible refine Kd.C_drewN ?_ _) | (with_reducible refine Kd.C_drew ?_))); (case side2 => exact (Kd.N_reads' HO_3.out).2.1); (case side3 => repeat (first | exact (Kd.Q_reads' HO_4.out).2.2 | (with_reducible refine Kd.C_alloc ?_ _) | (with_reducible refine Kd.C_drewN ?_ _) | (with_reducible refine Kd.C_drew ?_))); (case side4 => exact (Kd.Q_reads' HO_4.out).2.1); rintro e w34 ⟨v943, rfl, ho0, hb⟩; refine ⟨_, rfl, ?_⟩; have n0_ := Aside0.mk (Kd.N_elder' (by (with_reducible repeat (first | apply Kd.N_alloc | apply Kd.N_drewN | apply Kd.N_drew)); exact HO_3.out) (Kd.R_base ho0) hb); have n1_ := Aside0.mk (Kd.Q_elder' (by (with_reducible repeat (first | apply Kd.Q_alloc | apply Kd.Q_drewN | apply Kd.Q_drew)); exact HO_4.out) (Kd.R_base ho0) hb); have n2_ := Aside0.mk (Kd.R_elder' (by (with_reducible repeat (first | apply Kd.R_alloc | apply Kd.R_drewN | apply Kd.R_drew)); exact HO_6.out) (Kd.R_base ho0) hb); have n3_ := Aside0.mk (Kd.R_lower (Kd.R_new' (Kd.R_new' ho0 (Kd.Q_lt (by (with_reducible repeat (first | apply Kd.Q_alloc | apply Kd.Q_drewN | apply Kd.Q_drew)); exact HO_4.out))) (Kd.R_lt (by (with_reducible repeat (first | apply Kd.R_alloc | apply Kd.R_drewN | apply Kd.R_drew)); exact HO_6.out))) (below_size (by repeat (first | (with_reducible first | exact HB.out | apply below_alloc | apply pw_below_drewN | apply below_drew1) | exact HB.out)))); have n4_ := Aside0.mk (below_step (by repeat (first | (with_reducible first | exact HB.out | apply below_alloc | apply pw_below_drewN | apply below_drew1) | exact HB.out)) hb); clear HO_3; clear HO_4; clear HO_6; clear HB; have HO_3 := n0_; have HO_4 := n1_; have HO_6 := n2_; have HO944 := n3_; have HB := n4_; clear n0_ n1_ n2_ n3_ n4_; (try clear hb); (try clear hb2); (try clear hk); (try clear hi); (try clear ho0)))
          go_ret
          exact ⟨by first | rfl | (simp [errW_none, errW_some] <;> rfl) | (simp [*, errW_none, errW_some] <;> rfl), by repeat (first | (with_reducible first | exact HB.out | apply below_alloc | apply pw_below_drewN | apply below_drew1) | exact HB.out)⟩
        ·rw [if_neg c20] at H
         exact absurd H (by simp)
       ·rw [if_neg c19] at H
        have c19b0 : decide (x7_2 < (t935.length : Int)) = false := decide_eq_false c19
        clear c19
        replace H := Option.bind_eq_some_iff.mp H
        obtain ⟨t938, A350, H⟩ := H
        replace H : ((impl_LongestTime.f t926).bind fun t939 => (if t938 = t939 then (some ((t932 == 0) == ((t929.length : Int) == (t926.length : Int)))) else (some false))) = some r := H
        have A35 := Aside0.mk A350
        clear A350
        replace H := Option.bind_eq_some_iff.mp H
        obtain ⟨t939, A360, H⟩ := H
        replace H : (if t938 = t939 then (some ((t932 == 0) == ((t929.length : Int) == (t926.length : Int)))) else (some false)) = some r := H
        have A36 := Aside0.mk A360
        clear A360
        by_cases c37 : t938 = t939
        ·rw [if_pos c37] at H
         have c37b0 : (t938 == t939) = true := beq_iff_eq.mpr c37
         have c37b1 : (t938 != t939) = false := bne_eq_false_iff_eq.mpr c37
         clear c37
         obtain rfl := Option.some.inj H
         obtain ⟨Ao38, co38, eo38⟩ := Kd.R_slice HO_6.out
         subst eo38
         go_wp2_with (first | ((with_reducible refine gate_callee (f := 24) rfl ?_); refine goesL_ (some 64) rfl rfl Tryd.func24 (by kernel_rfl) rfl #[.slice Ao7 t926.length co7, .slice none 0 0] rfl (by (try simp only [List.map_toArray, List.map_cons, List.map_nil]); first | done | rfl | (simp only [List.length_drop, List.length_take]; rfl)) ?_; (refine (impl_TimeLeft.calls _ _ t926 _ _ ([] : List Int) t938 _ ?side1 ?side2 ?side3 ?side4 A35.out ?sideTab).mono ?_); (case sideTab => exact TabOK.below hTab.out (by repeat (first | (with_reducible first | exact HB.out | apply below_alloc | apply pw_below_drewN | apply below_drew1) | exact HB.out))); (case side1 => repeat (first | exact (Kd.N_reads' HO_3.out).2.2 | (with_reducible refine Kd.C_alloc ?_ _) | (with_reducible refine Kd.C_drewN ?_ _) | (with_reducible refine Kd.C_drew ?_))); (case side2 => exact (Kd.N_reads' HO_3.out).2.1); (case side3 => exact Kd.C_nil _ _); (case side4 => exact Nat.le_refl _); rintro e w39 ⟨rfl, hb⟩; refine ⟨_, rfl, ?_⟩; have n0_ := Aside0.mk (Kd.N_below (by (with_reducible repeat (first | apply Kd.N_alloc | apply Kd.N_drewN | apply Kd.N_drew)); exact HO_3.out) hb); have n1_ := Aside0.mk (Kd.Q_below (by (with_reducible repeat (first | apply Kd.Q_alloc | apply Kd.Q_drewN | apply Kd.Q_drew)); exact HO_4.out) hb); have n2_ := Aside0.mk (Kd.R_below (by (with_reducible repeat (first | apply Kd.R_alloc | apply Kd.R_drewN | apply Kd.R_drew)); exact HO_6.out) hb); have n3_ := Aside0.mk (below_step (by repeat (first | (with_reducible first | exact HB.out | apply below_alloc | apply pw_below_drewN | apply below_drew1) | exact HB.out)) hb); clear HO_3; clear HO_4; clear HO_6; clear HB; have HO_3 := n0_; have HO_4 := n1_; have HO_6 := n2_; have HB := n3_; clear n0_ n1_ n2_ n3_; (try clear hb); (try clear hb2); (try clear hk); (try clear hi)) | ((with_reducible refine gate_callee (f := 37) rfl ?_); refine goesL_ (some 66) rfl rfl Tryd.func37 (by kernel_rfl) rfl #[.slice Ao7 t926.length co7] rfl (by (try simp only [List.map_toArray, List.map_cons, List.map_nil]); first | done | rfl | (simp only [List.length_drop, List.length_take]; rfl)) ?_; (with_reducible refine (impl_LongestTime.calls _ _ t926 t939 _ ?side1 ?side2 A36.out ?sideTab).mono ?_); (case sideTab => exact TabOK.below hTab.out (by repeat (first | (with_reducible first | exact HB.out | apply below_alloc | apply pw_below_drewN | apply below_drew1) | exact HB.out))); (case side1 => repeat (first | exact (Kd.N_reads' HO_3.out).2.2 | (with_reducible refine Kd.C_alloc ?_ _) | (with_reducible refine Kd.C_drewN ?_ _) | (with_reducible refine Kd.C_drew ?_))); (case side2 => exact (Kd.N_reads' HO_3.out).2.1); rintro e w40 ⟨rfl, hb⟩; refine ⟨_, rfl, ?_⟩; have n0_ := Aside0.mk (Kd.N_below (by (with_reducible repeat (first | apply Kd.N_alloc | apply Kd.N_drewN | apply Kd.N_drew)); exact HO_3.out) hb); have n1_ := Aside0.mk (Kd.Q_below (by (with_reducible repeat (first | apply Kd.Q_alloc | apply Kd.Q_drewN | apply Kd.Q_drew)); exact HO_4.out) hb); have n2_ := Aside0.mk (Kd.R_below (by (with_reducible repeat (first | apply Kd.R_alloc | apply Kd.R_drewN | apply Kd.R_drew)); exact HO_6.out) hb); have n3_ := Aside0.mk (below_step (by repeat (first | (with_reducible first | exact HB.out | apply below_alloc | apply pw_below_drewN | apply below_drew1) | exact HB.out)) hb); clear HO_3; clear HO_4; clear HO_6; clear HB; have HO_3 := n0_; have HO_4 := n1_; have HO_6 := n2_; have HB := n3_; clear n0_ n1_ n2_ n3_; (try clear hb); (try clear hb2); (try clear hk); (try clear hi)))
         go_ret
         exact ⟨by first | rfl | (simp [errW_none, errW_some] <;> rfl) | (simp [*, errW_none, errW_some] <;> rfl), by repeat (first | (with_reducible first | exact HB.out | apply below_alloc | apply pw_below_drewN | apply below_drew1) | exact HB.out)⟩
        ·rw [if_neg c37] at H
         have c37b0 : (t938 == t939) = false := beq_eq_false_iff_ne.mpr c37
         have c37b1 : (t938 != t939) = true := bne_iff_ne.mpr c37
         obtain rfl := Option.some.inj H
         obtain ⟨Ao41, co41, eo41⟩ := Kd.R_slice HO_6.out
         subst eo41
         go_wp2_with (first | ((with_reducible refine gate_callee (f := 24) rfl ?_); refine goesL_ (some 64) rfl rfl Tryd.func24 (by kernel_rfl) rfl #[.slice Ao7 t926.length co7, .slice none 0 0] rfl (by (try simp only [List.map_toArray, List.map_cons, List.map_nil]); first | done | rfl | (simp only [List.length_drop, List.length_take]; rfl)) ?_; (refine (impl_TimeLeft.calls _ _ t926 _ _ ([] : List Int) t938 _ ?side1 ?side2 ?side3 ?side4 A35.out ?sideTab).mono ?_); (case sideTab => exact TabOK.below hTab.out (by repeat (first | (with_reducible first | exact HB.out | apply below_alloc | apply pw_below_drewN | apply below_drew1) | exact HB.out))); (case side1 => repeat (first | exact (Kd.N_reads' HO_3.out).2.2 | (with_reducible refine Kd.C_alloc ?_ _) | (with_reducible refine Kd.C_drewN ?_ _) | (with_reducible refine Kd.C_drew ?_))); (case side2 => exact (Kd.N_reads' HO_3.out).2.1); (case side3 => exact Kd.C_nil _ _); (case side4 => exact Nat.le_refl _); rintro e w42 ⟨rfl, hb⟩; refine ⟨_, rfl, ?_⟩; have n0_ := Aside0.mk (Kd.N_below (by (with_reducible repeat (first | apply Kd.N_alloc | apply Kd.N_drewN | apply Kd.N_drew)); exact HO_3.out) hb); have n1_ := Aside0.mk (Kd.Q_below (by (with_reducible repeat (first | apply Kd.Q_alloc | apply Kd.Q_drewN | apply Kd.Q_drew)); exact HO_4.out) hb); have n2_ := Aside0.mk (Kd.R_below (by (with_reducible repeat (first | apply Kd.R_alloc | apply Kd.R_drewN | apply Kd.R_drew)); exact HO_6.out) hb); have n3_ := Aside0.mk (below_step (by repeat (first | (with_reducible first | exact HB.out | apply below_alloc | apply pw_below_drewN | apply below_drew1) | exact HB.out)) hb); clear HO_3; clear HO_4; clear HO_6; clear HB; have HO_3 := n0_; have HO_4 := n1_; have HO_6 := n2_; have HB := n3_; clear n0_ n1_ n2_ n3_; (try clear hb); (try clear hb2); (try clear hk); (try clear hi)) | ((with_reducible refine gate_callee (f := 37) rfl ?_); refine goesL_ (some 66) rfl rfl Tryd.func37 (by kernel_rfl) rfl #[.slice Ao7 t926.length co7] rfl (by (try simp only [List.map_toArray, List.map_cons, List.map_nil]); first | done | rfl | (simp only [List.length_drop, List.length_take]; rfl)) ?_; (with_reducible refine (impl_LongestTime.calls _ _ t926 t939 _ ?side1 ?side2 A36.out ?sideTab).mono ?_); (case sideTab => exact TabOK.below hTab.out (by repeat (first | (with_reducible first | exact HB.out | apply below_alloc | apply pw_below_drewN | apply below_drew1) | exact HB.out))); (case side1 => repeat (first | exact (Kd.N_reads' HO_3.out).2.2 | (with_reducible refine Kd.C_alloc ?_ _) | (with_reducible refine Kd.C_drewN ?_ _) | (with_reducible refine Kd.C_drew ?_))); (case side2 => exact (Kd.N_reads' HO_3.out).2.1); rintro e w43 ⟨rfl, hb⟩; refine ⟨_, rfl, ?_⟩; have n0_ := Aside0.mk (Kd.N_below (by (with_reducible repeat (first | apply Kd.N_alloc | apply Kd.N_drewN | apply Kd.N_drew)); exact HO_3.out) hb); have n1_ := Aside0.mk (Kd.Q_below (by (with_reducible repeat (first | apply Kd.Q_alloc | apply Kd.Q_drewN | apply Kd.Q_drew)); exact HO_4.out) hb); have n2_ := Aside0.mk (Kd.R_below (by (with_reducible repeat (first | apply Kd.R_alloc | apply Kd.R_drewN | apply Kd.R_drew)); exact HO_6.out) hb); have n3_ := Aside0.mk (below_step (by repeat (first | (with_reducible first | exact HB.out | apply below_alloc | apply pw_below_drewN | apply below_drew1) | exact HB.out)) hb); clear HO_3; clear HO_4; clear HO_6; clear HB; have HO_3 := n0_; have HO_4 := n1_; have HO_6 := n2_; have HB := n3_; clear n0_ n1_ n2_ n3_; (try clear hb); (try clear hb2); (try clear hk); (try clear hi)))
         go_ret
         exact ⟨by first | rfl | (simp [errW_none, errW_some] <;> rfl) | (simp [*, errW_none, errW_some] <;> rfl), by repeat (first | (with_reducible first | exact HB.out | apply below_alloc | apply pw_below_drewN | apply below_drew1) | exact HB.out)⟩
def laws_FnTimeLeft.Pure : Prop := ∀ (l0 : List Int), l0.length ≤ maxLen → l0.length * 1 ≤ 140737488351232 → (∀ x ∈ l0, (Lit.int .u8 x).wf = true) → ∃ k, laws_FnTimeLeft.f k l0 = some true
theorem laws_FnTimeLeft.walk (P : laws_FnTimeLeft.Pure) (a0 : Option Addr) (len0 cap0 : Nat) (z0 : List Int) (w : World) (w0 : (a0 = none ∧ len0 = 0 ∧ cap0 = 0 ∧ z0 = []) ∨ ∃ x, a0 = some x ∧ len0 ≤ cap0 ∧ cap0 ≤ maxLen ∧ z0.length = cap0 ∧ (∀ i, i < z0.length → w.cell? (x.add i) = some (.int .u8 (z0.getD i 0))) ∧ ∀ n ∈ z0, (Lit.int .u8 n).wf = true) (y0 : len0 * 1 ≤ 140737488351232) (hTab0 : TabOK w) :
  Calls Tryd.prog 11 #[.slice a0 len0 cap0] w fun e w' => e = .returned (.bool true) ∧ Below w.heap.size w w' := by
 obtain ⟨l0, rfl, hr0, hm0, hw0, hc0⟩ := ReadsInt.ofRowC w0
 obtain ⟨k, h⟩ := P l0 hm0 y0 hw0
 refine (laws_FnTimeLeft.calls k _ _ l0 true w (Kd.C_of_reads (d := (0 : Int)) (h1 := fun _ => rfl) hr0) hc0 h hTab0).mono ?_
 rintro e w' ⟨rfl, hd⟩
 exact ⟨rfl, hd⟩
end Go.Proofs.YtajapkjplgaigaaDoor.P
end
section
namespace Go.Proofs.YtajapkjplgaigaaDoor.P
open Go.RowKit Go.Proofs.YtajapkjplgaigaaDoorW.PrintWords Go.Proofs.YtajapkjplgaigaaDoorW.PrintLast Go.Proofs.YtajapkjplgaigaaDoorW.PrintMore
set_option linter.unusedVariables false
set_option linter.unusedSimpArgs false
def Ev {α : Type} (f : Nat → Option α) (x : α) : Prop := ∃ K, ∀ k, K ≤ k → f k = some x
section
variable {α β : Type} {f f' : Nat → Option α} {x : α} {y : β}
theorem Ev.get (h : Ev f x) : ∃ k, f k = some x := by
 obtain ⟨K, h⟩ := h
 exact ⟨K, h K (Nat.le_refl _)⟩
theorem Ev.pure (x : α) : Ev (fun _ => some x) x := ⟨0, fun _ _ => rfl⟩
theorem Ev.eq {o : Option α} (h : o = some x) : Ev (fun _ => o) x := ⟨0, fun _ _ => h⟩
theorem Ev.bind {g : Nat → α → Option β} (hf : Ev f x) (hg : Ev (fun k => g k x) y) : Ev (fun k => (f k).bind (g k)) y := by
 obtain ⟨K, hf⟩ := hf
 obtain ⟨L, hg⟩ := hg
 exact ⟨max K L, fun k hk => by show (f k).bind (g k) = some y; rw [hf k (by omega)]; exact hg k (by omega)⟩
theorem Ev.pos {c : Prop} [Decidable c] (hc : c) (h : Ev f x) : Ev (fun k => if c then f k else f' k) x := by
 obtain ⟨K, h⟩ := h
 exact ⟨K, fun k hk => (if_pos hc).trans (h k hk)⟩
theorem Ev.neg {c : Prop} [Decidable c] (hc : ¬ c) (h : Ev f' x) : Ev (fun k => if c then f k else f' k) x := by
 obtain ⟨K, h⟩ := h
 exact ⟨K, fun k hk => (if_neg hc).trans (h k hk)⟩
theorem Ev.ite {c : Prop} [Decidable c] (h : c → Ev f x) (h' : ¬ c → Ev f' x) : Ev (fun k => if c then f k else f' k) x := by
 by_cases hc : c
 ·exact Ev.pos hc (h hc)
 ·exact Ev.neg hc (h' hc)
theorem Ev.succ (h : Ev (fun k => f (k + 1)) x) : Ev f x := by
 obtain ⟨K, h⟩ := h
 exact ⟨K + 1, fun k hk => by
  obtain ⟨j, rfl⟩ : ∃ j, k = j + 1 := ⟨k - 1, by omega⟩
  exact h j (by omega)⟩
end
theorem w64 {n : Int} (h : -9223372036854775808 ≤ n) (h' : n ≤ 9223372036854775807) : wrap64 n = n := by unfold wrap64; omega
theorem w64n (n : Nat) (h : n < 4611686018427387904) : wrap64 ((n : Int) + 1) = ((n + 1 : Nat) : Int) := by rw [w64 (by omega) (by omega)]; omega
theorem snoc_eq {α : Type} (pre : List α) (x : α) (r : List α) : pre ++ x :: r = (pre ++ [x]) ++ r := by simp
theorem len_lt {α : Type} (pre : List α) (x : α) (r : List α) : (pre.length : Int) < ((pre ++ x :: r).length : Int) := by simp only [List.length_append, List.length_cons]; omega
theorem len_nlt {α : Type} (pre : List α) : ¬ (pre.length : Int) < ((pre ++ []).length : Int) := by simp
theorem len_next {α : Type} (pre : List α) (x : α) (h : pre.length < 4611686018427387904) : wrap64 ((pre.length : Int) + 1) = ((pre ++ [x]).length : Int) := by rw [w64n _ h]; simp
theorem rdm (pre : List Int) (x : Int) (r : List Int) : rd (pre ++ x :: r) (pre.length : Int) = x := by simp [rd]
end Go.Proofs.YtajapkjplgaigaaDoor.P
end
section
namespace Go.Proofs.YtajapkjplgaigaaDoor.P
open Go.RowKit Go.Shelf Go.Proofs.YtajapkjplgaigaaDoorW.PrintWords Go.Proofs.YtajapkjplgaigaaDoorW.PrintLast Go.Proofs.YtajapkjplgaigaaDoorW.PrintMore
set_option linter.unusedVariables false
set_option linter.unusedSimpArgs false
def inB (a b x : Int) : Bool := decide (a ≤ x ∧ x ≤ b)
theorem inRange_eq (x a b : Int) : spec_inRange.f x a b = some (inB a b x) := by
 unfold spec_inRange.f inB
 by_cases h : a ≤ x
 ·rw [if_pos h]; simp [h]
 ·rw [if_neg h]; simp [h]
theorem allIn_go (a b : Int) : ∀ (r pre : List Int), pre.length + r.length < 4611686018427387904 → Ev (fun k => spec_allIn.l0 k (pre ++ r) a b (pre.length : Int)) (r.all (inB a b))
 | [], pre, _ => by
  refine Ev.succ ?_
  simp only [spec_allIn.l0]
  exact Ev.neg (len_nlt pre) (Ev.pure _)
 | x :: r, pre, h => by
  refine Ev.succ ?_
  simp only [spec_allIn.l0]
  refine Ev.pos (len_lt _ _ _) (Ev.pos (by omega) (Ev.bind (Ev.eq (inRange_eq _ _ _)) ?_))
  rw [rdm]
  have hl : pre.length < 4611686018427387904 := by simp only [List.length_cons] at h; omega
  refine Ev.ite (fun hc => ?_) (fun hc => ?_)
  ·rw [len_next pre x hl, snoc_eq, List.all_cons, hc, Bool.true_and]
   exact allIn_go a b r (pre ++ [x]) (by simp only [List.length_append, List.length_cons, List.length_nil] at h ⊢; omega)
  ·rw [List.all_cons, Bool.eq_false_iff.2 hc, Bool.false_and]
   exact Ev.pure _
theorem allIn_ev (l : List Int) (a b : Int) (h : l.length < 4611686018427387904) : Ev (fun k => spec_allIn.f k l a b) (l.all (inB a b)) := allIn_go a b l [] (by simpa using h)
def ascB : List Int → Bool
 | x :: y :: r => decide (x < y) && ascB (y :: r)
 | _ => true
theorem ascends_go : ∀ (r pre : List Int) (x : Int), pre.length + r.length + 1 < 4611686018427387904 → Ev (fun k => spec_ascends.l0 k (pre ++ x :: r) ((pre.length : Int) + 1)) (ascB (x :: r))
 | [], pre, x, _ => by
  refine Ev.succ ?_
  simp only [spec_ascends.l0]
  exact Ev.neg (by simp) (Ev.pure _)
 | y :: r, pre, x, h => by
  have hl : pre.length < 4611686018427387904 := by simp only [List.length_cons] at h; omega
  have h1 : wrap64 ((pre.length : Int) + 1 - 1) = (pre.length : Int) := by rw [w64 (by omega) (by omega)]; omega
  have h2 : rd (pre ++ x :: y :: r) ((pre.length : Int) + 1) = y := by
   simp [rd]
  refine Ev.succ ?_
  simp only [spec_ascends.l0, h1, h2, rdm]
  refine Ev.pos (by simp only [List.length_append, List.length_cons]; omega) (Ev.pos (by omega) (Ev.pos (by omega) (Ev.pos (len_lt _ _ _) (Ev.ite (fun hc => ?_) (fun hc => ?_)))))
  ·rw [ascB, decide_eq_false (by omega), Bool.false_and]
   exact Ev.pure _
  ·have h3 : wrap64 ((pre.length : Int) + 1 + 1) = ((pre ++ [x]).length : Int) + 1 := by
    simp only [List.length_append, List.length_cons, List.length_nil] at h ⊢
    rw [w64 (by omega) (by omega)]; omega
   rw [h3, snoc_eq, ascB, decide_eq_true (by omega : x < y), Bool.true_and]
   exact ascends_go r (pre ++ [x]) y (by simp only [List.length_append, List.length_cons, List.length_nil] at h ⊢; omega)
theorem ascends_ev (l : List Int) (h : l.length < 4611686018427387904) : Ev (fun k => spec_ascends.f k l) (ascB l) := by
 cases l with
 | nil =>
  unfold spec_ascends.f
  refine Ev.succ ?_
  simp only [spec_ascends.l0]
  exact Ev.neg (by simp) (Ev.pure _)
 | cons x r => exact ascends_go r [] x (by simp only [List.length_cons, List.length_nil] at h ⊢; omega)
def taskB (n : Nat) (t : TT) : Bool := inB 1 20 t.f0 && inB 0 2 t.f2 && inB 1 4 t.f3 && t.f1.all (inB 0 ((n : Int) - 1)) && ascB t.f1
theorem validTask_ev (n : Nat) (t : TT) (hn : n < 4611686018427387904) (h : t.f1.length < 4611686018427387904) : Ev (fun k => spec_validTask.f k t.f0 t.f1 t.f2 t.f3 (n : Int)) (taskB n t) := by
 unfold spec_validTask.f taskB
 have hw : wrap64 ((n : Int) - 1) = (n : Int) - 1 := w64 (by omega) (by omega)
 rw [hw]
 refine Ev.bind (Ev.eq (inRange_eq _ _ _)) (Ev.ite (fun h0 => ?_) (fun h0 => ?_))
 ·refine Ev.bind (Ev.eq (inRange_eq _ _ _)) (Ev.ite (fun h1 => ?_) (fun h1 => ?_))
  ·refine Ev.bind (Ev.eq (inRange_eq _ _ _)) (Ev.ite (fun h2 => ?_) (fun h2 => ?_))
   ·refine Ev.bind (allIn_ev _ _ _ h) (Ev.ite (fun h3 => ?_) (fun h3 => ?_))
    ·rw [h0, h1, h2, h3]
     exact Ev.bind (ascends_ev _ h) (Ev.pure _)
    ·rw [Bool.eq_false_iff.2 h3]; simp only [Bool.and_false, Bool.false_and]; exact Ev.pure _
   ·rw [Bool.eq_false_iff.2 h2]; simp only [Bool.and_false, Bool.false_and]; exact Ev.pure _
  ·rw [Bool.eq_false_iff.2 h1]; simp only [Bool.and_false, Bool.false_and]; exact Ev.pure _
 ·rw [Bool.eq_false_iff.2 h0]; simp only [Bool.and_false, Bool.false_and]; exact Ev.pure _
def Small (ts : List TT) : Prop := ts.length < 1099511627776 ∧ ∀ t ∈ ts, t.f1.length < 1099511627776
theorem rdT (pre : List TT) (x : TT) (r : List TT) : rd_T39 (pre ++ x :: r) (pre.length : Int) = x := by simp [rd_T39]
def fineB (ts : List TT) : Bool := ts.all (taskB ts.length) && decide (ts.length ≤ 8)
theorem tasksFine_go (ts : List TT) (hs : Small ts) : ∀ (r pre : List TT), pre ++ r = ts → Ev (fun k => spec_tasksFine.l0 k ts (pre.length : Int)) (r.all (taskB ts.length) && decide (ts.length ≤ 8))
 | [], pre, he => by
  subst he
  refine Ev.succ ?_
  simp only [spec_tasksFine.l0]
  refine Ev.neg (len_nlt pre) ?_
  simp only [List.all_nil, Bool.true_and]
  refine Ev.eq ?_
  congr 1
  exact decide_eq_decide.2 (by omega)
 | x :: r, pre, he => by
  have hl := hs.1
  have hx := hs.2 x (by rw [← he]; simp)
  have h1 : rd_T39 ts (pre.length : Int) = x := by rw [← he]; exact rdT pre x r
  have h2 : (pre.length : Int) < (ts.length : Int) := by rw [← he]; exact len_lt _ _ _
  refine Ev.succ ?_
  simp only [spec_tasksFine.l0, h1]
  refine Ev.pos h2 (Ev.pos (by omega) (Ev.bind (validTask_ev ts.length x (by omega) (by omega)) (Ev.ite (fun hc => ?_) (fun hc => ?_))))
  ·rw [len_next pre x (by omega), List.all_cons, hc, Bool.true_and]
   exact tasksFine_go ts hs r (pre ++ [x]) (by rw [← he]; simp)
  ·rw [List.all_cons, Bool.eq_false_iff.2 hc, Bool.false_and, Bool.false_and]
   exact Ev.pure _
theorem tasksFine_ev (ts : List TT) (hs : Small ts) : Ev (fun k => spec_tasksFine.f k ts) (fineB ts) := tasksFine_go ts hs ts [] rfl
theorem isIn_go (n : Int) : ∀ (r pre : List Int), pre.length + r.length < 4611686018427387904 → Ev (fun k => spec_isIn.l0 k (pre ++ r) n (pre.length : Int)) (decide (n ∈ r))
 | [], pre, _ => by
  refine Ev.succ ?_
  simp only [spec_isIn.l0]
  exact Ev.neg (len_nlt pre) (Ev.eq (by simp))
 | x :: r, pre, h => by
  have hl : pre.length < 4611686018427387904 := by simp only [List.length_cons] at h; omega
  refine Ev.succ ?_
  simp only [spec_isIn.l0, rdm]
  refine Ev.pos (len_lt _ _ _) (Ev.pos (by omega) (Ev.ite (fun hc => ?_) (fun hc => ?_)))
  ·rw [decide_eq_true (by rw [hc]; exact List.mem_cons_self)]
   exact Ev.pure _
  ·rw [len_next pre x hl, snoc_eq, show decide (n ∈ x :: r) = decide (n ∈ r) from decide_eq_decide.2 (by rw [List.mem_cons]; exact ⟨fun h => h.resolve_left (fun e => hc e.symm), Or.inr⟩)]
   exact isIn_go n r (pre ++ [x]) (by simp only [List.length_append, List.length_cons, List.length_nil] at h ⊢; omega)
theorem isIn_ev (l : List Int) (n : Int) (h : l.length < 4611686018427387904) : Ev (fun k => spec_isIn.f k l n) (decide (n ∈ l)) := isIn_go n l [] (by simpa using h)
def subL (needs done : List Int) : Bool := needs.all fun x => decide (x ∈ done)
theorem allDone_go (done : List Int) (hd : done.length < 4611686018427387904) : ∀ (r pre : List Int), pre.length + r.length < 4611686018427387904 → Ev (fun k => spec_allDone.l0 k (pre ++ r) done (pre.length : Int)) (subL r done)
 | [], pre, _ => by
  refine Ev.succ ?_
  simp only [spec_allDone.l0]
  exact Ev.neg (len_nlt pre) (Ev.pure _)
 | x :: r, pre, h => by
  have hl : pre.length < 4611686018427387904 := by simp only [List.length_cons] at h; omega
  refine Ev.succ ?_
  simp only [spec_allDone.l0, rdm]
  refine Ev.pos (len_lt _ _ _) (Ev.pos (by omega) (Ev.bind (isIn_ev _ _ hd) (Ev.ite (fun hc => ?_) (fun hc => ?_))))
  ·rw [len_next pre x hl, snoc_eq, subL, List.all_cons, hc, Bool.true_and]
   exact allDone_go done hd r (pre ++ [x]) (by simp only [List.length_append, List.length_cons, List.length_nil] at h ⊢; omega)
  ·rw [subL, List.all_cons, Bool.eq_false_iff.2 hc, Bool.false_and]
   exact Ev.pure _
theorem allDone_ev (l done : List Int) (h : l.length < 4611686018427387904) (hd : done.length < 4611686018427387904) : Ev (fun k => spec_allDone.f k l done) (subL l done) := allDone_go done hd l [] (by simpa using h)
end Go.Proofs.YtajapkjplgaigaaDoor.P
end
section
namespace Go.Proofs.YtajapkjplgaigaaDoor.P
open Go.RowKit Go.Shelf Go.Proofs.YtajapkjplgaigaaDoorW.PrintWords Go.Proofs.YtajapkjplgaigaaDoorW.PrintLast Go.Proofs.YtajapkjplgaigaaDoorW.PrintMore
set_option linter.unusedVariables false
set_option linter.unusedSimpArgs false
def maskL (l : List Int) : Nat := l.foldl (fun s i => s ||| 2 ^ i.toNat) 0
theorem mask_bit (l : List Int) : ∀ (s : Nat) (j : Nat), (∀ x ∈ l, 0 ≤ x) → (l.foldl (fun s i => s ||| 2 ^ i.toNat) s).testBit j = (s.testBit j || decide ((j : Int) ∈ l)) := by
 induction l with
 | nil => intro s j _; simp
 | cons x r ih =>
  intro s j h
  have hx := h x List.mem_cons_self
  rw [List.foldl_cons, ih _ _ (fun y hy => h y (List.mem_cons_of_mem _ hy)), Nat.testBit_or, Nat.testBit_two_pow, Bool.or_assoc]
  congr 1
  rw [← Bool.decide_or]
  refine decide_eq_decide.2 ?_
  rw [List.mem_cons]
  constructor
  ·rintro (h1 | h1)
   ·exact Or.inl (by omega)
   ·exact Or.inr h1
  ·rintro (h1 | h1)
   ·exact Or.inl (by omega)
   ·exact Or.inr h1
theorem maskL_bit {l : List Int} (h : ∀ x ∈ l, 0 ≤ x) (j : Nat) : (maskL l).testBit j = decide ((j : Int) ∈ l) := by
 unfold maskL; rw [mask_bit l 0 j h]; simp
theorem setGo_eq (n : Nat) : ∀ (l : List Int) (last : Int) (s : Nat), -1 ≤ last → setGo n l last s = if (ascB (last :: l) && l.all (inB 0 ((n : Int) - 1))) = true then some (l.foldl (fun s i => s ||| 2 ^ i.toNat) s) else none
 | [], last, s, h => by simp [setGo, ascB]
 | i :: r, last, s, h => by
  unfold setGo
  by_cases hc : last + 1 ≤ i ∧ i < n
  ·rw [if_pos hc, setGo_eq n r i _ (by omega)]
   rw [ascB, List.all_cons, decide_eq_true (by omega : last < i), Bool.true_and, show inB 0 ((n : Int) - 1) i = true from decide_eq_true (by omega), Bool.true_and]
   rfl
  ·rw [if_neg hc, if_neg]
   intro h2
   rw [ascB, List.all_cons] at h2
   simp only [Bool.and_eq_true, decide_eq_true_eq, inB] at h2
   omega
theorem ascB_neg {l : List Int} (h : ∀ x ∈ l, 0 ≤ x) : ascB (-1 :: l) = ascB l := by
 cases l with
 | nil => rfl
 | cons x r => rw [ascB, decide_eq_true (by have := h x List.mem_cons_self; omega), Bool.true_and]
theorem setP_eq (l : List Int) (n : Nat) : setP l n = if (ascB l && l.all (inB 0 ((n : Int) - 1))) = true then some (maskL l) else none := by
 unfold setP
 rw [setGo_eq n l (-1) 0 (by omega)]
 by_cases hA : l.all (inB 0 ((n : Int) - 1)) = true
 ·have h0 : ∀ x ∈ l, 0 ≤ x := fun x hx => by
   have := List.all_eq_true.1 hA x hx
   simp only [inB, decide_eq_true_eq] at this
   exact this.1
  rw [ascB_neg h0]; rfl
 ·rw [Bool.eq_false_iff.2 hA, Bool.and_false, Bool.and_false]; rfl
theorem taskP_eq (n : Nat) (t : TT) : taskP n t = if taskB n t = true then some (maskL t.f1) else none := by
 unfold taskP taskB
 rw [setP_eq]
 by_cases h1 : (ascB t.f1 && t.f1.all (inB 0 ((n : Int) - 1))) = true
 ·rw [if_pos h1]
  have h2 := Bool.and_eq_true_iff.1 h1
  rw [h2.1, h2.2]
  simp only [Bool.and_true, inB, Bool.and_eq_true, decide_eq_true_eq, and_assoc]
 ·rw [if_neg h1, if_neg]
  intro h
  simp only [Bool.and_eq_true] at h h1
  exact h1 ⟨h.2, h.1.2⟩
theorem needsGo_eq (n : Nat) : ∀ (r : List TT) (acc : List Nat), needsGo n r acc = if r.all (taskB n) = true then some (acc ++ r.map fun t => maskL t.f1) else none
 | [], acc => by simp [needsGo]
 | t :: r, acc => by
  unfold needsGo
  rw [taskP_eq]
  by_cases h : taskB n t = true
  ·rw [if_pos h]
   show needsGo n r (acc ++ [maskL t.f1]) = _
   rw [needsGo_eq n r, List.all_cons, h, Bool.true_and, List.map_cons, List.append_assoc]
   rfl
  ·rw [if_neg h, List.all_cons, Bool.eq_false_iff.2 h, Bool.false_and]
   rfl
def needsM (ts : List TT) : List Nat := ts.map fun t => maskL t.f1
theorem needsP_eq (ts : List TT) : needsP ts = if fineB ts = true then some (needsM ts) else none := by
 unfold needsP fineB
 by_cases h : ts.length > 8
 ·rw [if_pos h, decide_eq_false (by omega), Bool.and_false]; rfl
 ·rw [if_neg h, needsGo_eq, decide_eq_true (by omega : ts.length ≤ 8), Bool.and_true]; rfl
theorem fine_task {ts : List TT} (h : fineB ts = true) {i : Nat} (hi : i < ts.length) : taskB ts.length ts[i] = true := by
 have := (Bool.and_eq_true_iff.1 h).1
 exact List.all_eq_true.1 this _ (List.getElem_mem hi)
theorem fine_len {ts : List TT} (h : fineB ts = true) : ts.length ≤ 8 := of_decide_eq_true (Bool.and_eq_true_iff.1 h).2
theorem task_mem {n : Nat} {t : TT} (h : taskB n t = true) : (∀ x ∈ t.f1, 0 ≤ x ∧ x < n) ∧ ascB t.f1 = true := by
 unfold taskB at h
 simp only [Bool.and_eq_true] at h
 refine ⟨fun x hx => ?_, h.2⟩
 have := List.all_eq_true.1 h.1.2 x hx
 simp only [inB, decide_eq_true_eq] at this
 omega
theorem needsM_get (ts : List TT) (i : Nat) (hi : i < ts.length) : (needsM ts).getD i 0 = maskL (ts[i].f1) := by
 simp [needsM, List.getD_eq_getElem?_getD, List.getElem?_map, List.getElem?_eq_getElem hi]
theorem rdT_at (ts : List TT) (i : Nat) (hi : i < ts.length) : rd_T39 ts (i : Int) = ts[i] := by
 simp [rd_T39, List.getElem?_eq_getElem hi]
theorem sub_eq {l done : List Int} (hl : ∀ x ∈ l, 0 ≤ x) (s : Nat) (hs : ∀ j, s.testBit j = decide ((j : Int) ∈ done)) : (maskL l &&& s == maskL l) = subL l done := by
 rw [Bool.eq_iff_iff]
 unfold subL
 rw [List.all_eq_true, beq_iff_eq]
 constructor
 ·intro h x hx
  have hx0 := hl x hx
  have h1 : (maskL l).testBit x.toNat = true := by rw [maskL_bit hl, decide_eq_true]; rwa [Int.toNat_of_nonneg hx0]
  rw [← h, Nat.testBit_and, hs, Bool.and_eq_true] at h1
  have h2 := of_decide_eq_true h1.2
  rw [Int.toNat_of_nonneg hx0] at h2
  exact decide_eq_true h2
 ·intro h
  refine Nat.eq_of_testBit_eq fun j => ?_
  rw [Nat.testBit_and, hs, maskL_bit hl]
  by_cases hj : (j : Int) ∈ l
  ·have := h _ hj
   rw [this, Bool.and_true]
  ·rw [decide_eq_false hj, Bool.false_and]
theorem canP_eq {ts : List TT} (hf : fineB ts = true) {done : List Int} {s : Nat} (hs : ∀ j, s.testBit j = decide ((j : Int) ∈ done)) {i : Nat} (hi : i < ts.length) :
  canP (needsM ts) s i = (!decide ((i : Int) ∈ done) && subL ts[i].f1 done) := by
 unfold canP
 rw [needsM_get ts i hi, sub_eq (fun x hx => ((task_mem (fine_task hf hi)).1 x hx).1) s hs, hs]
def findFrom (p : Nat → Bool) (n j : Nat) : Option Nat := ((List.range n).drop j).find? p
theorem findFrom_step (p : Nat → Bool) (n j : Nat) (h : j < n) : findFrom p n j = if p j then some j else findFrom p n (j + 1) := by
 unfold findFrom
 rw [List.drop_eq_getElem_cons (by simpa using h), List.find?_cons, List.getElem_range]
 cases p j <;> rfl
theorem findFrom_end (p : Nat → Bool) (n : Nat) : findFrom p n n = none := by
 unfold findFrom
 rw [List.drop_eq_nil_of_le (by simp)]; rfl
theorem top_l1 (ts : List TT) (hs : Small ts) (hf : fineB ts = true) (out : List Nat) (s : Nat) (hb : ∀ j, s.testBit j = decide (((j : Nat) : Int) ∈ nI out)) (hl : out.length ≤ 8) (r : List Int)
  (hnone : firstP (needsM ts) s = none → r = nI out)
  (hsome : ∀ i, firstP (needsM ts) s = some i → Ev (fun k => spec_topOrder.l0 k ts (nI (out ++ [i]))) r) :
  ∀ (m j : Nat), j + m = ts.length → findFrom (canP (needsM ts) s) ts.length j = firstP (needsM ts) s → Ev (fun k => spec_topOrder.l1 k ts (nI out) (-1) (j : Int)) r := by
 have hlen : ts.length ≤ 8 := fine_len hf
 have hnl : (nI out).length = out.length := nI_length out
 intro m
 induction m with
 | zero =>
  intro j hj hfind
  have hjn : j = ts.length := by omega
  subst hjn
  rw [findFrom_end] at hfind
  refine Ev.succ ?_
  simp only [spec_topOrder.l1]
  refine Ev.neg (by omega) (Ev.succ ?_)
  simp only [spec_topOrder.j2]
  refine Ev.neg (by simp) (Ev.pos (by omega) ?_)
  rw [hnone hfind.symm]
  exact Ev.pure _
 | succ m ih =>
  intro j hj hfind
  have hjl : j < ts.length := by omega
  have hw : wrap64 ((j : Int) + 1) = ((j + 1 : Nat) : Int) := w64n j (by omega)
  rw [findFrom_step _ _ _ hjl, canP_eq hf hb hjl] at hfind
  refine Ev.succ ?_
  simp only [spec_topOrder.l1]
  refine Ev.pos (by omega) (Ev.succ ?_)
  simp only [spec_topOrder.j2]
  refine Ev.pos (by simp) (Ev.bind (isIn_ev _ _ (by omega)) (Ev.ite (fun hc => ?_) (fun hc => ?_)))
  ·rw [hc] at hfind
   simp only [Bool.not_true, Bool.false_and] at hfind
   rw [hw]
   exact ih (j + 1) (by omega) hfind
  ·rw [Bool.eq_false_iff.2 hc] at hfind
   simp only [Bool.not_false, Bool.true_and] at hfind
   rw [rdT_at ts j hjl, hw]
   have h1 := hs.2 ts[j] (List.getElem_mem hjl)
   refine Ev.pos (by omega) (Ev.pos (by omega) (Ev.bind (allDone_ev _ _ (by omega) (by omega)) (Ev.ite (fun hd => ?_) (fun hd => ?_))))
   ·rw [if_pos hd] at hfind
    refine Ev.succ ?_
    simp only [spec_topOrder.l1]
    have hgo : Ev (fun k => spec_topOrder.j2 k ts (nI out) (j : Int) ((j + 1 : Nat) : Int) false) r := by
     refine Ev.succ ?_
     simp only [spec_topOrder.j2]
     refine Ev.neg (by simp) (Ev.neg (by omega) (Ev.pos (by omega) ?_))
     have := hsome j hfind.symm
     simpa [nI] using this
    refine Ev.ite (fun h2 => ?_) (fun h2 => hgo)
    rw [decide_eq_false (by omega)]
    exact hgo
   ·rw [if_neg hd] at hfind
    exact ih (j + 1) (by omega) hfind
theorem nodup_len : ∀ (a b : List Nat), a.Nodup → (∀ x ∈ a, x ∈ b) → a.length ≤ b.length
 | [], b, _, _ => Nat.zero_le _
 | x :: a, b, h, hs => by
  have hx : x ∈ b := hs x List.mem_cons_self
  have h1 := nodup_len a (b.erase x) (List.nodup_cons.1 h).2 (fun y hy => (List.mem_erase_of_ne (fun (e : y = x) => (List.nodup_cons.1 h).1 (by rw [← e]; exact hy))).2 (hs y (List.mem_cons_of_mem _ hy)))
  rw [List.length_erase_of_mem hx] at h1
  have : 0 < b.length := List.length_pos_of_mem hx
  rw [List.length_cons]
  omega
structure OrdOk (n : Nat) (out : List Nat) (s : Nat) : Prop where
 nd : out.Nodup
 lt : ∀ i ∈ out, i < n
 bit : ∀ j, s.testBit j = decide (j ∈ out)
theorem mem_nI {out : List Nat} {j : Nat} : ((j : Nat) : Int) ∈ nI out ↔ j ∈ out := by
 unfold nI
 rw [List.mem_map]
 exact ⟨fun ⟨x, hx, he⟩ => by rwa [show j = x by omega], fun h => ⟨j, h, rfl⟩⟩
theorem OrdOk.bits {n : Nat} {out : List Nat} {s : Nat} (h : OrdOk n out s) (j : Nat) : s.testBit j = decide (((j : Nat) : Int) ∈ nI out) := by
 rw [h.bit]; exact decide_eq_decide.2 mem_nI.symm
theorem OrdOk.len {n : Nat} {out : List Nat} {s : Nat} (h : OrdOk n out s) : out.length ≤ n := by
 have := nodup_len out (List.range n) h.nd (fun i hi => List.mem_range.2 (h.lt i hi))
 simpa using this
theorem OrdOk.add {n : Nat} {out : List Nat} {s i : Nat} (h : OrdOk n out s) (hi : i < n) (hn : s.testBit i = false) : OrdOk n (out ++ [i]) (s ||| 2 ^ i) := by
 have hni : i ∉ out := fun hm => by rw [h.bit, decide_eq_true hm] at hn; cases hn
 refine ⟨List.nodup_append.2 ⟨h.nd, by simp, fun a ha b hb => by rw [List.mem_singleton] at hb; subst hb; exact fun e => hni (e ▸ ha)⟩, fun j hj => ?_, fun j => ?_⟩
 ·rcases List.mem_append.1 hj with hj | hj
  ·exact h.lt j hj
  ·rw [List.mem_singleton.1 hj]; exact hi
 ·rw [Nat.testBit_or, h.bit, Nat.testBit_two_pow, ← Bool.decide_or]
  refine decide_eq_decide.2 ?_
  rw [List.mem_append, List.mem_singleton]
  exact or_congr Iff.rfl eq_comm
theorem firstP_can {nd : List Nat} {s i : Nat} (h : firstP nd s = some i) : i < nd.length ∧ canP nd s i = true := by
 refine ⟨firstP_lt h, ?_⟩
 have := List.find?_some h
 exact this
theorem OrdOk.full {n : Nat} {out : List Nat} {s : Nat} (h : OrdOk n out s) (hl : out.length = n) (nd : List Nat) (hnl : nd.length = n) : firstP nd s = none := by
 cases hf : firstP nd s with
 | none => rfl
 | some i =>
  obtain ⟨h1, h2⟩ := firstP_can hf
  have h3 : s.testBit i = false := by unfold canP at h2; simp only [Bool.and_eq_true, Bool.not_eq_true'] at h2; exact h2.1
  have h4 := (h.add (by omega) h3).len
  simp only [List.length_append, List.length_cons, List.length_nil] at h4
  omega
theorem orderGo_none {nd : List Nat} {s : List Nat × Nat} (h : firstP nd s.2 = none) : ∀ m, orderGo nd m s = s
 | 0 => rfl
 | m + 1 => by
  have : orderStep nd s = s := by unfold orderStep; rw [h]
  rw [orderGo, this]
  exact orderGo_none h m
theorem top_l0 (ts : List TT) (hs : Small ts) (hf : fineB ts = true) : ∀ (m : Nat) (out : List Nat) (s : Nat), OrdOk ts.length out s → out.length + m = ts.length →
  Ev (fun k => spec_topOrder.l0 k ts (nI out)) (nI (orderGo (needsM ts) m (out, s)).1) ∧ OrdOk ts.length (orderGo (needsM ts) m (out, s)).1 (orderGo (needsM ts) m (out, s)).2 := by
 have hlen : ts.length ≤ 8 := fine_len hf
 have hnl : (needsM ts).length = ts.length := by simp [needsM]
 intro m
 induction m with
 | zero =>
  intro out s ho hm
  have hno := ho.full (by omega) (needsM ts) hnl
  refine ⟨?_, by simpa [orderGo] using ho⟩
  refine Ev.succ ?_
  simp only [spec_topOrder.l0, orderGo]
  exact top_l1 ts hs hf out s ho.bits (by omega) _ (fun _ => rfl) (fun i hi => by rw [hno] at hi; cases hi) ts.length 0 (by omega) (by unfold findFrom firstP; rw [List.drop_zero, hnl])
 | succ m ih =>
  intro out s ho hm
  cases hfi : firstP (needsM ts) s with
  | none =>
   rw [orderGo_none (s := (out, s)) hfi]
   refine ⟨?_, ho⟩
   refine Ev.succ ?_
   simp only [spec_topOrder.l0]
   exact top_l1 ts hs hf out s ho.bits (by omega) _ (fun _ => rfl) (fun i hi => by rw [hfi] at hi; cases hi) ts.length 0 (by omega) (by unfold findFrom firstP; rw [List.drop_zero, hnl])
  | some i =>
   obtain ⟨h1, h2⟩ := firstP_can hfi
   have h3 : s.testBit i = false := by unfold canP at h2; simp only [Bool.and_eq_true, Bool.not_eq_true'] at h2; exact h2.1
   have hstep : orderStep (needsM ts) (out, s) = (out ++ [i], s ||| 2 ^ i) := by unfold orderStep; simp only [hfi]
   rw [orderGo, hstep]
   obtain ⟨e1, e2⟩ := ih (out ++ [i]) (s ||| 2 ^ i) (ho.add (by omega) h3) (by simp only [List.length_append, List.length_cons, List.length_nil]; omega)
   refine ⟨?_, e2⟩
   refine Ev.succ ?_
   simp only [spec_topOrder.l0]
   exact top_l1 ts hs hf out s ho.bits (by omega) _ (fun h => by rw [hfi] at h; cases h) (fun i' hi => by rw [hfi] at hi; injection hi with hi; subst hi; exact e1) ts.length 0 (by omega) (by unfold findFrom firstP; rw [List.drop_zero, hnl])
theorem ordOk_nil (n : Nat) : OrdOk n [] 0 := ⟨List.nodup_nil, fun i hi => (by cases hi), fun j => (by simp)⟩
theorem topOrder_ev (ts : List TT) (hs : Small ts) (hf : fineB ts = true) : Ev (fun k => spec_topOrder.f k ts) (nI (orderP (needsM ts)).1) ∧ OrdOk ts.length (orderP (needsM ts)).1 (orderP (needsM ts)).2 := by
 have h := top_l0 ts hs hf ts.length [] 0 (ordOk_nil _) (by simp)
 unfold orderP
 have hnl : (needsM ts).length = ts.length := by simp [needsM]
 rw [hnl]
 exact h
theorem OrdOk.all {n : Nat} {out : List Nat} {s : Nat} (h : OrdOk n out s) : out.length = n ↔ s = 2 ^ n - 1 := by
 constructor
 ·intro hl
  refine Nat.eq_of_testBit_eq fun j => ?_
  rw [h.bit, Nat.testBit_two_pow_sub_one]
  refine decide_eq_decide.2 ⟨fun hj => h.lt j hj, fun hj => ?_⟩
  by_cases hm : j ∈ out
  ·exact hm
  ·have h4 := (h.add hj (by rw [h.bit, decide_eq_false hm])).len
   simp only [List.length_append, List.length_cons, List.length_nil] at h4
   omega
 ·intro he
  have := nodup_len (List.range n) out List.nodup_range (fun j hj => by
   have h1 := h.bit j
   rw [he, Nat.testBit_two_pow_sub_one, decide_eq_true (List.mem_range.1 hj)] at h1
   exact of_decide_eq_true h1.symm)
  rw [List.length_range] at this
  have := h.len
  omega
theorem graphP_some (ts : List TT) : (graphP ts).isSome = (fineB ts && decide ((orderP (needsM ts)).2 = 2 ^ ts.length - 1)) := by
 unfold graphP
 rw [needsP_eq]
 cases hf : fineB ts with
 | false => rfl
 | true =>
  simp only [if_true, Bool.true_and]
  by_cases h : (orderP (needsM ts)).2 = 2 ^ ts.length - 1
  ·rw [if_pos h, decide_eq_true h]; rfl
  ·rw [if_neg h, decide_eq_false h]; rfl
theorem graphP_fine {ts : List TT} {G : GrN} (h : graphP ts = some G) : fineB ts = true ∧ G.nd = needsM ts ∧ G.ts = ts := by
 obtain ⟨h1, h2, _⟩ := graphP_ok h
 rw [needsP_eq] at h2
 by_cases hf : fineB ts = true
 ·rw [if_pos hf] at h2
  injection h2 with h2
  exact ⟨hf, h2.symm, h1⟩
 ·rw [if_neg hf] at h2; cases h2
theorem validGraph_ev (ts : List TT) (hs : Small ts) : Ev (fun k => spec_validGraph.f k ts) (graphP ts).isSome := by
 unfold spec_validGraph.f
 rw [graphP_some]
 refine Ev.bind (tasksFine_ev ts hs) (Ev.ite (fun hf => ?_) (fun hf => ?_))
 ·obtain ⟨h1, h2⟩ := topOrder_ev ts hs hf
  refine Ev.bind h1 (Ev.eq ?_)
  congr 1
  rw [hf, Bool.true_and, nI_length, Bool.eq_iff_iff, beq_iff_eq, decide_eq_true_iff, ← h2.all]
  omega
 ·rw [Bool.eq_false_iff.2 hf]
  exact Ev.pure _
end Go.Proofs.YtajapkjplgaigaaDoor.P
end
section
namespace Go.Proofs.YtajapkjplgaigaaDoor.P
open Go.RowKit Go.Shelf Go.Proofs.YtajapkjplgaigaaDoorW.PrintWords Go.Proofs.YtajapkjplgaigaaDoorW.PrintLast Go.Proofs.YtajapkjplgaigaaDoorW.PrintMore
set_option linter.unusedVariables false
set_option linter.unusedSimpArgs false
def keepsL (ts : List TT) (done : List Int) (d : Int) : Bool := subL (rd_T39 ts d).f1 done
theorem small_rd {ts : List TT} (hs : Small ts) (i : Int) : (rd_T39 ts i).f1.length < 1099511627776 := by
 unfold rd_T39
 rw [List.getD_eq_getElem?_getD]
 cases h : ts[i.toNat]? with
 | none => simp [z39]
 | some t => exact hs.2 t (List.mem_of_getElem? h)
theorem validDone_go (ts : List TT) (hs : Small ts) (done : List Int) (hd : done.length < 1099511627776) (hr : ∀ x ∈ done, 0 ≤ x ∧ x < ts.length) : ∀ (r pre : List Int), pre ++ r = done → Ev (fun k => spec_validDone.l0 k ts done (pre.length : Int)) (r.all (keepsL ts done))
 | [], pre, he => by
  subst he
  refine Ev.succ ?_
  simp only [spec_validDone.l0]
  exact Ev.neg (len_nlt pre) (Ev.pure _)
 | x :: r, pre, he => by
  have hx := hr x (by rw [← he]; simp)
  have h1 : rd done (pre.length : Int) = x := by rw [← he]; exact rdm pre x r
  have h2 : (pre.length : Int) < (done.length : Int) := by rw [← he]; exact len_lt _ _ _
  refine Ev.succ ?_
  simp only [spec_validDone.l0, h1]
  refine Ev.pos h2 (Ev.pos (by omega) (Ev.pos hx.1 (Ev.pos hx.2 (Ev.bind (allDone_ev _ _ (by have := small_rd hs x; omega) (by omega)) (Ev.ite (fun hc => ?_) (fun hc => ?_))))))
  ·rw [len_next pre x (by omega), List.all_cons, show keepsL ts done x = true from hc, Bool.true_and]
   exact validDone_go ts hs done hd hr r (pre ++ [x]) (by rw [← he]; simp)
  ·rw [List.all_cons, show keepsL ts done x = false from Bool.eq_false_iff.2 hc, Bool.false_and]
   exact Ev.pure _
def doneB (ts : List TT) (done : List Int) : Bool := (graphP ts).isSome && ascB done && done.all (inB 0 ((ts.length : Int) - 1)) && done.all (keepsL ts done)
theorem inB_all {l : List Int} {n : Nat} (h : l.all (inB 0 ((n : Int) - 1)) = true) : ∀ x ∈ l, 0 ≤ x ∧ x < n := fun x hx => by
 have := List.all_eq_true.1 h x hx
 simp only [inB, decide_eq_true_eq] at this
 omega
theorem validDone_evB (ts : List TT) (hs : Small ts) (done : List Int) (hd : done.length < 1099511627776) : Ev (fun k => spec_validDone.f k ts done) (doneB ts done) := by
 unfold spec_validDone.f doneB
 have hl := hs.1
 rw [w64 (n := (ts.length : Int) - 1) (by omega) (by omega)]
 refine Ev.bind (validGraph_ev ts hs) (Ev.ite (fun h0 => ?_) (fun h0 => ?_))
 ·refine Ev.bind (ascends_ev done (by omega)) (Ev.ite (fun h1 => ?_) (fun h1 => ?_))
  ·refine Ev.bind (allIn_ev done _ _ (by omega)) (Ev.succ ?_)
   simp only [spec_validDone.j0]
   rw [h0, h1]
   refine Ev.ite (fun h2 => ?_) (fun h2 => ?_)
   ·rw [show done.all (inB 0 ((ts.length : Int) - 1)) = false by simpa using h2]
    exact Ev.pure _
   ·have h3 : done.all (inB 0 ((ts.length : Int) - 1)) = true := by simpa using h2
    rw [h3]
    exact validDone_go ts hs done hd (inB_all h3) done [] rfl
  ·rw [Bool.eq_false_iff.2 h1, Bool.and_false, Bool.false_and, Bool.false_and]
   refine Ev.succ ?_
   simp only [spec_validDone.j0]
   exact Ev.pos (by simp) (Ev.pure _)
 ·rw [Bool.eq_false_iff.2 h0, Bool.false_and, Bool.false_and, Bool.false_and]
  refine Ev.succ ?_
  simp only [spec_validDone.j0]
  exact Ev.pos (by simp) (Ev.pure _)
theorem closedP_eq {ts : List TT} (hf : fineB ts = true) {done : List Int} (hr : ∀ x ∈ done, 0 ≤ x ∧ x < ts.length) : closedP (needsM ts) (maskL done) = done.all (keepsL ts done) := by
 have h0 : ∀ x ∈ done, 0 ≤ x := fun x hx => (hr x hx).1
 have hlen := fine_len hf
 have hone : ∀ (i : Nat), i < ts.length → ((needsM ts).getD i 0 &&& maskL done == (needsM ts).getD i 0) = keepsL ts done (i : Int) := fun i hi => by
  rw [needsM_get ts i hi, keepsL, rdT_at ts i hi]
  exact sub_eq (fun x hx => ((task_mem (fine_task hf hi)).1 x hx).1) _ (maskL_bit h0)
 unfold closedP
 rw [Bool.eq_iff_iff, List.all_eq_true, List.all_eq_true]
 constructor
 ·intro h x hx
  have hx1 := hr x hx
  have := h x.toNat (mem_bitsN.2 ⟨by omega, by rw [maskL_bit h0]; exact decide_eq_true (by rw [Int.toNat_of_nonneg hx1.1]; exact hx)⟩)
  rw [hone _ (by omega), Int.toNat_of_nonneg hx1.1] at this
  exact this
 ·intro h i hi
  have h1 := (mem_bitsN.1 hi).2
  rw [maskL_bit h0] at h1
  have h2 := of_decide_eq_true h1
  rw [hone _ (by have := hr _ h2; omega)]
  exact h _ h2
structure DoneOk (ts : List TT) (done : List Int) (G : GrN) (s : Nat) : Prop where
 g : graphP ts = some G
 fine : fineB ts = true
 nd : G.nd = needsM ts
 gts : G.ts = ts
 s : s = maskL done
 asc : ascB done = true
 rng : ∀ x ∈ done, 0 ≤ x ∧ x < ts.length
 keeps : done.all (keepsL ts done) = true
theorem DoneOk.bit {ts : List TT} {done : List Int} {G : GrN} {s : Nat} (h : DoneOk ts done G s) (j : Nat) : s.testBit j = decide ((j : Int) ∈ done) := by
 rw [h.s]; exact maskL_bit (fun x hx => (h.rng x hx).1) j
theorem DoneOk.n8 {ts : List TT} {done : List Int} {G : GrN} {s : Nat} (h : DoneOk ts done G s) : ts.length ≤ 8 := fine_len h.fine
theorem doneP_eq (ts : List TT) (done : List Int) : (doneP ts done = none ∧ doneB ts done = false) ∨ ∃ G s, doneP ts done = some (G, s) ∧ doneB ts done = true ∧ DoneOk ts done G s := by
 unfold doneP doneB
 cases hg : graphP ts with
 | none => exact Or.inl ⟨rfl, rfl⟩
 | some G =>
  obtain ⟨hf, hnd, hts⟩ := graphP_fine hg
  simp only [Option.isSome_some, Bool.true_and]
  rw [setP_eq]
  by_cases h1 : (ascB done && done.all (inB 0 ((ts.length : Int) - 1))) = true
  ·rw [if_pos h1, h1, Bool.true_and]
   have h2 := Bool.and_eq_true_iff.1 h1
   have hr := inB_all h2.2
   have hc := closedP_eq hf hr
   rw [← hnd] at hc
   simp only
   rw [hc]
   by_cases h3 : done.all (keepsL ts done) = true
   ·rw [if_pos h3, h3]
    exact Or.inr ⟨G, maskL done, rfl, rfl, hg, hf, hnd, hts, rfl, h2.1, hr, h3⟩
   ·rw [if_neg h3, Bool.eq_false_iff.2 h3]
    exact Or.inl ⟨rfl, rfl⟩
  ·rw [if_neg h1, Bool.eq_false_iff.2 h1, Bool.false_and]
   exact Or.inl ⟨rfl, rfl⟩
theorem DoneOk.doneP {ts : List TT} {done : List Int} {G : GrN} {s : Nat} (h : DoneOk ts done G s) : doneP ts done = some (G, s) := by
 rcases doneP_eq ts done with ⟨_, h2⟩ | ⟨G', s', h1, _, h2⟩
 ·unfold doneB at h2
  have ha : done.all (inB 0 ((ts.length : Int) - 1)) = true := List.all_eq_true.2 fun x hx => by
   have := h.rng x hx
   exact decide_eq_true (by omega)
  rw [h.g, h.asc, ha, h.keeps] at h2
  cases h2
 ·have e1 : G' = G := by have := h2.g; rw [h.g] at this; injection this with this; exact this.symm
  have e2 : s' = s := h2.s.trans h.s.symm
  rw [h1, e1, e2]
theorem validDone_ev (ts : List TT) (hs : Small ts) (done : List Int) (hd : done.length < 1099511627776) : Ev (fun k => spec_validDone.f k ts done) (doneP ts done).isSome := by
 have h := validDone_evB ts hs done hd
 rcases doneP_eq ts done with ⟨h1, h2⟩ | ⟨G, s, h1, h2, _⟩
 ·rw [h1, Option.isSome_none, ← h2]; exact h
 ·rw [h1, Option.isSome_some, ← h2]; exact h
def pickN (p : Nat → Bool) (n : Nat) : List Nat := (List.range n).filter p
theorem bits_pick {m n : Nat} (hn : n ≤ 8) (hm : m < 2 ^ n) (p : Nat → Bool) (h : ∀ i, i < n → m.testBit i = p i) : bitsN m = pickN p n := by
 unfold bitsN pickN
 obtain ⟨c, rfl⟩ : ∃ c, c = 8 - n := ⟨_, rfl⟩
 have h8 : (8 : Nat) = n + (8 - n) := by omega
 rw [h8, List.range_add, List.filter_append]
 have h2 : ((List.range (8 - n)).map (n + ·)).filter (fun i => m.testBit i) = [] := by
  refine List.filter_eq_nil_iff.2 fun x hx => ?_
  obtain ⟨y, _, rfl⟩ := List.mem_map.1 hx
  rw [Nat.testBit_lt_two_pow (Nat.lt_of_lt_of_le hm (Nat.pow_le_pow_right (by omega) (by omega)))]
  simp
 rw [h2, List.append_nil]
 exact List.filter_congr fun x hx => h x (List.mem_range.1 hx)
theorem pickN_len (p : Nat → Bool) (n : Nat) : (pickN p n).length ≤ n := by
 have := List.length_filter_le p (List.range n)
 simpa [pickN] using this
def pR (ts : List TT) (done : List Int) (i : Nat) : Bool := !decide ((i : Int) ∈ done) && subL (rd_T39 ts (i : Int)).f1 done
theorem ready_go (ts : List TT) (hs : Small ts) (done : List Int) (hd : done.length < 1099511627776) : ∀ (m j : Nat) (acc : List Int), j + m = ts.length → acc.length ≤ j →
  Ev (fun k => spec_ready.l0 k ts done acc (j : Int)) (acc ++ nI ((List.range' j m).filter (pR ts done)))
 | 0, j, acc, hj, _ => by
  refine Ev.succ ?_
  simp only [spec_ready.l0]
  refine Ev.neg (by omega) (Ev.eq ?_)
  simp [nI]
 | m + 1, j, acc, hj, ha => by
  have hl := hs.1
  have hw : wrap64 ((j : Int) + 1) = ((j + 1 : Nat) : Int) := w64n j (by omega)
  refine Ev.succ ?_
  simp only [spec_ready.l0, hw]
  rw [List.range'_succ, List.filter_cons]
  refine Ev.pos (by omega) (Ev.bind (isIn_ev _ _ (by omega)) (Ev.ite (fun hc => ?_) (fun hc => ?_)))
  ·rw [if_neg (by unfold pR; rw [hc]; simp)]
   exact ready_go ts hs done hd m (j + 1) acc (by omega) (by omega)
  ·refine Ev.pos (by omega) (Ev.bind (allDone_ev _ _ (by have := small_rd hs (j : Int); omega) (by omega)) (Ev.ite (fun h2 => ?_) (fun h2 => ?_)))
   ·rw [if_pos (by unfold pR; rw [Bool.eq_false_iff.2 hc, h2]; rfl)]
    refine Ev.pos (by omega) ?_
    have := ready_go ts hs done hd m (j + 1) (acc ++ [(j : Int)]) (by omega) (by simp only [List.length_append, List.length_cons, List.length_nil]; omega)
    rw [List.append_assoc] at this
    exact this
   ·rw [if_neg (by unfold pR; rw [Bool.eq_false_iff.2 h2]; simp)]
    exact ready_go ts hs done hd m (j + 1) acc (by omega) (by omega)
def readyL (ts : List TT) (done : List Int) : List Int := nI (pickN (pR ts done) ts.length)
theorem ready_ev (ts : List TT) (hs : Small ts) (done : List Int) (hd : done.length < 1099511627776) : Ev (fun k => spec_ready.f k ts done) (readyL ts done) := by
 have := ready_go ts hs done hd ts.length 0 [] (by omega) (by simp)
 unfold readyL pickN
 rw [List.range_eq_range']
 exact this
theorem readyStep_bit (nd : List Nat) (s : Nat) : ∀ (l : List Nat) (o j : Nat), (l.foldl (readyStepN nd s) o).testBit j = (o.testBit j || (decide (j ∈ l) && canP nd s j))
 | [], o, j => by simp
 | i :: l, o, j => by
  rw [List.foldl_cons, readyStep_bit nd s l, readyStepN]
  by_cases hc : canP nd s i = true
  ·rw [if_pos hc, Nat.testBit_or, Nat.testBit_two_pow, Bool.or_assoc]
   congr 1
   by_cases hij : i = j
   ·subst hij
    rw [hc]
    simp
   ·rw [decide_eq_false hij, Bool.false_or]
    congr 1
    refine decide_eq_decide.2 ?_
    rw [List.mem_cons]
    exact ⟨Or.inr, fun h => h.resolve_left (fun e => hij e.symm)⟩
  ·rw [if_neg hc]
   congr 1
   by_cases hij : j = i
   ·subst hij
    rw [Bool.eq_false_iff.2 hc]
    simp
   ·congr 1
    refine decide_eq_decide.2 ?_
    rw [List.mem_cons]
    exact ⟨Or.inr, fun h => h.resolve_left hij⟩
theorem readyN_bit (nd : List Nat) (s j : Nat) : (readyN nd s).testBit j = (decide (j < nd.length) && canP nd s j) := by
 unfold readyN
 rw [readyStep_bit, Nat.zero_testBit, Bool.false_or]
 congr 1
 exact decide_eq_decide.2 List.mem_range
theorem needsM_len (ts : List TT) : (needsM ts).length = ts.length := by simp [needsM]
theorem DoneOk.lt {ts : List TT} {done : List Int} {G : GrN} {s : Nat} (h : DoneOk ts done G s) : s < 2 ^ ts.length := (doneP_ok h.doneP).2.2.2.2.2
theorem DoneOk.can {ts : List TT} {done : List Int} {G : GrN} {s : Nat} (h : DoneOk ts done G s) (i : Nat) (hi : i < ts.length) : canP G.nd s i = pR ts done i := by
 rw [h.nd, canP_eq h.fine h.bit hi, pR, rdT_at ts i hi]
theorem DoneOk.rbit {ts : List TT} {done : List Int} {G : GrN} {s : Nat} (h : DoneOk ts done G s) (i : Nat) (hi : i < ts.length) : (readyN G.nd s).testBit i = pR ts done i := by
 rw [readyN_bit, h.can i hi, h.nd, needsM_len, decide_eq_true hi, Bool.true_and]
theorem ivs_nI (l : List Nat) : ivs l = nI l := rfl
theorem readyN_lt {nd : List Nat} {s n : Nat} (hl : nd.length = n) : readyN nd s < 2 ^ n := by
 refine Nat.lt_pow_two_of_testBit _ fun i hi => ?_
 rw [readyN_bit, decide_eq_false (by omega), Bool.false_and]
theorem DoneOk.ready {ts : List TT} {done : List Int} {G : GrN} {s : Nat} (h : DoneOk ts done G s) : ivs (bitsN (readyN G.nd s)) = readyL ts done := by
 unfold readyL
 rw [ivs_nI, bits_pick h.n8 (readyN_lt (by rw [h.nd, needsM_len])) (pR ts done) h.rbit]
theorem ReadyTasks_ev (ts : List TT) (hs : Small ts) (done : List Int) (hd : done.length < 1099511627776) : ∃ r, Ev (fun k => spec_ReadyTasks.f k ts done) r ∧ impl_ReadyTasks.f ts done = some r ∧ r.length ≤ 8 := by
 unfold spec_ReadyTasks.f impl_ReadyTasks.f
 have hv := validDone_ev ts hs done hd
 rcases doneP_eq ts done with ⟨h1, _⟩ | ⟨G, s, h1, _, h2⟩
 ·rw [h1] at hv ⊢
  exact ⟨[], Ev.bind hv (Ev.neg (by simp) (Ev.pure _)), rfl, by simp⟩
 ·rw [h1] at hv ⊢
  refine ⟨readyL ts done, Ev.bind hv (Ev.pos rfl (Ev.bind (ready_ev ts hs done hd) (Ev.pure _))), ?_, ?_⟩
  ·simp only [h2.ready]
  ·have := pickN_len (pR ts done) ts.length
   have h8 := h2.n8
   unfold readyL
   rw [nI_length]; omega
def pF (done : List Int) (at_ : Int) (i : Nat) : Bool := decide ((i : Int) = at_) || decide ((i : Int) ∈ done)
theorem finish_go (ts : List TT) (hs : Small ts) (done : List Int) (hd : done.length < 1099511627776) (at_ : Int) : ∀ (m j : Nat) (acc : List Int), j + m = ts.length → acc.length ≤ j →
  Ev (fun k => spec_FinishTask.l0 k ts done at_ acc (j : Int)) (acc ++ nI ((List.range' j m).filter (pF done at_)), true)
 | 0, j, acc, hj, _ => by
  refine Ev.succ ?_
  simp only [spec_FinishTask.l0]
  refine Ev.neg (by omega) (Ev.eq ?_)
  simp [nI]
 | m + 1, j, acc, hj, ha => by
  have hl := hs.1
  have hw : wrap64 ((j : Int) + 1) = ((j + 1 : Nat) : Int) := w64n j (by omega)
  have hadd : Ev (fun k => spec_FinishTask.l0 k ts done at_ (acc ++ [(j : Int)]) ((j + 1 : Nat) : Int)) (acc ++ nI (j :: (List.range' (j + 1) m).filter (pF done at_)), true) := by
   have := finish_go ts hs done hd at_ m (j + 1) (acc ++ [(j : Int)]) (by omega) (by simp only [List.length_append, List.length_cons, List.length_nil]; omega)
   rw [List.append_assoc] at this
   exact this
  refine Ev.succ ?_
  simp only [spec_FinishTask.l0, hw]
  rw [List.range'_succ, List.filter_cons]
  refine Ev.pos (by omega) (Ev.ite (fun hc => ?_) (fun hc => ?_))
  ·rw [if_pos (by unfold pF; rw [decide_eq_true hc]; rfl)]
   exact Ev.pos (by omega) hadd
  ·refine Ev.bind (isIn_ev _ _ (by omega)) (Ev.ite (fun h2 => ?_) (fun h2 => ?_))
   ·rw [if_pos (by unfold pF; rw [h2]; simp)]
    exact Ev.pos (by omega) hadd
   ·rw [if_neg (by unfold pF; rw [decide_eq_false hc, Bool.eq_false_iff.2 h2]; simp)]
    exact finish_go ts hs done hd at_ m (j + 1) acc (by omega) (by omega)
def finishL (ts : List TT) (done : List Int) (at_ : Int) : List Int := nI (pickN (pF done at_) ts.length)
theorem mem_readyL {ts : List TT} {done : List Int} {x : Int} : x ∈ readyL ts done ↔ (0 ≤ x ∧ x < ts.length) ∧ pR ts done x.toNat = true := by
 unfold readyL pickN nI
 rw [List.mem_map]
 constructor
 ·rintro ⟨i, hi, rfl⟩
  rw [List.mem_filter, List.mem_range] at hi
  exact ⟨by omega, by simpa using hi.2⟩
 ·rintro ⟨h1, h2⟩
  exact ⟨x.toNat, List.mem_filter.2 ⟨List.mem_range.2 (by omega), h2⟩, by omega⟩
theorem DoneOk.finishP {ts : List TT} {done : List Int} {G : GrN} {s : Nat} (h : DoneOk ts done G s) (at_ : Int) : finishP ts done at_ = if at_ ∈ readyL ts done then some (finishL ts done at_) else none := by
 unfold Go.Proofs.YtajapkjplgaigaaDoor.P.finishP
 rw [h.doneP]
 simp only
 by_cases hr : 0 ≤ at_ ∧ at_ < ts.length
 ·rw [if_pos hr, h.rbit at_.toNat (by omega)]
  by_cases hp : pR ts done at_.toNat = true
  ·rw [if_pos hp, if_pos (mem_readyL.2 ⟨hr, hp⟩)]
   congr 1
   unfold finishL
   rw [ivs_nI, bits_pick h.n8 (m := s ||| 2 ^ at_.toNat) (Nat.or_lt_two_pow h.lt (Nat.pow_lt_pow_right (by omega) (by omega))) (pF done at_) (fun i hi => ?_)]
   rw [Nat.testBit_or, Nat.testBit_two_pow, h.bit, pF, Bool.or_comm]
   congr 1
   exact decide_eq_decide.2 (by omega)
  ·rw [if_neg hp, if_neg (fun hm => hp (mem_readyL.1 hm).2)]
 ·rw [if_neg hr, if_neg (fun hm => hr (mem_readyL.1 hm).1)]
theorem FinishTask_ev (ts : List TT) (hs : Small ts) (done : List Int) (hd : done.length < 1099511627776) (at_ : Int) : ∃ r, Ev (fun k => spec_FinishTask.f k ts done at_) r ∧ impl_FinishTask.f ts done at_ = some r ∧ r.1.length ≤ 8 := by
 have hv := validDone_ev ts hs done hd
 have hrd := ready_ev ts hs done hd
 rcases doneP_eq ts done with ⟨h1, _⟩ | ⟨G, s, h1, _, h2⟩
 ·rw [h1] at hv
  refine ⟨([], false), ?_, by unfold impl_FinishTask.f finishP; rw [h1], by simp⟩
  unfold spec_FinishTask.f
  refine Ev.bind (Ev.pure _) (Ev.bind hv (Ev.neg (by simp) (Ev.succ ?_)))
  simp only [spec_FinishTask.j0]
  exact Ev.pos (by simp) (Ev.pure _)
 ·rw [h1] at hv
  have h8 := h2.n8
  have hlr : (readyL ts done).length ≤ 8 := by
   have := pickN_len (pR ts done) ts.length
   unfold readyL
   rw [nI_length]; omega
  by_cases hm : at_ ∈ readyL ts done
  ·refine ⟨(finishL ts done at_, true), ?_, by unfold impl_FinishTask.f; rw [h2.finishP at_, if_pos hm], ?_⟩
   ·unfold spec_FinishTask.f
    refine Ev.bind (Ev.pure _) (Ev.bind hv (Ev.pos rfl (Ev.bind hrd (Ev.bind (isIn_ev _ _ (by omega)) (Ev.succ ?_)))))
    simp only [spec_FinishTask.j0]
    refine Ev.neg (by simp [hm]) ?_
    have := finish_go ts hs done hd at_ ts.length 0 [] (by omega) (by simp)
    unfold finishL pickN
    rw [List.range_eq_range']
    exact this
   ·have := pickN_len (pF done at_) ts.length
    show (finishL ts done at_).length ≤ 8
    unfold finishL
    rw [nI_length]; omega
  ·refine ⟨([], false), ?_, by unfold impl_FinishTask.f; rw [h2.finishP at_, if_neg hm], by simp⟩
   unfold spec_FinishTask.f
   refine Ev.bind (Ev.pure _) (Ev.bind hv (Ev.pos rfl (Ev.bind hrd (Ev.bind (isIn_ev _ _ (by omega)) (Ev.succ ?_)))))
   simp only [spec_FinishTask.j0]
   exact Ev.pos (by simp [hm]) (Ev.pure _)
end Go.Proofs.YtajapkjplgaigaaDoor.P
end
section
namespace Go.Proofs.YtajapkjplgaigaaDoor.P
open Go.RowKit Go.Shelf Go.Proofs.YtajapkjplgaigaaDoorW.PrintWords Go.Proofs.YtajapkjplgaigaaDoorW.PrintLast Go.Proofs.YtajapkjplgaigaaDoorW.PrintMore
set_option linter.unusedVariables false
set_option linter.unusedSimpArgs false
structure RdOk (B : List Int) : Prop where
 len : B.length ≤ 2000
 byte : ∀ x ∈ B, 0 ≤ x ∧ x ≤ 255
theorem RdOk.at {B : List Int} (hB : RdOk B) (i : Int) : 0 ≤ rd B i ∧ rd B i ≤ 255 := by
 unfold rd
 rw [List.getD_eq_getElem?_getD]
 cases h : B[i.toNat]? with
 | none => simp
 | some x => exact hB.byte x (List.mem_of_getElem? h)
def Dr {α : Type} (m p : Int) (good : α → Prop) (f : Nat → Option (α × Int)) : Prop := ∃ r q, Ev f (r, q) ∧ good r ∧ p ≤ q ∧ q ≤ p + m
section
variable {α β : Type} {good good' : α → Prop} {goodb : β → Prop} {m m' n p : Int} {f : Nat → Option (α × Int)}
theorem Dr.mono (h : Dr m p good f) (hm : m ≤ m') (hg : ∀ r, good r → good' r) : Dr m' p good' f := by
 obtain ⟨r, q, h1, h2, h3, h4⟩ := h
 exact ⟨r, q, h1, hg r h2, h3, by omega⟩
theorem Dr.bind {g : Nat → α × Int → Option (β × Int)} (hf : Dr m p good f) (hg : ∀ r q, good r → p ≤ q → q ≤ p + m → Dr n q goodb (fun k => g k (r, q))) : Dr (m + n) p goodb (fun k => (f k).bind (g k)) := by
 obtain ⟨r, q, h1, h2, h3, h4⟩ := hf
 obtain ⟨r', q', e1, e2, e3, e4⟩ := hg r q h2 h3 h4
 exact ⟨r', q', h1.bind e1, e2, by omega, by omega⟩
theorem Dr.bind0 {γ : Type} {f : Nat → Option γ} {x : γ} {g : Nat → γ → Option (β × Int)} (hf : Ev f x) (hg : Dr m p goodb (fun k => g k x)) : Dr m p goodb (fun k => (f k).bind (g k)) := by
 obtain ⟨r', q', e1, e2, e3, e4⟩ := hg
 exact ⟨r', q', hf.bind e1, e2, e3, e4⟩
theorem Dr.pure {r : α} {q : Int} (h : good r) (h1 : p ≤ q) (h2 : q ≤ p + m) : Dr m p good (fun _ => some (r, q)) := ⟨r, q, Ev.pure _, h, h1, h2⟩
theorem Dr.here {r : α} {q : Int} (h : good r) (h0 : 0 ≤ m) : Dr m q good (fun _ => some (r, q)) := ⟨r, q, Ev.pure _, h, Int.le_refl _, by omega⟩
theorem Dr.succ {f : Nat → Option (α × Int)} (h : Dr m p good (fun k => f (k + 1))) : Dr m p good f := by
 obtain ⟨r, q, h1, h2⟩ := h
 exact ⟨r, q, h1.succ, h2⟩
theorem Dr.pos {c : Prop} [Decidable c] {g : Nat → Option (α × Int)} (hc : c) (h : Dr m p good f) : Dr m p good (fun k => if c then f k else g k) := by
 obtain ⟨r, q, h1, h2⟩ := h
 exact ⟨r, q, h1.pos hc, h2⟩
theorem Dr.neg {c : Prop} [Decidable c] {g : Nat → Option (α × Int)} (hc : ¬ c) (h : Dr m p good f) : Dr m p good (fun k => if c then g k else f k) := by
 obtain ⟨r, q, h1, h2⟩ := h
 exact ⟨r, q, h1.neg hc, h2⟩
theorem Dr.ite {c : Prop} [Decidable c] {g : Nat → Option (α × Int)} (h : c → Dr m p good f) (h' : ¬ c → Dr m p good g) : Dr m p good (fun k => if c then f k else g k) := by
 by_cases hc : c
 ·exact Dr.pos hc (h hc)
 ·exact Dr.neg hc (h' hc)
end
theorem xor64_nn (a b : Nat) (ha : a < 2 ^ 62) (hb : b < 2 ^ 62) : 0 ≤ Go.bits .xor .i64 (a : Int) (b : Int) ∧ Go.bits .xor .i64 (a : Int) (b : Int) < 2 ^ 62 := by
 have h1 : (BitVec.ofInt 64 (a : Int)).toNat = a := by
  rw [BitVec.ofInt_natCast, BitVec.toNat_ofNat]; exact Nat.mod_eq_of_lt (by omega)
 have h2 : (BitVec.ofInt 64 (b : Int)).toNat = b := by
  rw [BitVec.ofInt_natCast, BitVec.toNat_ofNat]; exact Nat.mod_eq_of_lt (by omega)
 have h3 : Go.bits .xor .i64 (a : Int) (b : Int) = IntKind.i64.wrap ((a ^^^ b : Nat) : Int) := by
  show IntKind.i64.wrap ((BitVec.ofInt 64 (a : Int) ^^^ BitVec.ofInt 64 (b : Int)).toNat : Int) = _
  rw [BitVec.toNat_xor, h1, h2]
 have h4 : a ^^^ b < 2 ^ 62 := Nat.xor_lt_two_pow ha hb
 rw [h3, IntKind.wrap_i64]
 omega
theorem tmod_in {a n : Int} (ha : 0 ≤ a) (hn : 1 ≤ n) : 0 ≤ Int.tmod a n ∧ Int.tmod a n < n := ⟨Int.tmod_nonneg _ ha, Int.tmod_lt_of_pos _ (by omega)⟩
theorem pick_ev {B : List Int} (hB : RdOk B) (n p : Int) (hp : 0 ≤ p) (hp' : p ≤ 1000000) : Dr 1 p (fun r => 0 ≤ r ∧ (1 ≤ n → r < n) ∧ (n < 1 → r = 0)) (fun k => spec_reader_pick.f k B p n) := by
 have hlen := hB.len
 have e1 : wrap64 (p + 1) = p + 1 := w64 (by omega) (by omega)
 have e2 : wrap64 (p + 1 - 1) = p := by rw [w64 (by omega) (by omega)]; omega
 have e3 : wrap64 (p * 7) = p * 7 := w64 (by omega) (by omega)
 have e4 : wrap64 (p * 7 + 3) = p * 7 + 3 := w64 (by omega) (by omega)
 unfold spec_reader_pick.f
 rw [e1]
 refine Dr.ite (fun hn => ?_) (fun hn => ?_)
 ·refine Dr.succ ?_
  simp only [spec_reader_pick.j0]
  exact Dr.pos (by simp) (Dr.pure ⟨by omega, by omega, fun _ => rfl⟩ (by omega) (by omega))
 ·refine Dr.succ ?_
  simp only [spec_reader_pick.j0, e2]
  refine Dr.ite (fun h0 => Dr.pure ⟨by omega, by omega, by omega⟩ (by omega) (by omega)) (fun h0 => ?_)
  have hB0 : 0 < B.length := by
   rcases Nat.eq_zero_or_pos B.length with h | h
   ·exact absurd (by rw [h]; rfl) h0
   ·exact h
  refine Dr.ite (fun h1 => ?_) (fun h1 => ?_)
  ·refine Dr.pos hp (Dr.neg (by omega) ?_)
   have hb := hB.at p
   rw [w64 (by omega) (by omega)]
   have ht := tmod_in hb.1 (by omega : 1 ≤ n)
   exact Dr.pure ⟨ht.1, fun _ => ht.2, by omega⟩ (by omega) (by omega)
  ·have t1 := tmod_in hp (by omega : (1 : Int) ≤ B.length)
   have t2 := tmod_in (by omega : 0 ≤ p * 7 + 3) (by omega : (1 : Int) ≤ B.length)
   simp only [e3, e4]
   refine Dr.neg (by omega) (Dr.pos t1.1 (Dr.pos t1.2 (Dr.pos t2.1 (Dr.pos t2.2 (Dr.neg (by omega) ?_)))))
   have b1 := hB.at (Int.tmod p (B.length : Int))
   have b2 := hB.at (Int.tmod (p * 7 + 3) (B.length : Int))
   obtain ⟨x1, hx1⟩ : ∃ x, x = rd B (Int.tmod p (B.length : Int)) := ⟨_, rfl⟩
   obtain ⟨x2, hx2⟩ : ∃ x, x = rd B (Int.tmod (p * 7 + 3) (B.length : Int)) := ⟨_, rfl⟩
   obtain ⟨d, hd⟩ : ∃ x, x = Int.tdiv p (B.length : Int) := ⟨_, rfl⟩
   have d0 : 0 ≤ d := by rw [hd]; exact Int.tdiv_nonneg hp (by omega)
   have d1 : d ≤ p := by rw [hd, Int.tdiv_eq_ediv_of_nonneg hp]; exact Int.ediv_le_self _ hp
   rw [← hx1] at b1 ⊢
   rw [← hx2] at b2 ⊢
   rw [← hd]
   simp only [w64 (n := x1) (by omega) (by omega), w64 (n := x2) (by omega) (by omega), w64 (n := x1 * 131) (by omega) (by omega), w64 (n := x2 * 1117) (by omega) (by omega), w64 (n := p * 29) (by omega) (by omega), w64 (n := d) (by omega) (by omega), w64 (n := d * 53) (by omega) (by omega),
    w64 (n := x1 * 131 + x2 * 1117) (by omega) (by omega), w64 (n := x1 * 131 + x2 * 1117 + p * 29) (by omega) (by omega), w64 (n := x1 * 131 + x2 * 1117 + p * 29 + d * 53) (by omega) (by omega)]
   obtain ⟨s, hs⟩ : ∃ s : Nat, x1 * 131 + x2 * 1117 + p * 29 + d * 53 = (s : Int) := ⟨(x1 * 131 + x2 * 1117 + p * 29 + d * 53).toNat, by omega⟩
   have hs2 : s < 1000000000000 := by omega
   rw [hs]
   have hdiv : wrap64 (Int.tdiv (s : Int) 64) = ((s / 64 : Nat) : Int) := by
    rw [Int.tdiv_eq_ediv_of_nonneg (by omega), w64 (by omega) (by omega)]; omega
   rw [hdiv]
   have hx := xor64_nn s (s / 64) (by omega) (by omega)
   have ht := tmod_in hx.1 (by omega : 1 ≤ n)
   exact Dr.pure ⟨ht.1, fun _ => ht.2, by omega⟩ (by omega) (by omega)
theorem one_ev {B : List Int} (hB : RdOk B) (l : List Int) (p : Int) (hl : 0 < l.length) (hp : 0 ≤ p) (hp' : p ≤ 1000000) : Dr 1 p (fun r => r ∈ l) (fun k => spec_reader_one.f k B p l) := by
 unfold spec_reader_one.f
 refine ((pick_ev hB (l.length : Int) p hp hp').bind (n := 0) (fun r q hr h1 h2 => ?_)).mono (by omega) (fun _ h => h)
 have h3 := hr.2.1 (by omega)
 refine Dr.pos hr.1 (Dr.pos h3 (Dr.here ?_ (by omega)))
 unfold rd
 rw [List.getD_eq_getElem?_getD, List.getElem?_eq_getElem (by omega)]
 exact List.getElem_mem _
theorem copyInts_eq (l : List Int) (h : l.length < 1099511627776) : spec_copyInts.f l = some l := by
 unfold spec_copyInts.f
 simp only [Option.bind_some]
 rw [if_pos (by simp; omega)]
 rfl
theorem spoil_ev {B : List Int} (hB : RdOk B) (l : List Int) (n p : Int) (hl : l.length ≤ 1000) (hp : 0 ≤ p) (hp' : p ≤ 900000) : Dr 3 p (fun r => r.length ≤ l.length + 1) (fun k => spec_reader_spoil.f k B p l n) := by
 unfold spec_reader_spoil.f
 refine Dr.bind0 (Ev.eq (copyInts_eq l (by omega))) (((pick_ev hB 20 p hp (by omega)).bind (n := 2) (fun r q hr h1 h2 => ?_)).mono (by omega) (fun _ h => h))
 refine Dr.ite (fun _ => Dr.pos (by omega) (Dr.here (by simp) (by omega))) (fun _ => Dr.ite (fun _ => ?_) (fun _ => Dr.ite (fun _ => ?_) (fun _ => Dr.here (by simp) (by omega))))
 ·exact Dr.ite (fun h => Dr.pos (by omega) (Dr.here (by simp; omega) (by omega))) (fun _ => Dr.here (by simp) (by omega))
 ·refine Dr.ite (fun h => ?_) (fun _ => Dr.here (by simp) (by omega))
  refine ((pick_ev hB (l.length : Int) q (by omega) (by omega)).bind (n := 1) (fun r2 q2 hr2 h3 h4 => ?_)).mono (by omega) (fun _ h => h)
  refine ((one_ev hB _ q2 (by simp) (by omega) (by omega)).bind (n := 0) (fun r3 q3 hr3 h5 h6 => ?_)).mono (by omega) (fun _ h => h)
  exact Dr.pos hr2.1 (Dr.pos (hr2.2.1 (by omega)) (Dr.here (by simp) (by omega)))
def GB (L M : Nat) (ts : List TT) : Prop := ts.length ≤ L ∧ ∀ t ∈ ts, t.f1.length ≤ M
theorem GB.small {L M : Nat} {ts : List TT} (h : GB L M ts) (hL : L ≤ 1000) (hM : M ≤ 1000) : Small ts := ⟨by have := h.1; omega, fun t ht => by have := h.2 t ht; omega⟩
theorem GB.snoc {L M : Nat} {ts : List TT} {t : TT} (h : GB L M ts) (ht : t.f1.length ≤ M) : GB (L + 1) M (ts ++ [t]) :=
 ⟨by have := h.1; simp; omega, fun x hx => by
  rcases List.mem_append.1 hx with hx | hx
  ·exact h.2 x hx
  ·rw [List.mem_singleton.1 hx]; exact ht⟩
theorem GB.set {L M : Nat} {ts : List TT} {t : TT} {i : Nat} (h : GB L M ts) (ht : t.f1.length ≤ M) : GB L M (ts.set i t) :=
 ⟨by have := h.1; simp; omega, fun x hx => by
  rcases List.mem_or_eq_of_mem_set hx with hx | hx
  ·exact h.2 x hx
  ·rw [hx]; exact ht⟩
theorem GB.mono {L M L' M' : Nat} {ts : List TT} (h : GB L M ts) (hL : L ≤ L') (hM : M ≤ M') : GB L' M' ts := ⟨by have := h.1; omega, fun x hx => by have := h.2 x hx; omega⟩
theorem GB.rd {L M : Nat} {ts : List TT} (h : GB L M ts) (i : Int) : (rd_T39 ts i).f1.length ≤ M := by
 unfold rd_T39
 rw [List.getD_eq_getElem?_getD]
 cases hh : ts[i.toNat]? with
 | none => simp [z39]
 | some t => exact h.2 t (List.mem_of_getElem? hh)
theorem turned_l1 (Q : List TT → Prop) (g : List TT) (out : List TT) (last i : Int) (a b c : Int) (nd : List Int) (hn : nd.length ≤ 1000)
  (hgo : ∀ acc : List Int, acc.length ≤ nd.length → ∃ r : List TT, Ev (fun k => spec_turned.l0 k g (out ++ [⟨a, acc, b, c⟩]) last (wrap64 (i - 1))) r ∧ Q r) (ho : out.length ≤ 1000) :
  ∀ (m : Nat) (acc : List Int), m ≤ nd.length → acc.length + m ≤ nd.length → ∃ r : List TT, Ev (fun k => spec_turned.l1 k g out last i acc ((m : Int) - 1) a nd b c) r ∧ Q r
 | 0, acc, _, ha => by
  obtain ⟨r, h1, h2⟩ := hgo acc (by omega)
  refine ⟨r, Ev.succ ?_, h2⟩
  simp only [spec_turned.l1]
  exact Ev.neg (by omega) (Ev.pos (by omega) h1)
 | m + 1, acc, hm, ha => by
  have hw : wrap64 (((m + 1 : Nat) : Int) - 1 - 1) = (m : Int) - 1 := by rw [w64 (by omega) (by omega)]; omega
  obtain ⟨r, h1, h2⟩ := turned_l1 Q g out last i a b c nd hn hgo ho m (acc ++ [wrap64 (last - Go.Proofs.YtajapkjplgaigaaDoorW.PrintWords.rd nd (((m + 1 : Nat) : Int) - 1))]) (by omega) (by simp only [List.length_append, List.length_cons, List.length_nil]; omega)
  refine ⟨r, Ev.succ ?_, h2⟩
  simp only [spec_turned.l1, hw]
  exact Ev.pos (by omega) (Ev.pos (by omega) (Ev.pos (by omega) (Ev.pos (by omega) h1)))
theorem turned_l0 (L M : Nat) (hL : L ≤ 1000) (hM : M ≤ 1000) (g : List TT) (hg : GB L M g) (last : Int) : ∀ (m : Nat) (out : List TT), m ≤ g.length → GB (g.length - m) M out → ∃ r, Ev (fun k => spec_turned.l0 k g out last ((m : Int) - 1)) r ∧ GB L M r
 | 0, out, _, ho => by
  refine ⟨out, Ev.succ ?_, ho.mono (by have := hg.1; omega) (Nat.le_refl _)⟩
  simp only [spec_turned.l0]
  exact Ev.neg (by omega) (Ev.pure _)
 | m + 1, out, hm, ho => by
  have hgl := hg.1
  have hol := ho.1
  have hrd := hg.rd (((m + 1 : Nat) : Int) - 1)
  have hw : wrap64 (((m + 1 : Nat) : Int) - 1 - 1) = (m : Int) - 1 := by rw [w64 (by omega) (by omega)]; omega
  obtain ⟨t, ht⟩ : ∃ t, t = rd_T39 g (((m + 1 : Nat) : Int) - 1) := ⟨_, rfl⟩
  rw [← ht] at hrd
  have hw2 : wrap64 ((t.f1.length : Int) - 1) = (t.f1.length : Int) - 1 := w64 (by omega) (by omega)
  obtain ⟨r, h1, h2⟩ := turned_l1 (GB L M) g out last (((m + 1 : Nat) : Int) - 1) t.f0 t.f2 t.f3 t.f1 (by omega) (fun acc ha => by
   rw [hw]
   exact turned_l0 L M hL hM g hg last m _ (by omega) ((ho.snoc (t := ⟨t.f0, acc, t.f2, t.f3⟩) (by show acc.length ≤ M; omega)).mono (by omega) (Nat.le_refl _))) (by omega) t.f1.length [] (Nat.le_refl _) (by simp)
  refine ⟨r, Ev.succ ?_, h2⟩
  simp only [spec_turned.l0, ← ht, hw2]
  exact Ev.pos (by omega) (Ev.pos (by omega) (Ev.pos (by omega) h1))
theorem turned_ev (L M : Nat) (hL : L ≤ 1000) (hM : M ≤ 1000) (g : List TT) (hg : GB L M g) : ∃ r, Ev (fun k => spec_turned.f k g) r ∧ GB L M r := by
 unfold spec_turned.f
 have hgl := hg.1
 rw [w64 (by omega) (by omega)]
 exact turned_l0 L M hL hM g hg _ g.length [] (Nat.le_refl _) ⟨by simp, fun t ht => by cases ht⟩
theorem some_l1 {B : List Int} (hB : RdOk B) (M : Int) (hM : 0 ≤ M) (good : List TT → Prop) (g : List TT) (hg : g.length ≤ 8) (n : Int) (a b c : Int) (E : Int) (hE : E ≤ 10000)
  (hgo : ∀ (acc : List Int) (q : Int), acc.length ≤ g.length → 0 ≤ q → q ≤ E → Dr M q good (fun k => spec_someGraph.l0 k (g ++ [⟨a, acc, b, c⟩]) (wrap64 (n - 1)) B q)) :
  ∀ (m j : Nat) (acc : List Int) (p : Int), j + m = g.length → acc.length ≤ j → 0 ≤ p → p + m ≤ E → Dr (m + M) p good (fun k => spec_someGraph.l1 k g n (j : Int) B p a acc b c)
 | 0, j, acc, p, hj, ha, hp, hp' => by
  refine Dr.succ ?_
  simp only [spec_someGraph.l1]
  exact Dr.neg (by omega) (Dr.pos (by omega) ((hgo acc p (by omega) hp (by omega)).mono (by omega) (fun _ h => h)))
 | m + 1, j, acc, p, hj, ha, hp, hp' => by
  have hw : wrap64 ((j : Int) + 1) = ((j + 1 : Nat) : Int) := w64n j (by omega)
  refine Dr.succ ?_
  simp only [spec_someGraph.l1, hw]
  refine Dr.pos (by omega) (((pick_ev hB 3 p hp (by omega)).bind (n := m + M) (fun r q hr h1 h2 => ?_)).mono (by omega) (fun _ h => h))
  exact Dr.ite (fun _ => Dr.pos (by omega) (some_l1 hB M hM good g hg n a b c E hE hgo m (j + 1) _ q (by omega) (by simp only [List.length_append, List.length_cons, List.length_nil]; omega) (by omega) (by omega))) (fun _ => some_l1 hB M hM good g hg n a b c E hE hgo m (j + 1) acc q (by omega) (by omega) (by omega) (by omega))
theorem some_l0 {B : List Int} (hB : RdOk B) : ∀ (n : Nat) (g : List TT) (p : Int), g.length + n ≤ 8 → GB 8 8 g → 0 ≤ p → p + 11 * n ≤ 5000 → Dr (11 * n + 1) p (GB 8 8) (fun k => spec_someGraph.l0 k g (n : Int) B p)
 | 0, g, p, hn, hg, hp, hp' => by
  refine Dr.succ ?_
  simp only [spec_someGraph.l0]
  refine Dr.neg (by omega) (Dr.ite (fun h => ?_) (fun h => Dr.here hg (by omega)))
  refine ((pick_ev hB 4 p hp (by omega)).bind (n := 0) (fun r q hr h1 h2 => ?_)).mono (by omega) (fun _ h => h)
  obtain ⟨t, h3, h4⟩ := turned_ev 8 8 (by omega) (by omega) g hg
  exact Dr.ite (fun _ => Dr.bind0 h3 (Dr.here h4 (by omega))) (fun _ => Dr.here hg (by omega))
 | n + 1, g, p, hn, hg, hp, hp' => by
  have hw : wrap64 (((n + 1 : Nat) : Int) - 1) = (n : Int) := by rw [w64 (by omega) (by omega)]; omega
  refine Dr.succ ?_
  simp only [spec_someGraph.l0]
  refine Dr.pos (by omega) (((one_ev hB _ p (by simp) hp (by omega)).bind (n := 2 + (8 + (11 * n + 1))) (fun r q hr h1 h2 => ?_)).mono (by omega) (fun _ h => h))
  refine ((pick_ev hB 3 q (by omega) (by omega)).bind (n := 1 + (8 + (11 * n + 1))) (fun r2 q2 hr2 h3 h4 => ?_)).mono (by omega) (fun _ h => h)
  refine ((pick_ev hB 4 q2 (by omega) (by omega)).bind (n := 8 + (11 * n + 1)) (fun r3 q3 hr3 h5 h6 => ?_)).mono (by omega) (fun _ h => h)
  refine (some_l1 hB (11 * n + 1) (by omega) (GB 8 8) g (by omega) ((n + 1 : Nat) : Int) r r2 (wrap64 (1 + r3)) (q3 + g.length) (by omega) (fun acc q4 ha h7 h8 => ?_) g.length 0 [] q3 (by omega) (by simp) (by omega) (by omega)).mono (by omega) (fun _ h => h)
  rw [hw]
  exact some_l0 hB n _ q4 (by simp; omega) ⟨by simp; omega, (hg.snoc (t := ⟨r, acc, r2, wrap64 (1 + r3)⟩) (by show acc.length ≤ 8; omega)).2⟩ h7 (by omega)
theorem someGraph_ev {B : List Int} (hB : RdOk B) (p : Int) (hp : 0 ≤ p) (hp' : p ≤ 1000) : Dr 100 p (GB 8 8) (fun k => spec_someGraph.f k B p 8) := by
 unfold spec_someGraph.f
 refine ((one_ev hB _ p (by simp) hp (by omega)).bind (n := 99) (fun r q hr h1 h2 => ?_)).mono (by omega) (fun _ h => h)
 obtain ⟨n, hn, hn8⟩ : ∃ n : Nat, mn 8 r = (n : Int) ∧ n ≤ 8 := by
  simp only [List.mem_cons, List.not_mem_nil, or_false] at hr
  unfold mn
  rcases hr with h | h | h | h | h | h | h | h <;> subst h
  ·exact ⟨4, by decide, by omega⟩
  ·exact ⟨5, by decide, by omega⟩
  ·exact ⟨3, by decide, by omega⟩
  ·exact ⟨6, by decide, by omega⟩
  ·exact ⟨2, by decide, by omega⟩
  ·exact ⟨1, by decide, by omega⟩
  ·exact ⟨0, by decide, by omega⟩
  ·exact ⟨8, by decide, by omega⟩
 rw [hn]
 exact (some_l0 hB n [] q (by simpa using hn8) ⟨by simp, fun t ht => by cases ht⟩ (by omega) (by omega)).mono (by omega) (fun _ h => h)
theorem anyGraph_ev {B : List Int} (hB : RdOk B) (p : Int) (hp : 0 ≤ p) (hp' : p ≤ 100) : Dr 300 p (GB 16 16) (fun k => spec_anyGraph.f k B p) := by
 unfold spec_anyGraph.f
 refine ((someGraph_ev hB p hp (by omega)).bind (n := 200) (fun g q hg h1 h2 => ?_)).mono (by omega) (fun _ h => h)
 have hg16 := hg.mono (L' := 16) (M' := 16) (by omega) (by omega)
 have hgl := hg.1
 refine Dr.ite (fun _ => Dr.here hg16 (by omega)) (fun h0 => ?_)
 have h0' : ¬ (g.length : Int) = 0 := h0
 refine ((pick_ev hB (g.length : Int) q (by omega) (by omega)).bind (n := 199) (fun a q2 ha h3 h4 => ?_)).mono (by omega) (fun _ h => h)
 have ha2 := ha.2.1 (by omega)
 refine ((pick_ev hB 24 q2 (by omega) (by omega)).bind (n := 198) (fun b q3 hb h5 h6 => ?_)).mono (by omega) (fun _ h => h)
 have hrd := hg.rd a
 refine Dr.ite (fun _ => ?_) (fun _ => Dr.ite (fun _ => ?_) (fun _ => Dr.ite (fun _ => ?_) (fun _ => Dr.ite (fun _ => ?_) (fun _ => Dr.ite (fun _ => ?_) (fun _ => Dr.here hg16 (by omega))))))
 ·refine ((one_ev hB _ q3 (by simp) (by omega) (by omega)).bind (n := 0) (fun r q4 hr h7 h8 => ?_)).mono (by omega) (fun _ h => h)
  exact Dr.pos ha.1 (Dr.pos ha2 (Dr.here (hg16.set (by show _ ≤ 16; dsimp only; omega)) (by omega)))
 ·refine Dr.pos ha.1 (Dr.pos ha2 (Dr.bind0 (Ev.pure _) ?_))
  refine ((pick_ev hB (g.length : Int) q3 (by omega) (by omega)).bind (n := 3) (fun r q4 hr h7 h8 => ?_)).mono (by omega) (fun _ h => h)
  refine Dr.bind0 (Ev.pure _) (Dr.pos (by simp only [List.length_cons, List.length_nil]; omega) ?_)
  refine ((spoil_ev hB _ 8 q4 (by simp only [List.length_append, List.length_cons, List.length_nil]; omega) (by omega) (by omega)).bind (n := 0) (fun r2 q5 hr2 h9 h10 => ?_)).mono (by omega) (fun _ h => h)
  simp only [List.length_append, List.length_cons, List.length_nil] at hr2
  exact Dr.here (hg16.set (by show r2.length ≤ 16; omega)) (by omega)
 ·refine ((one_ev hB _ q3 (by simp) (by omega) (by omega)).bind (n := 0) (fun r q4 hr h7 h8 => ?_)).mono (by omega) (fun _ h => h)
  exact Dr.pos ha.1 (Dr.pos ha2 (Dr.here (hg16.set (by show _ ≤ 16; dsimp only; omega)) (by omega)))
 ·refine ((one_ev hB _ q3 (by simp) (by omega) (by omega)).bind (n := 0) (fun r q4 hr h7 h8 => ?_)).mono (by omega) (fun _ h => h)
  exact Dr.pos ha.1 (Dr.pos ha2 (Dr.here (hg16.set (by show _ ≤ 16; dsimp only; omega)) (by omega)))
 ·refine ((someGraph_ev hB q3 (by omega) (by omega)).bind (n := 0) (fun r q4 hr h7 h8 => ?_)).mono (by omega) (fun _ h => h)
  have hrl := hr.1
  refine Dr.pos (by show g.length + r.length < _; omega) (Dr.here (show GB 16 16 (g ++ r) from ⟨by simp; omega, fun t ht => ?_⟩) (by omega))
  rcases List.mem_append.1 ht with ht | ht
  ·have := hg.2 t ht; omega
  ·have := hr.2 t ht; omega
theorem newReader_ev (l : List Int) (hb : ∀ x ∈ l, (Lit.int .u8 x).wf = true) : ∃ B : List Int, spec_newReader.f l = some (B, 0) ∧ RdOk B := by
 have hbyte : ∀ x ∈ l, 0 ≤ x ∧ x ≤ 255 := fun x hx => by
  have := hb x hx
  have h2 : (decide (IntKind.u8.min ≤ x) && decide (x ≤ IntKind.u8.max)) = true := this
  rw [Bool.and_eq_true, decide_eq_true_eq, decide_eq_true_eq] at h2
  exact h2
 unfold spec_newReader.f
 by_cases h : (l.length : Int) > 2000
 ·rw [if_pos h, if_pos (by omega)]
  exact ⟨_, rfl, by simp; omega, fun x hx => hbyte x (List.mem_of_mem_take hx)⟩
 ·rw [if_neg h]
  exact ⟨_, rfl, by omega, hbyte⟩
end Go.Proofs.YtajapkjplgaigaaDoor.P
end
section
namespace Go.Proofs.YtajapkjplgaigaaDoor.P
open Go.RowKit Go.Shelf Go.Proofs.YtajapkjplgaigaaDoorW.PrintWords Go.Proofs.YtajapkjplgaigaaDoorW.PrintLast Go.Proofs.YtajapkjplgaigaaDoorW.PrintMore
attribute [local go_sem] Oper.semAt_some
set_option linter.unusedVariables false
set_option linter.unusedSimpArgs false
def totI (ts : List TT) (xs : List Nat) : Int := xs.foldl (fun (a : Int) (i : Nat) => a + (rd_T39 ts (i : Int)).f0) 0
def allN (n : Nat) : Nat := 2 ^ n - 1
def progressP (ts : List TT) (done : List Int) : Int := match doneP ts done with
 | none => -1
 | some (G, s) => if ts.length = 0 then 1000 else (1000 * totI ts (bitsN s)) / totI ts (bitsN (allN ts.length))
def impl_ProgressOf.f (l0 : List TT) (l1 : List Int) : Option (Int) := some (progressP l0 l1)
end Go.Proofs.YtajapkjplgaigaaDoor.P
end
section
namespace Go.Proofs.YtajapkjplgaigaaDoor.P
open Go.RowKit Go.Proofs.YtajapkjplgaigaaDoorW.PrintWords Go.Proofs.YtajapkjplgaigaaDoorW.PrintLast Go.Proofs.YtajapkjplgaigaaDoorW.PrintMore
attribute [local go_sem] max2_int min2_int max_two min_two max_three min_three max_four min_four   -- for this text's walks alone
set_option linter.unusedVariables false
set_option linter.unusedSimpArgs false
def spec_toInt.f (a0 : Bool) : Option (Int) := if a0 = true then (some 1) else (some 0)
end Go.Proofs.YtajapkjplgaigaaDoor.P
end
section
namespace Go.Proofs.YtajapkjplgaigaaDoor.P
open Go.RowKit Go.Proofs.YtajapkjplgaigaaDoorW.PrintWords Go.Proofs.YtajapkjplgaigaaDoorW.PrintLast Go.Proofs.YtajapkjplgaigaaDoorW.PrintMore
attribute [local go_sem] max2_int min2_int max_two min_two max_three min_three max_four min_four   -- for this text's walks alone
set_option linter.unusedVariables false
set_option linter.unusedSimpArgs false
def spec_ProgressOf.l0 : Nat → List (S39) → List Int → Int → Int → Int → Option (Int)
 | 0, _, _, _, _, _ => none
 | k + 1, x0, x1, x5, x6, x7 => if x7 < (x0.length : Int) then (if 0 ≤ x7 then ((spec_isIn.f k x1 x7).bind fun t363 => ((spec_toInt.f t363).bind fun t364 => (spec_ProgressOf.l0 k x0 x1 (wrap64 (x5 + (wrap64 (((rd_T39 x0 x7).f0) * t364)))) (wrap64 (x6 + ((rd_T39 x0 x7).f0))) (wrap64 (x7 + 1))))) else (none)) else (if x6 = 0 then (some 1000) else (some (wrap64 (Int.tdiv (wrap64 (1000 * x5)) x6))))
def spec_ProgressOf.f (k : Nat) (l0 : List (S39)) (l1 : List Int) : Option (Int) := (spec_validDone.f k l0 l1).bind fun t360 => (if t360 = true then (spec_ProgressOf.l0 k l0 l1 0 0 0) else (some (-1)))
end Go.Proofs.YtajapkjplgaigaaDoor.P
end
section
namespace Go.Proofs.YtajapkjplgaigaaDoor.P
open Go.RowKit Go.Shelf Go.Proofs.YtajapkjplgaigaaDoorW.PrintWords Go.Proofs.YtajapkjplgaigaaDoorW.PrintLast Go.Proofs.YtajapkjplgaigaaDoorW.PrintMore
set_option linter.unusedVariables false
set_option linter.unusedSimpArgs false
theorem someDone_l0 {B : List Int} (hB : RdOk B) (g : List TT) (hg : GB 16 16 g) : ∀ (n : Nat) (done : List Int) (p : Int), done.length ≤ 8 → 0 ≤ p → p + n ≤ 10000 → Dr (n + 3) p (fun r => r.length ≤ 9) (fun k => spec_someDone.l0 k g done (n : Int) B p)
 | 0, done, p, hd, hp, hp' => by
  refine Dr.succ ?_
  simp only [spec_someDone.l0]
  refine Dr.neg (by omega) (((spoil_ev hB done 8 p (by omega) hp (by omega)).bind (n := 0) (fun r q hr h1 h2 => ?_)).mono (by omega) (fun _ h => h))
  exact Dr.here (by show r.length ≤ 9; omega) (by omega)
 | n + 1, done, p, hd, hp, hp' => by
  have hw : wrap64 (((n + 1 : Nat) : Int) - 1) = (n : Int) := by rw [w64 (by omega) (by omega)]; omega
  have hs := hg.small (by omega) (by omega)
  obtain ⟨r, e1, _, hr8⟩ := ReadyTasks_ev g hs done (by omega)
  have hno : ∀ q, p ≤ q → q ≤ p + 1 → Dr (n + 3) q (fun r => r.length ≤ 9) (fun k => spec_someDone.l0 k g done (n : Int) B q) := fun q h1 h2 => someDone_l0 hB g hg n done q hd (by omega) (by omega)
  refine Dr.succ ?_
  simp only [spec_someDone.l0, hw]
  refine Dr.pos (by omega) (Dr.bind0 e1 (Dr.ite (fun h => ?_) (fun h => (hno p (by omega) (by omega)).mono (by omega) (fun _ h => h))))
  refine ((pick_ev hB (r.length : Int) p (by omega) (by omega)).bind (n := n + 3) (fun a q ha h1 h2 => ?_)).mono (by omega) (fun _ h => h)
  obtain ⟨f, e2, _, hf8⟩ := FinishTask_ev g hs done (by omega) (rd r a)
  refine Dr.pos ha.1 (Dr.pos (ha.2.1 (by omega)) (Dr.bind0 e2 (Dr.ite (fun _ => ?_) (fun _ => hno q (by omega) (by omega)))))
  exact someDone_l0 hB g hg n f.1 q hf8 (by omega) (by omega)
theorem someDone_ev {B : List Int} (hB : RdOk B) (g : List TT) (hg : GB 16 16 g) (p : Int) (hp : 0 ≤ p) (hp' : p ≤ 5000) : Dr 30 p (fun r => r.length ≤ 9) (fun k => spec_someDone.f k B p g) := by
 unfold spec_someDone.f
 have hgl := hg.1
 rw [w64 (n := (g.length : Int) + 1) (by omega) (by omega)]
 refine ((pick_ev hB ((g.length : Int) + 1) p hp (by omega)).bind (n := 25) (fun r q hr h1 h2 => ?_)).mono (by omega) (fun _ h => h)
 have h3 := hr.2.1 (by omega)
 obtain ⟨n, rfl⟩ : ∃ n : Nat, r = (n : Int) := ⟨r.toNat, by omega⟩
 exact (someDone_l0 hB g hg n [] q (by simp) (by omega) (by omega)).mono (by omega) (fun _ h => h)
def sumP (ts : List TT) (p : Nat → Bool) (l : List Nat) : Int := l.foldl (fun (a : Int) (i : Nat) => if p i then a + (rd_T39 ts (i : Int)).f0 else a) 0
def inD (done : List Int) (i : Nat) : Bool := decide ((i : Int) ∈ done)
def progL (ts : List TT) (done : List Int) : Int := if ts.length = 0 then 1000 else (1000 * sumP ts (inD done) (List.range ts.length)) / sumP ts (fun _ => true) (List.range ts.length)
theorem mem_finishL {ts : List TT} {done : List Int} {a x : Int} : x ∈ finishL ts done a ↔ (0 ≤ x ∧ x < ts.length) ∧ (x = a ∨ x ∈ done) := by
 unfold finishL pickN nI
 rw [List.mem_map]
 constructor
 ·rintro ⟨i, hi, rfl⟩
  rw [List.mem_filter, List.mem_range] at hi
  unfold pF at hi
  rw [Bool.or_eq_true, decide_eq_true_eq, decide_eq_true_eq] at hi
  exact ⟨by omega, hi.2⟩
 ·rintro ⟨h1, h2⟩
  refine ⟨x.toNat, List.mem_filter.2 ⟨List.mem_range.2 (by omega), ?_⟩, by omega⟩
  unfold pF
  rw [Bool.or_eq_true, decide_eq_true_eq, decide_eq_true_eq, Int.toNat_of_nonneg h1.1]
  exact h2
theorem asc_pairwise : ∀ (l : List Int), l.Pairwise (· < ·) → ascB l = true
 | [], _ => rfl
 | [x], _ => rfl
 | x :: y :: r, h => by
  have h1 := List.pairwise_cons.1 h
  rw [ascB, decide_eq_true (h1.1 y List.mem_cons_self), Bool.true_and]
  exact asc_pairwise (y :: r) h1.2
theorem pick_asc (p : Nat → Bool) (n : Nat) : ascB (nI (pickN p n)) = true := by
 refine asc_pairwise _ ?_
 unfold nI pickN
 rw [List.pairwise_map]
 exact (List.Pairwise.filter _ List.pairwise_lt_range).imp (fun h => by omega)
theorem subL_mono {l d d' : List Int} (h : subL l d = true) (hd : ∀ x ∈ d, x ∈ d') : subL l d' = true :=
 List.all_eq_true.2 fun x hx => decide_eq_true (hd x (of_decide_eq_true (List.all_eq_true.1 h x hx)))
theorem DoneOk.finish {ts : List TT} {done : List Int} {G : GrN} {s : Nat} (h : DoneOk ts done G s) {a : Int} (ha : a ∈ readyL ts done) : ∃ s', DoneOk ts (finishL ts done a) G s' := by
 have hm := mem_readyL.1 ha
 have hp := Bool.and_eq_true_iff.1 hm.2
 have hsub : ∀ x ∈ done, x ∈ finishL ts done a := fun x hx => mem_finishL.2 ⟨h.rng x hx, Or.inr hx⟩
 refine ⟨maskL (finishL ts done a), h.g, h.fine, h.nd, h.gts, rfl, pick_asc _ _, fun x hx => (mem_finishL.1 hx).1, List.all_eq_true.2 fun x hx => ?_⟩
 rcases (mem_finishL.1 hx).2 with rfl | hx
 ·unfold keepsL
  have := hp.2
  rw [Int.toNat_of_nonneg hm.1.1] at this
  exact subL_mono this hsub
 ·exact subL_mono (List.all_eq_true.1 h.keeps x hx) hsub
end Go.Proofs.YtajapkjplgaigaaDoor.P
end
section
namespace Go.Proofs.YtajapkjplgaigaaDoor.P
open Go.RowKit Go.Shelf Go.Proofs.YtajapkjplgaigaaDoorW.PrintWords Go.Proofs.YtajapkjplgaigaaDoorW.PrintLast Go.Proofs.YtajapkjplgaigaaDoorW.PrintMore
set_option linter.unusedVariables false
set_option linter.unusedSimpArgs false
theorem topo_go {ts : List TT} (hf : fineB ts = true) : ∀ (m : Nat) (s : List Nat × Nat), OrdOk ts.length s.1 s.2 → (∀ (a : List Nat) (i : Nat) (b : List Nat), s.1 = a ++ i :: b → ∀ x ∈ (rd_T39 ts (i : Int)).f1, x ∈ nI a) →
  ∀ (a : List Nat) (i : Nat) (b : List Nat), (orderGo (needsM ts) m s).1 = a ++ i :: b → ∀ x ∈ (rd_T39 ts (i : Int)).f1, x ∈ nI a
 | 0, s, _, h => h
 | m + 1, s, ho, h => by
  cases hfi : firstP (needsM ts) s.2 with
  | none =>
   rw [orderGo_none hfi]
   exact h
  | some i =>
   obtain ⟨h1, h2⟩ := firstP_can hfi
   rw [needsM_len] at h1
   have h3 : s.2.testBit i = false := by unfold canP at h2; simp only [Bool.and_eq_true, Bool.not_eq_true'] at h2; exact h2.1
   have hstep : orderStep (needsM ts) s = (s.1 ++ [i], s.2 ||| 2 ^ i) := by unfold orderStep; simp only [hfi]
   rw [orderGo, hstep]
   refine topo_go hf m _ (ho.add h1 h3) (fun a j b he x hx => ?_)
   rw [canP_eq hf ho.bits h1, Bool.and_eq_true] at h2
   rcases List.eq_nil_or_concat b with rfl | ⟨b', y, rfl⟩
   ·have h4 := List.append_inj' he rfl
    have h5 : i = j := by simpa using h4.2
    subst h5
    rw [← h4.1]
    rw [rdT_at ts i h1] at hx
    exact of_decide_eq_true (List.all_eq_true.1 h2.2 x hx)
   ·have h4 : s.1 ++ [i] = (a ++ j :: b') ++ [y] := by
     have h5 : s.1 ++ [i] = a ++ j :: b'.concat y := he
     rw [List.concat_eq_append] at h5
     rw [h5]; simp
    exact h a j b' (List.append_inj' h4 rfl).1 x hx
theorem order_topo {ts : List TT} (hf : fineB ts = true) (a : List Nat) (i : Nat) (b : List Nat) (h : (orderP (needsM ts)).1 = a ++ i :: b) : ∀ x ∈ (rd_T39 ts (i : Int)).f1, x ∈ nI a := by
 unfold orderP at h
 exact topo_go hf _ ([], 0) (ordOk_nil _) (fun a i b he => by simp at he) a i b h
def mstep (ts : List TT) (f : Nat → Int) (i : Nat) (m : Int) (k : Nat) : Int := if ((i : Int) ∈ (rd_T39 ts (k : Int)).f1) then mx m (f k) else m
def mostU (ts : List TT) (f : Nat → Int) (i : Nat) (l : List Nat) : Int := l.foldl (mstep ts f i) 0
def tailGo (ts : List TT) : List Nat → (Nat → Int) → (Nat → Int)
 | [], f => f
 | at_ :: r, f => tailGo ts r (fun i => if i = at_ then mostU ts f at_ (List.range ts.length) + (rd_T39 ts (at_ : Int)).f0 else f i)
def tailF (ts : List TT) : Nat → Int := tailGo ts (orderP (needsM ts)).1.reverse (fun _ => 0)
def tailL (ts : List TT) : List Int := (List.range ts.length).map (tailF ts)
theorem mx_in {a b B : Int} (ha : 0 ≤ a ∧ a ≤ B) (hb : 0 ≤ b ∧ b ≤ B) : 0 ≤ mx a b ∧ mx a b ≤ B := by unfold mx; split <;> omega
theorem mostU_in (ts : List TT) (f : Nat → Int) (i : Nat) (B : Int) (hf : ∀ k, 0 ≤ f k ∧ f k ≤ B) : ∀ (l : List Nat) (m : Int), 0 ≤ m ∧ m ≤ B → 0 ≤ l.foldl (mstep ts f i) m ∧ l.foldl (mstep ts f i) m ≤ B
 | [], m, h => h
 | k :: l, m, h => by
  rw [List.foldl_cons]
  refine mostU_in ts f i B hf l _ ?_
  unfold mstep
  split
  ·exact mx_in h (hf k)
  ·exact h
theorem map_set (f : Nat → Int) (n i : Nat) (v : Int) (hi : i < n) : ((List.range n).map f).set i v = (List.range n).map (fun k => if k = i then v else f k) := by
 refine List.ext_getElem (by simp) (fun j h1 h2 => ?_)
 simp only [List.length_set, List.length_map, List.length_range] at h1
 rw [List.getElem_set]
 simp only [List.getElem_map, List.getElem_range]
 by_cases h : i = j
 ·rw [if_pos h, if_pos h.symm]
 ·rw [if_neg h, if_neg (fun e => h e.symm)]
theorem rd_map (f : Nat → Int) (n i : Nat) (hi : i < n) : rd ((List.range n).map f) (i : Int) = f i := by simp [rd, hi]
theorem tails_l1 (ts : List TT) (hs : Small ts) (f : Nat → Int) (od : List Int) (idx : Int) (at_ : Nat) (ha : at_ < ts.length) (r : List Int) (B : Int) (hB : B ≤ 100000) (hf : ∀ k, 0 ≤ f k ∧ f k ≤ B) (ht : 0 ≤ (rd_T39 ts (at_ : Int)).f0 ∧ (rd_T39 ts (at_ : Int)).f0 ≤ 20) :
  ∀ (m j : Nat) (most : Int), j + m = ts.length → 0 ≤ most ∧ most ≤ B →
  Ev (fun k => spec_tails.l0 k ts ((List.range ts.length).map (fun k => if k = at_ then (List.range' j m).foldl (mstep ts f at_) most + (rd_T39 ts (at_ : Int)).f0 else f k)) od (wrap64 (idx - 1))) r →
  Ev (fun k => spec_tails.l1 k ts ((List.range ts.length).map f) od idx (at_ : Int) most (j : Int)) r
 | 0, j, most, hj, hm, hgo => by
  have hl : (((List.range ts.length).map f).length : Int) = (ts.length : Int) := by simp
  have hgo2 : Ev (fun k => spec_tails.l0 k ts ((List.range ts.length).map (fun k => if k = at_ then most + (rd_T39 ts (at_ : Int)).f0 else f k)) od (wrap64 (idx - 1))) r := hgo
  refine Ev.succ ?_
  simp only [spec_tails.l1]
  refine Ev.neg (by omega) (Ev.pos (by omega) (Ev.pos (by omega) (Ev.pos (by omega) ?_)))
  rw [Int.toNat_natCast, w64 (n := most + _) (by omega) (by omega), map_set f _ _ _ ha]
  exact hgo2
 | m + 1, j, most, hj, hm, hgo => by
  have hlen := hs.1
  have hl : (((List.range ts.length).map f).length : Int) = (ts.length : Int) := by simp
  have hw : wrap64 ((j : Int) + 1) = ((j + 1 : Nat) : Int) := w64n j (by omega)
  have hsr := small_rd hs (j : Int)
  rw [List.range'_succ, List.foldl_cons] at hgo
  refine Ev.succ ?_
  simp only [spec_tails.l1, hw]
  refine Ev.pos (by omega) (Ev.pos (by omega) (Ev.bind (isIn_ev _ _ (by omega)) (Ev.ite (fun hc => ?_) (fun hc => ?_))))
  ·refine Ev.pos (by omega) ?_
   rw [rd_map f _ _ (by omega)]
   have e : mstep ts f at_ most j = mx most (f j) := by unfold mstep; rw [if_pos (of_decide_eq_true hc)]
   rw [e] at hgo
   exact tails_l1 ts hs f od idx at_ ha r B hB hf ht m (j + 1) (mx most (f j)) (by omega) (mx_in hm (hf j)) hgo
  ·have e : mstep ts f at_ most j = most := by unfold mstep; rw [if_neg (fun h => hc (decide_eq_true h))]
   rw [e] at hgo
   exact tails_l1 ts hs f od idx at_ ha r B hB hf ht m (j + 1) most (by omega) hm hgo
theorem tails_l0 (ts : List TT) (hs : Small ts) (od : List Nat) (hod : ∀ i ∈ od, i < ts.length) (hol : od.length ≤ 8) (ht : ∀ i, i < ts.length → 0 ≤ (rd_T39 ts (i : Int)).f0 ∧ (rd_T39 ts (i : Int)).f0 ≤ 20) :
  ∀ (j : Nat) (f : Nat → Int), j ≤ od.length → (∀ k, 0 ≤ f k ∧ f k ≤ 20 * ((od.length : Int) - j)) → Ev (fun k => spec_tails.l0 k ts ((List.range ts.length).map f) (nI od) ((j : Int) - 1)) ((List.range ts.length).map (tailGo ts (od.take j).reverse f))
 | 0, f, _, _ => by
  refine Ev.succ ?_
  simp only [spec_tails.l0]
  exact Ev.neg (by omega) (Ev.pure _)
 | j + 1, f, hj, hf => by
  have hi : j < od.length := by omega
  have hat := hod od[j] (List.getElem_mem hi)
  have e1 : (((j + 1 : Nat) : Int) - 1) = (j : Int) := by omega
  have e2 : wrap64 ((j : Int) - 1) = (j : Int) - 1 := w64 (by omega) (by omega)
  have e3 : rd (nI od) (j : Int) = ((od[j] : Nat) : Int) := by rw [rd_nI]; simp [hi]
  have e4 : (od.take (j + 1)).reverse = od[j] :: (od.take j).reverse := by rw [List.take_succ_eq_append_getElem hi]; simp
  have hb := mostU_in ts f od[j] _ hf (List.range ts.length) 0 ⟨by omega, by have := hf 0; omega⟩
  have htt := ht od[j] hat
  refine Ev.succ ?_
  simp only [spec_tails.l0, e1, e3]
  refine Ev.pos (by omega) (Ev.pos (by omega) (Ev.pos (by rw [nI_length]; omega) ?_))
  refine tails_l1 ts hs f (nI od) (j : Int) od[j] hat _ (20 * ((od.length : Int) - ((j + 1 : Nat) : Int))) (by omega) hf htt ts.length 0 0 (by omega) ⟨by omega, by omega⟩ ?_
  rw [e2, e4, ← List.range_eq_range']
  refine tails_l0 ts hs od hod hol ht j _ (by omega) (fun k => ?_)
  have hfk := hf k
  show 0 ≤ (if k = od[j] then _ else f k) ∧ (if k = od[j] then _ else f k) ≤ _
  split
  ·exact ⟨by have := hb.1; omega, by have := hb.2; omega⟩
  ·omega
theorem tails_ev (ts : List TT) (hs : Small ts) (hf : fineB ts = true) : Ev (fun k => spec_tails.f k ts) (tailL ts) := by
 obtain ⟨h1, h2⟩ := topOrder_ev ts hs hf
 have h8 := fine_len hf
 have hol := h2.len
 unfold spec_tails.f
 refine Ev.pos (by omega) (Ev.pos (by omega) (Ev.bind h1 ?_))
 rw [nI_length, w64 (by omega) (by omega), Int.toNat_natCast]
 have e : List.replicate ts.length (0 : Int) = (List.range ts.length).map (fun _ => (0 : Int)) := by
  refine List.ext_getElem (by simp) (fun j h1 h2 => by simp)
 rw [e]
 have := tails_l0 ts hs (orderP (needsM ts)).1 h2.lt (by omega) (fun i hi => by
  have h := fine_task hf hi
  rw [rdT_at ts i hi]
  unfold taskB at h
  simp only [Bool.and_eq_true, inB, decide_eq_true_eq] at h
  omega) (orderP (needsM ts)).1.length (fun _ => 0) (Nat.le_refl _) (fun k => by omega)
 rw [List.take_length] at this
 exact this
end Go.Proofs.YtajapkjplgaigaaDoor.P
end
section
namespace Go.Proofs.YtajapkjplgaigaaDoor.P
open Go.RowKit Go.Shelf Go.Proofs.YtajapkjplgaigaaDoorW.PrintWords Go.Proofs.YtajapkjplgaigaaDoorW.PrintLast Go.Proofs.YtajapkjplgaigaaDoorW.PrintMore
set_option linter.unusedVariables false
set_option linter.unusedSimpArgs false
theorem mx_swap (a b c : Int) : mx (mx a b) c = mx (mx a c) b := by
 unfold mx
 repeat' split
 all_goals omega
theorem fold_mx (ts : List TT) (f : Nat → Int) (i : Nat) (v : Int) : ∀ (l : List Nat) (m : Int), l.foldl (mstep ts f i) (mx m v) = mx (l.foldl (mstep ts f i) m) v
 | [], m => rfl
 | k :: l, m => by
  rw [List.foldl_cons, List.foldl_cons]
  have e : mstep ts f i (mx m v) k = mx (mstep ts f i m k) v := by
   unfold mstep
   split
   ·exact mx_swap m v (f k)
   ·rfl
  rw [e, fold_mx ts f i v l]
theorem fold_same (ts : List TT) (f f' : Nat → Int) (i : Nat) : ∀ (l : List Nat) (m : Int), (∀ k ∈ l, f' k = f k) → l.foldl (mstep ts f' i) m = l.foldl (mstep ts f i) m
 | [], m, _ => rfl
 | k :: l, m, h => by
  rw [List.foldl_cons, List.foldl_cons]
  have e : mstep ts f' i m k = mstep ts f i m k := by unfold mstep; rw [h k List.mem_cons_self]
  rw [e, fold_same ts f f' i l _ (fun k hk => h k (List.mem_cons_of_mem _ hk))]
theorem mostU_upd (ts : List TT) (f : Nat → Int) (at_ i n : Nat) (v : Int) (ha : at_ < n) (hf0 : f at_ = 0) (hf : ∀ k, 0 ≤ f k) (B : Int) (hB : ∀ k, f k ≤ B) (hv : 0 ≤ v) :
  (List.range n).foldl (mstep ts (fun k => if k = at_ then v else f k) i) 0 = if ((i : Int) ∈ (rd_T39 ts (at_ : Int)).f1) then mx ((List.range n).foldl (mstep ts f i) 0) v else (List.range n).foldl (mstep ts f i) 0 := by
 obtain ⟨a, b, hab⟩ : ∃ a b, List.range n = a ++ at_ :: b := List.append_of_mem (List.mem_range.2 ha)
 have hnd : (a ++ at_ :: b).Nodup := by rw [← hab]; exact List.nodup_range
 have hna : ∀ k ∈ a, k ≠ at_ := fun k hk e => (List.nodup_append.1 hnd).2.2 k hk at_ List.mem_cons_self e
 have hnb : ∀ k ∈ b, k ≠ at_ := fun k hk e => (List.nodup_cons.1 (List.nodup_append.1 hnd).2.1).1 (e ▸ hk)
 rw [hab, List.foldl_append, List.foldl_append, List.foldl_cons, List.foldl_cons]
 rw [fold_same ts f _ i a 0 (fun k hk => if_neg (hna k hk)), fold_same ts f _ i b _ (fun k hk => if_neg (hnb k hk))]
 have hM := mostU_in ts f i B (fun k => ⟨hf k, hB k⟩) a 0 ⟨by omega, by have := hf 0; have := hB 0; omega⟩
 obtain ⟨M, hMe⟩ : ∃ M, M = a.foldl (mstep ts f i) 0 := ⟨_, rfl⟩
 rw [← hMe] at hM ⊢
 by_cases hc : ((i : Int) ∈ (rd_T39 ts (at_ : Int)).f1)
 ·rw [if_pos hc]
  have e1 : mstep ts (fun k => if k = at_ then v else f k) i M at_ = mx M v := by
   unfold mstep
   rw [if_pos hc]
   show mx M (if at_ = at_ then v else f at_) = mx M v
   rw [if_pos rfl]
  have e2 : mstep ts f i M at_ = M := by unfold mstep; rw [if_pos hc, hf0]; unfold mx; split <;> omega
  rw [e1, e2, fold_mx]
 ·rw [if_neg hc]
  have e1 : mstep ts (fun k => if k = at_ then v else f k) i M at_ = M := by unfold mstep; rw [if_neg hc]
  have e2 : mstep ts f i M at_ = M := by unfold mstep; rw [if_neg hc]
  rw [e1, e2]
def pushF (g : Nat → Int) (at_ : Nat) (l : List Nat) : Nat → Int := l.foldl (fun g k => fun i => if i = k then mx (g k) (g at_) else g i) g
def impStep (ts : List TT) (g : Nat → Int) (at_ : Nat) : Nat → Int := pushF (fun i => if i = at_ then g at_ + (rd_T39 ts (at_ : Int)).f0 else g i) at_ (bitsN ((needsM ts).getD at_ 0))
def impGo (ts : List TT) : List Nat → (Nat → Int) → (Nat → Int)
 | [], g => g
 | at_ :: r, g => impGo ts r (impStep ts g at_)
theorem push_at (at_ : Nat) : ∀ (l : List Nat) (g : Nat → Int), at_ ∉ l → l.Nodup → pushF g at_ l at_ = g at_ ∧ ∀ i, pushF g at_ l i = if i ∈ l then mx (g i) (g at_) else g i
 | [], g, _, _ => ⟨rfl, fun i => by simp [pushF]⟩
 | k :: l, g, h, hn => by
  have hk : at_ ≠ k := fun e => h (e ▸ List.mem_cons_self)
  have hn2 := List.nodup_cons.1 hn
  obtain ⟨h1, h2⟩ := push_at at_ l (fun i => if i = k then mx (g k) (g at_) else g i) (fun hm => h (List.mem_cons_of_mem _ hm)) hn2.2
  have e : pushF g at_ (k :: l) = pushF (fun i => if i = k then mx (g k) (g at_) else g i) at_ l := rfl
  rw [e]
  refine ⟨by rw [h1, if_neg hk], fun i => ?_⟩
  rw [h2 i, if_neg hk]
  by_cases hik : i = k
  ·subst hik
   rw [if_neg hn2.1, if_pos rfl, if_pos List.mem_cons_self]
  ·rw [if_neg hik]
   by_cases hil : i ∈ l
   ·rw [if_pos hil, if_pos (List.mem_cons_of_mem _ hil)]
   ·rw [if_neg hil, if_neg (fun hm => by rcases List.mem_cons.1 hm with e | e; exact hik e; exact hil e)]
theorem needs_bits {ts : List TT} (hf : fineB ts = true) {at_ : Nat} (ha : at_ < ts.length) (i : Nat) : i ∈ bitsN ((needsM ts).getD at_ 0) ↔ (i : Int) ∈ (rd_T39 ts (at_ : Int)).f1 := by
 have hn := (task_mem (fine_task hf ha)).1
 have h8 := fine_len hf
 rw [needsM_get ts at_ ha, mem_bitsN, maskL_bit (fun x hx => (hn x hx).1), rdT_at ts at_ ha, decide_eq_true_eq]
 exact ⟨fun h => h.2, fun h => ⟨by have := hn _ h; omega, h⟩⟩
theorem bitsN_nodup (s : Nat) : (bitsN s).Nodup := List.Pairwise.filter _ List.nodup_range
theorem imp_go {ts : List TT} (hf : fineB ts = true) (od : List Nat) (hod : ∀ i ∈ od, i < ts.length) (hnd : od.Nodup) (htopo : ∀ (a : List Nat) (i : Nat) (b : List Nat), od = a ++ i :: b → ∀ x ∈ (rd_T39 ts (i : Int)).f1, x ∈ nI a)
  (ht : ∀ i, i < ts.length → 0 ≤ (rd_T39 ts (i : Int)).f0) : ∀ (r P : List Nat) (f g : Nat → Int), P ++ r = od.reverse → (∀ k, 0 ≤ f k) → (∃ B, ∀ k, f k ≤ B) → (∀ i ∈ P, g i = f i) → (∀ i, i ∉ P → f i = 0 ∧ g i = (List.range ts.length).foldl (mstep ts f i) 0) →
  ∀ i ∈ od, impGo ts r g i = tailGo ts r f i
 | [], P, f, g, he, _, _, h1, _ => fun i hi => by
  rw [List.append_nil] at he
  exact h1 i (by rw [he]; exact List.mem_reverse.2 hi)
 | at_ :: r, P, f, g, he, hf0, hfB, h1, h2 => by
  obtain ⟨B, hB⟩ := hfB
  have hrn : (P ++ at_ :: r).Nodup := by rw [he]; exact List.pairwise_reverse.2 (hnd.imp (fun h => h.symm))
  have haP : at_ ∉ P := fun hm => (List.nodup_append.1 hrn).2.2 at_ hm at_ List.mem_cons_self rfl
  have hmem : ∀ x ∈ P ++ at_ :: r, x ∈ od := fun x hx => by rw [he] at hx; exact List.mem_reverse.1 hx
  have hat := hod at_ (hmem at_ (by simp))
  have hsplit : od = r.reverse ++ at_ :: P.reverse := by
   have := congrArg List.reverse he
   rw [List.reverse_reverse] at this
   rw [← this]
   simp
  have hneed : ∀ k, k ∈ bitsN ((needsM ts).getD at_ 0) → k ∈ r := fun k hk => by
   have h3 := htopo r.reverse at_ P.reverse hsplit _ ((needs_bits hf hat k).1 hk)
   exact List.mem_reverse.1 (mem_nI.1 h3)
  have hsep : ∀ k ∈ r, k ∉ P ∧ k ≠ at_ := fun k hk => ⟨fun hm => (List.nodup_append.1 hrn).2.2 k hm k (List.mem_cons_of_mem _ hk) rfl, fun e => (List.nodup_cons.1 (List.nodup_append.1 hrn).2.1).1 (e ▸ hk)⟩
  obtain ⟨fa, hfa⟩ : ∃ v, v = (List.range ts.length).foldl (mstep ts f at_) 0 + (rd_T39 ts (at_ : Int)).f0 := ⟨_, rfl⟩
  have hM := mostU_in ts f at_ B (fun k => ⟨hf0 k, hB k⟩) (List.range ts.length) 0 ⟨by omega, by have := hf0 0; have := hB 0; omega⟩
  have htt := ht at_ hat
  have hfa0 : 0 ≤ fa := by omega
  have hpush := push_at at_ (bitsN ((needsM ts).getD at_ 0)) (fun i => if i = at_ then g at_ + (rd_T39 ts (at_ : Int)).f0 else g i) (fun hm => (hsep at_ (hneed at_ hm)).2 rfl) (bitsN_nodup _)
  have hga : g at_ + (rd_T39 ts (at_ : Int)).f0 = fa := by rw [(h2 at_ haP).2, hfa]
  rw [if_pos rfl, hga] at hpush
  have hstep : ∀ i, impStep ts g at_ i = if i ∈ bitsN ((needsM ts).getD at_ 0) then mx (if i = at_ then fa else g i) fa else (if i = at_ then fa else g i) := fun i => by
   unfold impStep
   rw [hga]
   exact hpush.2 i
  have hgo : tailGo ts (at_ :: r) f = tailGo ts r (fun i => if i = at_ then fa else f i) := by rw [hfa]; rfl
  rw [hgo]
  show ∀ i ∈ od, impGo ts r (impStep ts g at_) i = _
  refine imp_go hf od hod hnd htopo ht r (P ++ [at_]) (fun i => if i = at_ then fa else f i) (impStep ts g at_) (by rw [← he]; simp) (fun k => ?_) ⟨max B fa, fun k => ?_⟩ (fun i hi => ?_) (fun i hi => ?_)
  ·show 0 ≤ if k = at_ then fa else f k
   split
   ·exact hfa0
   ·exact hf0 k
  ·show (if k = at_ then fa else f k) ≤ max B fa
   have := hB k
   split <;> omega
  ·rw [hstep]
   rcases List.mem_append.1 hi with hi | hi
   ·have hne : i ≠ at_ := fun e => haP (e ▸ hi)
    rw [if_neg (fun hm => (hsep i (hneed i hm)).1 hi), if_neg hne, if_neg hne]
    exact h1 i hi
   ·rw [List.mem_singleton] at hi
    subst hi
    rw [if_neg (fun hm => (hsep i (hneed i hm)).2 rfl), if_pos rfl, if_pos rfl]
  ·have hiP : i ∉ P := fun hm => hi (List.mem_append_left _ hm)
   have hne : i ≠ at_ := fun e => hi (List.mem_append_right _ (by rw [e]; exact List.mem_cons_self))
   refine ⟨by show (if i = at_ then fa else f i) = 0; rw [if_neg hne]; exact (h2 i hiP).1, ?_⟩
   rw [hstep, mostU_upd ts f at_ i ts.length fa hat (h2 at_ haP).1 hf0 B hB hfa0, if_neg hne, (h2 i hiP).2]
   by_cases hm : i ∈ bitsN ((needsM ts).getD at_ 0)
   ·rw [if_pos hm, if_pos ((needs_bits hf hat i).1 hm)]
   ·rw [if_neg hm, if_neg (fun h => hm ((needs_bits hf hat i).2 h))]
theorem imp_tails {ts : List TT} (hf : fineB ts = true) (hfull : (orderP (needsM ts)).2 = 2 ^ ts.length - 1) (hO : OrdOk ts.length (orderP (needsM ts)).1 (orderP (needsM ts)).2) (i : Nat) (hi : i < ts.length) :
  impGo ts (orderP (needsM ts)).1.reverse (fun _ => 0) i = tailF ts i := by
 have hm : i ∈ (orderP (needsM ts)).1 := by
  have h1 := hO.bit i
  rw [hfull, Nat.testBit_two_pow_sub_one, decide_eq_true hi] at h1
  exact of_decide_eq_true h1.symm
 have hz : ∀ (l : List Nat) (j : Nat), l.foldl (mstep ts (fun _ => 0) j) 0 = 0 := by
  intro l j
  induction l with
  | nil => rfl
  | cons k l ih =>
   rw [List.foldl_cons]
   have e : mstep ts (fun _ => 0) j 0 k = 0 := by unfold mstep; split <;> rfl
   rw [e, ih]
 exact imp_go hf _ hO.lt hO.nd (order_topo hf) (fun j hj => by
  have h := fine_task hf hj
  rw [rdT_at ts j hj]
  unfold taskB at h
  simp only [Bool.and_eq_true, inB, decide_eq_true_eq] at h
  omega) _ [] (fun _ => 0) (fun _ => 0) rfl (fun _ => Int.le_refl _) ⟨0, fun _ => Int.le_refl _⟩ (fun i hi => by cases hi) (fun j _ => ⟨rfl, (hz _ j).symm⟩) i hm
end Go.Proofs.YtajapkjplgaigaaDoor.P
end
section
namespace Go.Proofs.YtajapkjplgaigaaDoor.P
open Go.RowKit Go.Shelf Go.Proofs.YtajapkjplgaigaaDoorW.PrintWords Go.Proofs.YtajapkjplgaigaaDoorW.PrintLast Go.Proofs.YtajapkjplgaigaaDoorW.PrintMore
set_option linter.unusedVariables false
set_option linter.unusedSimpArgs false
def timeL (ts : List TT) (done : List Int) : Int := (readyL ts done).foldl (fun m x => mx m (rd (tailL ts) x)) 0
def timeLeftP (ts : List TT) (done : List Int) : Int := match doneP ts done with
 | none => -1
 | some _ => timeL ts done
theorem timeLeft_go (tl list : List Int) (hl : list.length < 1099511627776) (hin : ∀ x ∈ list, 0 ≤ x ∧ x < tl.length) : ∀ (r pre : List Int) (m : Int), pre ++ r = list → Ev (fun k => spec_timeLeft.l0 k m tl list (pre.length : Int)) (r.foldl (fun m x => mx m (rd tl x)) m)
 | [], pre, m, he => by
  have h2 : ¬ (pre.length : Int) < (list.length : Int) := by rw [← he]; exact len_nlt pre
  refine Ev.succ ?_
  simp only [spec_timeLeft.l0]
  exact Ev.neg h2 (Ev.pure _)
 | x :: r, pre, m, he => by
  have hx := hin x (by rw [← he]; simp)
  have h1 : rd list (pre.length : Int) = x := by rw [← he]; exact rdm pre x r
  have h2 : (pre.length : Int) < (list.length : Int) := by rw [← he]; exact len_lt _ _ _
  refine Ev.succ ?_
  simp only [spec_timeLeft.l0, h1]
  refine Ev.pos h2 (Ev.pos (by omega) (Ev.pos hx.1 (Ev.pos hx.2 ?_)))
  rw [len_next pre x (by omega)]
  exact timeLeft_go tl list hl hin r (pre ++ [x]) _ (by rw [← he]; simp)
theorem TimeLeft_ev (ts : List TT) (hs : Small ts) (done : List Int) (hd : done.length < 1099511627776) : Ev (fun k => spec_TimeLeft.f k ts done) (timeLeftP ts done) := by
 have hv := validDone_ev ts hs done hd
 unfold spec_TimeLeft.f timeLeftP
 rcases doneP_eq ts done with ⟨h1, _⟩ | ⟨G, s, h1, _, h2⟩
 ·rw [h1] at hv ⊢
  exact Ev.bind hv (Ev.neg (by simp) (Ev.pure _))
 ·rw [h1] at hv ⊢
  refine Ev.bind hv (Ev.pos rfl (Ev.bind ?_ (Ev.pure _)))
  unfold spec_timeLeft.f
  refine Ev.bind (tails_ev ts hs h2.fine) (Ev.bind (ready_ev ts hs done hd) ?_)
  have hr : (readyL ts done).length ≤ 8 := by
   have := pickN_len (pR ts done) ts.length
   have := h2.n8
   unfold readyL
   rw [nI_length]; omega
  exact timeLeft_go (tailL ts) (readyL ts done) (by omega) (fun x hx => by
   have := (mem_readyL.1 hx).1
   unfold tailL
   simpa using this) (readyL ts done) [] 0 rfl
end Go.Proofs.YtajapkjplgaigaaDoor.P
end
section
namespace Go.Proofs.YtajapkjplgaigaaDoor.P
open Go.RowKit Go.Shelf Go.Proofs.YtajapkjplgaigaaDoorW.PrintWords Go.Proofs.YtajapkjplgaigaaDoorW.PrintLast Go.Proofs.YtajapkjplgaigaaDoorW.PrintMore
set_option linter.unusedVariables false
set_option linter.unusedSimpArgs false
end Go.Proofs.YtajapkjplgaigaaDoor.P
end
section
namespace Go.Proofs.YtajapkjplgaigaaDoor.P
open Go.RowKit Go.Shelf Go.Proofs.YtajapkjplgaigaaDoorW.PrintWords Go.Proofs.YtajapkjplgaigaaDoorW.PrintLast Go.Proofs.YtajapkjplgaigaaDoorW.PrintMore
set_option linter.unusedVariables false
set_option linter.unusedSimpArgs false
theorem push_in (at_ : Nat) (B : Int) : ∀ (l : List Nat) (g : Nat → Int), (∀ k, 0 ≤ g k ∧ g k ≤ B) → ∀ k, 0 ≤ pushF g at_ l k ∧ pushF g at_ l k ≤ B
 | [], g, h => h
 | k :: l, g, h => push_in at_ B l (fun i => if i = k then mx (g k) (g at_) else g i) (fun i => by
   show 0 ≤ (if i = k then mx (g k) (g at_) else g i) ∧ (if i = k then mx (g k) (g at_) else g i) ≤ B
   split
   ·exact mx_in (h k) (h at_)
   ·exact h i)
theorem impStep_in {ts : List TT} {g : Nat → Int} {at_ : Nat} {B : Int} (h : ∀ k, 0 ≤ g k ∧ g k ≤ B) (ht : 0 ≤ (rd_T39 ts (at_ : Int)).f0 ∧ (rd_T39 ts (at_ : Int)).f0 ≤ 20) : ∀ k, 0 ≤ impStep ts g at_ k ∧ impStep ts g at_ k ≤ B + 20 := by
 unfold impStep
 refine push_in at_ (B + 20) _ _ (fun i => ?_)
 have h1 := h at_
 have h2 := h i
 show 0 ≤ (if i = at_ then g at_ + _ else g i) ∧ (if i = at_ then g at_ + _ else g i) ≤ B + 20
 split <;> omega
theorem stepW_eq {ts : List TT} {g : Nat → Int} {at_ : Nat} (h0 : 0 ≤ g at_) (h1 : g at_ ≤ 100000) (ht : 0 ≤ (rd_T39 ts (at_ : Int)).f0 ∧ (rd_T39 ts (at_ : Int)).f0 ≤ 20) : stepW ts (needsM ts) g at_ = impStep ts g at_ := by
 unfold stepW impStep
 have e : addW ts g at_ = fun i => if i = at_ then g at_ + (rd_T39 ts (at_ : Int)).f0 else g i := by
  funext i
  unfold addW
  rw [w64 (by omega) (by omega)]
 rw [e]
 rfl
theorem tailsW_go {ts : List TT} : ∀ (l : List Nat) (g : Nat → Int) (B : Int), (∀ k, 0 ≤ g k ∧ g k ≤ B) → B + 20 * l.length ≤ 100000 → (∀ i ∈ l, 0 ≤ (rd_T39 ts (i : Int)).f0 ∧ (rd_T39 ts (i : Int)).f0 ≤ 20) →
  l.foldl (stepW ts (needsM ts)) g = impGo ts l g
 | [], g, B, _, _, _ => rfl
 | at_ :: l, g, B, h, hB, ht => by
  rw [List.length_cons] at hB
  have h1 := ht at_ List.mem_cons_self
  have h2 := h at_
  rw [List.foldl_cons, stepW_eq h2.1 (by omega) h1]
  exact tailsW_go l _ (B + 20) (impStep_in h h1) (by omega) (fun i hi => ht i (List.mem_cons_of_mem _ hi))
theorem fine_times {ts : List TT} (hf : fineB ts = true) (i : Nat) (hi : i < ts.length) : 1 ≤ (rd_T39 ts (i : Int)).f0 ∧ (rd_T39 ts (i : Int)).f0 ≤ 20 := by
 have h := fine_task hf hi
 rw [rdT_at ts i hi]
 unfold taskB at h
 simp only [Bool.and_eq_true, inB, decide_eq_true_eq] at h
 omega
theorem tailsW_eq {ts : List TT} (hs : Small ts) {G : GrN} (hg : graphP ts = some G) (i : Nat) (hi : i < ts.length) : tailsW G.ts G.nd G.od.reverse i = tailF ts i := by
 obtain ⟨hts, _, hOk⟩ := graphP_ok hg
 obtain ⟨hf, hnd, _⟩ := graphP_fine hg
 obtain ⟨_, hO⟩ := topOrder_ev ts hs hf
 have hfull := hOk.full
 have hod := hOk.ord
 have h8 := fine_len hf
 have hol := hO.len
 rw [hnd] at hod hfull
 rw [hts] at hfull
 unfold tailsW
 rw [hts, hnd, hod, tailsW_go _ (fun _ => 0) 0 (fun _ => ⟨Int.le_refl _, Int.le_refl _⟩) (by rw [List.length_reverse]; omega) (fun j hj => by
  have := fine_times hf j (hO.lt j (List.mem_reverse.1 hj))
  omega)]
 exact imp_tails hf hfull hO i hi
theorem most_same (f f' : Nat → Int) : ∀ (l : List Nat) (m : Int), (∀ i ∈ l, f i = f' i) → l.foldl (fun m i => mx m (f i)) m = l.foldl (fun m i => mx m (f' i)) m
 | [], m, _ => rfl
 | i :: l, m, h => by
  rw [List.foldl_cons, List.foldl_cons, h i List.mem_cons_self]
  exact most_same f f' l _ (fun j hj => h j (List.mem_cons_of_mem _ hj))
theorem timeL_most (ts : List TT) (done : List Int) : timeL ts done = mostF (tailF ts) (pickN (pR ts done) ts.length) := by
 unfold timeL mostF readyL nI
 rw [List.foldl_map]
 refine most_same (fun i => rd (tailL ts) (i : Int)) (tailF ts) _ 0 (fun i hi => ?_)
 unfold pickN at hi
 have h := List.mem_range.1 (List.mem_filter.1 hi).1
 exact rd_map (tailF ts) _ _ h
theorem timeLeft_eq (ts : List TT) (hs : Small ts) (done : List Int) : timeLeftW ts done = timeLeftP ts done := by
 unfold timeLeftW timeLeftP
 rcases doneP_eq ts done with ⟨h1, _⟩ | ⟨G, s, h1, _, h⟩
 ·rw [h1]
 ·rw [h1]
  show mostF _ (bitsN (readyN G.nd s)) = timeL ts done
  have e := h.ready
  have e2 : bitsN (readyN G.nd s) = pickN (pR ts done) ts.length := by
   have e3 : nI (bitsN (readyN G.nd s)) = nI (pickN (pR ts done) ts.length) := e
   have e4 := congrArg (List.map Int.toNat) e3
   simpa [nI, Function.comp_def] using e4
  rw [timeL_most, e2]
  refine most_same _ _ _ 0 (fun i hi => ?_)
  unfold pickN at hi
  exact tailsW_eq hs h.g i (List.mem_range.1 (List.mem_filter.1 hi).1)
theorem TimeLeft_is (ts : List TT) (hs : Small ts) (done : List Int) : impl_TimeLeft.f ts done = some (timeLeftP ts done) := by
 unfold impl_TimeLeft.f
 rw [timeLeft_eq ts hs]
theorem tail_pos {ts : List TT} (hf : fineB ts = true) : ∀ (l : List Nat) (f : Nat → Int), (∀ i ∈ l, i < ts.length) → (∀ k, 0 ≤ f k) → ∀ k, 0 ≤ tailGo ts l f k ∧ (k ∈ l → 1 ≤ tailGo ts l f k) ∧ (k ∉ l → tailGo ts l f k = f k)
 | [], f, _, h => fun k => ⟨h k, fun hk => (by cases hk), fun _ => rfl⟩
 | at_ :: r, f, hl, h => fun k => by
  have ht := fine_times hf at_ (hl at_ List.mem_cons_self)
  have hM : 0 ≤ mostU ts f at_ (List.range ts.length) := by
   have : ∀ (l : List Nat) (m : Int), 0 ≤ m → 0 ≤ l.foldl (mstep ts f at_) m := by
    intro l
    induction l with
    | nil => intro m h; exact h
    | cons x l ih =>
     intro m hm
     rw [List.foldl_cons]
     refine ih _ ?_
     unfold mstep
     split
     ·unfold mx; have := h x; split <;> omega
     ·exact hm
   exact this _ 0 (Int.le_refl _)
  have hst : ∀ i, 0 ≤ (fun i => if i = at_ then mostU ts f at_ (List.range ts.length) + (rd_T39 ts (at_ : Int)).f0 else f i) i := fun i => by
   show 0 ≤ if i = at_ then _ else f i
   split
   ·omega
   ·exact h i
  obtain ⟨a, b, c⟩ := tail_pos hf r _ (fun i hi => hl i (List.mem_cons_of_mem _ hi)) hst k
  refine ⟨a, fun hk => ?_, fun hk => ?_⟩
  ·by_cases hr : k ∈ r
   ·exact b hr
   ·have e := c hr
    have hka : k = at_ := (List.mem_cons.1 hk).resolve_right hr
    show 1 ≤ tailGo ts r _ k
    rw [e, if_pos hka]
    omega
  ·have e := c (fun h => hk (List.mem_cons_of_mem _ h))
   show tailGo ts r _ k = f k
   rw [e, if_neg (fun e => hk (by rw [e]; exact List.mem_cons_self))]
end Go.Proofs.YtajapkjplgaigaaDoor.P
end
section
namespace Go.Proofs.YtajapkjplgaigaaDoor.P
open Go.RowKit Go.Proofs.YtajapkjplgaigaaDoorW.PrintWords Go.Proofs.YtajapkjplgaigaaDoorW.PrintLast Go.Proofs.YtajapkjplgaigaaDoorW.PrintMore
attribute [local go_sem] max2_int min2_int max_two min_two max_three min_three max_four min_four   -- for this text's walks alone
set_option linter.unusedVariables false
set_option linter.unusedSimpArgs false
def spec_someAt.f (k : Nat) (s0_0 : List Int) (s0_1 : Int) (l1 : List (S39)) : Option (Int × Int) := (spec_reader_pick.f k s0_0 s0_1 10).bind fun bt398 => (if bt398.1 = 0 then ((spec_reader_one.f k s0_0 bt398.2 (([(-1), (l1.length : Int), 0] : List Int))).bind fun bt403 => (some (bt403.1, bt403.2))) else ((spec_reader_pick.f k s0_0 bt398.2 (mx 1 (l1.length : Int))).bind fun bt405 => (some (bt405.1, bt405.2))))
end Go.Proofs.YtajapkjplgaigaaDoor.P
end
section
namespace Go.Proofs.YtajapkjplgaigaaDoor.P
open Go.RowKit Go.Proofs.YtajapkjplgaigaaDoorW.PrintWords Go.Proofs.YtajapkjplgaigaaDoorW.PrintLast Go.Proofs.YtajapkjplgaigaaDoorW.PrintMore
attribute [local go_sem] max2_int min2_int max_two min_two max_three min_three max_four min_four   -- for this text's walks alone
set_option linter.unusedVariables false
set_option linter.unusedSimpArgs false
mutual
def spec_WaitsFor.j0 : Nat → List (S39) → List Int → Int → List Int → Bool → Option (List Int)
 | 0, _, _, _, _, _ => none
 | k + 1, x0, x1, x2, x7, x21 => if x21 = true then (some ([] : List Int)) else (spec_WaitsFor.l0 k x0 x1 x2 x7 0)
def spec_WaitsFor.l0 : Nat → List (S39) → List Int → Int → List Int → Int → Option (List Int)
 | 0, _, _, _, _, _ => none
 | k + 1, x0, x1, x2, x7, x8 => if 0 ≤ x2 then (if x2 < (x0.length : Int) then (if x8 < (((rd_T39 x0 x2).f1).length : Int) then (if 0 ≤ x8 then ((spec_isIn.f k x1 (rd ((rd_T39 x0 x2).f1) x8)).bind fun t443 => (if t443 = true then (spec_WaitsFor.l0 k x0 x1 x2 x7 (wrap64 (x8 + 1))) else (if x7.length < 17592186044416 then (spec_WaitsFor.l0 k x0 x1 x2 (x7 ++ [rd ((rd_T39 x0 x2).f1) x8]) (wrap64 (x8 + 1))) else (none)))) else (none)) else (some x7)) else (none)) else (none)
end
def spec_WaitsFor.f (k : Nat) (l0 : List (S39)) (l1 : List Int) (a2 : Int) : Option (List Int) := (some (([] : List Int) : List Int)).bind fun y435 => ((spec_validDone.f k l0 l1).bind fun t438 => (if t438 = true then ((spec_inRange.f a2 0 (wrap64 ((l0.length : Int) - 1))).bind fun t439 => (spec_WaitsFor.j0 k l0 l1 a2 y435 (!t439))) else (spec_WaitsFor.j0 k l0 l1 a2 y435 true)))
end Go.Proofs.YtajapkjplgaigaaDoor.P
end
section
namespace Go.Proofs.YtajapkjplgaigaaDoor.P
open Go.RowKit Go.Proofs.YtajapkjplgaigaaDoorW.PrintWords Go.Proofs.YtajapkjplgaigaaDoorW.PrintLast Go.Proofs.YtajapkjplgaigaaDoorW.PrintMore
attribute [local go_sem] max2_int min2_int max_two min_two max_three min_three max_four min_four   -- for this text's walks alone
set_option linter.unusedVariables false
set_option linter.unusedSimpArgs false
def laws_equalInts.l0 : Nat → List Int → List Int → Int → Option (Bool)
 | 0, _, _, _ => none
 | k + 1, x0, x1, x5 => if x5 < (x0.length : Int) then (if 0 ≤ x5 then (if x5 < (x1.length : Int) then (if (rd x0 x5) = (rd x1 x5) then (laws_equalInts.l0 k x0 x1 (wrap64 (x5 + 1))) else (some false)) else (none)) else (none)) else (some true)
def laws_equalInts.f (k : Nat) (l0 : List Int) (l1 : List Int) : Option (Bool) := if (l0.length : Int) = (l1.length : Int) then (laws_equalInts.l0 k l0 l1 0) else (some false)
end Go.Proofs.YtajapkjplgaigaaDoor.P
end
section
namespace Go.Proofs.YtajapkjplgaigaaDoor.P
open Go.RowKit Go.Proofs.YtajapkjplgaigaaDoorW.PrintWords Go.Proofs.YtajapkjplgaigaaDoorW.PrintLast Go.Proofs.YtajapkjplgaigaaDoorW.PrintMore
attribute [local go_sem] max2_int min2_int max_two min_two max_three min_three max_four min_four   -- for this text's walks alone
set_option linter.unusedVariables false
set_option linter.unusedSimpArgs false
def laws_isIn.l0 : Nat → List Int → Int → Int → Option (Bool)
 | 0, _, _, _ => none
 | k + 1, x0, x1, x5 => if x5 < (x0.length : Int) then (if 0 ≤ x5 then (if (rd x0 x5) = x1 then (some true) else (laws_isIn.l0 k x0 x1 (wrap64 (x5 + 1)))) else (none)) else (some false)
def laws_isIn.f (k : Nat) (l0 : List Int) (a1 : Int) : Option (Bool) := laws_isIn.l0 k l0 a1 0
end Go.Proofs.YtajapkjplgaigaaDoor.P
end
section
namespace Go.Proofs.YtajapkjplgaigaaDoor.P
open Go.RowKit Go.Shelf Go.Proofs.YtajapkjplgaigaaDoorW.PrintWords Go.Proofs.YtajapkjplgaigaaDoorW.PrintLast Go.Proofs.YtajapkjplgaigaaDoorW.PrintMore
set_option linter.unusedVariables false
set_option linter.unusedSimpArgs false
theorem pairwise_asc : ∀ (l : List Int), ascB l = true → l.Pairwise (· < ·)
 | [], _ => List.Pairwise.nil
 | [x], _ => List.pairwise_singleton _ _
 | x :: y :: r, h => by
  rw [ascB, Bool.and_eq_true, decide_eq_true_eq] at h
  have h2 := pairwise_asc (y :: r) h.2
  refine List.pairwise_cons.2 ⟨fun z hz => ?_, h2⟩
  rcases List.mem_cons.1 hz with rfl | hz
  ·exact h.1
  ·have := (List.pairwise_cons.1 h2).1 z hz
   omega
theorem asc_ext : ∀ (a b : List Int), a.Pairwise (· < ·) → b.Pairwise (· < ·) → (∀ x, x ∈ a ↔ x ∈ b) → a = b
 | [], [], _, _, _ => rfl
 | [], y :: b, _, _, h => absurd ((h y).2 List.mem_cons_self) List.not_mem_nil
 | x :: a, [], _, _, h => absurd ((h x).1 List.mem_cons_self) List.not_mem_nil
 | x :: a, y :: b, ha, hb, h => by
  have ha2 := List.pairwise_cons.1 ha
  have hb2 := List.pairwise_cons.1 hb
  have hxy : x = y := by
   rcases List.mem_cons.1 ((h x).1 List.mem_cons_self) with e | e
   ·exact e
   ·rcases List.mem_cons.1 ((h y).2 List.mem_cons_self) with e2 | e2
    ·exact e2.symm
    ·have := hb2.1 x e
     have := ha2.1 y e2
     omega
  subst hxy
  rw [asc_ext a b ha2.2 hb2.2 (fun z => ⟨fun hz => ?_, fun hz => ?_⟩)]
  ·rcases List.mem_cons.1 ((h z).1 (List.mem_cons_of_mem _ hz)) with e | e
   ·have := ha2.1 z hz
    omega
   ·exact e
  ·rcases List.mem_cons.1 ((h z).2 (List.mem_cons_of_mem _ hz)) with e | e
   ·have := hb2.1 z hz
    omega
   ·exact e
theorem nI_pick_pairwise (p : Nat → Bool) (n : Nat) : (nI (pickN p n)).Pairwise (· < ·) := by
 unfold nI pickN
 rw [List.pairwise_map]
 exact (List.Pairwise.filter _ List.pairwise_lt_range).imp (fun h => by omega)
theorem mem_nI_pick {p : Nat → Bool} {n : Nat} {x : Int} : x ∈ nI (pickN p n) ↔ (0 ≤ x ∧ x < n) ∧ p x.toNat = true := by
 unfold pickN nI
 rw [List.mem_map]
 constructor
 ·rintro ⟨i, hi, rfl⟩
  rw [List.mem_filter, List.mem_range] at hi
  exact ⟨by omega, by simpa using hi.2⟩
 ·rintro ⟨h1, h2⟩
  exact ⟨x.toNat, List.mem_filter.2 ⟨List.mem_range.2 (by omega), h2⟩, by omega⟩
def waitL (needs done : List Int) : List Int := needs.filter fun x => !decide (x ∈ done)
def waitsL (ts : List TT) (done : List Int) (a : Int) : List Int := if (doneP ts done).isSome = true ∧ 0 ≤ a ∧ a < ts.length then waitL (rd_T39 ts a).f1 done else []
end Go.Proofs.YtajapkjplgaigaaDoor.P
end
section
namespace Go.Proofs.YtajapkjplgaigaaDoor.P
open Go.RowKit Go.Shelf Go.Proofs.YtajapkjplgaigaaDoorW.PrintWords Go.Proofs.YtajapkjplgaigaaDoorW.PrintLast Go.Proofs.YtajapkjplgaigaaDoorW.PrintMore
set_option linter.unusedVariables false
set_option linter.unusedSimpArgs false
theorem mx_le {a b B : Int} (ha : a ≤ B) (hb : b ≤ B) : mx a b ≤ B := by unfold mx; split <;> omega
theorem le_mx_l (a b : Int) : a ≤ mx a b := by unfold mx; split <;> omega
theorem le_mx_r (a b : Int) : b ≤ mx a b := by unfold mx; split <;> omega
theorem mostF_fold_le (f : Nat → Int) (B : Int) : ∀ (l : List Nat) (m : Int), m ≤ B → (∀ i ∈ l, f i ≤ B) → l.foldl (fun m i => mx m (f i)) m ≤ B
 | [], m, h, _ => h
 | i :: l, m, h, hl => by
  rw [List.foldl_cons]
  exact mostF_fold_le f B l _ (mx_le h (hl i List.mem_cons_self)) (fun j hj => hl j (List.mem_cons_of_mem _ hj))
theorem mostF_le {f : Nat → Int} {B : Int} {l : List Nat} (h0 : 0 ≤ B) (h : ∀ i ∈ l, f i ≤ B) : mostF f l ≤ B := mostF_fold_le f B l 0 h0 h
theorem fold_ge (f : Nat → Int) : ∀ (l : List Nat) (m : Int), m ≤ l.foldl (fun m i => mx m (f i)) m
 | [], m => Int.le_refl _
 | i :: l, m => by
  rw [List.foldl_cons]
  exact Int.le_trans (le_mx_l m (f i)) (fold_ge f l _)
theorem le_fold (f : Nat → Int) : ∀ (l : List Nat) (m : Int), ∀ i ∈ l, f i ≤ l.foldl (fun m i => mx m (f i)) m
 | [], m, i, hi => by cases hi
 | j :: l, m, i, hi => by
  rw [List.foldl_cons]
  rcases List.mem_cons.1 hi with rfl | hi
  ·exact Int.le_trans (le_mx_r m (f i)) (fold_ge f l _)
  ·exact le_fold f l _ i hi
theorem le_mostF {f : Nat → Int} {l : List Nat} {i : Nat} (hi : i ∈ l) : f i ≤ mostF f l := le_fold f l 0 i hi
theorem mostF_nn (f : Nat → Int) (l : List Nat) : 0 ≤ mostF f l := fold_ge f l 0
theorem tailGo_app (ts : List TT) : ∀ (p q : List Nat) (f : Nat → Int), tailGo ts (p ++ q) f = tailGo ts q (tailGo ts p f)
 | [], _, _ => rfl
 | a :: p, q, f => tailGo_app ts p q _
theorem tailGo_off (ts : List TT) : ∀ (l : List Nat) (f : Nat → Int) (k : Nat), k ∉ l → tailGo ts l f k = f k
 | [], _, _, _ => rfl
 | a :: l, f, k, h => by
  show tailGo ts l _ k = f k
  rw [tailGo_off ts l _ k (fun hk => h (List.mem_cons_of_mem _ hk))]
  exact if_neg (fun e => h (by rw [e]; exact List.mem_cons_self))
theorem mst_ge (ts : List TT) (f : Nat → Int) (x : Nat) : ∀ (l : List Nat) (m : Int), m ≤ l.foldl (mstep ts f x) m
 | [], m => Int.le_refl _
 | i :: l, m => by
  rw [List.foldl_cons]
  refine Int.le_trans ?_ (mst_ge ts f x l _)
  unfold mstep
  split
  ·exact le_mx_l _ _
  ·exact Int.le_refl _
theorem le_mst (ts : List TT) (f : Nat → Int) (x : Nat) : ∀ (l : List Nat) (m : Int), ∀ i ∈ l, (x : Int) ∈ (rd_T39 ts (i : Int)).f1 → f i ≤ l.foldl (mstep ts f x) m
 | [], m, i, hi, _ => by cases hi
 | j :: l, m, i, hi, hx => by
  rw [List.foldl_cons]
  rcases List.mem_cons.1 hi with rfl | hi
  ·refine Int.le_trans ?_ (mst_ge ts f x l _)
   unfold mstep
   rw [if_pos hx]
   exact le_mx_r _ _
  ·exact le_mst ts f x l _ i hi hx
theorem full_mem {ts : List TT} {G : GrN} (hs : Small ts) (hg : graphP ts = some G) {i : Nat} (hi : i < ts.length) : i ∈ (orderP (needsM ts)).1 := by
 obtain ⟨hts, _, hOk⟩ := graphP_ok hg
 obtain ⟨hf, hnd, _⟩ := graphP_fine hg
 obtain ⟨_, hO⟩ := topOrder_ev ts hs hf
 have hfull := hOk.full
 rw [hnd, hts] at hfull
 have h1 := hO.bit i
 rw [hfull, Nat.testBit_two_pow_sub_one, decide_eq_true hi] at h1
 exact of_decide_eq_true h1.symm
theorem tail_user {ts : List TT} {G : GrN} (hs : Small ts) (hg : graphP ts = some G) {i x : Nat} (hi : i < ts.length) (hx : (x : Int) ∈ (rd_T39 ts (i : Int)).f1) : tailF ts i < tailF ts x := by
 obtain ⟨hf, hnd, _⟩ := graphP_fine hg
 obtain ⟨_, hO⟩ := topOrder_ev ts hs hf
 have hnd := hO.nd
 obtain ⟨a, b, hab⟩ : ∃ a b, (orderP (needsM ts)).1 = a ++ i :: b := List.append_of_mem (full_mem hs hg hi)
 have hxa := mem_nI.1 (order_topo hf a i b hab _ hx)
 obtain ⟨c, d, hcd⟩ : ∃ c d, a = c ++ x :: d := List.append_of_mem hxa
 have hxn : x < ts.length := hO.lt x (by rw [hab]; exact List.mem_append_left _ hxa)
 have ht := fine_times hf x hxn
 have hrev : (orderP (needsM ts)).1.reverse = ((x :: d ++ i :: b).reverse) ++ c.reverse := by rw [hab, hcd]; simp
 have hrev2 : (x :: d ++ i :: b).reverse = (d ++ i :: b).reverse ++ [x] := by simp
 rw [hab, hcd] at hnd
 have hnd2 : (c ++ (x :: (d ++ i :: b))).Nodup := by simpa using hnd
 obtain ⟨_, h2, h3⟩ := List.nodup_append.1 hnd2
 have hxc : x ∉ c.reverse := fun h => h3 x (List.mem_reverse.1 h) x List.mem_cons_self rfl
 have hic : i ∉ c.reverse := fun h => h3 i (List.mem_reverse.1 h) i (by simp) rfl
 have hix : i ≠ x := fun e => (List.nodup_cons.1 h2).1 (by rw [← e]; simp)
 unfold tailF
 rw [hrev, tailGo_app, tailGo_off ts _ _ i hic, tailGo_off ts _ _ x hxc, hrev2, tailGo_app]
 generalize tailGo ts (d ++ i :: b).reverse (fun _ => 0) = F
 show (if i = x then _ else F i) < (if x = x then mostU ts F x (List.range ts.length) + _ else F x)
 rw [if_neg hix, if_pos rfl]
 have := le_mst ts F x (List.range ts.length) 0 i (List.mem_range.2 hi) hx
 unfold mostU
 omega
theorem DoneOk.time {ts : List TT} {done : List Int} {G : GrN} {s : Nat} (h : DoneOk ts done G s) : timeLeftP ts done = timeL ts done := by
 unfold timeLeftP
 rw [h.doneP]
theorem mem_pick {p : Nat → Bool} {n i : Nat} : i ∈ pickN p n ↔ i < n ∧ p i = true := by simp [pickN]
theorem timeL_next {ts : List TT} (hs : Small ts) {done : List Int} {G : GrN} {s : Nat} (h : DoneOk ts done G s) {x : Int} (hx : x ∈ readyL ts done) : timeL ts (finishL ts done x) ≤ timeL ts done := by
 rw [timeL_most, timeL_most]
 refine mostF_le (mostF_nn _ _) (fun i hi => ?_)
 obtain ⟨hin, hp⟩ := mem_pick.1 hi
 obtain ⟨hx1, hx2⟩ := mem_readyL.1 hx
 have hxm : x.toNat ∈ pickN (pR ts done) ts.length := mem_pick.2 ⟨by omega, hx2⟩
 unfold pR at hp
 simp only [Bool.and_eq_true, Bool.not_eq_true', decide_eq_false_iff_not] at hp
 obtain ⟨hp1, hp2⟩ := hp
 have hnd : ¬ (i : Int) ∈ done := fun hd => hp1 (mem_finishL.2 ⟨⟨by omega, by omega⟩, Or.inr hd⟩)
 by_cases hold : subL (rd_T39 ts (i : Int)).f1 done = true
 ·refine le_mostF (mem_pick.2 ⟨hin, ?_⟩)
  unfold pR
  rw [hold, decide_eq_false hnd]
  rfl
 ·have hxn : x ∈ (rd_T39 ts (i : Int)).f1 := by
   by_cases hh : x ∈ (rd_T39 ts (i : Int)).f1
   ·exact hh
   ·exfalso
    refine hold (List.all_eq_true.2 (fun y hy => decide_eq_true ?_))
    have := of_decide_eq_true (List.all_eq_true.1 hp2 y hy)
    rcases (mem_finishL.1 this).2 with e | e
    ·exact absurd (e ▸ hy) hh
    ·exact e
  have := tail_user hs h.g (i := i) (x := x.toNat) hin (by rw [Int.toNat_of_nonneg hx1.1]; exact hxn)
  exact Int.le_trans (Int.le_of_lt this) (le_mostF hxm)
theorem nil_ok {ts : List TT} {G : GrN} (hg : graphP ts = some G) : ∃ s, DoneOk ts [] G s := by
 obtain ⟨hf, hnd, hts⟩ := graphP_fine hg
 exact ⟨_, ⟨hg, hf, hnd, hts, rfl, rfl, fun x hx => (by cases hx), rfl⟩⟩
theorem time_nil {ts : List TT} (hs : Small ts) {G : GrN} (hg : graphP ts = some G) : timeL ts [] = mostF (tailF ts) (List.range ts.length) := by
 rw [timeL_most]
 refine Int.le_antisymm (mostF_le (mostF_nn _ _) (fun i hi => le_mostF (List.mem_range.2 (mem_pick.1 hi).1))) (mostF_le (mostF_nn _ _) (fun i hi => ?_))
 have hf := (graphP_fine hg).1
 obtain ⟨_, hO⟩ := topOrder_ev ts hs hf
 have key : ∀ (m : Nat) (a : List Nat) (i : Nat) (b : List Nat), a.length ≤ m → (orderP (needsM ts)).1 = a ++ i :: b → tailF ts i ≤ mostF (tailF ts) (pickN (pR ts []) ts.length) := by
  intro m
  induction m with
  | zero =>
   intro a i b hm hab
   have hin : i < ts.length := hO.lt i (by rw [hab]; simp)
   refine le_mostF (mem_pick.2 ⟨hin, ?_⟩)
   have ha : a = [] := List.eq_nil_of_length_eq_zero (by omega)
   subst ha
   unfold pR
   simp only [List.not_mem_nil, decide_false, Bool.not_false, Bool.true_and]
   refine List.all_eq_true.2 (fun y hy => ?_)
   have := order_topo hf [] i b hab y hy
   simp [nI] at this
  | succ m ih =>
   intro a i b hm hab
   have hin : i < ts.length := hO.lt i (by rw [hab]; simp)
   cases hn : (rd_T39 ts (i : Int)).f1 with
   | nil =>
    refine le_mostF (mem_pick.2 ⟨hin, ?_⟩)
    unfold pR
    rw [hn]
    rfl
   | cons y ys =>
    have hy : y ∈ (rd_T39 ts (i : Int)).f1 := by rw [hn]; exact List.mem_cons_self
    obtain ⟨x, hxa, rfl⟩ := List.mem_map.1 (order_topo hf a i b hab y hy)
    obtain ⟨c, d, hcd⟩ : ∃ c d, a = c ++ x :: d := List.append_of_mem hxa
    refine Int.le_trans (Int.le_of_lt (tail_user hs hg hin hy)) (ih c x (d ++ i :: b) ?_ (by rw [hab, hcd]; simp))
    rw [hcd] at hm
    simp at hm
    omega
 have hin := List.mem_range.1 hi
 obtain ⟨a, b, hab⟩ : ∃ a b, (orderP (needsM ts)).1 = a ++ i :: b := List.append_of_mem (full_mem hs hg hin)
 exact key a.length a i b (Nat.le_refl _) hab
theorem some_ready {ts : List TT} (hs : Small ts) {done : List Int} {G : GrN} {s : Nat} (h : DoneOk ts done G s) {i : Nat} (hi : i < ts.length) (hd : ¬ (i : Int) ∈ done) : ∃ j, j < ts.length ∧ pR ts done j = true := by
 have hf := h.fine
 obtain ⟨_, hO⟩ := topOrder_ev ts hs hf
 have key : ∀ (m : Nat) (a : List Nat) (i : Nat) (b : List Nat), a.length ≤ m → (orderP (needsM ts)).1 = a ++ i :: b → ¬ (i : Int) ∈ done → ∃ j, j < ts.length ∧ pR ts done j = true := by
  intro m
  induction m with
  | zero =>
   intro a i b hm hab hd
   refine ⟨i, hO.lt i (by rw [hab]; simp), ?_⟩
   have ha : a = [] := List.eq_nil_of_length_eq_zero (by omega)
   subst ha
   unfold pR
   rw [decide_eq_false hd]
   refine List.all_eq_true.2 (fun y hy => ?_)
   have := order_topo hf [] i b hab y hy
   simp [nI] at this
  | succ m ih =>
   intro a i b hm hab hd
   by_cases hn : subL (rd_T39 ts (i : Int)).f1 done = true
   ·refine ⟨i, hO.lt i (by rw [hab]; simp), ?_⟩
    unfold pR
    rw [decide_eq_false hd, hn]
    rfl
   ·obtain ⟨y, hy, hyd⟩ : ∃ y, y ∈ (rd_T39 ts (i : Int)).f1 ∧ ¬ y ∈ done := by
     refine Classical.byContradiction (fun hc => hn (List.all_eq_true.2 (fun y hy => decide_eq_true ?_)))
     exact Classical.byContradiction (fun hyd => hc ⟨y, hy, hyd⟩)
    obtain ⟨x, hxa, rfl⟩ := List.mem_map.1 (order_topo hf a i b hab y hy)
    obtain ⟨c, d, hcd⟩ : ∃ c d, a = c ++ x :: d := List.append_of_mem hxa
    refine ih c x (d ++ i :: b) ?_ (by rw [hab, hcd]; simp) hyd
    rw [hcd] at hm
    simp at hm
    omega
 obtain ⟨a, b, hab⟩ : ∃ a b, (orderP (needsM ts)).1 = a ++ i :: b := List.append_of_mem (full_mem hs h.g hi)
 exact key a.length a i b (Nat.le_refl _) hab hd
theorem DoneOk.pickL {ts : List TT} {done : List Int} {G : GrN} {s : Nat} (h : DoneOk ts done G s) : done = nI (pickN (inD done) ts.length) := by
 refine asc_ext _ _ (pairwise_asc _ h.asc) (nI_pick_pairwise _ _) (fun x => ?_)
 rw [mem_nI_pick]
 constructor
 ·intro hx
  have := h.rng x hx
  refine ⟨this, decide_eq_true ?_⟩
  rw [Int.toNat_of_nonneg this.1]
  exact hx
 ·rintro ⟨h1, h2⟩
  have := of_decide_eq_true h2
  rwa [Int.toNat_of_nonneg h1.1] at this
theorem time_zero {ts : List TT} (hs : Small ts) {done : List Int} {G : GrN} {s : Nat} (h : DoneOk ts done G s) : timeL ts done = 0 ↔ done.length = ts.length := by
 have hl : done.length = (pickN (inD done) ts.length).length := by
  have := congrArg List.length h.pickL
  rwa [nI_length] at this
 have hall : done.length = ts.length ↔ ∀ i, i < ts.length → (i : Int) ∈ done := by
  rw [hl]
  unfold pickN
  have e : ((List.range ts.length).filter (inD done)).length = (List.range ts.length).length ↔ _ := List.length_filter_eq_length_iff
  rw [List.length_range] at e
  rw [e]
  simp [inD]
 rw [hall, timeL_most]
 constructor
 ·intro h0 i hi
  refine Classical.byContradiction (fun hd => ?_)
  obtain ⟨j, hj, hp⟩ := some_ready hs h hi hd
  have h1 := le_mostF (f := tailF ts) (mem_pick.2 ⟨hj, hp⟩)
  obtain ⟨_, hO⟩ := topOrder_ev ts hs h.fine
  have h2 := (tail_pos h.fine (orderP (needsM ts)).1.reverse (fun _ => 0) (fun i hi => hO.lt i (List.mem_reverse.1 hi)) (fun _ => Int.le_refl _) j).2.1 (List.mem_reverse.2 (full_mem hs h.g hj))
  unfold tailF at h1 h0
  omega
 ·intro h0
  refine Int.le_antisymm (mostF_le (Int.le_refl _) (fun i hi => ?_)) (mostF_nn _ _)
  obtain ⟨h1, h2⟩ := mem_pick.1 hi
  unfold pR at h2
  rw [decide_eq_true (h0 i h1)] at h2
  cases h2
end Go.Proofs.YtajapkjplgaigaaDoor.P
end
section
namespace Go.Proofs.YtajapkjplgaigaaDoor.Pure
open Go.RowKit Go.Proofs.YtajapkjplgaigaaDoor.P
open Go.Proofs.YtajapkjplgaigaaDoorW.PrintWords (rd)
set_option linter.unusedVariables false
theorem less_l0 {ts : List TT} (hs : Small ts) {done : List Int} {G : GrN} {s : Nat} (h : DoneOk ts done G s) : ∀ (r pre : List Int), pre ++ r = readyL ts done → Ev (fun k => laws_FnTimeLeft.l0 k ts done (timeL ts done) (readyL ts done) (pre.length : Int)) true
 | [], pre, he => by
  rw [← he]
  refine Ev.succ ?_
  simp only [laws_FnTimeLeft.l0]
  obtain ⟨s0, h0⟩ := nil_ok h.g
  have e1 : timeLeftP ts [] = longestW ts := by
   rw [h0.time, time_nil hs h.g]
   unfold longestW
   rw [h.g]
   refine Eq.symm ((congrArg (fun n => mostF _ (List.range n)) (by rw [h.gts])).trans (most_same _ _ (List.range ts.length) 0 (fun i hi => tailsW_eq hs h.g i (List.mem_range.1 hi))))
  refine Ev.neg (len_nlt pre) (Ev.bind (x := timeLeftP ts []) (Ev.eq (TimeLeft_is ts hs [])) (Ev.bind (x := longestW ts) (Ev.eq rfl) (Ev.pos e1 (Ev.eq ?_))))
  have hz := time_zero hs h
  by_cases hl : done.length = ts.length
  ·rw [hz.2 hl, hl]; simp
  ·have hne : ¬ timeL ts done = 0 := fun e => hl (hz.1 e)
   have e1 : (timeL ts done == 0) = false := by simpa using hne
   have e2 : ((done.length : Int) == (ts.length : Int)) = false := beq_eq_false_iff_ne.2 (by omega)
   rw [e1, e2]; rfl
 | x :: r, pre, he => by
  have hx : x ∈ readyL ts done := by rw [← he]; simp
  have h1 : rd (readyL ts done) (pre.length : Int) = x := by rw [← he]; exact rdm pre x r
  have h2 : (pre.length : Int) < ((readyL ts done).length : Int) := by rw [← he]; exact len_lt _ _ _
  have h8 : (readyL ts done).length ≤ 8 := by
   have := pickN_len (pR ts done) ts.length
   have := h.n8
   unfold readyL
   rw [nI_length]; omega
  obtain ⟨s', h'⟩ := h.finish hx
  have hm := timeL_next hs h hx
  refine Ev.succ ?_
  simp only [laws_FnTimeLeft.l0, h1]
  refine Ev.pos h2 (Ev.pos (by omega) (Ev.bind (x := (finishL ts done x, true)) (Ev.eq ?_) (Ev.pos rfl (Ev.bind (x := timeL ts (finishL ts done x)) (Ev.eq ?_) (Ev.neg (by omega) ?_)))))
  ·unfold impl_FinishTask.f
   rw [h.finishP x, if_pos hx]
  ·rw [TimeLeft_is ts hs, h'.time]
  ·rw [len_next pre x (by omega)]
   exact less_l0 hs h r (pre ++ [x]) (by rw [← he]; simp)
theorem FnTimeLeft : laws_FnTimeLeft.Pure := by
 intro l0 _ _ hb
 refine Ev.get (f := fun k => laws_FnTimeLeft.f k l0) ?_
 unfold laws_FnTimeLeft.f
 refine Ev.ite (fun _ => Ev.pure _) (fun _ => ?_)
 obtain ⟨B, e0, hB⟩ := newReader_ev l0 hb
 obtain ⟨g, q, e1, hg, h1, h2⟩ := anyGraph_ev hB 0 (by omega) (by omega)
 obtain ⟨done, q2, e2, hd, h3, h4⟩ := someDone_ev hB g hg q (by omega) (by omega)
 have hs := hg.small (by omega) (by omega)
 have hp := TimeLeft_ev g hs done (by omega)
 have hdraw : Ev (fun k => spec_DrawTimeLeft.f k l0) (g, done) := by
  unfold spec_DrawTimeLeft.f spec_DrawValidDone.f
  exact Ev.bind (Ev.bind (Ev.eq e0) (Ev.bind e1 (Ev.bind e2 (Ev.pure _)))) (Ev.pure _)
 refine Ev.bind hdraw (Ev.bind (x := timeLeftP g done) (Ev.eq (TimeLeft_is g hs done)) (Ev.bind hp (Ev.pos rfl ?_)))
 refine Ev.succ ?_
 simp only [laws_FnTimeLeft.j0]
 refine Ev.ite (fun _ => Ev.bind hp (Ev.eq (by simp))) (fun hn => ?_)
 rcases doneP_eq g done with ⟨h5, _⟩ | ⟨G, s, h5, _, h6⟩
 ·exfalso
  refine hn (decide_eq_true ?_)
  show timeLeftP g done < 0
  unfold timeLeftP
  rw [h5]
  show (-1 : Int) < 0
  omega
 ·rw [h6.time]
  refine Ev.bind (x := readyL g done) (Ev.eq ?_) (less_l0 hs h6 (readyL g done) [] rfl)
  unfold impl_ReadyTasks.f
  rw [h5]
  simp only [h6.ready]
end Go.Proofs.YtajapkjplgaigaaDoor.Pure
end
section
namespace Go.Proofs.YtajapkjplgaigaaDoor.fnTimeLeft
open Go.ChangeShapes Go.WideShapes Go.ChangeAt Go.RowKit
open Go.ChangeMaps (open_string shut_string)
open Go.Proofs.YtajapkjplgaigaaDoorW
set_option linter.unusedVariables false
theorem own : ownKnob Tryd.prog.godebug = none := by kernel_rfl
theorem laidOut : laidOutB Tryd.prog = true := by kernel_rfl
def IsRow (k : IntKind) (w : World) (a : Option Addr) (len cap : Nat) (zs : List Int) : Prop :=
 (a = none ∧ len = 0 ∧ cap = 0 ∧ zs = []) ∨
 ∃ x, a = some x ∧ len ≤ cap ∧ cap ≤ maxLen ∧ zs.length = cap ∧ (∀ i, i < zs.length → w.cell? (x.add i) = some (.int k (zs.getD i 0))) ∧ ∀ n ∈ zs, (Lit.int k n).wf = true
theorem gTab : Tryd.prog.globalNamed "math/bits.deBruijn32tab" = some 0 := by kernel_rfl
theorem gTabType : (Tryd.prog.globals[0]?).map (·.type) = some 107 := by kernel_rfl
theorem cellsTab : Tryd.prog.cellsOf 107 = 32 := by kernel_rfl
theorem cellsByte : Tryd.prog.cellsOf 5 = 1 := by kernel_rfl
theorem table {W : World} (h : laidMetH Tryd.prog Rows.fnTimeLeftRow.laid W) : Lib.TabIs Tryd.prog W "math/bits.deBruijn32tab" .u8 [0, 1, 28, 2, 29, 14, 24, 3, 30, 22, 20, 15, 25, 17, 4, 8, 31, 27, 13, 23, 21, 19, 16, 7, 26, 12, 18, 6, 11, 5, 10, 9] :=
 Lib.tabIs_of_head (rest := []) gTab gTabType Tryd.underlying107 Tryd.underlying5 cellsByte cellsTab h
theorem tabOK {W : World} (h : laidMetH Tryd.prog Rows.fnTimeLeftRow.laid W) : TabOK W := by
 intro j hj
 have h2 := (table h).cell gTab j (by simpa using hj)
 rw [h2]
 have h3 : ∀ j, j < 32 → (([0, 1, 28, 2, 29, 14, 24, 3, 30, 22, 20, 15, 25, 17, 4, 8, 31, 27, 13, 23, 21, 19, 16, 7, 26, 12, 18, 6, 11, 5, 10, 9] : List Int).getD j 0) = ((Lib.deBruijn32tab.getD j 0 : Nat) : Int) := by decide
 have h4 := h3 j hj
 simp only [List.getD_eq_getElem?_getD] at h4 ⊢
 first | (rw [h4]) | (simp at h4 ⊢; exact h4) | exact congrArg (fun z => some (Value.int IntKind.u8 z)) h4
noncomputable def laidWorld (os : Os) : World :=
 { World.holding Tryd.prog os ⟨#[], #[], []⟩ with heap := (World.holding Tryd.prog os ⟨#[], #[], []⟩).heap.modify 0 fun
   | .cells _ t frozen => .cells #[.int .u8 0, .int .u8 1, .int .u8 28, .int .u8 2, .int .u8 29, .int .u8 14, .int .u8 24, .int .u8 3, .int .u8 30, .int .u8 22, .int .u8 20, .int .u8 15, .int .u8 25, .int .u8 17, .int .u8 4, .int .u8 8, .int .u8 31, .int .u8 27, .int .u8 13, .int .u8 23, .int .u8 21, .int .u8 19, .int .u8 16, .int .u8 7, .int .u8 26, .int .u8 12, .int .u8 18, .int .u8 6, .int .u8 11, .int .u8 5, .int .u8 10, .int .u8 9] t frozen
   | o => o }
theorem laid_met (os : Os) : laidMet Tryd.prog Rows.fnTimeLeftRow.laid ((laidWorld os).forCall (fun _ _ => 0) ⟨#[], #[.slice none 0 0], []⟩).memory :=
 laidMet_of_run' 8 (by kernel_rfl) (by kernel_rfl)
theorem reads (os : Os) {H : Type} (enc : TypeId × Value → H) : ∃ places, DataW.whole enc Tryd.prog ((laidWorld os).forCall (fun _ _ => 0) ⟨#[], #[.slice none 0 0], []⟩).memory Tryd.f11.params.toList Rows.fnTimeLeftSpec.vars false #[Value.slice none 0 0].toList 8 = some ([.nil], [], places) :=
 ⟨[], by kernel_rfl⟩
set_option maxRecDepth 100000 in
theorem lifted (os : Os) (started : os.Started) (H : Type) (enc : TypeId × Value → H) (F : Stop.Interp) :
  ReturnsInHanded {} Tryd.checked os 11 .any ((OpenSpec.ofChange Rows.fnTimeLeftSpec).preRow enc Tryd.prog Tryd.f11 Rows.fnTimeLeftRow.domain false Rows.fnTimeLeftRow.laid) (((OpenSpec.ofChange Rows.fnTimeLeftSpec).at F).post enc Tryd.prog Tryd.f11 false true false false) := by
 obtain ⟨places, hx⟩ := reads os enc
 refine returnsInHanded_of_row (C := Tryd.checked) (s := OpenSpec.ofChange Rows.fnTimeLeftSpec) own started (by kernel_rfl) Tryd.func11
  (witness_row_at (enc := enc) (C := Tryd.checked) false (laidWorld os) #[.slice none 0 0] rfl (by kernel_rfl) (by kernel_rfl) (by kernel_rfl)
   (OpenSpec.preRow_of_cond 8 hx (by kernel_rfl) (fun k hk => by cases hk) (by kernel_rfl) (laid_met os))) ?_
 intro W base args ds gs before hval0 hW hcnd _ hsz0 hL _ _
 have hsz : (DataW.weightsEach Tryd.prog (Tryd.f11.params.toList ++ Rows.fnTimeLeftSpec.plain.varTypes Tryd.prog) (ds ++ gs)).all (· ≤ reachBytes) = true := hsz0
 have hval : ∀ (j : Nat) t v, Tryd.f11.params[j]? = some t → args[j]? = some v → Value.okWide Tryd.prog W .any base t v := hval0
 have hW' := hW
 obtain ⟨p, q, hA0, hV, rfl, hfz, hnd⟩ := hW
 have hA : DataW.TrodAll enc Tryd.prog W 0 (fun _ => true) true Tryd.f11.params.toList args.toList ds p := hA0
 rw [Tryd.params11] at hA hval hsz
 obtain ⟨v0, vs0, d0, ds0, p0, q0, hargs, rfl, rfl, h0, r0⟩ := trodAll_cons hA
 obtain ⟨rfl, rfl, rfl⟩ := trodAll_nil r0
 obtain rfl : args = #[v0] := by cases args; simp_all
 obtain ⟨rfl, rfl⟩ := trodVars_none hV
 obtain ⟨a0, len0, cap0, rfl⟩ := okWide_slice Tryd.underlying22 (hval 0 22 v0 rfl rfl)
 have k0 := h0
 have lt0 : ∀ x ∈ p0, x.block < W.heap.size := by obtain ⟨m, hm⟩ := k0; exact DataW.trod_lt m _ _ _ hm
 obtain ⟨z0, w0⟩ : ∃ zs, IsRow .u8 W a0 len0 cap0 zs := by
  obtain ⟨fuel, hf⟩ := h0
  rcases open_ints Tryd.underlying22 Tryd.underlying5 (by kernel_rfl) hf with ⟨hcs, _⟩ | ⟨x, l, c, zs, hcs, _, hl, hm, hz, _, hcell, hwz⟩
  ·simp [Value.cells] at hcs
   obtain ⟨rfl, rfl, rfl⟩ := hcs
   exact ⟨[], .inl ⟨rfl, rfl, rfl, rfl⟩⟩
  ·simp [Value.cells] at hcs
   obtain ⟨rfl, rfl, rfl⟩ := hcs
   exact ⟨zs, .inr ⟨_, rfl, hl, hm, by simpa using hz, hcell, hwz⟩⟩
 have y0 : len0 * 1 ≤ 140737488351232 := PrintWords.sized_ints hsz (j := 0) (t := 22) rfl rfl Tryd.underlying22 Tryd.underlying5 (by kernel_rfl) (by kernel_rfl) h0
 clear hA0 hval0 hsz0 hsz
 refine (P.laws_FnTimeLeft.walk Pure.FnTimeLeft a0 len0 cap0 z0 W w0 y0 (tabOK hL)).mono fun e W' ⟨he, bel⟩ => ?_
 subst he
 exact ⟨_, rfl, _, _, _, [], _, [], hW', trodAll_mk1 (shut_bool Tryd.underlying4 _), (trodAll_cons_mk (Below.trod laidOut (by kernel_rfl) (of_decide_eq_true (by kernel_rfl)) k0 bel lt0) trodAll_mk0), rfl, bel.frame _, fun h => by cases h⟩
theorem said : Rows.FnTimeLeftSaid :=
 OpenClaim.holds_of_cond 11 Tryd.f11 rfl rfl rfl rfl rfl rfl rfl ⟨rfl, rfl, rfl, rfl, rfl⟩ rfl rfl rfl rfl rfl (by kernel_rfl) Tryd.func11 (by kernel_rfl)
  (of_decide_eq_true (by kernel_rfl)) (by unfold Func.isWrapper; first | (rw [if_pos (by decide +kernel)]; kernel_rfl) | (rw [if_neg (by decide +kernel)]; exact ⟨rfl, rfl⟩))
  (fun os started H enc _ F => by rw [OpenClaim.pre_eq_preRow]; exact lifted os started H enc F)
theorem plain (f : FuncId) (fn : Func) (hf : Tryd.pinned.checked.prog.funcNamed "loop.example/buildscheduler/laws.FnTimeLeft" = some f) (hfn : Tryd.pinned.checked.prog.funcs[f]? = some fn) :
  false = Tryd.pinned.checked.prog.looks [] ∧ ∀ (j : Nat) t, fn.params[j]? = some t → Tryd.pinned.checked.prog.wantsStandIn t = false := by
 obtain rfl : f = 11 := Option.some.inj ((show Tryd.prog.funcNamed "loop.example/buildscheduler/laws.FnTimeLeft" = some 11 by kernel_rfl).symm.trans hf) |>.symm
 obtain rfl : fn = Tryd.f11 := (Option.some.inj (Tryd.func11.symm.trans hfn)).symm
 refine ⟨by kernel_rfl, fun j t ht => ?_⟩
 rw [Tryd.params11] at ht
 obtain rfl : t = 22 := by simpa using Array.mem_of_getElem? ht
 exact (show Tryd.prog.wantsStandIn 22 = false by kernel_rfl)
theorem card : Rows.FnTimeLeftCardSaid :=
 Claim7.holds_tied_plain_at .later [] _ _ _ _ said (fun _ h => by cases h) (by kernel_rfl) (fun _ h => by cases h) fnTimeLeft_row_tie rfl ⟨rfl, rfl⟩ (by kernel_rfl) rfl plain (by kernel_rfl)
end Go.Proofs.YtajapkjplgaigaaDoor.fnTimeLeft
namespace Go.Proofs.YtajapkjplgaigaaDoor
theorem fnTimeLeft_card : Rows.FnTimeLeftCardSaid := fnTimeLeft.card
end Go.Proofs.YtajapkjplgaigaaDoor
end
