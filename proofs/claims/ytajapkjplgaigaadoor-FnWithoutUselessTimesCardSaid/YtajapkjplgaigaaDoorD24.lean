/- Merged texts of one claim: part 27 of what the statement's proof stands on. No condition. -/
import Derived.Test.YtajapkjplgaigaaDoorD20
import Derived.Test.YtajapkjplgaigaaDoorD23
import Derived.Test.YtajapkjplgaigaaDoorD22
import Derived.Test.YtajapkjplgaigaaDoorD21
import Derived.Test.YtajapkjplgaigaaDoorD2WMore
import Derived.IntWalk
import Derived.Laws.BitsLemmas
section
namespace Go.Proofs.YtajapkjplgaigaaDoor.P
open Go.RowKit Go.Proofs.YtajapkjplgaigaaDoorW.PrintWords Go.Proofs.YtajapkjplgaigaaDoorW.PrintLast Go.Proofs.YtajapkjplgaigaaDoorW.PrintMore
attribute [local go_sem] max2_int min2_int max_two min_two max_three min_three max_four min_four   -- for this text's walks alone
set_option linter.unusedVariables false
set_option linter.unusedSimpArgs false
def spec_validGraph.f (k : Nat) (l0 : List (S39)) : Option (Bool) := (spec_tasksFine.f k l0).bind fun t258 => (if t258 = true then ((spec_topOrder.f k l0).bind fun t259 => (some ((t259.length : Int) == (l0.length : Int)))) else (some false))
set_option maxHeartbeats 8000000 in
set_option maxRecDepth 100000 in
theorem spec_validGraph.calls (k : Nat) (A0 : Option Addr) (c0 : Nat) (l0 : List (S39)) (r : Bool) (w : World) (hr0 : Kd.C k39 w A0 l0.length l0) (hc0 : l0.length ≤ c0) (h : spec_validGraph.f k l0 = some r) :
  Calls Tryd.prog 60 #[.slice A0 l0.length c0] w fun e w' => e = .returned (.bool r) ∧ Below w.heap.size w w' := by
 have HR0 := Aside0.mk hr0
 have HC0 := Aside0.mk hc0
 clear hr0 hc0
 have HB := Aside0.mk (Below.refl w.heap.size w)
 have H : ((spec_tasksFine.f k l0).bind fun t258 => (if t258 = true then ((spec_topOrder.f k l0).bind fun t259 => (some ((t259.length : Int) == (l0.length : Int)))) else (some false))) = some r := h
 clear h
 replace H := Option.bind_eq_some_iff.mp H
 obtain ⟨t258, A20, H⟩ := H
 replace H : (if t258 = true then ((spec_topOrder.f k l0).bind fun t259 => (some ((t259.length : Int) == (l0.length : Int)))) else (some false)) = some r := H
 have A2 := Aside0.mk A20
 clear A20
 by_cases c3 : t258 = true
 ·subst c3
  have H1 : ((spec_topOrder.f k l0).bind fun t259 => (some ((t259.length : Int) == (l0.length : Int)))) = some r := by rw [if_pos rfl] at H; exact H
  clear H
  have H := H1
  clear H1
  replace H := Option.bind_eq_some_iff.mp H
  obtain ⟨t259, A40, H⟩ := H
  replace H : (some ((t259.length : Int) == (l0.length : Int))) = some r := H
  have A4 := Aside0.mk A40
  clear A40
  obtain rfl := Option.some.inj H
  go_enter Tryd.func60, Tryd.ntmps60
  go_wp2_with (first | ((with_reducible refine gate_callee (f := 91) rfl ?_); refine goesL_ (some 4) rfl rfl Tryd.func91 (by kernel_rfl) rfl #[.slice A0 l0.length c0] rfl (by (try simp only [List.map_toArray, List.map_cons, List.map_nil]); first | done | rfl | (simp only [List.length_drop, List.length_take]; rfl)) ?_; (with_reducible refine (spec_tasksFine.calls k _ _ l0 true _ ?side1 ?side2 A2.out).mono ?_); (case side1 => repeat (first | exact HR0.out | (with_reducible refine Kd.C_alloc ?_ _) | (with_reducible refine Kd.C_drewN ?_ _) | (with_reducible refine Kd.C_drew ?_))); (case side2 => exact HC0.out); rintro e w5 ⟨rfl, hb⟩; refine ⟨_, rfl, ?_⟩; have n0_ := Aside0.mk (below_step (by repeat (first | (with_reducible first | exact HB.out | apply below_alloc | apply pw_below_drewN | apply below_drew1) | exact HB.out)) hb); clear HB; have HB := n0_; clear n0_; (try clear hb); (try clear hb2); (try clear hk); (try clear hi)) | (go_at_call 92; (with_reducible refine (spec_topOrder.calls k _ _ l0 t259 _ ?side1 ?side2 A4.out).mono ?_); (case side1 => repeat (first | exact (Kd.C_below HR0.out HB.out) | (with_reducible refine Kd.C_alloc ?_ _) | (with_reducible refine Kd.C_drewN ?_ _) | (with_reducible refine Kd.C_drew ?_))); (case side2 => exact HC0.out); rintro e w6 ⟨v260, rfl, ho0, hb⟩; have n0_ := Aside0.mk (Kd.R_lower ho0 (below_size (by repeat (first | (with_reducible first | exact HB.out | apply below_alloc | apply pw_below_drewN | apply below_drew1) | exact HB.out)))); have n1_ := Aside0.mk (below_step (by repeat (first | (with_reducible first | exact HB.out | apply below_alloc | apply pw_below_drewN | apply below_drew1) | exact HB.out)) hb); clear HB; have HO261 := n0_; have HB := n1_; clear n0_ n1_; (try clear hb); (try clear hb2); (try clear hk); (try clear hi); (try clear ho0); obtain ⟨Ao7, co7, eo7⟩ := Kd.R_slice HO261.out; subst eo7))
  go_ret
  exact ⟨by first | rfl | (simp [errW_none, errW_some] <;> rfl) | (simp [*, errW_none, errW_some] <;> rfl), by repeat (first | (with_reducible first | exact HB.out | apply below_alloc | apply pw_below_drewN | apply below_drew1) | exact HB.out)⟩
 ·replace c3 := Bool.eq_false_iff.mpr c3
  subst c3
  have H1 : (some false) = some r := by rw [if_neg (show ¬ (false = true) by decide)] at H; exact H
  clear H
  have H := H1
  clear H1
  obtain rfl := Option.some.inj H
  go_enter Tryd.func60, Tryd.ntmps60
  go_wp2_with (first | ((with_reducible refine gate_callee (f := 91) rfl ?_); refine goesL_ (some 4) rfl rfl Tryd.func91 (by kernel_rfl) rfl #[.slice A0 l0.length c0] rfl (by (try simp only [List.map_toArray, List.map_cons, List.map_nil]); first | done | rfl | (simp only [List.length_drop, List.length_take]; rfl)) ?_; (with_reducible refine (spec_tasksFine.calls k _ _ l0 false _ ?side1 ?side2 A2.out).mono ?_); (case side1 => repeat (first | exact HR0.out | (with_reducible refine Kd.C_alloc ?_ _) | (with_reducible refine Kd.C_drewN ?_ _) | (with_reducible refine Kd.C_drew ?_))); (case side2 => exact HC0.out); rintro e w8 ⟨rfl, hb⟩; refine ⟨_, rfl, ?_⟩; have n0_ := Aside0.mk (below_step (by repeat (first | (with_reducible first | exact HB.out | apply below_alloc | apply pw_below_drewN | apply below_drew1) | exact HB.out)) hb); clear HB; have HB := n0_; clear n0_; (try clear hb); (try clear hb2); (try clear hk); (try clear hi)))
  go_ret
  exact ⟨by first | rfl | (simp [errW_none, errW_some] <;> rfl) | (simp [*, errW_none, errW_some] <;> rfl), by repeat (first | (with_reducible first | exact HB.out | apply below_alloc | apply pw_below_drewN | apply below_drew1) | exact HB.out)⟩
end Go.Proofs.YtajapkjplgaigaaDoor.P
end
section
namespace Go.Proofs.YtajapkjplgaigaaDoor.P
open Go.RowKit Go.Proofs.YtajapkjplgaigaaDoorW.PrintWords Go.Proofs.YtajapkjplgaigaaDoorW.PrintLast Go.Proofs.YtajapkjplgaigaaDoorW.PrintMore
attribute [local go_sem] max2_int min2_int max_two min_two max_three min_three max_four min_four   -- for this text's walks alone
set_option linter.unusedVariables false
set_option linter.unusedSimpArgs false
mutual
def spec_allNeeds.l0 : Nat → List (S39) → Int → List Int → Int → Option (List Int)
 | 0, _, _, _, _ => none
 | k + 1, x0, x1, x5, x6 => if x6 < (x5.length : Int) then (if 0 ≤ x6 then (if 0 ≤ (rd x5 x6) then (if (rd x5 x6) < (x0.length : Int) then (spec_allNeeds.l1 k x0 x1 x5 x6 ((rd_T39 x0 (rd x5 x6)).f1) 0) else (none)) else (none)) else (none)) else (spec_allNeeds.l2 k x0 x1 x5 (([] : List Int)) 0)
def spec_allNeeds.l1 : Nat → List (S39) → Int → List Int → Int → List Int → Int → Option (List Int)
 | 0, _, _, _, _, _, _ => none
 | k + 1, x0, x1, x5, x6, x7, x8 => if x8 < (x7.length : Int) then (if 0 ≤ x8 then ((spec_isIn.f k x5 (rd x7 x8)).bind fun t552 => (if t552 = true then (spec_allNeeds.l1 k x0 x1 x5 x6 x7 (wrap64 (x8 + 1))) else (if x5.length < 17592186044416 then (spec_allNeeds.l1 k x0 x1 (x5 ++ [rd x7 x8]) x6 x7 (wrap64 (x8 + 1))) else (none)))) else (none)) else (spec_allNeeds.l0 k x0 x1 x5 (wrap64 (x6 + 1)))
def spec_allNeeds.l2 : Nat → List (S39) → Int → List Int → List Int → Int → Option (List Int)
 | 0, _, _, _, _, _ => none
 | k + 1, x0, x1, x5, x9, x10 => if x10 < (x0.length : Int) then (if x10 = x1 then (spec_allNeeds.l2 k x0 x1 x5 x9 (wrap64 (x10 + 1))) else ((spec_isIn.f k x5 x10).bind fun t560 => (if t560 = true then (if x9.length < 17592186044416 then (spec_allNeeds.l2 k x0 x1 x5 (x9 ++ [x10]) (wrap64 (x10 + 1))) else (none)) else (spec_allNeeds.l2 k x0 x1 x5 x9 (wrap64 (x10 + 1)))))) else (some x9)
end
def spec_allNeeds.f (k : Nat) (l0 : List (S39)) (a1 : Int) : Option (List Int) := spec_allNeeds.l0 k l0 a1 (([a1] : List Int)) 0
set_option maxHeartbeats 8000000 in
set_option maxRecDepth 100000 in
theorem spec_allNeeds.calls (k : Nat) (A0 : Option Addr) (c0 : Nat) (l0 : List (S39)) (a1 : Int) (r : List Int) (w : World) (hr0 : Kd.C k39 w A0 l0.length l0) (hc0 : l0.length ≤ c0) (h : spec_allNeeds.f k l0 a1 = some r) :
  Calls Tryd.prog 93 #[.slice A0 l0.length c0, .int .i64 a1] w fun e w' => ∃ v0_ : Value, e = .returned (v0_) ∧ Kd.R (Kd.int .i64) 3 w' w.heap.size (fun _ => True) v0_ r ∧ Below w.heap.size w w' := by
 have HR0 := Aside0.mk hr0
 have HC0 := Aside0.mk hc0
 clear hr0 hc0
 have HB := Aside0.mk (Below.refl w.heap.size w)
 have H : (spec_allNeeds.l0 k l0 a1 (([a1] : List Int)) 0) = some r := h
 clear h
 obtain ⟨y546, hy546⟩ : ∃ y_ : List Int, y_ = (([a1] : List Int)) := ⟨_, rfl⟩
 replace H : (spec_allNeeds.l0 k l0 a1 y546 0) = some r := by first | (rw [hy546]; with_reducible exact H) | (have H2_ := (Option.bind_some _ _).symm.trans H; rw [hy546]; with_reducible exact H2_) | (have H2_ := (Option.bind_some _ _).symm.trans H; with_reducible exact H2_) | with_reducible exact H | (rw [hy546]; exact H) | exact H
 have Ny546 := Aside0.mk hy546
 clear hy546
 have H' := Aside0.mk H
 clear H
 go_enter Tryd.func93, Tryd.ntmps93
 go_wp2_with (first | ((with_reducible refine gate_dst (N := 12) rfl ?_); refine Kd.R_lit (Kd.int .i64) _ 3 ?hg (N := 12) ?hd (xs := ([a1] : List Int)) (inner := [.int .i64 a1]) (ok := fun _ => True) (okp := fun _ => True) ?hr ?hp (fun _ hk => hk) trivial (Below.refl _ _) (Nat.le_refl _) (by simp) ?_; (case hd => rfl); (case hg => rfl); (case hr => first | (go_simp; done) | (go_simp; rfl)); (case hp => exact (Reps.one (show Kd.M (Kd.int .i64) _ _ _ a1 [.int .i64 a1] from rfl) (Reps.none _ _))); intro v547 w3 ho4 hb hg_ hnew_; clear hg_ hnew_; (first | rw [← Ny546.out] at ho4 | (simp only [Int.reduceToNat] at ho4; rw [← Ny546.out] at ho4)); have n0_ := Aside0.mk (Kd.R_lower ho4 (below_size (by repeat (first | (with_reducible first | exact HB.out | apply below_alloc | apply pw_below_drewN | apply below_drew1) | exact HB.out)))); have n1_ := Aside0.mk (below_step (by repeat (first | (with_reducible first | exact HB.out | apply below_alloc | apply pw_below_drewN | apply below_drew1) | exact HB.out)) hb); clear HB; have HO548 := n0_; have HB := n1_; clear n0_ n1_; clear hb ho4))
 go_loopg [5, 6] k (fun kq v5 v6 w' => ∃ (x5_1 : List Int) (x6_1 : Int), v6 = .int .i64 x6_1 ∧ Aside0 (spec_allNeeds.l0 kq l0 a1 x5_1 x6_1 = some r) ∧ Aside0 (kq ≤ k) ∧ Aside0 (Kd.R (Kd.int .i64) 3 w' w.heap.size (fun _ => True) v5 x5_1) ∧ Aside0 (Below w.heap.size w w'))
 case atStart => exact ⟨(y546), (0), (by first | rfl | (simp; done) | (simp [*]; done)), H', ⟨Nat.le_refl _⟩, ⟨by (with_reducible repeat (first | apply Kd.R_alloc | apply Kd.R_drewN | apply Kd.R_drew)); exact HO548.out⟩, ⟨by repeat (first | (with_reducible first | exact HB.out | apply below_alloc | apply pw_below_drewN | apply below_drew1) | exact HB.out)⟩⟩
 case round =>
  clear H'
  try clear p2
  obtain ⟨x5_1, x6_1, rfl, HA, HK1, HO_5, HB⟩ := hrel
  cases gk with
  | zero => exact absurd HA.out (by simp [spec_allNeeds.l0])
  | succ k1 =>
   have H := HA.out
   clear HA
   simp only [spec_allNeeds.l0] at H
   by_cases c5 : x6_1 < (x5_1.length : Int)
   ·rw [if_pos c5] at H
    have c5b0 : decide (x6_1 < (x5_1.length : Int)) = true := decide_eq_true c5
    clear c5
    by_cases c6 : 0 ≤ x6_1
    ·rw [if_pos c6] at H
     have c6b0 : decide (0 ≤ x6_1) = true := decide_eq_true c6
     clear c6
     by_cases c7 : 0 ≤ (rd x5_1 x6_1)
     ·rw [if_pos c7] at H
      have c7b0 : decide (0 ≤ (rd x5_1 x6_1)) = true := decide_eq_true c7
      clear c7
      by_cases c8 : (rd x5_1 x6_1) < (l0.length : Int)
      ·rw [if_pos c8] at H
       have c8b0 : decide ((rd x5_1 x6_1) < (l0.length : Int)) = true := decide_eq_true c8
       clear c8
       have H' := Aside0.mk H
       clear H
       obtain ⟨Ao9, co9, eo9⟩ := Kd.R_slice HO_5.out
       subst eo9
       have p549 : 0 ≤ (x6_1 : Int) := of_decide_eq_true (by first | (with_reducible assumption) | assumption)
       have q549 : x6_1 < (x5_1.length : Int) := of_decide_eq_true (by first | (with_reducible assumption) | assumption)
       obtain ⟨ad549, e549, hx549_0⟩ := Kd.at_int (Kd.R_reads' HO_5.out).2.2 x6_1 p549 q549
       cases e549
       replace p549 := eq_true p549
       replace q549 := eq_true q549
       have p550 : 0 ≤ ((rd x5_1 x6_1) : Int) := of_decide_eq_true (by first | (with_reducible assumption) | assumption)
       have q550 : (rd x5_1 x6_1) < (l0.length : Int) := of_decide_eq_true (by first | (with_reducible assumption) | assumption)
       obtain ⟨ad550, A550_1, c550_1, e550, hx550_0, hx550_1, hx550_2, hx550_3, hl550_1, hi550_1⟩ := at_T39 HR0.out (rd x5_1 x6_1) p550 q550
       cases e550
       replace hx550_0 := (HB.out.cell (World.block_lt_of_cell? w _ hx550_0)).trans hx550_0
       replace hx550_1 := (HB.out.cell (World.block_lt_of_cell? w _ hx550_1)).trans hx550_1
       replace hx550_2 := (HB.out.cell (World.block_lt_of_cell? w _ hx550_2)).trans hx550_2
       replace hx550_3 := (HB.out.cell (World.block_lt_of_cell? w _ hx550_3)).trans hx550_3
       have HR550_1 := Aside0.mk hi550_1
       have HC550_1 := Aside0.mk hl550_1
       clear hi550_1 hl550_1
       replace p550 := eq_true p550
       replace q550 := eq_true q550
       go_wp2
       go_loopg [5, 8] k1 (fun kq v5 v8 w' => ∃ (x5_2 : List Int) (x8_2 : Int), v8 = .int .i64 x8_2 ∧ Aside0 (spec_allNeeds.l1 kq l0 a1 x5_2 x6_1 ((rd_T39 l0 (rd x5_1 x6_1)).f1) x8_2 = some r) ∧ Aside0 (kq ≤ k1) ∧ Aside0 (Kd.R (Kd.int .i64) 3 w' w.heap.size (fun _ => True) v5 x5_2) ∧ Aside0 (Below w.heap.size w w'))
       case atStart => exact ⟨(x5_1), (0), (by first | rfl | (simp; done) | (simp [*]; done)), H', ⟨Nat.le_refl _⟩, ⟨by (with_reducible repeat (first | apply Kd.R_alloc | apply Kd.R_drewN | apply Kd.R_drew)); exact HO_5.out⟩, ⟨by repeat (first | (with_reducible first | exact HB.out | apply below_alloc | apply pw_below_drewN | apply below_drew1) | exact HB.out)⟩⟩
       case round =>
        clear H'
        try clear p2
        try clear c5
        try clear c5b0
        try clear p5
        try clear q5
        try clear hx5
        try clear c6
        try clear c6b0
        try clear c7
        try clear c7b0
        try clear c8
        try clear c8b0
        try clear c9
        try clear hx549_0
        try clear hx550_0
        try clear hx550_1
        try clear hx550_2
        try clear hx550_3
        try clear p2
        try clear p549
        try clear p550
        try clear q549
        try clear q550
        obtain ⟨x5_2, x8_2, rfl, HA, HK2, HO_5, HB⟩ := hrel
        cases gk with
        | zero => exact absurd HA.out (by simp [spec_allNeeds.l1])
        | succ k2 =>
         have H := HA.out
         clear HA
         simp only [spec_allNeeds.l1] at H
         by_cases c10 : x8_2 < (((rd_T39 l0 (rd x5_1 x6_1)).f1).length : Int)
         ·rw [if_pos c10] at H
          have c10b0 : decide (x8_2 < (((rd_T39 l0 (rd x5_1 x6_1)).f1).length : Int)) = true := decide_eq_true c10
          clear c10
          by_cases c11 : 0 ≤ x8_2
          ·rw [if_pos c11] at H
           have c11b0 : decide (0 ≤ x8_2) = true := decide_eq_true c11
           clear c11
           replace H := Option.bind_eq_some_iff.mp H
           obtain ⟨t552, A120, H⟩ := H
           replace H : (if t552 = true then (spec_allNeeds.l1 k2 l0 a1 x5_2 x6_1 ((rd_T39 l0 (rd x5_1 x6_1)).f1) (wrap64 (x8_2 + 1))) else (if x5_2.length < 17592186044416 then (spec_allNeeds.l1 k2 l0 a1 (x5_2 ++ [rd ((rd_T39 l0 (rd x5_1 x6_1)).f1) x8_2]) x6_1 ((rd_T39 l0 (rd x5_1 x6_1)).f1) (wrap64 (x8_2 + 1))) else (none))) = some r := H
           have A12 := Aside0.mk A120
           clear A120
           by_cases c13 : t552 = true
           ·subst c13
            have H1 : (spec_allNeeds.l1 k2 l0 a1 x5_2 x6_1 ((rd_T39 l0 (rd x5_1 x6_1)).f1) (wrap64 (x8_2 + 1))) = some r := by rw [if_pos rfl] at H; exact H
            clear H
            have H := H1
            clear H1
            have H' := Aside0.mk H
            clear H
            have p551 : 0 ≤ (x8_2 : Int) := of_decide_eq_true (by first | (with_reducible assumption) | assumption)
            have q551 : x8_2 < (((rd_T39 l0 (rd x5_1 x6_1)).f1).length : Int) := of_decide_eq_true (by first | (with_reducible assumption) | assumption)
            obtain ⟨ad551, e551, hx551_0⟩ := Kd.at_int HR550_1.out x8_2 p551 q551
            cases e551
            replace hx551_0 := (HB.out.cell (World.block_lt_of_cell? w _ hx551_0)).trans hx551_0
            replace p551 := eq_true p551
            replace q551 := eq_true q551
            obtain ⟨Ao14, co14, eo14⟩ := Kd.R_slice HO_5.out
            subst eo14
            go_wp2_with (first | ((with_reducible refine gate_callee (f := 45) rfl ?_); refine goesL_ (some 38) rfl rfl Tryd.func45 (by kernel_rfl) rfl #[.slice Ao14 x5_2.length co14, .int .i64 (rd ((rd_T39 l0 (rd x5_1 x6_1)).f1) x8_2)] rfl (by (try simp only [List.map_toArray, List.map_cons, List.map_nil]); first | done | rfl | (simp only [List.length_drop, List.length_take]; rfl)) ?_; (with_reducible refine (spec_isIn.calls k2 _ _ x5_2 (rd ((rd_T39 l0 (rd x5_1 x6_1)).f1) x8_2) true _ ?side1 ?side2 A12.out).mono ?_); (case side1 => repeat (first | exact (Kd.R_reads' HO_5.out).2.2 | (with_reducible refine Kd.C_alloc ?_ _) | (with_reducible refine Kd.C_drewN ?_ _) | (with_reducible refine Kd.C_drew ?_))); (case side2 => exact (Kd.R_reads' HO_5.out).2.1); rintro e w' ⟨rfl, ⟨nd, rfl⟩⟩; refine ⟨_, rfl, ?_⟩))
            go_roundg k2
            case measure => have := HK1.out; have := HK2.out; omega
            case rel => exact ⟨(x5_2), (wrap64 (x8_2 + 1)), (by first | rfl | (simp; done) | (simp [*]; done)), H', ⟨by have := HK1.out; have := HK2.out; omega⟩, ⟨by (with_reducible repeat (first | apply Kd.R_alloc | apply Kd.R_drewN | apply Kd.R_drew)); exact HO_5.out⟩, ⟨by repeat (first | (with_reducible first | exact HB.out | apply below_alloc | apply pw_below_drewN | apply below_drew1) | exact HB.out)⟩⟩
           ·replace c13 := Bool.eq_false_iff.mpr c13
            subst c13
            have H1 : (if x5_2.length < 17592186044416 then (spec_allNeeds.l1 k2 l0 a1 (x5_2 ++ [rd ((rd_T39 l0 (rd x5_1 x6_1)).f1) x8_2]) x6_1 ((rd_T39 l0 (rd x5_1 x6_1)).f1) (wrap64 (x8_2 + 1))) else (none)) = some r := by rw [if_neg (show ¬ (false = true) by decide)] at H; exact H
            clear H
            have H := H1
            clear H1
            by_cases c15 : x5_2.length < 17592186044416
            ·rw [if_pos c15] at H
             have LMc15 := Aside0.mk c15
             clear c15
             obtain ⟨y554, hy554⟩ : ∃ y_ : List Int, y_ = (x5_2 ++ [rd ((rd_T39 l0 (rd x5_1 x6_1)).f1) x8_2]) := ⟨_, rfl⟩
             replace H : (spec_allNeeds.l1 k2 l0 a1 y554 x6_1 ((rd_T39 l0 (rd x5_1 x6_1)).f1) (wrap64 (x8_2 + 1))) = some r := by first | (rw [hy554]; with_reducible exact H) | (have H2_ := (Option.bind_some _ _).symm.trans H; rw [hy554]; with_reducible exact H2_) | (have H2_ := (Option.bind_some _ _).symm.trans H; with_reducible exact H2_) | with_reducible exact H | (rw [hy554]; exact H) | exact H
             have Ny554 := Aside0.mk hy554
             clear hy554
             have H' := Aside0.mk H
             clear H
             have p551 : 0 ≤ (x8_2 : Int) := of_decide_eq_true (by first | (with_reducible assumption) | assumption)
             have q551 : x8_2 < (((rd_T39 l0 (rd x5_1 x6_1)).f1).length : Int) := of_decide_eq_true (by first | (with_reducible assumption) | assumption)
             obtain ⟨ad551, e551, hx551_0⟩ := Kd.at_int HR550_1.out x8_2 p551 q551
             cases e551
             replace hx551_0 := (HB.out.cell (World.block_lt_of_cell? w _ hx551_0)).trans hx551_0
             replace p551 := eq_true p551
             replace q551 := eq_true q551
             obtain ⟨Ao16, co16, eo16⟩ := Kd.R_slice HO_5.out
             subst eo16
             go_wp2_with (first | ((with_reducible refine gate_callee (f := 45) rfl ?_); refine goesL_ (some 38) rfl rfl Tryd.func45 (by kernel_rfl) rfl #[.slice Ao16 x5_2.length co16, .int .i64 (rd ((rd_T39 l0 (rd x5_1 x6_1)).f1) x8_2)] rfl (by (try simp only [List.map_toArray, List.map_cons, List.map_nil]); first | done | rfl | (simp only [List.length_drop, List.length_take]; rfl)) ?_; (with_reducible refine (spec_isIn.calls k2 _ _ x5_2 (rd ((rd_T39 l0 (rd x5_1 x6_1)).f1) x8_2) false _ ?side1 ?side2 A12.out).mono ?_); (case side1 => repeat (first | exact (Kd.R_reads' HO_5.out).2.2 | (with_reducible refine Kd.C_alloc ?_ _) | (with_reducible refine Kd.C_drewN ?_ _) | (with_reducible refine Kd.C_drew ?_))); (case side2 => exact (Kd.R_reads' HO_5.out).2.1); rintro e w' ⟨rfl, ⟨nd, rfl⟩⟩; refine ⟨_, rfl, ?_⟩; have p553 : 0 ≤ (x8_2 : Int) := of_decide_eq_true (by first | (with_reducible assumption) | assumption); have q553 : x8_2 < (((rd_T39 l0 (rd x5_1 x6_1)).f1).length : Int) := of_decide_eq_true (by first | (with_reducible assumption) | assumption); obtain ⟨ad553, e553, hx553_0⟩ := Kd.at_int HR550_1.out x8_2 p553 q553; obtain rfl : ad551 = ad553 := (by injection e553); replace hx553_0 := (HB.out.cell (World.block_lt_of_cell? w _ hx553_0)).trans hx553_0; replace p553 := eq_true p553; replace q553 := eq_true q553) | ((with_reducible refine gate_builtin (b := .append) (xs := #[.tmp 40, .tmp 45]) rfl ?_); at_builtin; refine Kd.R_append (Kd.int .i64) (w0 := w) w.heap.size rfl (.tmp 40) (.tmp 45) 24 3 (.int .i64 0) 8 rfl Tryd.underlying24 info3 rfl (by decide) (by omega) (.slice Ao16 x5_2.length co16) x5_2 (rd ((rd_T39 l0 (rd x5_1 x6_1)).f1) x8_2) [.int .i64 (rd ((rd_T39 l0 (rd x5_1 x6_1)).f1) x8_2)] (fun _ => True) (fun _ => False) rfl rfl ?aP (fun _ hk => hk.elim) ?aF ?aO ?aB ?aS ?aL ?_; (case aP => exact rfl); (case aB => exact (by repeat (first | (with_reducible first | exact HB.out | apply below_alloc | apply pw_below_drewN | apply below_drew1) | exact HB.out))); (case aF => exact (fun _ _ => trivial)); (case aO => exact (by (with_reducible repeat (first | apply Kd.R_alloc | apply Kd.R_drewN | apply Kd.R_drew)); exact HO_5.out)); (case aS => exact (below_size (by repeat (first | (with_reducible first | exact HB.out | apply below_alloc | apply pw_below_drewN | apply below_drew1) | exact HB.out)))); (case aL => have := LMc15.out; omega); intro v555 w17 ho hb hg hat; rw [← Ny554.out] at ho; have n0_ := Aside0.mk (hb); have n1_ := Aside0.mk (ho); clear HB; clear HO_5; have HB := n0_; have HO556 := n1_; clear n0_ n1_; clear ho hb hg hat))
             go_roundg k2
             case measure => have := HK1.out; have := HK2.out; omega
             case rel => exact ⟨(y554), (wrap64 (x8_2 + 1)), (by first | rfl | (simp; done) | (simp [*]; done)), H', ⟨by have := HK1.out; have := HK2.out; omega⟩, ⟨by (with_reducible repeat (first | apply Kd.R_alloc | apply Kd.R_drewN | apply Kd.R_drew)); exact HO556.out⟩, ⟨by repeat (first | (with_reducible first | exact HB.out | apply below_alloc | apply pw_below_drewN | apply below_drew1) | exact HB.out)⟩⟩
            ·rw [if_neg c15] at H
             exact absurd H (by simp)
          ·rw [if_neg c11] at H
           exact absurd H (by simp)
         ·rw [if_neg c10] at H
          have c10b0 : decide (x8_2 < (((rd_T39 l0 (rd x5_1 x6_1)).f1).length : Int)) = false := decide_eq_false c10
          clear c10
          have H' := Aside0.mk H
          clear H
          go_wp2
          go_roundg k2
          case measure => have := HK1.out; have := HK2.out; omega
          case rel => exact ⟨(x5_2), (wrap64 (x6_1 + 1)), (by first | rfl | (simp; done) | (simp [*]; done)), H', ⟨by have := HK1.out; have := HK2.out; omega⟩, ⟨by (with_reducible repeat (first | apply Kd.R_alloc | apply Kd.R_drewN | apply Kd.R_drew)); exact HO_5.out⟩, ⟨by repeat (first | (with_reducible first | exact HB.out | apply below_alloc | apply pw_below_drewN | apply below_drew1) | exact HB.out)⟩⟩
      ·rw [if_neg c8] at H
       exact absurd H (by simp)
     ·rw [if_neg c7] at H
      exact absurd H (by simp)
    ·rw [if_neg c6] at H
     exact absurd H (by simp)
   ·rw [if_neg c5] at H
    have c5b0 : decide (x6_1 < (x5_1.length : Int)) = false := decide_eq_false c5
    clear c5
    obtain ⟨y557, hy557⟩ : ∃ y_ : List Int, y_ = (([] : List Int)) := ⟨_, rfl⟩
    replace H : (spec_allNeeds.l2 k1 l0 a1 x5_1 y557 0) = some r := by first | (rw [hy557]; with_reducible exact H) | (have H2_ := (Option.bind_some _ _).symm.trans H; rw [hy557]; with_reducible exact H2_) | (have H2_ := (Option.bind_some _ _).symm.trans H; with_reducible exact H2_) | with_reducible exact H | (rw [hy557]; exact H) | exact H
    have Ny557 := Aside0.mk hy557
    clear hy557
    have H' := Aside0.mk H
    clear H
    obtain ⟨Ao18, co18, eo18⟩ := Kd.R_slice HO_5.out
    subst eo18
    go_wp2_with (first | ((with_reducible refine gate_dst (N := 47) rfl ?_); refine Kd.R_lit (Kd.int .i64) _ 3 ?hg (N := 47) ?hd (xs := ([] : List Int)) (inner := []) (ok := fun _ => True) (okp := fun _ => True) ?hr ?hp (fun _ hk => hk) trivial (Below.refl _ _) (Nat.le_refl _) (by simp) ?_; (case hd => rfl); (case hg => rfl); (case hr => first | (go_simp; done) | (go_simp; rfl)); (case hp => exact (Reps.none _ _)); intro v558 w19 ho20 hb hg_ hnew_; clear hg_ hnew_; (first | rw [← Ny557.out] at ho20 | (simp only [Int.reduceToNat] at ho20; rw [← Ny557.out] at ho20)); have n0_ := Aside0.mk (Kd.R_elder' (by (with_reducible repeat (first | apply Kd.R_alloc | apply Kd.R_drewN | apply Kd.R_drew)); exact HO_5.out) (Kd.R_base ho20) hb); have n1_ := Aside0.mk (Kd.R_lower (Kd.R_new' ho20 (Kd.R_lt (by (with_reducible repeat (first | apply Kd.R_alloc | apply Kd.R_drewN | apply Kd.R_drew)); exact HO_5.out))) (below_size (by repeat (first | (with_reducible first | exact HB.out | apply below_alloc | apply pw_below_drewN | apply below_drew1) | exact HB.out)))); have n2_ := Aside0.mk (below_step (by repeat (first | (with_reducible first | exact HB.out | apply below_alloc | apply pw_below_drewN | apply below_drew1) | exact HB.out)) hb); clear HO_5; clear HB; have HO_5 := n0_; have HO559 := n1_; have HB := n2_; clear n0_ n1_ n2_; clear hb ho20))
    go_loopg [9, 10] k1 (fun kq v9 v10 w' => ∃ (x9_2 : List Int) (x10_2 : Int), v10 = .int .i64 x10_2 ∧ Aside0 (spec_allNeeds.l2 kq l0 a1 x5_1 x9_2 x10_2 = some r) ∧ Aside0 (kq ≤ k1) ∧ Aside0 (Kd.R (Kd.int .i64) 3 w' w.heap.size (fun k_ => some k_ ≠ (v9 : Value).ownBlock) (.slice Ao18 x5_1.length co18) x5_1) ∧ Aside0 (Kd.R (Kd.int .i64) 3 w' w.heap.size (fun k_ => some k_ ≠ ((.slice Ao18 x5_1.length co18) : Value).ownBlock) v9 x9_2) ∧ Aside0 (Below w.heap.size w w'))
    case atStart => exact ⟨(y557), (0), (by first | rfl | (simp; done) | (simp [*]; done)), H', ⟨Nat.le_refl _⟩, ⟨by (with_reducible repeat (first | apply Kd.R_alloc | apply Kd.R_drewN | apply Kd.R_drew)); exact Kd.R_mono HO_5.out (fun _ hk => hk.2)⟩, ⟨by (with_reducible repeat (first | apply Kd.R_alloc | apply Kd.R_drewN | apply Kd.R_drew)); exact Kd.R_mono HO559.out (fun _ hk => hk.2)⟩, ⟨by repeat (first | (with_reducible first | exact HB.out | apply below_alloc | apply pw_below_drewN | apply below_drew1) | exact HB.out)⟩⟩
    case round =>
     clear H'
     try clear c1
     try clear p2
     try clear c4
     try clear c5
     try clear c5b0
     try clear p5
     try clear q5
     try clear hx5
     try clear c6
     try clear c6b0
     try clear p6
     try clear c7
     try clear c7b0
     try clear c8
     try clear c8b0
     try clear c9
     try clear c10
     try clear c10b0
     try clear c11
     try clear c11b0
     try clear c13
     try clear c15
     try clear hx549_0
     try clear hx550_0
     try clear hx550_1
     try clear hx550_2
     try clear hx550_3
     try clear hx551_0
     try clear hx553_0
     try clear p2
     try clear p5
     try clear p549
     try clear p550
     try clear p551
     try clear p553
     try clear q5
     try clear q549
     try clear q550
     try clear q551
     try clear q553
     obtain ⟨x9_2, x10_2, rfl, HA, HK2, HO_5, HO_9, HB⟩ := hrel
     cases gk with
     | zero => exact absurd HA.out (by simp [spec_allNeeds.l2])
     | succ k2 =>
      have H := HA.out
      clear HA
      simp only [spec_allNeeds.l2] at H
      by_cases c21 : x10_2 < (l0.length : Int)
      ·rw [if_pos c21] at H
       have c21b0 : decide (x10_2 < (l0.length : Int)) = true := decide_eq_true c21
       clear c21
       by_cases c22 : x10_2 = a1
       ·rw [if_pos c22] at H
        have c22b0 : (x10_2 == a1) = true := beq_iff_eq.mpr c22
        have c22b1 : (x10_2 != a1) = false := bne_eq_false_iff_eq.mpr c22
        clear c22
        have H' := Aside0.mk H
        clear H
        go_wp2
        go_roundg k2
        case measure => have := HK1.out; have := HK2.out; omega
        case rel => exact ⟨(x9_2), (wrap64 (x10_2 + 1)), (by first | rfl | (simp; done) | (simp [*]; done)), H', ⟨by have := HK1.out; have := HK2.out; omega⟩, ⟨by (with_reducible repeat (first | apply Kd.R_alloc | apply Kd.R_drewN | apply Kd.R_drew)); exact HO_5.out⟩, ⟨by (with_reducible repeat (first | apply Kd.R_alloc | apply Kd.R_drewN | apply Kd.R_drew)); exact HO_9.out⟩, ⟨by repeat (first | (with_reducible first | exact HB.out | apply below_alloc | apply pw_below_drewN | apply below_drew1) | exact HB.out)⟩⟩
       ·rw [if_neg c22] at H
        have c22b0 : (x10_2 == a1) = false := beq_eq_false_iff_ne.mpr c22
        have c22b1 : (x10_2 != a1) = true := bne_iff_ne.mpr c22
        replace H := Option.bind_eq_some_iff.mp H
        obtain ⟨t560, A230, H⟩ := H
        replace H : (if t560 = true then (if x9_2.length < 17592186044416 then (spec_allNeeds.l2 k2 l0 a1 x5_1 (x9_2 ++ [x10_2]) (wrap64 (x10_2 + 1))) else (none)) else (spec_allNeeds.l2 k2 l0 a1 x5_1 x9_2 (wrap64 (x10_2 + 1)))) = some r := H
        have A23 := Aside0.mk A230
        clear A230
        by_cases c24 : t560 = true
        ·subst c24
         have H1 : (if x9_2.length < 17592186044416 then (spec_allNeeds.l2 k2 l0 a1 x5_1 (x9_2 ++ [x10_2]) (wrap64 (x10_2 + 1))) else (none)) = some r := by rw [if_pos rfl] at H; exact H
         clear H
         have H := H1
         clear H1
         by_cases c25 : x9_2.length < 17592186044416
         ·rw [if_pos c25] at H
          have LMc25 := Aside0.mk c25
          clear c25
          obtain ⟨y561, hy561⟩ : ∃ y_ : List Int, y_ = (x9_2 ++ [x10_2]) := ⟨_, rfl⟩
          replace H : (spec_allNeeds.l2 k2 l0 a1 x5_1 y561 (wrap64 (x10_2 + 1))) = some r := by first | (rw [hy561]; with_reducible exact H) | (have H2_ := (Option.bind_some _ _).symm.trans H; rw [hy561]; with_reducible exact H2_) | (have H2_ := (Option.bind_some _ _).symm.trans H; with_reducible exact H2_) | with_reducible exact H | (rw [hy561]; exact H) | exact H
          have Ny561 := Aside0.mk hy561
          clear hy561
          have H' := Aside0.mk H
          clear H
          go_wp2_with (first | (go_at_call 45; (with_reducible refine (spec_isIn.calls k2 _ _ x5_1 x10_2 true _ ?side1 ?side2 A23.out).mono ?_); (case side1 => repeat (first | exact (Kd.R_reads' HO_5.out).2.2 | (with_reducible refine Kd.C_alloc ?_ _) | (with_reducible refine Kd.C_drewN ?_ _) | (with_reducible refine Kd.C_drew ?_))); (case side2 => exact (Kd.R_reads' HO_5.out).2.1); rintro e w' ⟨rfl, ⟨nd, rfl⟩⟩) | ((with_reducible refine gate_builtin (b := .append) (xs := #[.tmp 62, .tmp 64]) rfl ?_); at_builtin; refine Kd.R_append (Kd.int .i64) (w0 := w) w.heap.size rfl (.tmp 62) (.tmp 64) 24 3 (.int .i64 0) 8 rfl Tryd.underlying24 info3 rfl (by decide) (by omega) u9 x9_2 x10_2 [.int .i64 x10_2] (fun k_ => some k_ ≠ (.slice Ao18 x5_1.length co18 : Value).ownBlock) (fun _ => False) rfl rfl ?aP (fun _ hk => hk.elim) ?aF ?aO ?aB ?aS ?aL ?_; (case aP => exact rfl); (case aB => exact (by repeat (first | (with_reducible first | exact HB.out | apply below_alloc | apply pw_below_drewN | apply below_drew1) | exact HB.out))); (case aF => exact (fun k_ hk => Kd.fresh' (Kd.R_lt (by (with_reducible repeat (first | apply Kd.R_alloc | apply Kd.R_drewN | apply Kd.R_drew)); exact HO_5.out)) k_ hk)); (case aO => exact (by (with_reducible repeat (first | apply Kd.R_alloc | apply Kd.R_drewN | apply Kd.R_drew)); exact HO_9.out)); (case aS => exact (below_size (by repeat (first | (with_reducible first | exact HB.out | apply below_alloc | apply pw_below_drewN | apply below_drew1) | exact HB.out)))); (case aL => have := LMc25.out; omega); intro v562 w26 ho hb hg hat; rw [← Ny561.out] at ho; have n0_ := Aside0.mk (Kd.R_after (ok := (fun _ => True)) (by (with_reducible repeat (first | apply Kd.R_alloc | apply Kd.R_drewN | apply Kd.R_drew)); exact Kd.R_mono HO_5.out (fun _ hk => ⟨trivial, hk⟩)) hg hat); have n1_ := Aside0.mk (hb); have n2_ := Aside0.mk (ho); clear HO_5; clear HB; clear HO_9; have HO_5 := n0_; have HB := n1_; have HO563 := n2_; clear n0_ n1_ n2_; clear ho hb hg hat))
          go_roundg k2
          case measure => have := HK1.out; have := HK2.out; omega
          case rel => exact ⟨(y561), (wrap64 (x10_2 + 1)), (by first | rfl | (simp; done) | (simp [*]; done)), H', ⟨by have := HK1.out; have := HK2.out; omega⟩, ⟨by (with_reducible repeat (first | apply Kd.R_alloc | apply Kd.R_drewN | apply Kd.R_drew)); exact Kd.R_mono HO_5.out (fun _ hk => hk.2)⟩, ⟨by (with_reducible repeat (first | apply Kd.R_alloc | apply Kd.R_drewN | apply Kd.R_drew)); exact HO563.out⟩, ⟨by repeat (first | (with_reducible first | exact HB.out | apply below_alloc | apply pw_below_drewN | apply below_drew1) | exact HB.out)⟩⟩
         ·rw [if_neg c25] at H
          exact absurd H (by simp)
        ·replace c24 := Bool.eq_false_iff.mpr c24
         subst c24
         have H1 : (spec_allNeeds.l2 k2 l0 a1 x5_1 x9_2 (wrap64 (x10_2 + 1))) = some r := by rw [if_neg (show ¬ (false = true) by decide)] at H; exact H
         clear H
         have H := H1
         clear H1
         have H' := Aside0.mk H
         clear H
         go_wp2_with (first | (go_at_call 45; (with_reducible refine (spec_isIn.calls k2 _ _ x5_1 x10_2 false _ ?side1 ?side2 A23.out).mono ?_); (case side1 => repeat (first | exact (Kd.R_reads' HO_5.out).2.2 | (with_reducible refine Kd.C_alloc ?_ _) | (with_reducible refine Kd.C_drewN ?_ _) | (with_reducible refine Kd.C_drew ?_))); (case side2 => exact (Kd.R_reads' HO_5.out).2.1); rintro e w' ⟨rfl, ⟨nd, rfl⟩⟩))
         go_roundg k2
         case measure => have := HK1.out; have := HK2.out; omega
         case rel => exact ⟨(x9_2), (wrap64 (x10_2 + 1)), (by first | rfl | (simp; done) | (simp [*]; done)), H', ⟨by have := HK1.out; have := HK2.out; omega⟩, ⟨by (with_reducible repeat (first | apply Kd.R_alloc | apply Kd.R_drewN | apply Kd.R_drew)); exact HO_5.out⟩, ⟨by (with_reducible repeat (first | apply Kd.R_alloc | apply Kd.R_drewN | apply Kd.R_drew)); exact HO_9.out⟩, ⟨by repeat (first | (with_reducible first | exact HB.out | apply below_alloc | apply pw_below_drewN | apply below_drew1) | exact HB.out)⟩⟩
      ·rw [if_neg c21] at H
       have c21b0 : decide (x10_2 < (l0.length : Int)) = false := decide_eq_false c21
       clear c21
       obtain rfl := Option.some.inj H
       go_wp2
       go_ret
       exact ⟨_, by first | rfl | (simp [errW_none, errW_some] <;> rfl) | (simp [*, errW_none, errW_some] <;> rfl), by (with_reducible repeat (first | apply Kd.R_alloc | apply Kd.R_drewN | apply Kd.R_drew)); exact Kd.R_mono HO_9.out (fun _ hk => trivial), by repeat (first | (with_reducible first | exact HB.out | apply below_alloc | apply pw_below_drewN | apply below_drew1) | exact HB.out)⟩
end Go.Proofs.YtajapkjplgaigaaDoor.P
end
section
namespace Go.Proofs.YtajapkjplgaigaaDoor.P
open Go.RowKit Go.Proofs.YtajapkjplgaigaaDoorW.PrintWords Go.Proofs.YtajapkjplgaigaaDoorW.PrintLast Go.Proofs.YtajapkjplgaigaaDoorW.PrintMore
attribute [local go_sem] max2_int min2_int max_two min_two max_three min_three max_four min_four   -- for this text's walks alone
set_option linter.unusedVariables false
set_option linter.unusedSimpArgs false
def spec_isUseless.l0 : Nat → List (S39) → Int → Int → Int → Option (Bool)
 | 0, _, _, _, _ => none
 | k + 1, x0, x1, x2, x7 => if 0 ≤ x1 then (if x1 < (x0.length : Int) then (if x7 < (((rd_T39 x0 x1).f1).length : Int) then (if 0 ≤ x7 then ((spec_allNeeds.f k x0 (rd ((rd_T39 x0 x1).f1) x7)).bind fun t567 => ((spec_isIn.f k t567 x2).bind fun t570 => (if t570 = true then (some true) else (spec_isUseless.l0 k x0 x1 x2 (wrap64 (x7 + 1)))))) else (none)) else (some false)) else (none)) else (none)
def spec_isUseless.f (k : Nat) (l0 : List (S39)) (a1 : Int) (a2 : Int) : Option (Bool) := spec_isUseless.l0 k l0 a1 a2 0
set_option maxHeartbeats 8000000 in
set_option maxRecDepth 100000 in
theorem spec_isUseless.calls (k : Nat) (A0 : Option Addr) (c0 : Nat) (l0 : List (S39)) (a1 : Int) (a2 : Int) (r : Bool) (w : World) (hr0 : Kd.C k39 w A0 l0.length l0) (hc0 : l0.length ≤ c0) (h : spec_isUseless.f k l0 a1 a2 = some r) :
  Calls Tryd.prog 61 #[.slice A0 l0.length c0, .int .i64 a1, .int .i64 a2] w fun e w' => e = .returned (.bool r) ∧ Below w.heap.size w w' := by
 have HR0 := Aside0.mk hr0
 have HC0 := Aside0.mk hc0
 clear hr0 hc0
 have HB := Aside0.mk (Below.refl w.heap.size w)
 have H : (spec_isUseless.l0 k l0 a1 a2 0) = some r := h
 clear h
 have H' := Aside0.mk H
 clear H
 go_enter Tryd.func61, Tryd.ntmps61
 go_wp2
 go_loopg [7] k (fun kq v7 w' => ∃ (x7_1 : Int), v7 = .int .i64 x7_1 ∧ Aside0 (spec_isUseless.l0 kq l0 a1 a2 x7_1 = some r) ∧ Aside0 (kq ≤ k) ∧ Aside0 (Below w.heap.size w w'))
 case atStart => exact ⟨(0), (by first | rfl | (simp; done) | (simp [*]; done)), H', ⟨Nat.le_refl _⟩, ⟨by repeat (first | (with_reducible first | exact HB.out | apply below_alloc | apply pw_below_drewN | apply below_drew1) | exact HB.out)⟩⟩
 case round =>
  clear H'
  try clear p2
  obtain ⟨x7_1, rfl, HA, HK1, HB⟩ := hrel
  cases gk with
  | zero => exact absurd HA.out (by simp [spec_isUseless.l0])
  | succ k1 =>
   have H := HA.out
   clear HA
   simp only [spec_isUseless.l0] at H
   by_cases c4 : 0 ≤ a1
   ·rw [if_pos c4] at H
    have c4b0 : decide (0 ≤ a1) = true := decide_eq_true c4
    clear c4
    by_cases c5 : a1 < (l0.length : Int)
    ·rw [if_pos c5] at H
     have c5b0 : decide (a1 < (l0.length : Int)) = true := decide_eq_true c5
     clear c5
     by_cases c6 : x7_1 < (((rd_T39 l0 a1).f1).length : Int)
     ·rw [if_pos c6] at H
      have c6b0 : decide (x7_1 < (((rd_T39 l0 a1).f1).length : Int)) = true := decide_eq_true c6
      clear c6
      by_cases c7 : 0 ≤ x7_1
      ·rw [if_pos c7] at H
       have c7b0 : decide (0 ≤ x7_1) = true := decide_eq_true c7
       clear c7
       replace H := Option.bind_eq_some_iff.mp H
       obtain ⟨t567, A80, H⟩ := H
       replace H : ((spec_isIn.f k1 t567 a2).bind fun t570 => (if t570 = true then (some true) else (spec_isUseless.l0 k1 l0 a1 a2 (wrap64 (x7_1 + 1))))) = some r := H
       have A8 := Aside0.mk A80
       clear A80
       replace H := Option.bind_eq_some_iff.mp H
       obtain ⟨t570, A90, H⟩ := H
       replace H : (if t570 = true then (some true) else (spec_isUseless.l0 k1 l0 a1 a2 (wrap64 (x7_1 + 1)))) = some r := H
       have A9 := Aside0.mk A90
       clear A90
       by_cases c10 : t570 = true
       ·subst c10
        have H1 : (some true) = some r := by rw [if_pos rfl] at H; exact H
        clear H
        have H := H1
        clear H1
        obtain rfl := Option.some.inj H
        have p564 : 0 ≤ (a1 : Int) := of_decide_eq_true (by first | (with_reducible assumption) | assumption)
        have q564 : a1 < (l0.length : Int) := of_decide_eq_true (by first | (with_reducible assumption) | assumption)
        obtain ⟨ad564, A564_1, c564_1, e564, hx564_0, hx564_1, hx564_2, hx564_3, hl564_1, hi564_1⟩ := at_T39 HR0.out a1 p564 q564
        cases e564
        replace hx564_0 := (HB.out.cell (World.block_lt_of_cell? w _ hx564_0)).trans hx564_0
        replace hx564_1 := (HB.out.cell (World.block_lt_of_cell? w _ hx564_1)).trans hx564_1
        replace hx564_2 := (HB.out.cell (World.block_lt_of_cell? w _ hx564_2)).trans hx564_2
        replace hx564_3 := (HB.out.cell (World.block_lt_of_cell? w _ hx564_3)).trans hx564_3
        have HR564_1 := Aside0.mk hi564_1
        have HC564_1 := Aside0.mk hl564_1
        clear hi564_1 hl564_1
        replace p564 := eq_true p564
        replace q564 := eq_true q564
        have p565 : 0 ≤ (a1 : Int) := of_decide_eq_true (by first | (with_reducible assumption) | assumption)
        have q565 : a1 < (l0.length : Int) := of_decide_eq_true (by first | (with_reducible assumption) | assumption)
        obtain ⟨ad565, A565_1, c565_1, e565, hx565_0, hx565_1, hx565_2, hx565_3, hl565_1, hi565_1⟩ := at_T39 HR0.out a1 p565 q565
        obtain rfl : ad564 = ad565 := (by injection e565)
        replace hx565_0 := (HB.out.cell (World.block_lt_of_cell? w _ hx565_0)).trans hx565_0
        replace hx565_1 := (HB.out.cell (World.block_lt_of_cell? w _ hx565_1)).trans hx565_1
        replace hx565_2 := (HB.out.cell (World.block_lt_of_cell? w _ hx565_2)).trans hx565_2
        replace hx565_3 := (HB.out.cell (World.block_lt_of_cell? w _ hx565_3)).trans hx565_3
        have HR565_1 := Aside0.mk hi565_1
        have HC565_1 := Aside0.mk hl565_1
        clear hi565_1 hl565_1
        replace p565 := eq_true p565
        replace q565 := eq_true q565
        have ea_ := Option.some.inj (hx564_1.symm.trans hx565_1)
        injection ea_ with ea_ en_ ec_
        subst ea_
        subst ec_
        clear en_
        have p566 : 0 ≤ (x7_1 : Int) := of_decide_eq_true (by first | (with_reducible assumption) | assumption)
        have q566 : x7_1 < (((rd_T39 l0 a1).f1).length : Int) := of_decide_eq_true (by first | (with_reducible assumption) | assumption)
        obtain ⟨ad566, e566, hx566_0⟩ := Kd.at_int HR565_1.out x7_1 p566 q566
        cases e566
        replace hx566_0 := (HB.out.cell (World.block_lt_of_cell? w _ hx566_0)).trans hx566_0
        replace p566 := eq_true p566
        replace q566 := eq_true q566
        go_wp2_with (first | ((with_reducible refine gate_callee (f := 93) rfl ?_); refine goesL_ (some 27) rfl rfl Tryd.func93 (by kernel_rfl) rfl #[.slice (some ad564) l0.length c0, .int .i64 (rd ((rd_T39 l0 a1).f1) x7_1)] rfl (by (try simp only [List.map_toArray, List.map_cons, List.map_nil]); first | done | rfl | (simp only [List.length_drop, List.length_take]; rfl)) ?_; (with_reducible refine (spec_allNeeds.calls k1 _ _ l0 (rd ((rd_T39 l0 a1).f1) x7_1) t567 _ ?side1 ?side2 A8.out).mono ?_); (case side1 => repeat (first | exact (Kd.C_below HR0.out HB.out) | (with_reducible refine Kd.C_alloc ?_ _) | (with_reducible refine Kd.C_drewN ?_ _) | (with_reducible refine Kd.C_drew ?_))); (case side2 => exact HC0.out); rintro e w11 ⟨v568, rfl, ho0, hb⟩; refine ⟨_, rfl, ?_⟩; have n0_ := Aside0.mk (Kd.R_lower ho0 (below_size (by repeat (first | (with_reducible first | exact HB.out | apply below_alloc | apply pw_below_drewN | apply below_drew1) | exact HB.out)))); have n1_ := Aside0.mk (below_step (by repeat (first | (with_reducible first | exact HB.out | apply below_alloc | apply pw_below_drewN | apply below_drew1) | exact HB.out)) hb); clear HB; have HO569 := n0_; have HB := n1_; clear n0_ n1_; (try clear hb); (try clear hb2); (try clear hk); (try clear hi); (try clear ho0); obtain ⟨Ao12, co12, eo12⟩ := Kd.R_slice HO569.out; subst eo12) | ((with_reducible refine gate_callee (f := 45) rfl ?_); refine goesL_ (some 29) rfl rfl Tryd.func45 (by kernel_rfl) rfl #[.slice Ao12 t567.length co12, .int .i64 a2] rfl (by (try simp only [List.map_toArray, List.map_cons, List.map_nil]); first | done | rfl | (simp only [List.length_drop, List.length_take]; rfl)) ?_; (with_reducible refine (spec_isIn.calls k1 _ _ t567 a2 true _ ?side1 ?side2 A9.out).mono ?_); (case side1 => repeat (first | exact (Kd.R_reads' HO569.out).2.2 | (with_reducible refine Kd.C_alloc ?_ _) | (with_reducible refine Kd.C_drewN ?_ _) | (with_reducible refine Kd.C_drew ?_))); (case side2 => exact (Kd.R_reads' HO569.out).2.1); rintro e w' ⟨rfl, ⟨nd, rfl⟩⟩; refine ⟨_, rfl, ?_⟩))
        go_ret
        exact ⟨by first | rfl | (simp [errW_none, errW_some] <;> rfl) | (simp [*, errW_none, errW_some] <;> rfl), by repeat (first | (with_reducible first | exact HB.out | apply below_alloc | apply pw_below_drewN | apply below_drew1) | exact HB.out)⟩
       ·replace c10 := Bool.eq_false_iff.mpr c10
        subst c10
        have H1 : (spec_isUseless.l0 k1 l0 a1 a2 (wrap64 (x7_1 + 1))) = some r := by rw [if_neg (show ¬ (false = true) by decide)] at H; exact H
        clear H
        have H := H1
        clear H1
        have H' := Aside0.mk H
        clear H
        have p564 : 0 ≤ (a1 : Int) := of_decide_eq_true (by first | (with_reducible assumption) | assumption)
        have q564 : a1 < (l0.length : Int) := of_decide_eq_true (by first | (with_reducible assumption) | assumption)
        obtain ⟨ad564, A564_1, c564_1, e564, hx564_0, hx564_1, hx564_2, hx564_3, hl564_1, hi564_1⟩ := at_T39 HR0.out a1 p564 q564
        cases e564
        replace hx564_0 := (HB.out.cell (World.block_lt_of_cell? w _ hx564_0)).trans hx564_0
        replace hx564_1 := (HB.out.cell (World.block_lt_of_cell? w _ hx564_1)).trans hx564_1
        replace hx564_2 := (HB.out.cell (World.block_lt_of_cell? w _ hx564_2)).trans hx564_2
        replace hx564_3 := (HB.out.cell (World.block_lt_of_cell? w _ hx564_3)).trans hx564_3
        have HR564_1 := Aside0.mk hi564_1
        have HC564_1 := Aside0.mk hl564_1
        clear hi564_1 hl564_1
        replace p564 := eq_true p564
        replace q564 := eq_true q564
        have p565 : 0 ≤ (a1 : Int) := of_decide_eq_true (by first | (with_reducible assumption) | assumption)
        have q565 : a1 < (l0.length : Int) := of_decide_eq_true (by first | (with_reducible assumption) | assumption)
        obtain ⟨ad565, A565_1, c565_1, e565, hx565_0, hx565_1, hx565_2, hx565_3, hl565_1, hi565_1⟩ := at_T39 HR0.out a1 p565 q565
        obtain rfl : ad564 = ad565 := (by injection e565)
        replace hx565_0 := (HB.out.cell (World.block_lt_of_cell? w _ hx565_0)).trans hx565_0
        replace hx565_1 := (HB.out.cell (World.block_lt_of_cell? w _ hx565_1)).trans hx565_1
        replace hx565_2 := (HB.out.cell (World.block_lt_of_cell? w _ hx565_2)).trans hx565_2
        replace hx565_3 := (HB.out.cell (World.block_lt_of_cell? w _ hx565_3)).trans hx565_3
        have HR565_1 := Aside0.mk hi565_1
        have HC565_1 := Aside0.mk hl565_1
        clear hi565_1 hl565_1
        replace p565 := eq_true p565
        replace q565 := eq_true q565
        have ea_ := Option.some.inj (hx564_1.symm.trans hx565_1)
        injection ea_ with ea_ en_ ec_
        subst ea_
        subst ec_
        clear en_
        have p566 : 0 ≤ (x7_1 : Int) := of_decide_eq_true (by first | (with_reducible assumption) | assumption)
        have q566 : x7_1 < (((rd_T39 l0 a1).f1).length : Int) := of_decide_eq_true (by first | (with_reducible assumption) | assumption)
        obtain ⟨ad566, e566, hx566_0⟩ := Kd.at_int HR565_1.out x7_1 p566 q566
        cases e566
        replace hx566_0 := (HB.out.cell (World.block_lt_of_cell? w _ hx566_0)).trans hx566_0
        replace p566 := eq_true p566
        replace q566 := eq_true q566
        go_wp2_with (first | ((with_reducible refine gate_callee (f := 93) rfl ?_); refine goesL_ (some 27) rfl rfl Tryd.func93 (by kernel_rfl) rfl #[.slice (some ad564) l0.length c0, .int .i64 (rd ((rd_T39 l0 a1).f1) x7_1)] rfl (by (try simp only [List.map_toArray, List.map_cons, List.map_nil]); first | done | rfl | (simp only [List.length_drop, List.length_take]; rfl)) ?_; (with_reducible refine (spec_allNeeds.calls k1 _ _ l0 (rd ((rd_T39 l0 a1).f1) x7_1) t567 _ ?side1 ?side2 A8.out).mono ?_); (case side1 => repeat (first | exact (Kd.C_below HR0.out HB.out) | (with_reducible refine Kd.C_alloc ?_ _) | (with_reducible refine Kd.C_drewN ?_ _) | (with_reducible refine Kd.C_drew ?_))); (case side2 => exact HC0.out); rintro e w13 ⟨v568, rfl, ho0, hb⟩; refine ⟨_, rfl, ?_⟩; have n0_ := Aside0.mk (Kd.R_lower ho0 (below_size (by repeat (first | (with_reducible first | exact HB.out | apply below_alloc | apply pw_below_drewN | apply below_drew1) | exact HB.out)))); have n1_ := Aside0.mk (below_step (by repeat (first | (with_reducible first | exact HB.out | apply below_alloc | apply pw_below_drewN | apply below_drew1) | exact HB.out)) hb); clear HB; have HO569 := n0_; have HB := n1_; clear n0_ n1_; (try clear hb); (try clear hb2); (try clear hk); (try clear hi); (try clear ho0); obtain ⟨Ao14, co14, eo14⟩ := Kd.R_slice HO569.out; subst eo14) | ((with_reducible refine gate_callee (f := 45) rfl ?_); refine goesL_ (some 29) rfl rfl Tryd.func45 (by kernel_rfl) rfl #[.slice Ao14 t567.length co14, .int .i64 a2] rfl (by (try simp only [List.map_toArray, List.map_cons, List.map_nil]); first | done | rfl | (simp only [List.length_drop, List.length_take]; rfl)) ?_; (with_reducible refine (spec_isIn.calls k1 _ _ t567 a2 false _ ?side1 ?side2 A9.out).mono ?_); (case side1 => repeat (first | exact (Kd.R_reads' HO569.out).2.2 | (with_reducible refine Kd.C_alloc ?_ _) | (with_reducible refine Kd.C_drewN ?_ _) | (with_reducible refine Kd.C_drew ?_))); (case side2 => exact (Kd.R_reads' HO569.out).2.1); rintro e w' ⟨rfl, ⟨nd, rfl⟩⟩; refine ⟨_, rfl, ?_⟩))
        go_roundg k1
        case measure => have := HK1.out; omega
        case rel => exact ⟨(wrap64 (x7_1 + 1)), (by first | rfl | (simp; done) | (simp [*]; done)), H', ⟨by have := HK1.out; omega⟩, ⟨by repeat (first | (with_reducible first | exact HB.out | apply below_alloc | apply pw_below_drewN | apply below_drew1) | exact HB.out)⟩⟩
      ·rw [if_neg c7] at H
       exact absurd H (by simp)
     ·rw [if_neg c6] at H
      have c6b0 : decide (x7_1 < (((rd_T39 l0 a1).f1).length : Int)) = false := decide_eq_false c6
      clear c6
      obtain rfl := Option.some.inj H
      have p564 : 0 ≤ (a1 : Int) := of_decide_eq_true (by first | (with_reducible assumption) | assumption)
      have q564 : a1 < (l0.length : Int) := of_decide_eq_true (by first | (with_reducible assumption) | assumption)
      obtain ⟨ad564, A564_1, c564_1, e564, hx564_0, hx564_1, hx564_2, hx564_3, hl564_1, hi564_1⟩ := at_T39 HR0.out a1 p564 q564
      cases e564
      replace hx564_0 := (HB.out.cell (World.block_lt_of_cell? w _ hx564_0)).trans hx564_0
      replace hx564_1 := (HB.out.cell (World.block_lt_of_cell? w _ hx564_1)).trans hx564_1
      replace hx564_2 := (HB.out.cell (World.block_lt_of_cell? w _ hx564_2)).trans hx564_2
      replace hx564_3 := (HB.out.cell (World.block_lt_of_cell? w _ hx564_3)).trans hx564_3
      have HR564_1 := Aside0.mk hi564_1
      have HC564_1 := Aside0.mk hl564_1
      clear hi564_1 hl564_1
      replace p564 := eq_true p564
      replace q564 := eq_true q564
      go_wp2
      go_ret
      exact ⟨by first | rfl | (simp [errW_none, errW_some] <;> rfl) | (simp [*, errW_none, errW_some] <;> rfl), by repeat (first | (with_reducible first | exact HB.out | apply below_alloc | apply pw_below_drewN | apply below_drew1) | exact HB.out)⟩
    ·rw [if_neg c5] at H
     exact absurd H (by simp)
   ·rw [if_neg c4] at H
    exact absurd H (by simp)
end Go.Proofs.YtajapkjplgaigaaDoor.P
end
section
namespace Go.Proofs.YtajapkjplgaigaaDoor.P
open Go.RowKit Go.Proofs.YtajapkjplgaigaaDoorW.PrintWords Go.Proofs.YtajapkjplgaigaaDoorW.PrintLast Go.Proofs.YtajapkjplgaigaaDoorW.PrintMore
attribute [local go_sem] max2_int min2_int max_two min_two max_three min_three max_four min_four   -- for this text's walks alone
set_option linter.unusedVariables false
set_option linter.unusedSimpArgs false
mutual
def spec_WithoutUseless.l0 : Nat → List (S39) → List (S39) → Int → Option ((List (S39)))
 | 0, _, _, _ => none
 | k + 1, x0, x3, x4 => if x4 < (x0.length : Int) then (if 0 ≤ x4 then (spec_WithoutUseless.l1 k x0 x3 x4 (([] : List Int)) 0 ((rd_T39 x0 x4).f0) ((rd_T39 x0 x4).f1) ((rd_T39 x0 x4).f2) ((rd_T39 x0 x4).f3)) else (none)) else (some x3)
def spec_WithoutUseless.l1 : Nat → List (S39) → List (S39) → Int → List Int → Int → Int → List Int → Int → Int → Option ((List (S39)))
 | 0, _, _, _, _, _, _, _, _, _ => none
 | k + 1, x0, x3, x4, x6, x7, x577000, x577001, x577002, x577003 => if x7 < (x577001.length : Int) then (if 0 ≤ x7 then ((spec_isUseless.f k x0 x4 (rd x577001 x7)).bind fun t581 => (if t581 = true then (spec_WithoutUseless.l1 k x0 x3 x4 x6 (wrap64 (x7 + 1)) x577000 x577001 x577002 x577003) else (if x6.length < 17592186044416 then (spec_WithoutUseless.l1 k x0 x3 x4 (x6 ++ [rd x577001 x7]) (wrap64 (x7 + 1)) x577000 x577001 x577002 x577003) else (none)))) else (none)) else (if x3.length < 2932031007402 then (spec_WithoutUseless.l0 k x0 (x3 ++ [(⟨x577000, x6, x577002, x577003⟩ : S39)]) (wrap64 (x4 + 1))) else (none))
end
def spec_WithoutUseless.f (k : Nat) (l0 : List (S39)) : Option ((List (S39))) := (spec_validGraph.f k l0).bind fun t574 => (if t574 = true then (spec_WithoutUseless.l0 k l0 (([] : List (S39))) 0) else (some ([] : List (S39))))
set_option maxHeartbeats 8000000 in
set_option maxRecDepth 100000 in
theorem spec_WithoutUseless.calls (k : Nat) (A0 : Option Addr) (c0 : Nat) (l0 : List (S39)) (r : List (S39)) (w : World) (hr0 : Kd.C k39 w A0 l0.length l0) (hc0 : l0.length ≤ c0) (h : spec_WithoutUseless.f k l0 = some r) :
  Calls Tryd.prog 29 #[.slice A0 l0.length c0] w fun e w' => ∃ v0_ : Value, e = .returned (v0_) ∧ Kd.S k39 39 w' w.heap.size (fun _ => True) v0_ r ∧ Below w.heap.size w w' := by
 have hu39 := Tryd.underlying39
 have HR0 := Aside0.mk hr0
 have HC0 := Aside0.mk hc0
 clear hr0 hc0
 have HB := Aside0.mk (Below.refl w.heap.size w)
 have H : ((spec_validGraph.f k l0).bind fun t574 => (if t574 = true then (spec_WithoutUseless.l0 k l0 (([] : List (S39))) 0) else (some ([] : List (S39))))) = some r := h
 clear h
 obtain ⟨y571, hy571⟩ : ∃ y_ : List (S39), y_ = (([] : List (S39))) := ⟨_, rfl⟩
 replace H : ((spec_validGraph.f k l0).bind fun t574 => (if t574 = true then (spec_WithoutUseless.l0 k l0 y571 0) else (some ([] : List (S39))))) = some r := by first | (rw [hy571]; with_reducible exact H) | (have H2_ := (Option.bind_some _ _).symm.trans H; rw [hy571]; with_reducible exact H2_) | (have H2_ := (Option.bind_some _ _).symm.trans H; with_reducible exact H2_) | with_reducible exact H | (rw [hy571]; exact H) | exact H
 have Ny571 := Aside0.mk hy571
 clear hy571
 replace H := Option.bind_eq_some_iff.mp H
 obtain ⟨t574, A20, H⟩ := H
 replace H : (if t574 = true then (spec_WithoutUseless.l0 k l0 y571 0) else (some ([] : List (S39)))) = some r := H
 have A2 := Aside0.mk A20
 clear A20
 by_cases c3 : t574 = true
 ·subst c3
  have H1 : (spec_WithoutUseless.l0 k l0 y571 0) = some r := by rw [if_pos rfl] at H; exact H
  clear H
  have H := H1
  clear H1
  have H' := Aside0.mk H
  clear H
  go_enter Tryd.func29, Tryd.ntmps29
  go_wp2_with (first | ((with_reducible refine gate_dst (N := 8) rfl ?_); refine Kd.S_lit k39 _ 39 ?hg (N := 8) ?hd (xs := ([] : List (S39))) (inner := []) (ok := fun _ => True) (okp := fun _ => True) ?hr ?hp (fun _ hk => hk) trivial (Below.refl _ _) (Nat.le_refl _) (by simp) ?_; (case hd => rfl); (case hg => rfl); (case hr => first | (go_simp; done) | (go_simp; rfl)); (case hp => exact (Reps.none _ _)); intro v572 w4 ho5 hb hg_ hnew_; clear hg_ hnew_; (first | rw [← Ny571.out] at ho5 | (simp only [Int.reduceToNat] at ho5; rw [← Ny571.out] at ho5)); have n0_ := Aside0.mk (Kd.S_lower ho5 (below_size (by repeat (first | (with_reducible first | exact HB.out | apply below_alloc | apply pw_below_drewN | apply below_drew1) | exact HB.out)))); have n1_ := Aside0.mk (below_step (by repeat (first | (with_reducible first | exact HB.out | apply below_alloc | apply pw_below_drewN | apply below_drew1) | exact HB.out)) hb); clear HB; have HO573 := n0_; have HB := n1_; clear n0_ n1_; clear hb ho5) | ((with_reducible refine gate_callee (f := 60) rfl ?_); refine goesL_ (some 10) rfl rfl Tryd.func60 (by kernel_rfl) rfl #[.slice A0 l0.length c0] rfl (by (try simp only [List.map_toArray, List.map_cons, List.map_nil]); first | done | rfl | (simp only [List.length_drop, List.length_take]; rfl)) ?_; (with_reducible refine (spec_validGraph.calls k _ _ l0 true _ ?side1 ?side2 A2.out).mono ?_); (case side1 => repeat (first | exact (Kd.C_below HR0.out HB.out) | (with_reducible refine Kd.C_alloc ?_ _) | (with_reducible refine Kd.C_drewN ?_ _) | (with_reducible refine Kd.C_drew ?_))); (case side2 => exact HC0.out); rintro e w6 ⟨rfl, hb⟩; refine ⟨_, rfl, ?_⟩; have n0_ := Aside0.mk (Kd.S_below (by (with_reducible repeat (first | apply Kd.S_alloc | apply Kd.S_drewN | apply Kd.S_drew)); exact HO573.out) hb); have n1_ := Aside0.mk (below_step (by repeat (first | (with_reducible first | exact HB.out | apply below_alloc | apply pw_below_drewN | apply below_drew1) | exact HB.out)) hb); clear HO573; clear HB; have HO573 := n0_; have HB := n1_; clear n0_ n1_; (try clear hb); (try clear hb2); (try clear hk); (try clear hi)))
  go_loopg [3, 4] k (fun kq v3 v4 w' => ∃ (x3_1 : List (S39)) (x4_1 : Int), v4 = .int .i64 x4_1 ∧ Aside0 (spec_WithoutUseless.l0 kq l0 x3_1 x4_1 = some r) ∧ Aside0 (kq ≤ k) ∧ Aside0 (Kd.S k39 39 w' w.heap.size (fun _ => True) v3 x3_1) ∧ Aside0 (Below w.heap.size w w'))
  case atStart => exact ⟨(y571), (0), (by first | rfl | (simp; done) | (simp [*]; done)), H', ⟨Nat.le_refl _⟩, ⟨by (with_reducible repeat (first | apply Kd.S_alloc | apply Kd.S_drewN | apply Kd.S_drew)); exact HO573.out⟩, ⟨by repeat (first | (with_reducible first | exact HB.out | apply below_alloc | apply pw_below_drewN | apply below_drew1) | exact HB.out)⟩⟩
  case round =>
   clear H'
   try clear c2
   try clear p2
   try clear c3
   try clear c6
   obtain ⟨x3_1, x4_1, rfl, HA, HK1, HO_3, HB⟩ := hrel
   cases gk with
   | zero => exact absurd HA.out (by simp [spec_WithoutUseless.l0])
   | succ k1 =>
    have H := HA.out
    clear HA
    simp only [spec_WithoutUseless.l0] at H
    by_cases c7 : x4_1 < (l0.length : Int)
    ·rw [if_pos c7] at H
     have c7b0 : decide (x4_1 < (l0.length : Int)) = true := decide_eq_true c7
     clear c7
     by_cases c8 : 0 ≤ x4_1
     ·rw [if_pos c8] at H
      have c8b0 : decide (0 ≤ x4_1) = true := decide_eq_true c8
      clear c8
      obtain ⟨y577, hy577⟩ : ∃ y_ : List Int, y_ = (([] : List Int)) := ⟨_, rfl⟩
      replace H : (spec_WithoutUseless.l1 k1 l0 x3_1 x4_1 y577 0 ((rd_T39 l0 x4_1).f0) ((rd_T39 l0 x4_1).f1) ((rd_T39 l0 x4_1).f2) ((rd_T39 l0 x4_1).f3)) = some r := by first | (rw [hy577]; with_reducible exact H) | (have H2_ := (Option.bind_some _ _).symm.trans H; rw [hy577]; with_reducible exact H2_) | (have H2_ := (Option.bind_some _ _).symm.trans H; with_reducible exact H2_) | with_reducible exact H | (rw [hy577]; exact H) | exact H
      have Ny577 := Aside0.mk hy577
      clear hy577
      have H' := Aside0.mk H
      clear H
      have p575 : 0 ≤ (x4_1 : Int) := of_decide_eq_true (by first | (with_reducible assumption) | assumption)
      have q575 : x4_1 < (l0.length : Int) := of_decide_eq_true (by first | (with_reducible assumption) | assumption)
      obtain ⟨ad575, A575_1, c575_1, e575, hx575_0, hx575_1, hx575_2, hx575_3, hl575_1, hi575_1⟩ := at_T39 HR0.out x4_1 p575 q575
      cases e575
      replace hx575_0 := (HB.out.cell (World.block_lt_of_cell? w _ hx575_0)).trans hx575_0
      replace hx575_1 := (HB.out.cell (World.block_lt_of_cell? w _ hx575_1)).trans hx575_1
      replace hx575_2 := (HB.out.cell (World.block_lt_of_cell? w _ hx575_2)).trans hx575_2
      replace hx575_3 := (HB.out.cell (World.block_lt_of_cell? w _ hx575_3)).trans hx575_3
      have HR575_1 := Aside0.mk hi575_1
      have HC575_1 := Aside0.mk hl575_1
      clear hi575_1 hl575_1
      replace p575 := eq_true p575
      replace q575 := eq_true q575
      go_wp2_with (first | ((with_reducible refine gate_dst (N := 5) rfl ?_); refine box_event ?hg (N := 5) ?hd (cs := #[.int .i64 0, .slice none 0 0, .int .i64 0, .int .i64 0]) (t := 39) ?hr ?_; (case hd => rfl); (case hg => rfl); (case hr => first | (go_simp; done) | (go_simp; rfl)); intro gb576 hg w9 hbox hb; have n0_ := Aside0.mk (Kd.S_below (Kd.S_elderB (by (with_reducible repeat (first | apply Kd.S_alloc | apply Kd.S_drewN | apply Kd.S_drew)); exact HO_3.out) gb576 (Nat.le_of_eq hg.symm)) hb); have n1_ := Aside0.mk (below_step (by repeat (first | (with_reducible first | exact HB.out | apply below_alloc | apply pw_below_drewN | apply below_drew1) | exact HB.out)) hb); have n2_ := Aside0.mk (hbox); have n3_ := Aside0.mk ((by rw [hg]; exact (below_size (by repeat (first | (with_reducible first | exact HB.out | apply below_alloc | apply pw_below_drewN | apply below_drew1) | exact HB.out))) : w.heap.size ≤ gb576)); have n4_ := Aside0.mk ((by rw [hg]; exact (below_size (by repeat (first | (with_reducible first | exact HB.out | apply below_alloc | apply pw_below_drewN | apply below_drew1) | exact HB.out))) : w.heap.size ≤ gb576)); clear HO_3; clear HB; have HO_3 := n0_; have HB := n1_; have BK576 := n2_; have GW576 := n3_; have GE576 := n4_; clear n0_ n1_ n2_ n3_ n4_; clear hb hbox hg; have hcz10_0 : w9.cell? ⟨gb576, 0, none⟩ = some (.int .i64 0) := (blk_cell BK576.out 0).trans rfl; have hcz10_1 : w9.cell? ⟨gb576, 1, none⟩ = some (.slice none 0 0) := (blk_cell BK576.out 1).trans rfl; have hcz10_2 : w9.cell? ⟨gb576, 2, none⟩ = some (.int .i64 0) := (blk_cell BK576.out 2).trans rfl; have hcz10_3 : w9.cell? ⟨gb576, 3, none⟩ = some (.int .i64 0) := (blk_cell BK576.out 3).trans rfl; have hfz10_0 := blk_frozen BK576.out 0; have hfz10_1 := blk_frozen BK576.out 1; have hfz10_2 := blk_frozen BK576.out 2; have hfz10_3 := blk_frozen BK576.out 3) | ((with_reducible refine gate_dst (N := 22) rfl ?_); refine Kd.R_lit (Kd.int .i64) _ 3 ?hg (N := 22) ?hd (xs := ([] : List Int)) (inner := []) (ok := fun _ => True) (okp := fun _ => True) ?hr ?hp (fun _ hk => hk) trivial (Below.refl _ _) (Nat.le_refl _) (by simp) ?_; (case hd => rfl); (case hg => rfl); (case hr => first | (go_simp; done) | (go_simp; rfl)); (case hp => exact (Reps.none _ _)); intro v578 w11 ho12 hb hg_ hnew_; clear hg_ hnew_; (first | rw [← Ny577.out] at ho12 | (simp only [Int.reduceToNat] at ho12; rw [← Ny577.out] at ho12)); have n0_ := Aside0.mk (Kd.S_elder' (by (with_reducible repeat (first | apply Kd.S_alloc | apply Kd.S_drewN | apply Kd.S_drew)); exact (Kd.S_mono (Kd.S_far (p := ⟨gb576, 3, none⟩) (Kd.S_far (p := ⟨gb576, 2, none⟩) (Kd.S_far (p := ⟨gb576, 1, none⟩) (Kd.S_far (p := ⟨gb576, 0, none⟩) (Kd.S_mono HO_3.out (fun k_ hk => (⟨hk, hk.2⟩ : _ ∧ k_ ≠ gb576))) (fun _ hk => hk.2) (.int .i64 ((rd_T39 l0 x4_1).f0))) (fun _ hk => hk.2) (.slice A575_1 ((rd_T39 l0 x4_1).f1).length c575_1)) (fun _ hk => hk.2) (.int .i64 ((rd_T39 l0 x4_1).f2))) (fun _ hk => hk.2) (.int .i64 ((rd_T39 l0 x4_1).f3))) (fun _ h_ => h_.1))) (Kd.R_base ho12) hb); have n1_ := Aside0.mk (Kd.R_lower ho12 (below_size (by repeat (first | (with_reducible first | exact HB.out | apply below_alloc | apply pw_below_drewN | apply below_drew1 | refine below_set ?_ GE576.out) | exact HB.out)))); have n2_ := Aside0.mk (blk_below (g := gb576) (o := .cells #[.int .i64 ((rd_T39 l0 x4_1).f0), .slice A575_1 ((rd_T39 l0 x4_1).f1).length c575_1, .int .i64 ((rd_T39 l0 x4_1).f2), .int .i64 ((rd_T39 l0 x4_1).f3)] 39 (0, 0)) (by (with_reducible repeat (first | refine blk_drewN ?_ _ | refine blk_drew ?_ | refine blk_alloc ?_ _)); refine blk_put (cs := #[.int .i64 ((rd_T39 l0 x4_1).f0), .slice A575_1 ((rd_T39 l0 x4_1).f1).length c575_1, .int .i64 ((rd_T39 l0 x4_1).f2), .int .i64 0]) ?_ 3 _ rfl; (with_reducible repeat (first | refine blk_drewN ?_ _ | refine blk_drew ?_ | refine blk_alloc ?_ _)); refine blk_put (cs := #[.int .i64 ((rd_T39 l0 x4_1).f0), .slice A575_1 ((rd_T39 l0 x4_1).f1).length c575_1, .int .i64 0, .int .i64 0]) ?_ 2 _ rfl; (with_reducible repeat (first | refine blk_drewN ?_ _ | refine blk_drew ?_ | refine blk_alloc ?_ _)); refine blk_put (cs := #[.int .i64 ((rd_T39 l0 x4_1).f0), .slice none 0 0, .int .i64 0, .int .i64 0]) ?_ 1 _ rfl; (with_reducible repeat (first | refine blk_drewN ?_ _ | refine blk_drew ?_ | refine blk_alloc ?_ _)); refine blk_put (cs := #[.int .i64 0, .slice none 0 0, .int .i64 0, .int .i64 0]) ?_ 0 _ rfl; (with_reducible repeat (first | refine blk_drewN ?_ _ | refine blk_drew ?_ | refine blk_alloc ?_ _)); exact BK576.out) hb); have n3_ := Aside0.mk (below_step (by repeat (first | (with_reducible first | exact HB.out | apply below_alloc | apply pw_below_drewN | apply below_drew1 | refine below_set ?_ GE576.out) | exact HB.out)) hb); clear HO_3; clear BK576; clear HB; have HO_3 := n0_; have HO579 := n1_; have BK576 := n2_; have HB := n3_; clear n0_ n1_ n2_ n3_; clear hb ho12))
      go_loopg [6, 7] k1 (fun kq v6 v7 w' => ∃ (x6_2 : List Int) (x7_2 : Int), v7 = .int .i64 x7_2 ∧ Aside0 (spec_WithoutUseless.l1 kq l0 x3_1 x4_1 x6_2 x7_2 ((rd_T39 l0 x4_1).f0) ((rd_T39 l0 x4_1).f1) ((rd_T39 l0 x4_1).f2) ((rd_T39 l0 x4_1).f3) = some r) ∧ Aside0 (kq ≤ k1) ∧ Aside0 (Kd.S k39 39 w' w.heap.size (fun k_ => some k_ ≠ (v6 : Value).ownBlock ∧ k_ ≠ gb576) u3 x3_1) ∧ Aside0 (Kd.R (Kd.int .i64) 3 w' w.heap.size (fun _ => True) v6 x6_2) ∧ Aside0 (w'.heap[gb576]? = some (.cells #[.int .i64 ((rd_T39 l0 x4_1).f0), (.slice A575_1 ((rd_T39 l0 x4_1).f1).length c575_1), .int .i64 ((rd_T39 l0 x4_1).f2), .int .i64 ((rd_T39 l0 x4_1).f3)] 39 (0, 0))) ∧ Aside0 (Below w.heap.size w w'))
      case atStart => exact ⟨(y577), (0), (by first | rfl | (simp; done) | (simp [*]; done)), H', ⟨Nat.le_refl _⟩, ⟨by (with_reducible repeat (first | apply Kd.S_alloc | apply Kd.S_drewN | apply Kd.S_drew)); exact Kd.S_mono HO_3.out (fun _ hk => ⟨hk.2, hk.1.2⟩)⟩, ⟨by (with_reducible repeat (first | apply Kd.R_alloc | apply Kd.R_drewN | apply Kd.R_drew)); exact HO579.out⟩, ⟨by (with_reducible repeat (first | refine blk_drewN ?_ _ | refine blk_drew ?_ | refine blk_alloc ?_ _)); exact BK576.out⟩, ⟨by repeat (first | (with_reducible first | exact HB.out | apply below_alloc | apply pw_below_drewN | apply below_drew1 | refine below_set ?_ GE576.out) | exact HB.out)⟩⟩
      case round =>
       clear H'
       try clear c2
       try clear p2
       try clear c3
       try clear c5
       try clear p5
       try clear q5
       try clear hx5
       try clear c6
       try clear c7
       try clear c7b0
       try clear c8
       try clear c8b0
       try clear hcz10_0
       try clear hcz10_1
       try clear hcz10_2
       try clear hcz10_3
       try clear hfz10_0
       try clear hfz10_1
       try clear hfz10_2
       try clear hfz10_3
       try clear hx575_0
       try clear hx575_1
       try clear hx575_2
       try clear hx575_3
       try clear p2
       try clear p575
       try clear q575
       obtain ⟨x6_2, x7_2, rfl, HA, HK2, HO_3, HO_6, BK576, HB⟩ := hrel
       cases gk with
       | zero => exact absurd HA.out (by simp [spec_WithoutUseless.l1])
       | succ k2 =>
        have H := HA.out
        clear HA
        simp only [spec_WithoutUseless.l1] at H
        by_cases c13 : x7_2 < (((rd_T39 l0 x4_1).f1).length : Int)
        ·rw [if_pos c13] at H
         have c13b0 : decide (x7_2 < (((rd_T39 l0 x4_1).f1).length : Int)) = true := decide_eq_true c13
         clear c13
         by_cases c14 : 0 ≤ x7_2
         ·rw [if_pos c14] at H
          have c14b0 : decide (0 ≤ x7_2) = true := decide_eq_true c14
          clear c14
          replace H := Option.bind_eq_some_iff.mp H
          obtain ⟨t581, A150, H⟩ := H
          replace H : (if t581 = true then (spec_WithoutUseless.l1 k2 l0 x3_1 x4_1 x6_2 (wrap64 (x7_2 + 1)) ((rd_T39 l0 x4_1).f0) ((rd_T39 l0 x4_1).f1) ((rd_T39 l0 x4_1).f2) ((rd_T39 l0 x4_1).f3)) else (if x6_2.length < 17592186044416 then (spec_WithoutUseless.l1 k2 l0 x3_1 x4_1 (x6_2 ++ [rd ((rd_T39 l0 x4_1).f1) x7_2]) (wrap64 (x7_2 + 1)) ((rd_T39 l0 x4_1).f0) ((rd_T39 l0 x4_1).f1) ((rd_T39 l0 x4_1).f2) ((rd_T39 l0 x4_1).f3)) else (none))) = some r := H
          have A15 := Aside0.mk A150
          clear A150
          by_cases c16 : t581 = true
          ·subst c16
           have H1 : (spec_WithoutUseless.l1 k2 l0 x3_1 x4_1 x6_2 (wrap64 (x7_2 + 1)) ((rd_T39 l0 x4_1).f0) ((rd_T39 l0 x4_1).f1) ((rd_T39 l0 x4_1).f2) ((rd_T39 l0 x4_1).f3)) = some r := by rw [if_pos rfl] at H; exact H
           clear H
           have H := H1
           clear H1
           have H' := Aside0.mk H
           clear H
           have hcz17_0 : wr.cell? ⟨gb576, 0, none⟩ = some (.int .i64 ((rd_T39 l0 x4_1).f0)) := (blk_cell BK576.out 0).trans rfl
           have hcz17_1 : wr.cell? ⟨gb576, 1, none⟩ = some (.slice A575_1 ((rd_T39 l0 x4_1).f1).length c575_1) := (blk_cell BK576.out 1).trans rfl
           have hcz17_2 : wr.cell? ⟨gb576, 2, none⟩ = some (.int .i64 ((rd_T39 l0 x4_1).f2)) := (blk_cell BK576.out 2).trans rfl
           have hcz17_3 : wr.cell? ⟨gb576, 3, none⟩ = some (.int .i64 ((rd_T39 l0 x4_1).f3)) := (blk_cell BK576.out 3).trans rfl
           have hfz17_0 := blk_frozen BK576.out 0
           have hfz17_1 := blk_frozen BK576.out 1
           have hfz17_2 := blk_frozen BK576.out 2
           have hfz17_3 := blk_frozen BK576.out 3
           have p580 : 0 ≤ (x7_2 : Int) := of_decide_eq_true (by first | (with_reducible assumption) | assumption)
           have q580 : x7_2 < (((rd_T39 l0 x4_1).f1).length : Int) := of_decide_eq_true (by first | (with_reducible assumption) | assumption)
           obtain ⟨ad580, e580, hx580_0⟩ := Kd.at_int HR575_1.out x7_2 p580 q580
           cases e580
           replace hx580_0 := (HB.out.cell (World.block_lt_of_cell? w _ hx580_0)).trans hx580_0
           replace p580 := eq_true p580
           replace q580 := eq_true q580
           go_wp2_with (first | ((with_reducible refine gate_callee (f := 61) rfl ?_); refine goesL_ (some 37) rfl rfl Tryd.func61 (by kernel_rfl) rfl #[.slice (some ad575) l0.length c0, .int .i64 x4_1, .int .i64 (rd ((rd_T39 l0 x4_1).f1) x7_2)] rfl (by (try simp only [List.map_toArray, List.map_cons, List.map_nil]); first | done | rfl | (simp only [List.length_drop, List.length_take]; rfl)) ?_; (with_reducible refine (spec_isUseless.calls k2 _ _ l0 x4_1 (rd ((rd_T39 l0 x4_1).f1) x7_2) true _ ?side1 ?side2 A15.out).mono ?_); (case side1 => repeat (first | exact (Kd.C_below HR0.out HB.out) | (with_reducible refine Kd.C_alloc ?_ _) | (with_reducible refine Kd.C_drewN ?_ _) | (with_reducible refine Kd.C_drew ?_))); (case side2 => exact HC0.out); rintro e w18 ⟨rfl, hb⟩; refine ⟨_, rfl, ?_⟩; have n0_ := Aside0.mk (Kd.S_below (by (with_reducible repeat (first | apply Kd.S_alloc | apply Kd.S_drewN | apply Kd.S_drew)); exact HO_3.out) hb); have n1_ := Aside0.mk (Kd.R_below (by (with_reducible repeat (first | apply Kd.R_alloc | apply Kd.R_drewN | apply Kd.R_drew)); exact HO_6.out) hb); have n2_ := Aside0.mk (blk_below (g := gb576) (o := .cells #[.int .i64 ((rd_T39 l0 x4_1).f0), .slice (some ad580) ((rd_T39 l0 x4_1).f1).length c575_1, .int .i64 ((rd_T39 l0 x4_1).f2), .int .i64 ((rd_T39 l0 x4_1).f3)] 39 (0, 0)) (by (with_reducible repeat (first | refine blk_drewN ?_ _ | refine blk_drew ?_ | refine blk_alloc ?_ _)); exact BK576.out) hb); have n3_ := Aside0.mk (below_step (by repeat (first | (with_reducible first | exact HB.out | apply below_alloc | apply pw_below_drewN | apply below_drew1 | refine below_set ?_ GE576.out) | exact HB.out)) hb); clear HO_3; clear HO_6; clear BK576; clear HB; have HO_3 := n0_; have HO_6 := n1_; have BK576 := n2_; have HB := n3_; clear n0_ n1_ n2_ n3_; (try clear hb); (try clear hb2); (try clear hk); (try clear hi)))
           go_roundg k2
           case measure => have := HK1.out; have := HK2.out; omega
           case rel => exact ⟨(x6_2), (wrap64 (x7_2 + 1)), (by first | rfl | (simp; done) | (simp [*]; done)), H', ⟨by have := HK1.out; have := HK2.out; omega⟩, ⟨by (with_reducible repeat (first | apply Kd.S_alloc | apply Kd.S_drewN | apply Kd.S_drew)); exact HO_3.out⟩, ⟨by (with_reducible repeat (first | apply Kd.R_alloc | apply Kd.R_drewN | apply Kd.R_drew)); exact HO_6.out⟩, ⟨by (with_reducible repeat (first | refine blk_drewN ?_ _ | refine blk_drew ?_ | refine blk_alloc ?_ _)); exact BK576.out⟩, ⟨by repeat (first | (with_reducible first | exact HB.out | apply below_alloc | apply pw_below_drewN | apply below_drew1 | refine below_set ?_ GE576.out) | exact HB.out)⟩⟩
          ·replace c16 := Bool.eq_false_iff.mpr c16
           subst c16
           have H1 : (if x6_2.length < 17592186044416 then (spec_WithoutUseless.l1 k2 l0 x3_1 x4_1 (x6_2 ++ [rd ((rd_T39 l0 x4_1).f1) x7_2]) (wrap64 (x7_2 + 1)) ((rd_T39 l0 x4_1).f0) ((rd_T39 l0 x4_1).f1) ((rd_T39 l0 x4_1).f2) ((rd_T39 l0 x4_1).f3)) else (none)) = some r := by rw [if_neg (show ¬ (false = true) by decide)] at H; exact H
           clear H
           have H := H1
           clear H1
           by_cases c19 : x6_2.length < 17592186044416
           ·rw [if_pos c19] at H
            have LMc19 := Aside0.mk c19
            clear c19
            obtain ⟨y583, hy583⟩ : ∃ y_ : List Int, y_ = (x6_2 ++ [rd ((rd_T39 l0 x4_1).f1) x7_2]) := ⟨_, rfl⟩
            replace H : (spec_WithoutUseless.l1 k2 l0 x3_1 x4_1 y583 (wrap64 (x7_2 + 1)) ((rd_T39 l0 x4_1).f0) ((rd_T39 l0 x4_1).f1) ((rd_T39 l0 x4_1).f2) ((rd_T39 l0 x4_1).f3)) = some r := by first | (rw [hy583]; with_reducible exact H) | (have H2_ := (Option.bind_some _ _).symm.trans H; rw [hy583]; with_reducible exact H2_) | (have H2_ := (Option.bind_some _ _).symm.trans H; with_reducible exact H2_) | with_reducible exact H | (rw [hy583]; exact H) | exact H
            have Ny583 := Aside0.mk hy583
            clear hy583
            have H' := Aside0.mk H
            clear H
            have hcz20_0 : wr.cell? ⟨gb576, 0, none⟩ = some (.int .i64 ((rd_T39 l0 x4_1).f0)) := (blk_cell BK576.out 0).trans rfl
            have hcz20_1 : wr.cell? ⟨gb576, 1, none⟩ = some (.slice A575_1 ((rd_T39 l0 x4_1).f1).length c575_1) := (blk_cell BK576.out 1).trans rfl
            have hcz20_2 : wr.cell? ⟨gb576, 2, none⟩ = some (.int .i64 ((rd_T39 l0 x4_1).f2)) := (blk_cell BK576.out 2).trans rfl
            have hcz20_3 : wr.cell? ⟨gb576, 3, none⟩ = some (.int .i64 ((rd_T39 l0 x4_1).f3)) := (blk_cell BK576.out 3).trans rfl
            have hfz20_0 := blk_frozen BK576.out 0
            have hfz20_1 := blk_frozen BK576.out 1
            have hfz20_2 := blk_frozen BK576.out 2
            have hfz20_3 := blk_frozen BK576.out 3
            have p580 : 0 ≤ (x7_2 : Int) := of_decide_eq_true (by first | (with_reducible assumption) | assumption)
            have q580 : x7_2 < (((rd_T39 l0 x4_1).f1).length : Int) := of_decide_eq_true (by first | (with_reducible assumption) | assumption)
            obtain ⟨ad580, e580, hx580_0⟩ := Kd.at_int HR575_1.out x7_2 p580 q580
            cases e580
            replace hx580_0 := (HB.out.cell (World.block_lt_of_cell? w _ hx580_0)).trans hx580_0
            replace p580 := eq_true p580
            replace q580 := eq_true q580
            go_wp2_with (first | ((with_reducible refine gate_callee (f := 61) rfl ?_); refine goesL_ (some 37) rfl rfl Tryd.func61 (by kernel_rfl) rfl #[.slice (some ad575) l0.length c0, .int .i64 x4_1, .int .i64 (rd ((rd_T39 l0 x4_1).f1) x7_2)] rfl (by (try simp only [List.map_toArray, List.map_cons, List.map_nil]); first | done | rfl | (simp only [List.length_drop, List.length_take]; rfl)) ?_; (with_reducible refine (spec_isUseless.calls k2 _ _ l0 x4_1 (rd ((rd_T39 l0 x4_1).f1) x7_2) false _ ?side1 ?side2 A15.out).mono ?_); (case side1 => repeat (first | exact (Kd.C_below HR0.out HB.out) | (with_reducible refine Kd.C_alloc ?_ _) | (with_reducible refine Kd.C_drewN ?_ _) | (with_reducible refine Kd.C_drew ?_))); (case side2 => exact HC0.out); rintro e w21 ⟨rfl, hb⟩; refine ⟨_, rfl, ?_⟩; have n0_ := Aside0.mk (Kd.S_below (by (with_reducible repeat (first | apply Kd.S_alloc | apply Kd.S_drewN | apply Kd.S_drew)); exact HO_3.out) hb); have n1_ := Aside0.mk (Kd.R_below (by (with_reducible repeat (first | apply Kd.R_alloc | apply Kd.R_drewN | apply Kd.R_drew)); exact HO_6.out) hb); have n2_ := Aside0.mk (blk_below (g := gb576) (o := .cells #[.int .i64 ((rd_T39 l0 x4_1).f0), .slice (some ad580) ((rd_T39 l0 x4_1).f1).length c575_1, .int .i64 ((rd_T39 l0 x4_1).f2), .int .i64 ((rd_T39 l0 x4_1).f3)] 39 (0, 0)) (by (with_reducible repeat (first | refine blk_drewN ?_ _ | refine blk_drew ?_ | refine blk_alloc ?_ _)); exact BK576.out) hb); have n3_ := Aside0.mk (below_step (by repeat (first | (with_reducible first | exact HB.out | apply below_alloc | apply pw_below_drewN | apply below_drew1 | refine below_set ?_ GE576.out) | exact HB.out)) hb); clear HO_3; clear HO_6; clear BK576; clear HB; have HO_3 := n0_; have HO_6 := n1_; have BK576 := n2_; have HB := n3_; clear n0_ n1_ n2_ n3_; (try clear hb); (try clear hb2); (try clear hk); (try clear hi); have hcz22_0 : w21.cell? ⟨gb576, 0, none⟩ = some (.int .i64 ((rd_T39 l0 x4_1).f0)) := (blk_cell BK576.out 0).trans rfl; have hcz22_1 : w21.cell? ⟨gb576, 1, none⟩ = some (.slice (some ad580) ((rd_T39 l0 x4_1).f1).length c575_1) := (blk_cell BK576.out 1).trans rfl; have hcz22_2 : w21.cell? ⟨gb576, 2, none⟩ = some (.int .i64 ((rd_T39 l0 x4_1).f2)) := (blk_cell BK576.out 2).trans rfl; have hcz22_3 : w21.cell? ⟨gb576, 3, none⟩ = some (.int .i64 ((rd_T39 l0 x4_1).f3)) := (blk_cell BK576.out 3).trans rfl; have hfz22_0 := blk_frozen BK576.out 0; have hfz22_1 := blk_frozen BK576.out 1; have hfz22_2 := blk_frozen BK576.out 2; have hfz22_3 := blk_frozen BK576.out 3; have p582 : 0 ≤ (x7_2 : Int) := of_decide_eq_true (by first | (with_reducible assumption) | assumption); have q582 : x7_2 < (((rd_T39 l0 x4_1).f1).length : Int) := of_decide_eq_true (by first | (with_reducible assumption) | assumption); obtain ⟨ad582, e582, hx582_0⟩ := Kd.at_int HR575_1.out x7_2 p582 q582; obtain rfl : ad580 = ad582 := (by injection e582); replace hx582_0 := (HB.out.cell (World.block_lt_of_cell? w _ hx582_0)).trans hx582_0; replace p582 := eq_true p582; replace q582 := eq_true q582) | ((with_reducible refine gate_builtin (b := .append) (xs := #[.tmp 39, .tmp 45]) rfl ?_); at_builtin; refine Kd.R_append (Kd.int .i64) (w0 := w) w.heap.size rfl (.tmp 39) (.tmp 45) 24 3 (.int .i64 0) 8 rfl Tryd.underlying24 info3 rfl (by decide) (by omega) u6 x6_2 (rd ((rd_T39 l0 x4_1).f1) x7_2) [.int .i64 (rd ((rd_T39 l0 x4_1).f1) x7_2)] (fun _ => True) (fun _ => False) rfl rfl ?aP (fun _ hk => hk.elim) ?aF ?aO ?aB ?aS ?aL ?_; (case aP => exact rfl); (case aB => exact (by repeat (first | (with_reducible first | exact HB.out | apply below_alloc | apply pw_below_drewN | apply below_drew1 | refine below_set ?_ GE576.out) | exact HB.out))); (case aF => exact (fun _ _ => trivial)); (case aO => exact (by (with_reducible repeat (first | apply Kd.R_alloc | apply Kd.R_drewN | apply Kd.R_drew)); exact HO_6.out)); (case aS => exact (below_size (by repeat (first | (with_reducible first | exact HB.out | apply below_alloc | apply pw_below_drewN | apply below_drew1 | refine below_set ?_ GE576.out) | exact HB.out)))); (case aL => have := LMc19.out; omega); intro v584 w23 ho hb hg hat; rw [← Ny583.out] at ho; have n0_ := Aside0.mk (Kd.S_after (ok := (fun k_ => k_ ≠ gb576)) (by (with_reducible repeat (first | apply Kd.S_alloc | apply Kd.S_drewN | apply Kd.S_drew)); exact Kd.S_mono HO_3.out (fun _ hk => ⟨hk.2, hk.1⟩)) hg hat); have n1_ := Aside0.mk (blk_grown (g := gb576) (o := .cells #[.int .i64 ((rd_T39 l0 x4_1).f0), .slice (some ad580) ((rd_T39 l0 x4_1).f1).length c575_1, .int .i64 ((rd_T39 l0 x4_1).f2), .int .i64 ((rd_T39 l0 x4_1).f3)] 39 (0, 0)) (by (with_reducible repeat (first | refine blk_drewN ?_ _ | refine blk_drew ?_ | refine blk_alloc ?_ _)); exact BK576.out) hg (Kd.R_ne HO_6.out BK576.out (by decide))); have n2_ := Aside0.mk (hb); have n3_ := Aside0.mk (ho); clear HO_3; clear BK576; clear HB; clear HO_6; have HO_3 := n0_; have BK576 := n1_; have HB := n2_; have HO585 := n3_; clear n0_ n1_ n2_ n3_; clear ho hb hg hat))
            go_roundg k2
            case measure => have := HK1.out; have := HK2.out; omega
            case rel => exact ⟨(y583), (wrap64 (x7_2 + 1)), (by first | rfl | (simp; done) | (simp [*]; done)), H', ⟨by have := HK1.out; have := HK2.out; omega⟩, ⟨by (with_reducible repeat (first | apply Kd.S_alloc | apply Kd.S_drewN | apply Kd.S_drew)); exact Kd.S_mono HO_3.out (fun _ hk => ⟨hk.2, hk.1⟩)⟩, ⟨by (with_reducible repeat (first | apply Kd.R_alloc | apply Kd.R_drewN | apply Kd.R_drew)); exact HO585.out⟩, ⟨by (with_reducible repeat (first | refine blk_drewN ?_ _ | refine blk_drew ?_ | refine blk_alloc ?_ _)); exact BK576.out⟩, ⟨by repeat (first | (with_reducible first | exact HB.out | apply below_alloc | apply pw_below_drewN | apply below_drew1 | refine below_set ?_ GE576.out) | exact HB.out)⟩⟩
           ·rw [if_neg c19] at H
            exact absurd H (by simp)
         ·rw [if_neg c14] at H
          exact absurd H (by simp)
        ·rw [if_neg c13] at H
         have c13b0 : decide (x7_2 < (((rd_T39 l0 x4_1).f1).length : Int)) = false := decide_eq_false c13
         clear c13
         by_cases c24 : x3_1.length < 2932031007402
         ·rw [if_pos c24] at H
          have LMc24 := Aside0.mk c24
          clear c24
          obtain ⟨y586, hy586⟩ : ∃ y_ : List (S39), y_ = (x3_1 ++ [(⟨((rd_T39 l0 x4_1).f0), x6_2, ((rd_T39 l0 x4_1).f2), ((rd_T39 l0 x4_1).f3)⟩ : S39)]) := ⟨_, rfl⟩
          replace H : (spec_WithoutUseless.l0 k2 l0 y586 (wrap64 (x4_1 + 1))) = some r := by first | (rw [hy586]; with_reducible exact H) | (have H2_ := (Option.bind_some _ _).symm.trans H; rw [hy586]; with_reducible exact H2_) | (have H2_ := (Option.bind_some _ _).symm.trans H; with_reducible exact H2_) | with_reducible exact H | (rw [hy586]; exact H) | exact H
          have Ny586 := Aside0.mk hy586
          clear hy586
          have H' := Aside0.mk H
          clear H
          have hcz25_0 : wr.cell? ⟨gb576, 0, none⟩ = some (.int .i64 ((rd_T39 l0 x4_1).f0)) := (blk_cell BK576.out 0).trans rfl
          have hcz25_1 : wr.cell? ⟨gb576, 1, none⟩ = some (.slice A575_1 ((rd_T39 l0 x4_1).f1).length c575_1) := (blk_cell BK576.out 1).trans rfl
          have hcz25_2 : wr.cell? ⟨gb576, 2, none⟩ = some (.int .i64 ((rd_T39 l0 x4_1).f2)) := (blk_cell BK576.out 2).trans rfl
          have hcz25_3 : wr.cell? ⟨gb576, 3, none⟩ = some (.int .i64 ((rd_T39 l0 x4_1).f3)) := (blk_cell BK576.out 3).trans rfl
          have hfz25_0 := blk_frozen BK576.out 0
          have hfz25_1 := blk_frozen BK576.out 1
          have hfz25_2 := blk_frozen BK576.out 2
          have hfz25_3 := blk_frozen BK576.out 3
          obtain ⟨Ao26, co26, eo26⟩ := Kd.R_slice HO_6.out
          subst eo26
          go_wp2_with (first | ((with_reducible refine gate_store (t := 24) (p := 48) rfl ?_); refine store_event (t := 24) (p := 48) (v := ?vo_w27) (w1 := (wr.setCell ⟨gb576, 1, none⟩ (.slice Ao26 x6_2.length co26))) ?hg ?ho ?hn ?hr ?_; (case ho => rfl); (case hg => rfl); (case hn => rfl); (case hr => first | (go_simp; done) | (go_simp; rfl)); intro w27 hw; have n0_ : Aside0 (Kd.S k39 39 w27 w.heap.size (fun k_ => some k_ ≠ (.slice Ao26 x6_2.length co26 : Value).ownBlock ∧ k_ ≠ gb576) u3 x3_1) := ⟨(by rw [hw]; exact (by (with_reducible repeat (first | apply Kd.S_alloc | apply Kd.S_drewN | apply Kd.S_drew)); exact Kd.S_mono (Kd.S_far (p := ⟨gb576, 1, none⟩) (Kd.S_mono HO_3.out (fun k_ hk => (⟨hk, hk.2⟩ : _ ∧ k_ ≠ gb576))) (fun _ hk => hk.2) (.slice Ao26 x6_2.length co26)) (fun _ hk => ⟨hk.1.1, hk.1.2⟩)))⟩; have n1_ : Aside0 (Kd.R (Kd.int .i64) 3 w27 w.heap.size (fun _ => True) (.slice Ao26 x6_2.length co26) x6_2) := ⟨(by rw [hw]; exact (by (with_reducible repeat (first | apply Kd.R_alloc | apply Kd.R_drewN | apply Kd.R_drew)); exact Kd.R_mono (Kd.R_far (p := ⟨gb576, 1, none⟩) (Kd.R_types HO_6.out BK576.out (by decide)) (fun _ hk => hk.2) (.slice Ao26 x6_2.length co26)) (fun _ hk => trivial)))⟩; have n2_ : Aside0 (w27.heap[gb576]? = some (.cells #[.int .i64 ((rd_T39 l0 x4_1).f0), .slice Ao26 x6_2.length co26, .int .i64 ((rd_T39 l0 x4_1).f2), .int .i64 ((rd_T39 l0 x4_1).f3)] 39 (0, 0))) := ⟨(by rw [hw]; exact (by (with_reducible repeat (first | refine blk_drewN ?_ _ | refine blk_drew ?_ | refine blk_alloc ?_ _)); refine blk_put (cs := #[.int .i64 ((rd_T39 l0 x4_1).f0), .slice A575_1 ((rd_T39 l0 x4_1).f1).length c575_1, .int .i64 ((rd_T39 l0 x4_1).f2), .int .i64 ((rd_T39 l0 x4_1).f3)]) ?_ 1 _ rfl; (with_reducible repeat (first | refine blk_drewN ?_ _ | refine blk_drew ?_ | refine blk_alloc ?_ _)); exact BK576.out))⟩; have n3_ : Aside0 (Below w.heap.size w w27) := ⟨(by rw [hw]; exact (by repeat (first | (with_reducible first | exact HB.out | apply below_alloc | apply pw_below_drewN | apply below_drew1 | refine below_set ?_ GE576.out) | exact HB.out)))⟩; clear hw; clear HO_3; clear HO_6; clear BK576; clear HB; have HO_3 := n0_; have HO_6 := n1_; have BK576 := n2_; have HB := n3_; clear n0_ n1_ n2_ n3_; have hcz28_0 : w27.cell? ⟨gb576, 0, none⟩ = some (.int .i64 ((rd_T39 l0 x4_1).f0)) := (blk_cell BK576.out 0).trans rfl; have hcz28_1 : w27.cell? ⟨gb576, 1, none⟩ = some (.slice Ao26 x6_2.length co26) := (blk_cell BK576.out 1).trans rfl; have hcz28_2 : w27.cell? ⟨gb576, 2, none⟩ = some (.int .i64 ((rd_T39 l0 x4_1).f2)) := (blk_cell BK576.out 2).trans rfl; have hcz28_3 : w27.cell? ⟨gb576, 3, none⟩ = some (.int .i64 ((rd_T39 l0 x4_1).f3)) := (blk_cell BK576.out 3).trans rfl; have hfz28_0 := blk_frozen BK576.out 0; have hfz28_1 := blk_frozen BK576.out 1; have hfz28_2 := blk_frozen BK576.out 2; have hfz28_3 := blk_frozen BK576.out 3) | ((with_reducible refine gate_builtin (b := .append) (xs := #[.tmp 49, .tmp 51]) rfl ?_); at_builtin; refine Kd.S_append k39 (w0 := w) w.heap.size rfl (.tmp 49) (.tmp 51) 23 39 (.agg #[(.int .i64 0), (.slice none 0 0), (.int .i64 0), (.int .i64 0)]) 48 rfl Tryd.underlying23 info39 rfl (by decide) (by omega) u3 x3_1 (⟨((rd_T39 l0 x4_1).f0), x6_2, ((rd_T39 l0 x4_1).f2), ((rd_T39 l0 x4_1).f3)⟩ : S39) [.int .i64 ((rd_T39 l0 x4_1).f0), .slice Ao26 x6_2.length co26, .int .i64 ((rd_T39 l0 x4_1).f2), .int .i64 ((rd_T39 l0 x4_1).f3)] (fun k_ => k_ ≠ gb576) (fun k_ => some k_ = (.slice Ao26 x6_2.length co26 : Value).ownBlock) rfl rfl ?aP (fun k_ hk_ => ((Kd.R_mono (ok' := fun k_ => ((fun k_ => k_ ≠ gb576)) k_ ∧ some k_ ≠ (u3 : Value).ownBlock) (Kd.R_types (Kd.R_apart' (HO_6.out) (Kd.S_typed HO_3.out) (by decide)) BK576.out (by decide)) (fun k_ hk => ⟨hk.2, hk.1.2⟩))).1 k_ hk_.symm) ?aF ?aO ?aB ?aS ?aL ?_; (case aP => exact k39_mkM _ _ _ (⟨((rd_T39 l0 x4_1).f0), x6_2, ((rd_T39 l0 x4_1).f2), ((rd_T39 l0 x4_1).f3)⟩ : S39) (Kd.R_mono (Kd.R_tight rfl (Kd.R_mono (ok' := fun k_ => ((fun k_ => k_ ≠ gb576)) k_ ∧ some k_ ≠ (u3 : Value).ownBlock) (Kd.R_types (Kd.R_apart' (HO_6.out) (Kd.S_typed HO_3.out) (by decide)) BK576.out (by decide)) (fun k_ hk => ⟨hk.2, hk.1.2⟩))) (fun _ h_ => h_))); (case aB => exact (by repeat (first | (with_reducible first | exact HB.out | apply below_alloc | apply pw_below_drewN | apply below_drew1 | refine below_set ?_ GE576.out) | exact HB.out))); (case aF => exact (fun k_ hk => Kd.freshB (g := gb576) (o := .cells #[.int .i64 ((rd_T39 l0 x4_1).f0), .slice Ao26 x6_2.length co26, .int .i64 ((rd_T39 l0 x4_1).f2), .int .i64 ((rd_T39 l0 x4_1).f3)] 39 (0, 0)) (by (with_reducible repeat (first | refine blk_drewN ?_ _ | refine blk_drew ?_ | refine blk_alloc ?_ _)); exact BK576.out) k_ hk)); (case aO => exact (by (with_reducible repeat (first | apply Kd.S_alloc | apply Kd.S_drewN | apply Kd.S_drew)); exact Kd.S_mono HO_3.out (fun k_ hk => ⟨hk.2, fun e_ => hk.1 e_⟩))); (case aS => exact (below_size (by repeat (first | (with_reducible first | exact HB.out | apply below_alloc | apply pw_below_drewN | apply below_drew1 | refine below_set ?_ GE576.out) | exact HB.out)))); (case aL => have := LMc24.out; omega); intro v587 w29 ho hb hg hat; rw [← Ny586.out] at ho; have n0_ := Aside0.mk (blk_grown (g := gb576) (o := .cells #[.int .i64 ((rd_T39 l0 x4_1).f0), .slice Ao26 x6_2.length co26, .int .i64 ((rd_T39 l0 x4_1).f2), .int .i64 ((rd_T39 l0 x4_1).f3)] 39 (0, 0)) (by (with_reducible repeat (first | refine blk_drewN ?_ _ | refine blk_drew ?_ | refine blk_alloc ?_ _)); exact BK576.out) hg (Kd.S_away HO_3.out (fun _ hk => hk.2))); have n1_ := Aside0.mk (hb); have n2_ := Aside0.mk (ho); clear BK576; clear HB; clear HO_3; clear HO_6; have BK576 := n0_; have HB := n1_; have HO588 := n2_; clear n0_ n1_ n2_; clear ho hb hg hat))
          go_roundg k2
          case measure => have := HK1.out; have := HK2.out; omega
          case rel => exact ⟨(y586), (wrap64 (x4_1 + 1)), (by first | rfl | (simp; done) | (simp [*]; done)), H', ⟨by have := HK1.out; have := HK2.out; omega⟩, ⟨by (with_reducible repeat (first | apply Kd.S_alloc | apply Kd.S_drewN | apply Kd.S_drew)); exact Kd.S_mono HO588.out (fun _ hk => trivial)⟩, ⟨by repeat (first | (with_reducible first | exact HB.out | apply below_alloc | apply pw_below_drewN | apply below_drew1 | refine below_set ?_ GE576.out) | exact HB.out)⟩⟩
         ·rw [if_neg c24] at H
          exact absurd H (by simp)
     ·rw [if_neg c8] at H
      exact absurd H (by simp)
    ·rw [if_neg c7] at H
     have c7b0 : decide (x4_1 < (l0.length : Int)) = false := decide_eq_false c7
     clear c7
     obtain rfl := Option.some.inj H
     go_wp2
     go_ret
     exact ⟨_, by first | rfl | (simp [errW_none, errW_some] <;> rfl) | (simp [*, errW_none, errW_some] <;> rfl), by (with_reducible repeat (first | apply Kd.S_alloc | apply Kd.S_drewN | apply Kd.S_drew)); exact HO_3.out, by repeat (first | (with_reducible first | exact HB.out | apply below_alloc | apply pw_below_drewN | apply below_drew1) | exact HB.out)⟩
 ·replace c3 := Bool.eq_false_iff.mpr c3
  subst c3
  have H1 : (some ([] : List (S39))) = some r := by rw [if_neg (show ¬ (false = true) by decide)] at H; exact H
  clear H
  have H := H1
  clear H1
  obtain rfl := Option.some.inj H
  go_enter Tryd.func29, Tryd.ntmps29
  go_wp2_with (first | ((with_reducible refine gate_dst (N := 8) rfl ?_); refine Kd.S_lit k39 _ 39 ?hg (N := 8) ?hd (xs := ([] : List (S39))) (inner := []) (ok := fun _ => True) (okp := fun _ => True) ?hr ?hp (fun _ hk => hk) trivial (Below.refl _ _) (Nat.le_refl _) (by simp) ?_; (case hd => rfl); (case hg => rfl); (case hr => first | (go_simp; done) | (go_simp; rfl)); (case hp => exact (Reps.none _ _)); intro v572 w30 ho31 hb hg_ hnew_; clear hg_ hnew_; (first | rw [← Ny571.out] at ho31 | (simp only [Int.reduceToNat] at ho31; rw [← Ny571.out] at ho31)); have n0_ := Aside0.mk (Kd.S_lower ho31 (below_size (by repeat (first | (with_reducible first | exact HB.out | apply below_alloc | apply pw_below_drewN | apply below_drew1) | exact HB.out)))); have n1_ := Aside0.mk (below_step (by repeat (first | (with_reducible first | exact HB.out | apply below_alloc | apply pw_below_drewN | apply below_drew1) | exact HB.out)) hb); clear HB; have HO573 := n0_; have HB := n1_; clear n0_ n1_; clear hb ho31) | ((with_reducible refine gate_callee (f := 60) rfl ?_); refine goesL_ (some 10) rfl rfl Tryd.func60 (by kernel_rfl) rfl #[.slice A0 l0.length c0] rfl (by (try simp only [List.map_toArray, List.map_cons, List.map_nil]); first | done | rfl | (simp only [List.length_drop, List.length_take]; rfl)) ?_; (with_reducible refine (spec_validGraph.calls k _ _ l0 false _ ?side1 ?side2 A2.out).mono ?_); (case side1 => repeat (first | exact (Kd.C_below HR0.out HB.out) | (with_reducible refine Kd.C_alloc ?_ _) | (with_reducible refine Kd.C_drewN ?_ _) | (with_reducible refine Kd.C_drew ?_))); (case side2 => exact HC0.out); rintro e w32 ⟨rfl, hb⟩; refine ⟨_, rfl, ?_⟩; have n0_ := Aside0.mk (Kd.S_below (by (with_reducible repeat (first | apply Kd.S_alloc | apply Kd.S_drewN | apply Kd.S_drew)); exact HO573.out) hb); have n1_ := Aside0.mk (below_step (by repeat (first | (with_reducible first | exact HB.out | apply below_alloc | apply pw_below_drewN | apply below_drew1) | exact HB.out)) hb); clear HO573; clear HB; have HO573 := n0_; have HB := n1_; clear n0_ n1_; (try clear hb); (try clear hb2); (try clear hk); (try clear hi)))
  go_ret
  exact ⟨_, by first | rfl | (simp [errW_none, errW_some] <;> rfl) | (simp [*, errW_none, errW_some] <;> rfl), by first | exact Kd.S_nil _ _ _ _ _ | exact Kd.N_nil _ _ _ _ _ | exact Kd.V_nil _ _ _ _ _ | exact Kd.Q_nil _ _ _ _ _ | exact Kd.R_nil _ _ _ _ _, by repeat (first | (with_reducible first | exact HB.out | apply below_alloc | apply pw_below_drewN | apply below_drew1) | exact HB.out)⟩
end Go.Proofs.YtajapkjplgaigaaDoor.P
end
section
namespace Go.Proofs.YtajapkjplgaigaaDoor.P
open Go.RowKit Go.Shelf Go.Proofs.YtajapkjplgaigaaDoorW.PrintWords Go.Proofs.YtajapkjplgaigaaDoorW.PrintLast Go.Proofs.YtajapkjplgaigaaDoorW.PrintMore
attribute [local go_sem] Oper.semAt_some
set_option linter.unusedVariables false
set_option linter.unusedSimpArgs false
theorem rowL_own {W : World} {b base : Nat} {l : List Int} (h : W.heap[b]? = some (rowL l)) (hb : base ≤ b) (hl : l.length ≤ 8) : W.ownsRow base 3 1 (slv b l.length) l.length (encs (Value.int .i64) l) := by
 refine ⟨by simp [encs], .inr ⟨b, l.length, _, rfl, hb, h, Nat.le_refl _, by unfold maxLen; omega, by simp, by simp [encs, List.take_of_length_le]⟩⟩
theorem rowF_R {W : World} {b base n : Nat} {f : Nat → Int} (h : W.heap[b]? = some (rowL (fnL n f))) (hb : base ≤ b) (hn : n ≤ 8) : Kd.R (Kd.int .i64) 3 W base (fun _ => True) (slv b n) (fnL n f) := by
 have := rowL_own h hb (by rw [fnL_len]; exact hn)
 have e := fnL_len n f
 have h2 := Kd.R_of_own (enc := Value.int .i64) (h1 := fun _ => rfl) (e := 3) (ok := fun _ => True) this (fun _ _ => trivial)
 rw [e] at h2
 exact h2
def impl_HeadTimes.f (l0 : List TT) : Option (List Int) := some (match graphP l0 with | none => [] | some G => fnL G.ts.length (headsW (timeW G.ts) G.nd G.od))
def impl_TailTimes.f (l0 : List TT) : Option (List Int) := some (match graphP l0 with | none => [] | some G => fnL G.ts.length (tailsW G.ts G.nd G.od.reverse))
def impl_StageOf.f (l0 : List TT) : Option (List Int) := some (match graphP l0 with | none => [] | some G => fnL G.ts.length (headsW (fun _ => 1) G.nd G.od))
set_option maxRecDepth 100000 in
set_option maxHeartbeats 1000000 in
theorem impl_HeadTimes.calls (A0 : Option Addr) (c0 : Nat) (l0 : List TT) (r : List Int) (w : World) (hr0 : Kd.C k39 w A0 l0.length l0) (hc0 : l0.length ≤ c0) (h : impl_HeadTimes.f l0 = some r) (hTab : TabOK w) :
  Calls Tryd.prog 30 #[.slice A0 l0.length c0] w fun e w' => ∃ v0_ : Value, e = .returned (v0_) ∧ Kd.R (Kd.int .i64) 3 w' w.heap.size (fun _ => True) v0_ r ∧ Below w.heap.size w w' := by
 have gc := Aside0.mk (graphOf_all A0 c0 l0 w hr0 hc0 hTab)
 have hT' := Aside0.mk hTab
 have hr0' := Aside0.mk hr0
 unfold impl_HeadTimes.f at h
 injection h with h
 clear hr0 hTab
 cases hd : graphP l0 with
 | none =>
  rw [hd] at h
  simp only at h
  subst h
  have hd' := Aside0.mk hd
  clear hd
  go_enter Tryd.func30, Tryd.ntmps30
  go_wp2_with (go_at_call 58; refine gc.out.mono ?_; rintro e w1 ⟨g, b, rfl, hB, hno, hyes⟩; obtain ⟨rfl, rfl⟩ := hno hd'.out; have hB' := Aside0.mk hB; clear hB hno hyes)
  go_ret
  exact ⟨_, rfl, Kd.R_nil _ _ _ _ _, hB'.out⟩
 | some G =>
  rw [hd] at h
  simp only at h
  subst h
  obtain ⟨hts, hnP, hOk⟩ := graphP_ok hd
  have hd' := Aside0.mk hd
  have hOk' := Aside0.mk hOk
  clear hd hts hnP hOk
  go_enter Tryd.func30, Tryd.ntmps30
  go_wp2_with (first | (go_at_call 58; refine gc.out.mono ?_; rintro e w1 ⟨g, b, rfl, hB, hno, hyes⟩; obtain ⟨rfl, a, rfl, hG0⟩ := hyes G hd'.out; have hG := graphOf_at hr0'.out hB hG0; have hB' := Aside0.mk hB; have hG' := Aside0.mk hG; have hT1 := Aside0.mk (hT'.out.below hB); clear hB hno hyes hG hG0) | (go_at_call 62; refine (heads_calls a G hOk'.out _ hG'.out hT1.out).mono ?_; rintro e w2 ⟨b, rfl, hbq, hbr, hB2⟩; have hB2' := Aside0.mk (below_step hB'.out hB2); have hbr' := Aside0.mk hbr; have hbq' := Aside0.mk (Nat.le_trans hB'.out.size hbq); clear hbq hbr hB2))
  go_ret
  exact ⟨_, rfl, rowF_R hbr'.out hbq'.out hOk'.out.n8, hB2'.out⟩
set_option maxRecDepth 100000 in
set_option maxHeartbeats 1000000 in
theorem impl_TailTimes.calls (A0 : Option Addr) (c0 : Nat) (l0 : List TT) (r : List Int) (w : World) (hr0 : Kd.C k39 w A0 l0.length l0) (hc0 : l0.length ≤ c0) (h : impl_TailTimes.f l0 = some r) (hTab : TabOK w) :
  Calls Tryd.prog 31 #[.slice A0 l0.length c0] w fun e w' => ∃ v0_ : Value, e = .returned (v0_) ∧ Kd.R (Kd.int .i64) 3 w' w.heap.size (fun _ => True) v0_ r ∧ Below w.heap.size w w' := by
 have gc := Aside0.mk (graphOf_all A0 c0 l0 w hr0 hc0 hTab)
 have hT' := Aside0.mk hTab
 have hr0' := Aside0.mk hr0
 unfold impl_TailTimes.f at h
 injection h with h
 clear hr0 hTab
 cases hd : graphP l0 with
 | none =>
  rw [hd] at h
  simp only at h
  subst h
  have hd' := Aside0.mk hd
  clear hd
  go_enter Tryd.func31, Tryd.ntmps31
  go_wp2_with (go_at_call 58; refine gc.out.mono ?_; rintro e w1 ⟨g, b, rfl, hB, hno, hyes⟩; obtain ⟨rfl, rfl⟩ := hno hd'.out; have hB' := Aside0.mk hB; clear hB hno hyes)
  go_ret
  exact ⟨_, rfl, Kd.R_nil _ _ _ _ _, hB'.out⟩
 | some G =>
  rw [hd] at h
  simp only at h
  subst h
  obtain ⟨hts, hnP, hOk⟩ := graphP_ok hd
  have hd' := Aside0.mk hd
  have hOk' := Aside0.mk hOk
  clear hd hts hnP hOk
  go_enter Tryd.func31, Tryd.ntmps31
  go_wp2_with (first | (go_at_call 58; refine gc.out.mono ?_; rintro e w1 ⟨g, b, rfl, hB, hno, hyes⟩; obtain ⟨rfl, a, rfl, hG0⟩ := hyes G hd'.out; have hG := graphOf_at hr0'.out hB hG0; have hB' := Aside0.mk hB; have hG' := Aside0.mk hG; have hT1 := Aside0.mk (hT'.out.below hB); clear hB hno hyes hG hG0) | (go_at_call 53; refine (tails_calls a G hOk'.out _ hG'.out hT1.out).mono ?_; rintro e w2 ⟨b, rfl, hbq, hbr, hB2⟩; have hB2' := Aside0.mk (below_step hB'.out hB2); have hbr' := Aside0.mk hbr; have hbq' := Aside0.mk (Nat.le_trans hB'.out.size hbq); clear hbq hbr hB2))
  go_ret
  exact ⟨_, rfl, rowF_R hbr'.out hbq'.out hOk'.out.n8, hB2'.out⟩
set_option maxRecDepth 100000 in
set_option maxHeartbeats 1000000 in
theorem impl_StageOf.calls (A0 : Option Addr) (c0 : Nat) (l0 : List TT) (r : List Int) (w : World) (hr0 : Kd.C k39 w A0 l0.length l0) (hc0 : l0.length ≤ c0) (h : impl_StageOf.f l0 = some r) (hTab : TabOK w) :
  Calls Tryd.prog 32 #[.slice A0 l0.length c0] w fun e w' => ∃ v0_ : Value, e = .returned (v0_) ∧ Kd.R (Kd.int .i64) 3 w' w.heap.size (fun _ => True) v0_ r ∧ Below w.heap.size w w' := by
 have gc := Aside0.mk (graphOf_all A0 c0 l0 w hr0 hc0 hTab)
 have hT' := Aside0.mk hTab
 have hr0' := Aside0.mk hr0
 unfold impl_StageOf.f at h
 injection h with h
 clear hr0 hTab
 cases hd : graphP l0 with
 | none =>
  rw [hd] at h
  simp only at h
  subst h
  have hd' := Aside0.mk hd
  clear hd
  go_enter Tryd.func32, Tryd.ntmps32
  go_wp2_with (go_at_call 58; refine gc.out.mono ?_; rintro e w1 ⟨g, b, rfl, hB, hno, hyes⟩; obtain ⟨rfl, rfl⟩ := hno hd'.out; have hB' := Aside0.mk hB; clear hB hno hyes)
  go_ret
  exact ⟨_, rfl, Kd.R_nil _ _ _ _ _, hB'.out⟩
 | some G =>
  rw [hd] at h
  simp only at h
  subst h
  obtain ⟨hts, hnP, hOk⟩ := graphP_ok hd
  have hd' := Aside0.mk hd
  have hOk' := Aside0.mk hOk
  clear hd hts hnP hOk
  go_enter Tryd.func32, Tryd.ntmps32
  go_wp2_with (first | (go_at_call 58; refine gc.out.mono ?_; rintro e w1 ⟨g, b, rfl, hB, hno, hyes⟩; obtain ⟨rfl, a, rfl, hG0⟩ := hyes G hd'.out; have hG := graphOf_at hr0'.out hB hG0; have hB' := Aside0.mk hB; have hG' := Aside0.mk hG; have hT1 := Aside0.mk (hT'.out.below hB); clear hB hno hyes hG hG0) | (go_at_call 63; refine (stages_calls a G hOk'.out _ hG'.out hT1.out).mono ?_; rintro e w2 ⟨b, rfl, hbq, hbr, hB2⟩; have hB2' := Aside0.mk (below_step hB'.out hB2); have hbr' := Aside0.mk hbr; have hbq' := Aside0.mk (Nat.le_trans hB'.out.size hbq); clear hbq hbr hB2))
  go_ret
  exact ⟨_, rfl, rowF_R hbr'.out hbq'.out hOk'.out.n8, hB2'.out⟩
end Go.Proofs.YtajapkjplgaigaaDoor.P
end
section
namespace Go.Proofs.YtajapkjplgaigaaDoor.P
open Go.RowKit Go.Proofs.YtajapkjplgaigaaDoorW.PrintWords Go.Proofs.YtajapkjplgaigaaDoorW.PrintLast Go.Proofs.YtajapkjplgaigaaDoorW.PrintMore
attribute [local go_sem] max2_int min2_int max_two min_two max_three min_three max_four min_four   -- for this text's walks alone
set_option linter.unusedVariables false
set_option linter.unusedSimpArgs false
def laws_FnWithoutUselessTimes.j0 : Nat → List (S39) → List (S39) → Bool → Option (Bool)
 | 0, _, _, _ => none
 | k + 1, x3, x4, x21 => if x21 = true then ((spec_WithoutUseless.f k x3).bind fun t621 => ((laws_equalTasks.f k x4 t621).bind fun t624 => (some t624))) else ((impl_HeadTimes.f x4).bind fun t625 => ((impl_HeadTimes.f x3).bind fun t628 => ((laws_equalInts.f k t625 t628).bind fun t631 => (if t631 = true then ((impl_TailTimes.f x4).bind fun t632 => ((impl_TailTimes.f x3).bind fun t635 => ((laws_equalInts.f k t632 t635).bind fun t638 => (if t638 = true then ((impl_StageOf.f x4).bind fun t639 => ((impl_StageOf.f x3).bind fun t642 => ((laws_equalInts.f k t639 t642).bind fun t645 => (some t645)))) else (some false))))) else (some false)))))
def laws_FnWithoutUselessTimes.f (k : Nat) (l0 : List Int) : Option (Bool) := if (l0.length : Int) > 1048576 then (some true) else ((spec_DrawWithoutUseless.f k l0).bind fun t611 => ((impl_WithoutUseless.f t611).bind fun t614 => ((spec_WithoutUseless.f k t611).bind fun t617 => ((laws_equalTasks.f k t614 t617).bind fun t620 => (if t620 = true then (laws_FnWithoutUselessTimes.j0 k t611 t614 ((t614.length : Int) == 0)) else (laws_FnWithoutUselessTimes.j0 k t611 t614 true))))))
set_option maxHeartbeats 8000000 in
set_option maxRecDepth 100000 in
theorem laws_FnWithoutUselessTimes.calls (k : Nat) (A0 : Option Addr) (c0 : Nat) (l0 : List Int) (r : Bool) (w : World) (hr0 : Kd.C (Kd.int .u8) w A0 l0.length l0) (hc0 : l0.length ≤ c0) (h : laws_FnWithoutUselessTimes.f k l0 = some r) (hTab0 : TabOK w) :
  Calls Tryd.prog 6 #[.slice A0 l0.length c0] w fun e w' => e = .returned (.bool r) ∧ Below w.heap.size w w' := by
 have hTab := Aside0.mk hTab0
 clear hTab0
 have HR0 := Aside0.mk hr0
 have HC0 := Aside0.mk hc0
 clear hr0 hc0
 have HB := Aside0.mk (Below.refl w.heap.size w)
 have H : (if (l0.length : Int) > 1048576 then (some true) else ((spec_DrawWithoutUseless.f k l0).bind fun t611 => ((impl_WithoutUseless.f t611).bind fun t614 => ((spec_WithoutUseless.f k t611).bind fun t617 => ((laws_equalTasks.f k t614 t617).bind fun t620 => (if t620 = true then (laws_FnWithoutUselessTimes.j0 k t611 t614 ((t614.length : Int) == 0)) else (laws_FnWithoutUselessTimes.j0 k t611 t614 true))))))) = some r := h
 clear h
 by_cases c2 : (l0.length : Int) > 1048576
 ·rw [if_pos c2] at H
  have c2b0 : decide (1048576 < (l0.length : Int)) = true := decide_eq_true c2
  have c2b1 : decide (1048576 < l0.length) = true := decide_eq_true (by omega)
  clear c2
  obtain rfl := Option.some.inj H
  go_enter Tryd.func6, Tryd.ntmps6
  go_wp2
  go_ret
  exact ⟨by first | rfl | (simp [errW_none, errW_some] <;> rfl) | (simp [*, errW_none, errW_some] <;> rfl), by repeat (first | (with_reducible first | exact HB.out | apply below_alloc | apply pw_below_drewN | apply below_drew1) | exact HB.out)⟩
 ·rw [if_neg c2] at H
  have c2b0 : decide (1048576 < (l0.length : Int)) = false := decide_eq_false c2
  have c2b1 : decide (1048576 < l0.length) = false := decide_eq_false (by omega)
  clear c2
  replace H := Option.bind_eq_some_iff.mp H
  obtain ⟨t611, A30, H⟩ := H
  replace H : ((impl_WithoutUseless.f t611).bind fun t614 => ((spec_WithoutUseless.f k t611).bind fun t617 => ((laws_equalTasks.f k t614 t617).bind fun t620 => (if t620 = true then (laws_FnWithoutUselessTimes.j0 k t611 t614 ((t614.length : Int) == 0)) else (laws_FnWithoutUselessTimes.j0 k t611 t614 true))))) = some r := H
  have A3 := Aside0.mk A30
  clear A30
  replace H := Option.bind_eq_some_iff.mp H
  obtain ⟨t614, A40, H⟩ := H
  replace H : ((spec_WithoutUseless.f k t611).bind fun t617 => ((laws_equalTasks.f k t614 t617).bind fun t620 => (if t620 = true then (laws_FnWithoutUselessTimes.j0 k t611 t614 ((t614.length : Int) == 0)) else (laws_FnWithoutUselessTimes.j0 k t611 t614 true)))) = some r := H
  have A4 := Aside0.mk A40
  clear A40
  have HC5 := Aside0.mk H
  clear H
  go_enter Tryd.func6, Tryd.ntmps6
  go_upto_region 5 with (first | ((with_reducible refine gate_callee (f := 26) rfl ?_); refine goesL_ (some 9) rfl rfl Tryd.func26 (by kernel_rfl) rfl #[.slice A0 l0.length c0] rfl (by (try simp only [List.map_toArray, List.map_cons, List.map_nil]); first | done | rfl | (simp only [List.length_drop, List.length_take]; rfl)) ?_; (with_reducible refine (spec_DrawWithoutUseless.calls k _ _ l0 t611 _ ?side1 ?side2 A3.out).mono ?_); (case side1 => repeat (first | exact HR0.out | (with_reducible refine Kd.C_alloc ?_ _) | (with_reducible refine Kd.C_drewN ?_ _) | (with_reducible refine Kd.C_drew ?_))); (case side2 => exact HC0.out); rintro e w6 ⟨v612, rfl, ho0, hb⟩; refine ⟨_, rfl, ?_⟩; have n0_ := Aside0.mk (Kd.N_lower (Kd.N_mono (ok' := fun k_ => True) ho0 (fun k_ hk_ => trivial)) (below_size (by repeat (first | (with_reducible first | exact HB.out | apply below_alloc | apply pw_below_drewN | apply below_drew1) | exact HB.out)))); have n1_ := Aside0.mk (below_step (by repeat (first | (with_reducible first | exact HB.out | apply below_alloc | apply pw_below_drewN | apply below_drew1) | exact HB.out)) hb); clear HB; have HO613 := n0_; have HB := n1_; clear n0_ n1_; (try clear hb); (try clear hb2); (try clear hk); (try clear hi); (try clear ho0); obtain ⟨Ao7, co7, eo7⟩ := Kd.N_slice HO613.out; subst eo7) | ((with_reducible refine gate_callee (f := 27) rfl ?_); refine goesL_ (some 11) rfl rfl Tryd.func27 (by kernel_rfl) rfl #[.slice Ao7 t611.length co7] rfl (by (try simp only [List.map_toArray, List.map_cons, List.map_nil]); first | done | rfl | (simp only [List.length_drop, List.length_take]; rfl)) ?_; (with_reducible refine (impl_WithoutUseless.calls _ _ t611 t614 _ ?side1 ?side2 A4.out ?sideTab).mono ?_); (case sideTab => exact TabOK.below hTab.out (by repeat (first | (with_reducible first | exact HB.out | apply below_alloc | apply pw_below_drewN | apply below_drew1) | exact HB.out))); (case side1 => repeat (first | exact (Kd.N_reads' HO613.out).2.2 | (with_reducible refine Kd.C_alloc ?_ _) | (with_reducible refine Kd.C_drewN ?_ _) | (with_reducible refine Kd.C_drew ?_))); (case side2 => exact (Kd.N_reads' HO613.out).2.1); rintro e w8 ⟨v615, rfl, ho0, hb⟩; refine ⟨_, rfl, ?_⟩; have n0_ := Aside0.mk (Kd.N_elder' (by (with_reducible repeat (first | apply Kd.N_alloc | apply Kd.N_drewN | apply Kd.N_drew)); exact HO613.out) (Kd.S_base ho0) hb); have n1_ := Aside0.mk (Kd.N_lower (Kd.N_mono (ok' := fun k_ => some k_ ≠ (.slice Ao7 t611.length co7 : Value).ownBlock) (Kd.S_N (Kd.S_bound ho0)) (fun k_ hk_ => (Kd.fresh' (Kd.N_lt (by (with_reducible repeat (first | apply Kd.N_alloc | apply Kd.N_drewN | apply Kd.N_drew)); exact HO613.out)) k_ hk_.2.1))) (below_size (by repeat (first | (with_reducible first | exact HB.out | apply below_alloc | apply pw_below_drewN | apply below_drew1) | exact HB.out)))); have n2_ := Aside0.mk (below_step (by repeat (first | (with_reducible first | exact HB.out | apply below_alloc | apply pw_below_drewN | apply below_drew1) | exact HB.out)) hb); clear HO613; clear HB; have HO613 := n0_; have HO616 := n1_; have HB := n2_; clear n0_ n1_ n2_; (try clear hb); (try clear hb2); (try clear hk); (try clear hi); (try clear ho0)))
  (try simp only [Act.put, List.setIfInBounds_toArray, List.set_cons_zero, List.set_cons_succ])
  go_cut [21] (fun v21 wc => ∃ (kq : Nat) (x21_4 : Bool), v21 = .bool x21_4 ∧ Aside0 (laws_FnWithoutUselessTimes.j0 kq t611 t614 x21_4 = some r) ∧ Aside0 (kq ≤ k) ∧ Aside0 (Kd.N k39 39 wc w.heap.size (fun k_ => some k_ ≠ (v615 : Value).ownBlock) (.slice Ao7 t611.length co7) t611) ∧ Aside0 (Kd.N k39 39 wc w.heap.size (fun k_ => some k_ ≠ ((.slice Ao7 t611.length co7) : Value).ownBlock) v615 t614) ∧ Aside0 (Below w.heap.size w wc))
  case first =>
   have H := HC5.out
   clear HC5
   replace H := Option.bind_eq_some_iff.mp H
   obtain ⟨t617, A90, H⟩ := H
   replace H : ((laws_equalTasks.f k t614 t617).bind fun t620 => (if t620 = true then (laws_FnWithoutUselessTimes.j0 k t611 t614 ((t614.length : Int) == 0)) else (laws_FnWithoutUselessTimes.j0 k t611 t614 true))) = some r := H
   have A9 := Aside0.mk A90
   clear A90
   replace H := Option.bind_eq_some_iff.mp H
   obtain ⟨t620, A100, H⟩ := H
   replace H : (if t620 = true then (laws_FnWithoutUselessTimes.j0 k t611 t614 ((t614.length : Int) == 0)) else (laws_FnWithoutUselessTimes.j0 k t611 t614 true)) = some r := H
   have A10 := Aside0.mk A100
   clear A100
   by_cases c11 : t620 = true
   ·subst c11
    have H1 : (laws_FnWithoutUselessTimes.j0 k t611 t614 ((t614.length : Int) == 0)) = some r := by rw [if_pos rfl] at H; exact H
    clear H
    have H := H1
    clear H1
    have H' := Aside0.mk H
    clear H
    go_wp2_with (first | ((with_reducible refine gate_callee (f := 29) rfl ?_); refine goesL_ (some 14) rfl rfl Tryd.func29 (by kernel_rfl) rfl #[.slice Ao7 t611.length co7] rfl (by (try simp only [List.map_toArray, List.map_cons, List.map_nil]); first | done | rfl | (simp only [List.length_drop, List.length_take]; rfl)) ?_; (with_reducible refine (spec_WithoutUseless.calls k _ _ t611 t617 _ ?side1 ?side2 A9.out).mono ?_); (case side1 => repeat (first | exact (Kd.N_reads' HO613.out).2.2 | (with_reducible refine Kd.C_alloc ?_ _) | (with_reducible refine Kd.C_drewN ?_ _) | (with_reducible refine Kd.C_drew ?_))); (case side2 => exact (Kd.N_reads' HO613.out).2.1); rintro e w12 ⟨v618, rfl, ho0, hb⟩; refine ⟨_, rfl, ?_⟩; have n0_ := Aside0.mk (Kd.N_elder' (by (with_reducible repeat (first | apply Kd.N_alloc | apply Kd.N_drewN | apply Kd.N_drew)); exact HO613.out) (Kd.S_base ho0) hb); have n1_ := Aside0.mk (Kd.N_elder' (by (with_reducible repeat (first | apply Kd.N_alloc | apply Kd.N_drewN | apply Kd.N_drew)); exact HO616.out) (Kd.S_base ho0) hb); have n2_ := Aside0.mk (Kd.N_lower (Kd.N_mono (ok' := fun k_ => some k_ ≠ (.slice Ao7 t611.length co7 : Value).ownBlock ∧ some k_ ≠ (v615 : Value).ownBlock) (Kd.S_N (Kd.S_bound ho0)) (fun k_ hk_ => ⟨(Kd.fresh' (Kd.N_lt (by (with_reducible repeat (first | apply Kd.N_alloc | apply Kd.N_drewN | apply Kd.N_drew)); exact HO613.out)) k_ hk_.2.1), (Kd.fresh' (Kd.N_lt (by (with_reducible repeat (first | apply Kd.N_alloc | apply Kd.N_drewN | apply Kd.N_drew)); exact HO616.out)) k_ hk_.2.1)⟩)) (below_size (by repeat (first | (with_reducible first | exact HB.out | apply below_alloc | apply pw_below_drewN | apply below_drew1) | exact HB.out)))); have n3_ := Aside0.mk (below_step (by repeat (first | (with_reducible first | exact HB.out | apply below_alloc | apply pw_below_drewN | apply below_drew1) | exact HB.out)) hb); clear HO613; clear HO616; clear HB; have HO613 := n0_; have HO616 := n1_; have HO619 := n2_; have HB := n3_; clear n0_ n1_ n2_ n3_; (try clear hb); (try clear hb2); (try clear hk); (try clear hi); (try clear ho0); obtain ⟨Ao13, co13, eo13⟩ := Kd.N_slice HO616.out; subst eo13; obtain ⟨Ao14, co14, eo14⟩ := Kd.N_slice HO619.out; subst eo14) | ((with_reducible refine gate_callee (f := 28) rfl ?_); refine goesL_ (some 15) rfl rfl Tryd.func28 (by kernel_rfl) rfl #[.slice Ao13 t614.length co13, .slice Ao14 t617.length co14] rfl (by (try simp only [List.map_toArray, List.map_cons, List.map_nil]); first | done | rfl | (simp only [List.length_drop, List.length_take]; rfl)) ?_; (with_reducible refine (laws_equalTasks.calls k _ _ t614 _ _ t617 true _ ?side1 ?side2 ?side3 ?side4 A10.out).mono ?_); (case side1 => repeat (first | exact (Kd.N_reads' HO616.out).2.2 | (with_reducible refine Kd.C_alloc ?_ _) | (with_reducible refine Kd.C_drewN ?_ _) | (with_reducible refine Kd.C_drew ?_))); (case side2 => exact (Kd.N_reads' HO616.out).2.1); (case side3 => repeat (first | exact (Kd.N_reads' HO619.out).2.2 | (with_reducible refine Kd.C_alloc ?_ _) | (with_reducible refine Kd.C_drewN ?_ _) | (with_reducible refine Kd.C_drew ?_))); (case side4 => exact (Kd.N_reads' HO619.out).2.1); rintro e w15 ⟨rfl, hb⟩; refine ⟨_, rfl, ?_⟩; have n0_ := Aside0.mk (Kd.N_below (by (with_reducible repeat (first | apply Kd.N_alloc | apply Kd.N_drewN | apply Kd.N_drew)); exact HO613.out) hb); have n1_ := Aside0.mk (Kd.N_below (by (with_reducible repeat (first | apply Kd.N_alloc | apply Kd.N_drewN | apply Kd.N_drew)); exact HO616.out) hb); have n2_ := Aside0.mk (Kd.N_below (by (with_reducible repeat (first | apply Kd.N_alloc | apply Kd.N_drewN | apply Kd.N_drew)); exact HO619.out) hb); have n3_ := Aside0.mk (below_step (by repeat (first | (with_reducible first | exact HB.out | apply below_alloc | apply pw_below_drewN | apply below_drew1) | exact HB.out)) hb); clear HO613; clear HO616; clear HO619; clear HB; have HO613 := n0_; have HO616 := n1_; have HO619 := n2_; have HB := n3_; clear n0_ n1_ n2_ n3_; (try clear hb); (try clear hb2); (try clear hk); (try clear hi)))
    go_meet
    case rel => exact ⟨_, (((t614.length : Int) == 0)), (by first | rfl | (simp; done) | (simp [*]; done)), H', ⟨by first | omega | exact Nat.le_refl _⟩, ⟨by (with_reducible repeat (first | apply Kd.N_alloc | apply Kd.N_drewN | apply Kd.N_drew)); exact Kd.N_mono HO613.out (fun _ hk => hk.1.2)⟩, ⟨by (with_reducible repeat (first | apply Kd.N_alloc | apply Kd.N_drewN | apply Kd.N_drew)); exact Kd.N_mono HO616.out (fun _ hk => hk.1)⟩, ⟨by repeat (first | (with_reducible first | exact HB.out | apply below_alloc | apply pw_below_drewN | apply below_drew1) | exact HB.out)⟩⟩
   ·replace c11 := Bool.eq_false_iff.mpr c11
    subst c11
    have H1 : (laws_FnWithoutUselessTimes.j0 k t611 t614 true) = some r := by rw [if_neg (show ¬ (false = true) by decide)] at H; exact H
    clear H
    have H := H1
    clear H1
    have H' := Aside0.mk H
    clear H
    go_wp2_with (first | ((with_reducible refine gate_callee (f := 29) rfl ?_); refine goesL_ (some 14) rfl rfl Tryd.func29 (by kernel_rfl) rfl #[.slice Ao7 t611.length co7] rfl (by (try simp only [List.map_toArray, List.map_cons, List.map_nil]); first | done | rfl | (simp only [List.length_drop, List.length_take]; rfl)) ?_; (with_reducible refine (spec_WithoutUseless.calls k _ _ t611 t617 _ ?side1 ?side2 A9.out).mono ?_); (case side1 => repeat (first | exact (Kd.N_reads' HO613.out).2.2 | (with_reducible refine Kd.C_alloc ?_ _) | (with_reducible refine Kd.C_drewN ?_ _) | (with_reducible refine Kd.C_drew ?_))); (case side2 => exact (Kd.N_reads' HO613.out).2.1); rintro e w16 ⟨v618, rfl, ho0, hb⟩; refine ⟨_, rfl, ?_⟩; have n0_ := Aside0.mk (Kd.N_elder' (by (with_reducible repeat (first | apply Kd.N_alloc | apply Kd.N_drewN | apply Kd.N_drew)); exact HO613.out) (Kd.S_base ho0) hb); have n1_ := Aside0.mk (Kd.N_elder' (by (with_reducible repeat (first | apply Kd.N_alloc | apply Kd.N_drewN | apply Kd.N_drew)); exact HO616.out) (Kd.S_base ho0) hb); have n2_ := Aside0.mk (Kd.N_lower (Kd.N_mono (ok' := fun k_ => some k_ ≠ (.slice Ao7 t611.length co7 : Value).ownBlock ∧ some k_ ≠ (v615 : Value).ownBlock) (Kd.S_N (Kd.S_bound ho0)) (fun k_ hk_ => ⟨(Kd.fresh' (Kd.N_lt (by (with_reducible repeat (first | apply Kd.N_alloc | apply Kd.N_drewN | apply Kd.N_drew)); exact HO613.out)) k_ hk_.2.1), (Kd.fresh' (Kd.N_lt (by (with_reducible repeat (first | apply Kd.N_alloc | apply Kd.N_drewN | apply Kd.N_drew)); exact HO616.out)) k_ hk_.2.1)⟩)) (below_size (by repeat (first | (with_reducible first | exact HB.out | apply below_alloc | apply pw_below_drewN | apply below_drew1) | exact HB.out)))); have n3_ := Aside0.mk (below_step (by repeat (first | (with_reducible first | exact HB.out | apply below_alloc | apply pw_below_drewN | apply below_drew1) | exact HB.out)) hb); clear HO613; clear HO616; clear HB; have HO613 := n0_; have HO616 := n1_; have HO619 := n2_; have HB := n3_; clear n0_ n1_ n2_ n3_; (try clear hb); (try clear hb2); (try clear hk); (try clear hi); (try clear ho0); obtain ⟨Ao17, co17, eo17⟩ := Kd.N_slice HO616.out; subst eo17; obtain ⟨Ao18, co18, eo18⟩ := Kd.N_slice HO619.out; subst eo18) | ((with_reducible refine gate_callee (f := 28) rfl ?_); refine goesL_ (some 15) rfl rfl Tryd.func28 (by kernel_rfl) rfl #[.slice Ao17 t614.length co17, .slice Ao18 t617.length co18] rfl (by (try simp only [List.map_toArray, List.map_cons, List.map_nil]); first | done | rfl | (simp only [List.length_drop, List.length_take]; rfl)) ?_; (with_reducible refine (laws_equalTasks.calls k _ _ t614 _ _ t617 false _ ?side1 ?side2 ?side3 ?side4 A10.out).mono ?_); (case side1 => repeat (first | exact (Kd.N_reads' HO616.out).2.2 | (with_reducible refine Kd.C_alloc ?_ _) | (with_reducible refine Kd.C_drewN ?_ _) | (with_reducible refine Kd.C_drew ?_))); (case side2 => exact (Kd.N_reads' HO616.out).2.1); (case side3 => repeat (first | exact (Kd.N_reads' HO619.out).2.2 | (with_reducible refine Kd.C_alloc ?_ _) | (with_reducible refine Kd.C_drewN ?_ _) | (with_reducible refine Kd.C_drew ?_))); (case side4 => exact (Kd.N_reads' HO619.out).2.1); rintro e w19 ⟨rfl, hb⟩; refine ⟨_, rfl, ?_⟩; have n0_ := Aside0.mk (Kd.N_below (by (with_reducible repeat (first | apply Kd.N_alloc | apply Kd.N_drewN | apply Kd.N_drew)); exact HO613.out) hb); have n1_ := Aside0.mk (Kd.N_below (by (with_reducible repeat (first | apply Kd.N_alloc | apply Kd.N_drewN | apply Kd.N_drew)); exact HO616.out) hb); have n2_ := Aside0.mk (Kd.N_below (by (with_reducible repeat (first | apply Kd.N_alloc | apply Kd.N_drewN | apply Kd.N_drew)); exact HO619.out) hb); have n3_ := Aside0.mk (below_step (by repeat (first | (with_reducible first | exact HB.out | apply below_alloc | apply pw_below_drewN | apply below_drew1) | exact HB.out)) hb); clear HO613; clear HO616; clear HO619; clear HB; have HO613 := n0_; have HO616 := n1_; have HO619 := n2_; have HB := n3_; clear n0_ n1_ n2_ n3_; (try clear hb); (try clear hb2); (try clear hk); (try clear hi)))
    go_meet
    case rel => exact ⟨_, (true), (by first | rfl | (simp; done) | (simp [*]; done)), H', ⟨by first | omega | exact Nat.le_refl _⟩, ⟨by (with_reducible repeat (first | apply Kd.N_alloc | apply Kd.N_drewN | apply Kd.N_drew)); exact Kd.N_mono HO613.out (fun _ hk => hk.1.2)⟩, ⟨by (with_reducible repeat (first | apply Kd.N_alloc | apply Kd.N_drewN | apply Kd.N_drew)); exact Kd.N_mono HO616.out (fun _ hk => hk.1)⟩, ⟨by repeat (first | (with_reducible first | exact HB.out | apply below_alloc | apply pw_below_drewN | apply below_drew1) | exact HB.out)⟩⟩
  case rest =>
   clear HC5
   try clear c1
   try clear c2
   try clear c2b0
   try clear c2b1
   try clear p2
   try clear c6
   try clear c11
   obtain ⟨kq, x21_4, rfl, HA, HJ4, HO_3, HO_4, HB⟩ := hcut
   cases kq with
   | zero => exact absurd HA.out (by simp [laws_FnWithoutUselessTimes.j0])
   | succ kj4 =>
    have H := HA.out
    clear HA
    simp only [laws_FnWithoutUselessTimes.j0] at H
    by_cases c20 : x21_4 = true
    ·subst c20
     have H1 : ((spec_WithoutUseless.f kj4 t611).bind fun t621 => ((laws_equalTasks.f kj4 t614 t621).bind fun t624 => (some t624))) = some r := by rw [if_pos rfl] at H; exact H
     clear H
     have H := H1
     clear H1
     replace H := Option.bind_eq_some_iff.mp H
     obtain ⟨t621, A210, H⟩ := H
     replace H : ((laws_equalTasks.f kj4 t614 t621).bind fun t624 => (some t624)) = some r := H
     have A21 := Aside0.mk A210
     clear A210
     replace H := Option.bind_eq_some_iff.mp H
     obtain ⟨t624, A220, H⟩ := H
     replace H : (some t624) = some r := H
     have A22 := Aside0.mk A220
     clear A220
     obtain rfl := Option.some.inj H
     go_wp2_with (first | ((with_reducible refine gate_callee (f := 29) rfl ?_); refine goesL_ (some 24) rfl rfl Tryd.func29 (by kernel_rfl) rfl #[.slice Ao7 t611.length co7] rfl (by (try simp only [List.map_toArray, List.map_cons, List.map_nil]); first | done | rfl | (simp only [List.length_drop, List.length_take]; rfl)) ?_; (with_reducible refine (spec_WithoutUseless.calls kj4 _ _ t611 t621 _ ?side1 ?side2 A21.out).mono ?_); (case side1 => repeat (first | exact (Kd.N_reads' HO_3.out).2.2 | (with_reducible refine Kd.C_alloc ?_ _) | (with_reducible refine Kd.C_drewN ?_ _) | (with_reducible refine Kd.C_drew ?_))); (case side2 => exact (Kd.N_reads' HO_3.out).2.1); rintro e w23 ⟨v622, rfl, ho0, hb⟩; refine ⟨_, rfl, ?_⟩; have n0_ := Aside0.mk (Kd.N_elder' (by (with_reducible repeat (first | apply Kd.N_alloc | apply Kd.N_drewN | apply Kd.N_drew)); exact HO_3.out) (Kd.S_base ho0) hb); have n1_ := Aside0.mk (Kd.N_elder' (by (with_reducible repeat (first | apply Kd.N_alloc | apply Kd.N_drewN | apply Kd.N_drew)); exact HO_4.out) (Kd.S_base ho0) hb); have n2_ := Aside0.mk (Kd.N_lower (Kd.N_mono (ok' := fun k_ => some k_ ≠ (.slice Ao7 t611.length co7 : Value).ownBlock ∧ some k_ ≠ (v615 : Value).ownBlock) (Kd.S_N (Kd.S_bound ho0)) (fun k_ hk_ => ⟨(Kd.fresh' (Kd.N_lt (by (with_reducible repeat (first | apply Kd.N_alloc | apply Kd.N_drewN | apply Kd.N_drew)); exact HO_3.out)) k_ hk_.2.1), (Kd.fresh' (Kd.N_lt (by (with_reducible repeat (first | apply Kd.N_alloc | apply Kd.N_drewN | apply Kd.N_drew)); exact HO_4.out)) k_ hk_.2.1)⟩)) (below_size (by repeat (first | (with_reducible first | exact HB.out | apply below_alloc | apply pw_below_drewN | apply below_drew1) | exact HB.out)))); have n3_ := Aside0.mk (below_step (by repeat (first | (with_reducible first | exact HB.out | apply below_alloc | apply pw_below_drewN | apply below_drew1) | exact HB.out)) hb); clear HO_3; clear HO_4; clear HB; have HO_3 := n0_; have HO_4 := n1_; have HO623 := n2_; have HB := n3_; clear n0_ n1_ n2_ n3_; (try clear hb); (try clear hb2); (try clear hk); (try clear hi); (try clear ho0); obtain ⟨Ao24, co24, eo24⟩ := Kd.N_slice HO_4.out; subst eo24; obtain ⟨Ao25, co25, eo25⟩ := Kd.N_slice HO623.out; subst eo25) | ((with_reducible refine gate_callee (f := 28) rfl ?_); refine goesL_ (some 25) rfl rfl Tryd.func28 (by kernel_rfl) rfl #[.slice Ao24 t614.length co24, .slice Ao25 t621.length co25] rfl (by (try simp only [List.map_toArray, List.map_cons, List.map_nil]); first | done | rfl | (simp only [List.length_drop, List.length_take]; rfl)) ?_; (with_reducible refine (laws_equalTasks.calls kj4 _ _ t614 _ _ t621 t624 _ ?side1 ?side2 ?side3 ?side4 A22.out).mono ?_); (case side1 => repeat (first | exact (Kd.N_reads' HO_4.out).2.2 | (with_reducible refine Kd.C_alloc ?_ _) | (with_reducible refine Kd.C_drewN ?_ _) | (with_reducible refine Kd.C_drew ?_))); (case side2 => exact (Kd.N_reads' HO_4.out).2.1); (case side3 => repeat (first | exact (Kd.N_reads' HO623.out).2.2 | (with_reducible refine Kd.C_alloc ?_ _) | (with_reducible refine Kd.C_drewN ?_ _) | (with_reducible refine Kd.C_drew ?_))); (case side4 => exact (Kd.N_reads' HO623.out).2.1); rintro e w26 ⟨rfl, hb⟩; refine ⟨_, rfl, ?_⟩; have n0_ := Aside0.mk (Kd.N_below (by (with_reducible repeat (first | apply Kd.N_alloc | apply Kd.N_drewN | apply Kd.N_drew)); exact HO_3.out) hb); have n1_ := Aside0.mk (Kd.N_below (by (with_reducible repeat (first | apply Kd.N_alloc | apply Kd.N_drewN | apply Kd.N_drew)); exact HO_4.out) hb); have n2_ := Aside0.mk (Kd.N_below (by (with_reducible repeat (first | apply Kd.N_alloc | apply Kd.N_drewN | apply Kd.N_drew)); exact HO623.out) hb); have n3_ := Aside0.mk (below_step (by repeat (first | (with_reducible first | exact HB.out | apply below_alloc | apply pw_below_drewN | apply below_drew1) | exact HB.out)) hb); clear HO_3; clear HO_4; clear HO623; clear HB; have HO_3 := n0_; have HO_4 := n1_; have HO623 := n2_; have HB := n3_; clear n0_ n1_ n2_ n3_; (try clear hb); (try clear hb2); (try clear hk); (try clear hi)))
     go_ret
     exact ⟨by first | rfl | (simp [errW_none, errW_some] <;> rfl) | (simp [*, errW_none, errW_some] <;> rfl), by repeat (first | (with_reducible first | exact HB.out | apply below_alloc | apply pw_below_drewN | apply below_drew1) | exact HB.out)⟩
    ·replace c20 := Bool.eq_false_iff.mpr c20
     subst c20
     have H1 : ((impl_HeadTimes.f t614).bind fun t625 => ((impl_HeadTimes.f t611).bind fun t628 => ((laws_equalInts.f kj4 t625 t628).bind fun t631 => (if t631 = true then ((impl_TailTimes.f t614).bind fun t632 => ((impl_TailTimes.f t611).bind fun t635 => ((laws_equalInts.f kj4 t632 t635).bind fun t638 => (if t638 = true then ((impl_StageOf.f t614).bind fun t639 => ((impl_StageOf.f t611).bind fun t642 => ((laws_equalInts.f kj4 t639 t642).bind fun t645 => (some t645)))) else (some false))))) else (some false))))) = some r := by rw [if_neg (show ¬ (false = true) by decide)] at H; exact H
     clear H
     have H := H1
     clear H1
     replace H := Option.bind_eq_some_iff.mp H
     obtain ⟨t625, A270, H⟩ := H
     replace H : ((impl_HeadTimes.f t611).bind fun t628 => ((laws_equalInts.f kj4 t625 t628).bind fun t631 => (if t631 = true then ((impl_TailTimes.f t614).bind fun t632 => ((impl_TailTimes.f t611).bind fun t635 => ((laws_equalInts.f kj4 t632 t635).bind fun t638 => (if t638 = true then ((impl_StageOf.f t614).bind fun t639 => ((impl_StageOf.f t611).bind fun t642 => ((laws_equalInts.f kj4 t639 t642).bind fun t645 => (some t645)))) else (some false))))) else (some false)))) = some r := H
     have A27 := Aside0.mk A270
     clear A270
     replace H := Option.bind_eq_some_iff.mp H
     obtain ⟨t628, A280, H⟩ := H
     replace H : ((laws_equalInts.f kj4 t625 t628).bind fun t631 => (if t631 = true then ((impl_TailTimes.f t614).bind fun t632 => ((impl_TailTimes.f t611).bind fun t635 => ((laws_equalInts.f kj4 t632 t635).bind fun t638 => (if t638 = true then ((impl_StageOf.f t614).bind fun t639 => ((impl_StageOf.f t611).bind fun t642 => ((laws_equalInts.f kj4 t639 t642).bind fun t645 => (some t645)))) else (some false))))) else (some false))) = some r := H
     have A28 := Aside0.mk A280
     clear A280
     replace H := Option.bind_eq_some_iff.mp H
     obtain ⟨t631, A290, H⟩ := H
     replace H : (if t631 = true then ((impl_TailTimes.f t614).bind fun t632 => ((impl_TailTimes.f t611).bind fun t635 => ((laws_equalInts.f kj4 t632 t635).bind fun t638 => (if t638 = true then ((impl_StageOf.f t614).bind fun t639 => ((impl_StageOf.f t611).bind fun t642 => ((laws_equalInts.f kj4 t639 t642).bind fun t645 => (some t645)))) else (some false))))) else (some false)) = some r := H
     have A29 := Aside0.mk A290
     clear A290
     by_cases c30 : t631 = true
     ·subst c30
      have H1 : ((impl_TailTimes.f t614).bind fun t632 => ((impl_TailTimes.f t611).bind fun t635 => ((laws_equalInts.f kj4 t632 t635).bind fun t638 => (if t638 = true then ((impl_StageOf.f t614).bind fun t639 => ((impl_StageOf.f t611).bind fun t642 => ((laws_equalInts.f kj4 t639 t642).bind fun t645 => (some t645)))) else (some false))))) = some r := by rw [if_pos rfl] at H; exact H
      clear H
      have H := H1
      clear H1
      replace H := Option.bind_eq_some_iff.mp H
      obtain ⟨t632, A310, H⟩ := H
      replace H : ((impl_TailTimes.f t611).bind fun t635 => ((laws_equalInts.f kj4 t632 t635).bind fun t638 => (if t638 = true then ((impl_StageOf.f t614).bind fun t639 => ((impl_StageOf.f t611).bind fun t642 => ((laws_equalInts.f kj4 t639 t642).bind fun t645 => (some t645)))) else (some false)))) = some r := H
      have A31 := Aside0.mk A310
      clear A310
      replace H := Option.bind_eq_some_iff.mp H
      obtain ⟨t635, A320, H⟩ := H
      replace H : ((laws_equalInts.f kj4 t632 t635).bind fun t638 => (if t638 = true then ((impl_StageOf.f t614).bind fun t639 => ((impl_StageOf.f t611).bind fun t642 => ((laws_equalInts.f kj4 t639 t642).bind fun t645 => (some t645)))) else (some false))) = some r := H
      have A32 := Aside0.mk A320
      clear A320
      replace H := Option.bind_eq_some_iff.mp H
      obtain ⟨t638, A330, H⟩ := H
      replace H : (if t638 = true then ((impl_StageOf.f t614).bind fun t639 => ((impl_StageOf.f t611).bind fun t642 => ((laws_equalInts.f kj4 t639 t642).bind fun t645 => (some t645)))) else (some false)) = some r := H
      have A33 := Aside0.mk A330
      clear A330
      by_cases c34 : t638 = true
      ·subst c34
       have H1 : ((impl_StageOf.f t614).bind fun t639 => ((impl_StageOf.f t611).bind fun t642 => ((laws_equalInts.f kj4 t639 t642).bind fun t645 => (some t645)))) = some r := by rw [if_pos rfl] at H; exact H
       clear H
       have H := H1
       clear H1
       replace H := Option.bind_eq_some_iff.mp H
       obtain ⟨t639, A350, H⟩ := H
       replace H : ((impl_StageOf.f t611).bind fun t642 => ((laws_equalInts.f kj4 t639 t642).bind fun t645 => (some t645))) = some r := H
       have A35 := Aside0.mk A350
       clear A350
       replace H := Option.bind_eq_some_iff.mp H
       obtain ⟨t642, A360, H⟩ := H
       replace H : ((laws_equalInts.f kj4 t639 t642).bind fun t645 => (some t645)) = some r := H
       have A36 := Aside0.mk A360
       clear A360
       replace H := Option.bind_eq_some_iff.mp H
       obtain ⟨t645, A370, H⟩ := H
       replace H : (some t645) = some r := H
       have A37 := Aside0.mk A370
       clear A370
       obtain rfl := Option.some.inj H
       obtain ⟨Ao38, co38, eo38⟩ := Kd.N_slice HO_4.out
       subst eo38
       go_wp2_with (first | ((with_reducible refine gate_callee (f := 30) rfl ?_); refine goesL_ (some 27) rfl rfl Tryd.func30 (by kernel_rfl) rfl #[.slice Ao38 t614.length co38] rfl (by (try simp only [List.map_toArray, List.map_cons, List.map_nil]); first | done | rfl | (simp only [List.length_drop, List.length_take]; rfl)) ?_; (with_reducible refine (impl_HeadTimes.calls _ _ t614 t625 _ ?side1 ?side2 A27.out ?sideTab).mono ?_); (case sideTab => exact TabOK.below hTab.out (by repeat (first | (with_reducible first | exact HB.out | apply below_alloc | apply pw_below_drewN | apply below_drew1) | exact HB.out))); (case side1 => repeat (first | exact (Kd.N_reads' HO_4.out).2.2 | (with_reducible refine Kd.C_alloc ?_ _) | (with_reducible refine Kd.C_drewN ?_ _) | (with_reducible refine Kd.C_drew ?_))); (case side2 => exact (Kd.N_reads' HO_4.out).2.1); rintro e w39 ⟨v626, rfl, ho0, hb⟩; refine ⟨_, rfl, ?_⟩; have n0_ := Aside0.mk (Kd.N_elder' (by (with_reducible repeat (first | apply Kd.N_alloc | apply Kd.N_drewN | apply Kd.N_drew)); exact HO_3.out) (Kd.R_base ho0) hb); have n1_ := Aside0.mk (Kd.N_elder' (by (with_reducible repeat (first | apply Kd.N_alloc | apply Kd.N_drewN | apply Kd.N_drew)); exact HO_4.out) (Kd.R_base ho0) hb); have n2_ := Aside0.mk (Kd.R_lower ho0 (below_size (by repeat (first | (with_reducible first | exact HB.out | apply below_alloc | apply pw_below_drewN | apply below_drew1) | exact HB.out)))); have n3_ := Aside0.mk (below_step (by repeat (first | (with_reducible first | exact HB.out | apply below_alloc | apply pw_below_drewN | apply below_drew1) | exact HB.out)) hb); clear HO_3; clear HO_4; clear HB; have HO_3 := n0_; have HO_4 := n1_; have HO627 := n2_; have HB := n3_; clear n0_ n1_ n2_ n3_; (try clear hb); (try clear hb2); (try clear hk); (try clear hi); (try clear ho0)) | ((with_reducible refine gate_callee (f := 30) rfl ?_); refine goesL_ (some 29) rfl rfl Tryd.func30 (by kernel_rfl) rfl #[.slice Ao7 t611.length co7] rfl (by (try simp only [List.map_toArray, List.map_cons, List.map_nil]); first | done | rfl | (simp only [List.length_drop, List.length_take]; rfl)) ?_; (with_reducible refine (impl_HeadTimes.calls _ _ t611 t628 _ ?side1 ?side2 A28.out ?sideTab).mono ?_); (case sideTab => exact TabOK.below hTab.out (by repeat (first | (with_reducible first | exact HB.out | apply below_alloc | apply pw_below_drewN | apply below_drew1) | exact HB.out))); (case side1 => repeat (first | exact (Kd.N_reads' HO_3.out).2.2 | (with_reducible refine Kd.C_alloc ?_ _) | (with_reducible refine Kd.C_drewN ?_ _) | (with_reducible refine Kd.C_drew ?_))); (case side2 => exact (Kd.N_reads' HO_3.out).2.1); rintro e w40 ⟨v629, rfl, ho0, hb⟩; refine ⟨_, rfl, ?_⟩; have n0_ := Aside0.mk (Kd.N_elder' (by (with_reducible repeat (first | apply Kd.N_alloc | apply Kd.N_drewN | apply Kd.N_drew)); exact HO_3.out) (Kd.R_base ho0) hb); have n1_ := Aside0.mk (Kd.N_elder' (by (with_reducible repeat (first | apply Kd.N_alloc | apply Kd.N_drewN | apply Kd.N_drew)); exact HO_4.out) (Kd.R_base ho0) hb); have n2_ := Aside0.mk (Kd.R_elder' (by (with_reducible repeat (first | apply Kd.R_alloc | apply Kd.R_drewN | apply Kd.R_drew)); exact HO627.out) (Kd.R_base ho0) hb); have n3_ := Aside0.mk (Kd.R_lower (Kd.R_new' ho0 (Kd.R_lt (by (with_reducible repeat (first | apply Kd.R_alloc | apply Kd.R_drewN | apply Kd.R_drew)); exact HO627.out))) (below_size (by repeat (first | (with_reducible first | exact HB.out | apply below_alloc | apply pw_below_drewN | apply below_drew1) | exact HB.out)))); have n4_ := Aside0.mk (below_step (by repeat (first | (with_reducible first | exact HB.out | apply below_alloc | apply pw_below_drewN | apply below_drew1) | exact HB.out)) hb); clear HO_3; clear HO_4; clear HO627; clear HB; have HO_3 := n0_; have HO_4 := n1_; have HO627 := n2_; have HO630 := n3_; have HB := n4_; clear n0_ n1_ n2_ n3_ n4_; (try clear hb); (try clear hb2); (try clear hk); (try clear hi); (try clear ho0); obtain ⟨Ao41, co41, eo41⟩ := Kd.R_slice HO627.out; subst eo41; obtain ⟨Ao42, co42, eo42⟩ := Kd.R_slice HO630.out; subst eo42) | ((with_reducible refine gate_callee (f := 19) rfl ?_); refine goesL_ (some 30) rfl rfl Tryd.func19 (by kernel_rfl) rfl #[.slice Ao41 t625.length co41, .slice Ao42 t628.length co42] rfl (by (try simp only [List.map_toArray, List.map_cons, List.map_nil]); first | done | rfl | (simp only [List.length_drop, List.length_take]; rfl)) ?_; (with_reducible refine (laws_equalInts.calls kj4 _ _ t625 _ _ t628 true _ ?side1 ?side2 ?side3 ?side4 A29.out).mono ?_); (case side1 => repeat (first | exact (Kd.R_reads' HO627.out).2.2 | (with_reducible refine Kd.C_alloc ?_ _) | (with_reducible refine Kd.C_drewN ?_ _) | (with_reducible refine Kd.C_drew ?_))); (case side2 => exact (Kd.R_reads' HO627.out).2.1); (case side3 => repeat (first | exact (Kd.R_reads' HO630.out).2.2 | (with_reducible refine Kd.C_alloc ?_ _) | (with_reducible refine Kd.C_drewN ?_ _) | (with_reducible refine Kd.C_drew ?_))); (case side4 => exact (Kd.R_reads' HO630.out).2.1); rintro e w' ⟨rfl, ⟨nd, rfl⟩⟩; refine ⟨_, rfl, ?_⟩) | (go_at_call 31; (with_reducible refine (impl_TailTimes.calls _ _ t614 t632 _ ?side1 ?side2 A31.out ?sideTab).mono ?_); (case sideTab => exact TabOK.below hTab.out (by repeat (first | (with_reducible first | exact HB.out | apply below_alloc | apply pw_below_drewN | apply below_drew1) | exact HB.out))); (case side1 => repeat (first | exact (Kd.N_reads' HO_4.out).2.2 | (with_reducible refine Kd.C_alloc ?_ _) | (with_reducible refine Kd.C_drewN ?_ _) | (with_reducible refine Kd.C_drew ?_))); (case side2 => exact (Kd.N_reads' HO_4.out).2.1); rintro e w43 ⟨v633, rfl, ho0, hb⟩; have n0_ := Aside0.mk (Kd.N_elder' (by (with_reducible repeat (first | apply Kd.N_alloc | apply Kd.N_drewN | apply Kd.N_drew)); exact HO_3.out) (Kd.R_base ho0) hb); have n1_ := Aside0.mk (Kd.N_elder' (by (with_reducible repeat (first | apply Kd.N_alloc | apply Kd.N_drewN | apply Kd.N_drew)); exact HO_4.out) (Kd.R_base ho0) hb); have n2_ := Aside0.mk (Kd.R_elder' (by (with_reducible repeat (first | apply Kd.R_alloc | apply Kd.R_drewN | apply Kd.R_drew)); exact HO627.out) (Kd.R_base ho0) hb); have n3_ := Aside0.mk (Kd.R_elder' (by (with_reducible repeat (first | apply Kd.R_alloc | apply Kd.R_drewN | apply Kd.R_drew)); exact HO630.out) (Kd.R_base ho0) hb); have n4_ := Aside0.mk (Kd.R_lower (Kd.R_new' (Kd.R_new' ho0 (Kd.R_lt (by (with_reducible repeat (first | apply Kd.R_alloc | apply Kd.R_drewN | apply Kd.R_drew)); exact HO627.out))) (Kd.R_lt (by (with_reducible repeat (first | apply Kd.R_alloc | apply Kd.R_drewN | apply Kd.R_drew)); exact HO630.out))) (below_size (by repeat (first | (with_reducible first | exact HB.out | apply below_alloc | apply pw_below_drewN | apply below_drew1) | exact HB.out)))); have n5_ := Aside0.mk (below_step (by repeat (first | (with_reducible first | exact HB.out | apply below_alloc | apply pw_below_drewN | apply below_drew1) | exact HB.out)) hb); clear HO_3; clear HO_4; clear HO627; clear HO630; clear HB; have HO_3 := n0_; have HO_4 := n1_; have HO627 := n2_; have HO630 := n3_; have HO634 := n4_; have HB := n5_; clear n0_ n1_ n2_ n3_ n4_ n5_; (try clear hb); (try clear hb2); (try clear hk); (try clear hi); (try clear ho0)) | (go_at_call 31; (with_reducible refine (impl_TailTimes.calls _ _ t611 t635 _ ?side1 ?side2 A32.out ?sideTab).mono ?_); (case sideTab => exact TabOK.below hTab.out (by repeat (first | (with_reducible first | exact HB.out | apply below_alloc | apply pw_below_drewN | apply below_drew1) | exact HB.out))); (case side1 => repeat (first | exact (Kd.N_reads' HO_3.out).2.2 | (with_reducible refine Kd.C_alloc ?_ _) | (with_reducible refine Kd.C_drewN ?_ _) | (with_reducible refine Kd.C_drew ?_))); (case side2 => exact (Kd.N_reads' HO_3.out).2.1); rintro e w44 ⟨v636, rfl, ho0, hb⟩; have n0_ := Aside0.mk (Kd.N_elder' (by (with_reducible repeat (first | apply Kd.N_alloc | apply Kd.N_drewN | apply Kd.N_drew)); exact HO_3.out) (Kd.R_base ho0) hb); have n1_ := Aside0.mk (Kd.N_elder' (by (with_reducible repeat (first | apply Kd.N_alloc | apply Kd.N_drewN | apply Kd.N_drew)); exact HO_4.out) (Kd.R_base ho0) hb); have n2_ := Aside0.mk (Kd.R_elder' (by (with_reducible repeat (first | apply Kd.R_alloc | apply Kd.R_drewN | apply Kd.R_drew)); exact HO627.out) (Kd.R_base ho0) hb); have n3_ := Aside0.mk (Kd.R_elder' (by (with_reducible repeat (first | apply Kd.R_alloc | apply Kd.R_drewN | apply Kd.R_drew)); exact HO630.out) (Kd.R_base ho0) hb); have n4_ := Aside0.mk (Kd.R_elder' (by (with_reducible repeat (first | apply Kd.R_alloc | apply Kd.R_drewN | apply Kd.R_drew)); exact HO634.out) (Kd.R_base ho0) hb); have n5_ := Aside0.mk (Kd.R_lower (Kd.R_new' (Kd.R_new' (Kd.R_new' ho0 (Kd.R_lt (by (with_reducible repeat (first | apply Kd.R_alloc | apply Kd.R_drewN | apply Kd.R_drew)); exact HO627.out))) (Kd.R_lt (by (with_reducible repeat (first | apply Kd.R_alloc | apply Kd.R_drewN | apply Kd.R_drew)); exact HO630.out))) (Kd.R_lt (by (with_reducible repeat (first | apply Kd.R_alloc | apply Kd.R_drewN | apply Kd.R_drew)); exact HO634.out))) (below_size (by repeat (first | (with_reducible first | exact HB.out | apply below_alloc | apply pw_below_drewN | apply below_drew1) | exact HB.out)))); have n6_ := Aside0.mk (below_step (by repeat (first | (with_reducible first | exact HB.out | apply below_alloc | apply pw_below_drewN | apply below_drew1) | exact HB.out)) hb); clear HO_3; clear HO_4; clear HO627; clear HO630; clear HO634; clear HB; have HO_3 := n0_; have HO_4 := n1_; have HO627 := n2_; have HO630 := n3_; have HO634 := n4_; have HO637 := n5_; have HB := n6_; clear n0_ n1_ n2_ n3_ n4_ n5_ n6_; (try clear hb); (try clear hb2); (try clear hk); (try clear hi); (try clear ho0); obtain ⟨Ao45, co45, eo45⟩ := Kd.R_slice HO634.out; subst eo45; obtain ⟨Ao46, co46, eo46⟩ := Kd.R_slice HO637.out; subst eo46) | (go_at_call 19; (with_reducible refine (laws_equalInts.calls kj4 _ _ t632 _ _ t635 true _ ?side1 ?side2 ?side3 ?side4 A33.out).mono ?_); (case side1 => repeat (first | exact (Kd.R_reads' HO634.out).2.2 | (with_reducible refine Kd.C_alloc ?_ _) | (with_reducible refine Kd.C_drewN ?_ _) | (with_reducible refine Kd.C_drew ?_))); (case side2 => exact (Kd.R_reads' HO634.out).2.1); (case side3 => repeat (first | exact (Kd.R_reads' HO637.out).2.2 | (with_reducible refine Kd.C_alloc ?_ _) | (with_reducible refine Kd.C_drewN ?_ _) | (with_reducible refine Kd.C_drew ?_))); (case side4 => exact (Kd.R_reads' HO637.out).2.1); rintro e w' ⟨rfl, ⟨nd, rfl⟩⟩) | (go_at_call 32; (with_reducible refine (impl_StageOf.calls _ _ t614 t639 _ ?side1 ?side2 A35.out ?sideTab).mono ?_); (case sideTab => exact TabOK.below hTab.out (by repeat (first | (with_reducible first | exact HB.out | apply below_alloc | apply pw_below_drewN | apply below_drew1) | exact HB.out))); (case side1 => repeat (first | exact (Kd.N_reads' HO_4.out).2.2 | (with_reducible refine Kd.C_alloc ?_ _) | (with_reducible refine Kd.C_drewN ?_ _) | (with_reducible refine Kd.C_drew ?_))); (case side2 => exact (Kd.N_reads' HO_4.out).2.1); rintro e w47 ⟨v640, rfl, ho0, hb⟩; have n0_ := Aside0.mk (Kd.N_elder' (by (with_reducible repeat (first | apply Kd.N_alloc | apply Kd.N_drewN | apply Kd.N_drew)); exact HO_3.out) (Kd.R_base ho0) hb); have n1_ := Aside0.mk (Kd.N_elder' (by (with_reducible repeat (first | apply Kd.N_alloc | apply Kd.N_drewN | apply Kd.N_drew)); exact HO_4.out) (Kd.R_base ho0) hb); have n2_ := Aside0.mk (Kd.R_elder' (by (with_reducible repeat (first | apply Kd.R_alloc | apply Kd.R_drewN | apply Kd.R_drew)); exact HO627.out) (Kd.R_base ho0) hb); have n3_ := Aside0.mk (Kd.R_elder' (by (with_reducible repeat (first | apply Kd.R_alloc | apply Kd.R_drewN | apply Kd.R_drew)); exact HO630.out) (Kd.R_base ho0) hb); have n4_ := Aside0.mk (Kd.R_elder' (by (with_reducible repeat (first | apply Kd.R_alloc | apply Kd.R_drewN | apply Kd.R_drew)); exact HO634.out) (Kd.R_base ho0) hb); have n5_ := Aside0.mk (Kd.R_elder' (by (with_reducible repeat (first | apply Kd.R_alloc | apply Kd.R_drewN | apply Kd.R_drew)); exact HO637.out) (Kd.R_base ho0) hb); have n6_ := Aside0.mk (Kd.R_lower (Kd.R_new' (Kd.R_new' (Kd.R_new' (Kd.R_new' ho0 (Kd.R_lt (by (with_reducible repeat (first | apply Kd.R_alloc | apply Kd.R_drewN | apply Kd.R_drew)); exact HO627.out))) (Kd.R_lt (by (with_reducible repeat (first | apply Kd.R_alloc | apply Kd.R_drewN | apply Kd.R_drew)); exact HO630.out))) (Kd.R_lt (by (with_reducible repeat (first | apply Kd.R_alloc | apply Kd.R_drewN | apply Kd.R_drew)); exact HO634.out))) (Kd.R_lt (by (with_reducible repeat (first | apply Kd.R_alloc | apply Kd.R_drewN | apply Kd.R_drew)); exact HO637.out))) (below_size (by repeat (first | (with_reducible first | exact HB.out | apply below_alloc | apply pw_below_drewN | apply below_drew1) | exact HB.out)))); have n7_ := Aside0.mk (below_step (by repeat (first | (with_reducible first | exact HB.out | apply below_alloc | apply pw_below_drewN | apply below_drew1) | exact HB.out)) hb); clear HO_3; clear HO_4; clear HO627; clear HO630; clear HO634; clear HO637; clear HB; have HO_3 := n0_; have HO_4 := n1_; have HO627 := n2_; have HO630 := n3_; have HO634 := n4_; have HO637 := n5_; have HO641 := n6_; have HB := n7_; clear n0_ n1_ n2_ n3_ n4_ n5_ n6_ n7_; (try clear hb); (try clear hb2); (try clear hk); (try clear hi); (try clear ho0)) | (go_at_call 32; (with_reducible refine (impl_StageOf.calls _ _ t611 t642 _ ?side1 ?side2 A36.out ?sideTab).mono ?_); (case sideTab => exact TabOK.below hTab.out (by repeat (first | (with_reducible first | exact HB.out | apply below_alloc | apply pw_below_drewN | apply below_drew1) | exact HB.out))); (case side1 => repeat (first | exact (Kd.N_reads' HO_3.out).2.2 | (with_reducible refine Kd.C_alloc ?_ _) | (with_reducible refine Kd.C_drewN ?_ _) | (with_reducible refine Kd.C_drew ?_))); (case side2 => exact (Kd.N_reads' HO_3.out).2.1); rintro e w48 ⟨v643, rfl, ho0, hb⟩; have n0_ := Aside0.mk (Kd.N_elder' (by (with_reducible repeat (first | apply Kd.N_alloc | apply Kd.N_drewN | apply Kd.N_drew)); exact HO_3.out) (Kd.R_base ho0) hb); have n1_ := Aside0.mk (Kd.N_elder' (by (with_reducible repeat (first | apply Kd.N_alloc | apply Kd.N_drewN | apply Kd.N_drew)); exact HO_4.out) (Kd.R_base ho0) hb); have n2_ := Aside0.mk (Kd.R_elder' (by (with_reducible repeat (first | apply Kd.R_alloc | apply Kd.R_drewN | apply Kd.R_drew)); exact HO627.out) (Kd.R_base ho0) hb); have n3_ := Aside0.mk (Kd.R_elder' (by (with_reducible repeat (first | apply Kd.R_alloc | apply Kd.R_drewN | apply Kd.R_drew)); exact HO630.out) (Kd.R_base ho0) hb); have n4_ := Aside0.mk (Kd.R_elder' (by (with_reducible repeat (first | apply Kd.R_alloc | apply Kd.R_drewN | apply Kd.R_drew)); exact HO634.out) (Kd.R_base ho0) hb); have n5_ := Aside0.mk (Kd.R_elder' (by (with_reducible repeat (first | apply Kd.R_alloc | apply Kd.R_drewN | apply Kd.R_drew)); exact HO637.out) (Kd.R_base ho0) hb); have n6_ := Aside0.mk (Kd.R_elder' (by (with_reducible repeat (first | apply Kd.R_alloc | apply Kd.R_drewN | apply Kd.R_drew)); exact HO641.out) (Kd.R_base ho0) hb); have n7_ := Aside0.mk (Kd.R_lower (Kd.R_new' (Kd.R_new' (Kd.R_new' (Kd.R_new' (Kd.R_new' ho0 (Kd.R_lt (by (with_reducible repeat (first | apply Kd.R_alloc | apply Kd.R_drewN | apply Kd.R_drew)); exact HO627.out))) (Kd.R_lt (by (with_reducible repeat (first | apply Kd.R_alloc | apply Kd.R_drewN | apply Kd.R_drew)); exact HO630.out))) (Kd.R_lt (by (with_reducible repeat (first | apply Kd.R_alloc | apply Kd.R_drewN | apply Kd.R_drew)); exact HO634.out))) (Kd.R_lt (by (with_reducible repeat (first | apply Kd.R_alloc | apply Kd.R_drewN | apply Kd.R_drew)); exact HO637.out))) (Kd.R_lt (by (with_reducible repeat (first | apply Kd.R_alloc | apply Kd.R_drewN | apply Kd.R_drew)); exact HO641.out))) (below_size (by repeat (first | (with_reducible first | exact HB.out | apply below_alloc | apply pw_below_drewN | apply below_drew1) | exact HB.out)))); have n8_ := Aside0.mk (below_step (by repeat (first | (with_reducible first | exact HB.out | apply below_alloc | apply pw_below_drewN | apply below_drew1) | exact HB.out)) hb); clear HO_3; clear HO_4; clear HO627; clear HO630; clear HO634; clear HO637; clear HO641; clear HB; have HO_3 := n0_; have HO_4 := n1_; have HO627 := n2_; have HO630 := n3_; have HO634 := n4_; have HO637 := n5_; have HO641 := n6_; have HO644 := n7_; have HB := n8_; clear n0_ n1_ n2_ n3_ n4_ n5_ n6_ n7_ n8_; (try clear hb); (try clear hb2); (try clear hk); (try clear hi); (try clear ho0); obtain ⟨Ao49, co49, eo49⟩ := Kd.R_slice HO641.out; subst eo49; obtain ⟨Ao50, co50, eo50⟩ := Kd.R_slice HO644.out; subst eo50) | (go_at_call 19; (with_reducible refine (laws_equalInts.calls kj4 _ _ t639 _ _ t642 t645 _ ?side1 ?side2 ?side3 ?side4 A37.out).mono ?_); (case side1 => repeat (first | exact (Kd.R_reads' HO641.out).2.2 | (with_reducible refine Kd.C_alloc ?_ _) | (with_reducible refine Kd.C_drewN ?_ _) | (with_reducible refine Kd.C_drew ?_))); (case side2 => exact (Kd.R_reads' HO641.out).2.1); (case side3 => repeat (first | exact (Kd.R_reads' HO644.out).2.2 | (with_reducible refine Kd.C_alloc ?_ _) | (with_reducible refine Kd.C_drewN ?_ _) | (with_reducible refine Kd.C_drew ?_))); (case side4 => exact (Kd.R_reads' HO644.out).2.1); rintro e w' ⟨rfl, ⟨nd, rfl⟩⟩))
       go_ret
       exact ⟨by first | rfl | (simp [errW_none, errW_some] <;> rfl) | (simp [*, errW_none, errW_some] <;> rfl), by repeat (first | (with_reducible first | exact HB.out | apply below_alloc | apply pw_below_drewN | apply below_drew1) | exact HB.out)⟩
      ·replace c34 := Bool.eq_false_iff.mpr c34
       subst c34
       have H1 : (some false) = some r := by rw [if_neg (show ¬ (false = true) by decide)] at H; exact H
       clear H
       have H := H1
       clear H1
       obtain rfl := Option.some.inj H
       obtain ⟨Ao51, co51, eo51⟩ := Kd.N_slice HO_4.out
       subst eo51
       go_wp2_with (first | ((with_reducible refine gate_callee (f := 30) rfl ?_); refine goesL_ (some 27) rfl rfl Tryd.func30 (by kernel_rfl) rfl #[.slice Ao51 t614.length co51] rfl (by (try simp only [List.map_toArray, List.map_cons, List.map_nil]); first | done | rfl | (simp only [List.length_drop, List.length_take]; rfl)) ?_; (with_reducible refine (impl_HeadTimes.calls _ _ t614 t625 _ ?side1 ?side2 A27.out ?sideTab).mono ?_); (case sideTab => exact TabOK.below hTab.out (by repeat (first | (with_reducible first | exact HB.out | apply below_alloc | apply pw_below_drewN | apply below_drew1) | exact HB.out))); (case side1 => repeat (first | exact (Kd.N_reads' HO_4.out).2.2 | (with_reducible refine Kd.C_alloc ?_ _) | (with_reducible refine Kd.C_drewN ?_ _) | (with_reducible refine Kd.C_drew ?_))); (case side2 => exact (Kd.N_reads' HO_4.out).2.1); rintro e w52 ⟨v626, rfl, ho0, hb⟩; refine ⟨_, rfl, ?_⟩; have n0_ := Aside0.mk (Kd.N_elder' (by (with_reducible repeat (first | apply Kd.N_alloc | apply Kd.N_drewN | apply Kd.N_drew)); exact HO_3.out) (Kd.R_base ho0) hb); have n1_ := Aside0.mk (Kd.N_elder' (by (with_reducible repeat (first | apply Kd.N_alloc | apply Kd.N_drewN | apply Kd.N_drew)); exact HO_4.out) (Kd.R_base ho0) hb); have n2_ := Aside0.mk (Kd.R_lower ho0 (below_size (by repeat (first | (with_reducible first | exact HB.out | apply below_alloc | apply pw_below_drewN | apply below_drew1) | exact HB.out)))); have n3_ := Aside0.mk (below_step (by repeat (first | (with_reducible first | exact HB.out | apply below_alloc | apply pw_below_drewN | apply below_drew1) | exact HB.out)) hb); clear HO_3; clear HO_4; clear HB; have HO_3 := n0_; have HO_4 := n1_; have HO627 := n2_; have HB := n3_; clear n0_ n1_ n2_ n3_; (try clear hb); (try clear hb2); (try clear hk); (try clear hi); (try clear ho0)) | ((with_reducible refine gate_callee (f := 30) rfl ?_); refine goesL_ (some 29) rfl rfl Tryd.func30 (by kernel_rfl) rfl #[.slice Ao7 t611.length co7] rfl (by (try simp only [List.map_toArray, List.map_cons, List.map_nil]); first | done | rfl | (simp only [List.length_drop, List.length_take]; rfl)) ?_; (with_reducible refine (impl_HeadTimes.calls _ _ t611 t628 _ ?side1 ?side2 A28.out ?sideTab).mono ?_); (case sideTab => exact TabOK.below hTab.out (by repeat (first | (with_reducible first | exact HB.out | apply below_alloc | apply pw_below_drewN | apply below_drew1) | exact HB.out))); (case side1 => repeat (first | exact (Kd.N_reads' HO_3.out).2.2 | (with_reducible refine Kd.C_alloc ?_ _) | (with_reducible refine Kd.C_drewN ?_ _) | (with_reducible refine Kd.C_drew ?_))); (case side2 => exact (Kd.N_reads' HO_3.out).2.1); rintro e w53 ⟨v629, rfl, ho0, hb⟩; refine ⟨_, rfl, ?_⟩; have n0_ := Aside0.mk (Kd.N_elder' (by (with_reducible repeat (first | apply Kd.N_alloc | apply Kd.N_drewN | apply Kd.N_drew)); exact HO_3.out) (Kd.R_base ho0) hb); have n1_ := Aside0.mk (Kd.N_elder' (by (with_reducible repeat (first | apply Kd.N_alloc | apply Kd.N_drewN | apply Kd.N_drew)); exact HO_4.out) (Kd.R_base ho0) hb); have n2_ := Aside0.mk (Kd.R_elder' (by (with_reducible repeat (first | apply Kd.R_alloc | apply Kd.R_drewN | apply Kd.R_drew)); exact HO627.out) (Kd.R_base ho0) hb); have n3_ := Aside0.mk (Kd.R_lower (Kd.R_new' ho0 (Kd.R_lt (by (with_reducible repeat (first | apply Kd.R_alloc | apply Kd.R_drewN | apply Kd.R_drew)); exact HO627.out))) (below_size (by repeat (first | (with_reducible first | exact HB.out | apply below_alloc | apply pw_below_drewN | apply below_drew1) | exact HB.out)))); have n4_ := Aside0.mk (below_step (by repeat (first | (with_reducible first | exact HB.out | apply below_alloc | apply pw_below_drewN | apply below_drew1) | exact HB.out)) hb); clear HO_3; clear HO_4; clear HO627; clear HB; have HO_3 := n0_; have HO_4 := n1_; have HO627 := n2_; have HO630 := n3_; have HB := n4_; clear n0_ n1_ n2_ n3_ n4_; (try clear hb); (try clear hb2); (try clear hk); (try clear hi); (try clear ho0); obtain ⟨Ao54, co54, eo54⟩ := Kd.R_slice HO627.out; subst eo54; obtain ⟨Ao55, co55, eo55⟩ := Kd.R_slice HO630.out; subst eo55) | ((with_reducible refine gate_callee (f := 19) rfl ?_); refine goesL_ (some 30) rfl rfl Tryd.func19 (by kernel_rfl) rfl #[.slice Ao54 t625.length co54, .slice Ao55 t628.length co55] rfl (by (try simp only [List.map_toArray, List.map_cons, List.map_nil]); first | done | rfl | (simp only [List.length_drop, List.length_take]; rfl)) ?_; (with_reducible refine (laws_equalInts.calls kj4 _ _ t625 _ _ t628 true _ ?side1 ?side2 ?side3 ?side4 A29.out).mono ?_); (case side1 => repeat (first | exact (Kd.R_reads' HO627.out).2.2 | (with_reducible refine Kd.C_alloc ?_ _) | (with_reducible refine Kd.C_drewN ?_ _) | (with_reducible refine Kd.C_drew ?_))); (case side2 => exact (Kd.R_reads' HO627.out).2.1); (case side3 => repeat (first | exact (Kd.R_reads' HO630.out).2.2 | (with_reducible refine Kd.C_alloc ?_ _) | (with_reducible refine Kd.C_drewN ?_ _) | (with_reducible refine Kd.C_drew ?_))); (case side4 => exact (Kd.R_reads' HO630.out).2.1); rintro e w' ⟨rfl, ⟨nd, rfl⟩⟩; refine ⟨_, rfl, ?_⟩) | (go_at_call 31; (with_reducible refine (impl_TailTimes.calls _ _ t614 t632 _ ?side1 ?side2 A31.out ?sideTab).mono ?_); (case sideTab => exact TabOK.below hTab.out (by repeat (first | (with_reducible first | exact HB.out | apply below_alloc | apply pw_below_drewN | apply below_drew1) | exact HB.out))); (case side1 => repeat (first | exact (Kd.N_reads' HO_4.out).2.2 | (with_reducible refine Kd.C_alloc ?_ _) | (with_reducible refine Kd.C_drewN ?_ _) | (with_reducible refine Kd.C_drew ?_))); (case side2 => exact (Kd.N_reads' HO_4.out).2.1); rintro e w56 ⟨v633, rfl, ho0, hb⟩; have n0_ := Aside0.mk (Kd.N_elder' (by (with_reducible repeat (first | apply Kd.N_alloc | apply Kd.N_drewN | apply Kd.N_drew)); exact HO_3.out) (Kd.R_base ho0) hb); have n1_ := Aside0.mk (Kd.N_elder' (by (with_reducible repeat (first | apply Kd.N_alloc | apply Kd.N_drewN | apply Kd.N_drew)); exact HO_4.out) (Kd.R_base ho0) hb); have n2_ := Aside0.mk (Kd.R_elder' (by (with_reducible repeat (first | apply Kd.R_alloc | apply Kd.R_drewN | apply Kd.R_drew)); exact HO627.out) (Kd.R_base ho0) hb); have n3_ := Aside0.mk (Kd.R_elder' (by (with_reducible repeat (first | apply Kd.R_alloc | apply Kd.R_drewN | apply Kd.R_drew)); exact HO630.out) (Kd.R_base ho0) hb); have n4_ := Aside0.mk (Kd.R_lower (Kd.R_new' (Kd.R_new' ho0 (Kd.R_lt (by (with_reducible repeat (first | apply Kd.R_alloc | apply Kd.R_drewN | apply Kd.R_drew)); exact HO627.out))) (Kd.R_lt (by (with_reducible repeat (first | apply Kd.R_alloc | apply Kd.R_drewN | apply Kd.R_drew)); exact HO630.out))) (below_size (by repeat (first | (with_reducible first | exact HB.out | apply below_alloc | apply pw_below_drewN | apply below_drew1) | exact HB.out)))); have n5_ := Aside0.mk (below_step (by repeat (first | (with_reducible first | exact HB.out | apply below_alloc | apply pw_below_drewN | apply below_drew1) | exact HB.out)) hb); clear HO_3; clear HO_4; clear HO627; clear HO630; clear HB; have HO_3 := n0_; have HO_4 := n1_; have HO627 := n2_; have HO630 := n3_; have HO634 := n4_; have HB := n5_; clear n0_ n1_ n2_ n3_ n4_ n5_; (try clear hb); (try clear hb2); (try clear hk); (try clear hi); (try clear ho0)) | (go_at_call 31; (with_reducible refine (impl_TailTimes.calls _ _ t611 t635 _ ?side1 ?side2 A32.out ?sideTab).mono ?_); (case sideTab => exact TabOK.below hTab.out (by repeat (first | (with_reducible first | exact HB.out | apply below_alloc | apply pw_below_drewN | apply below_drew1) | exact HB.out))); (case side1 => repeat (first | exact (Kd.N_reads' HO_3.out).2.2 | (with_reducible refine Kd.C_alloc ?_ _) | (with_reducible refine Kd.C_drewN ?_ _) | (with_reducible refine Kd.C_drew ?_))); (case side2 => exact (Kd.N_reads' HO_3.out).2.1); rintro e w57 ⟨v636, rfl, ho0, hb⟩; have n0_ := Aside0.mk (Kd.N_elder' (by (with_reducible repeat (first | apply Kd.N_alloc | apply Kd.N_drewN | apply Kd.N_drew)); exact HO_3.out) (Kd.R_base ho0) hb); have n1_ := Aside0.mk (Kd.N_elder' (by (with_reducible repeat (first | apply Kd.N_alloc | apply Kd.N_drewN | apply Kd.N_drew)); exact HO_4.out) (Kd.R_base ho0) hb); have n2_ := Aside0.mk (Kd.R_elder' (by (with_reducible repeat (first | apply Kd.R_alloc | apply Kd.R_drewN | apply Kd.R_drew)); exact HO627.out) (Kd.R_base ho0) hb); have n3_ := Aside0.mk (Kd.R_elder' (by (with_reducible repeat (first | apply Kd.R_alloc | apply Kd.R_drewN | apply Kd.R_drew)); exact HO630.out) (Kd.R_base ho0) hb); have n4_ := Aside0.mk (Kd.R_elder' (by (with_reducible repeat (first | apply Kd.R_alloc | apply Kd.R_drewN | apply Kd.R_drew)); exact HO634.out) (Kd.R_base ho0) hb); have n5_ := Aside0.mk (Kd.R_lower (Kd.R_new' (Kd.R_new' (Kd.R_new' ho0 (Kd.R_lt (by (with_reducible repeat (first | apply Kd.R_alloc | apply Kd.R_drewN | apply Kd.R_drew)); exact HO627.out))) (Kd.R_lt (by (with_reducible repeat (first | apply Kd.R_alloc | apply Kd.R_drewN | apply Kd.R_drew)); exact HO630.out))) (Kd.R_lt (by (with_reducible repeat (first | apply Kd.R_alloc | apply Kd.R_drewN | apply Kd.R_drew)); exact HO634.out))) (below_size (by repeat (first | (with_reducible first | exact HB.out | apply below_alloc | apply pw_below_drewN | apply below_drew1) | exact HB.out)))); have n6_ := Aside0.mk (below_step (by repeat (first | (with_reducible first | exact HB.out | apply below_alloc | apply pw_below_drewN | apply below_drew1) | exact HB.out)) hb); clear HO_3; clear HO_4; clear HO627; clear HO630; clear HO634; clear HB; have HO_3 := n0_; have HO_4 := n1_; have HO627 := n2_; have HO630 := n3_; have HO634 := n4_; have HO637 := n5_; have HB := n6_; clear n0_ n1_ n2_ n3_ n4_ n5_ n6_; (try clear hb); (try clear hb2); (try clear hk); (try clear hi); (try clear ho0); obtain ⟨Ao58, co58, eo58⟩ := Kd.R_slice HO634.out; subst eo58; obtain ⟨Ao59, co59, eo59⟩ := Kd.R_slice HO637.out; subst eo59) | (go_at_call 19; (with_reducible refine (laws_equalInts.calls kj4 _ _ t632 _ _ t635 false _ ?side1 ?side2 ?side3 ?side4 A33.out).mono ?_); (case side1 => repeat (first | exact (Kd.R_reads' HO634.out).2.2 | (with_reducible refine Kd.C_alloc ?_ _) | (with_reducible refine Kd.C_drewN ?_ _) | (with_reducible refine Kd.C_drew ?_))); (case side2 => exact (Kd.R_reads' HO634.out).2.1); (case side3 => repeat (first | exact (Kd.R_reads' HO637.out).2.2 | (with_reducible refine Kd.C_alloc ?_ _) | (with_reducible refine Kd.C_drewN ?_ _) | (with_reducible refine Kd.C_drew ?_))); (case side4 => exact (Kd.R_reads' HO637.out).2.1); rintro e w' ⟨rfl, ⟨nd, rfl⟩⟩))
       go_ret
       exact ⟨by first | rfl | (simp [errW_none, errW_some] <;> rfl) | (simp [*, errW_none, errW_some] <;> rfl), by repeat (first | (with_reducible first | exact HB.out | apply below_alloc | apply pw_below_drewN | apply below_drew1) | exact HB.out)⟩
     ·replace c30 := Bool.eq_false_iff.mpr c30
      subst c30
      have H1 : (some false) = some r := by rw [if_neg (show ¬ (false = true) by decide)] at H; exact H
      clear H
      have H := H1
      clear H1
      obtain rfl := Option.some.inj H
      obtain ⟨Ao60, co60, eo60⟩ := Kd.N_slice HO_4.out
      subst eo60
      go_wp2_with (first | ((with_reducible refine gate_callee (f := 30) rfl ?_); refine goesL_ (some 27) rfl rfl Tryd.func30 (by kernel_rfl) rfl #[.slice Ao60 t614.length co60] rfl (by (try simp only [List.map_toArray, List.map_cons, List.map_nil]); first | done | rfl | (simp only [List.length_drop, List.length_take]; rfl)) ?_; (with_reducible refine (impl_HeadTimes.calls _ _ t614 t625 _ ?side1 ?side2 A27.out ?sideTab).mono ?_); (case sideTab => exact TabOK.below hTab.out (by repeat (first | (with_reducible first | exact HB.out | apply below_alloc | apply pw_below_drewN | apply below_drew1) | exact HB.out))); (case side1 => repeat (first | exact (Kd.N_reads' HO_4.out).2.2 | (with_reducible refine Kd.C_alloc ?_ _) | (with_reducible refine Kd.C_drewN ?_ _) | (with_reducible refine Kd.C_drew ?_))); (case side2 => exact (Kd.N_reads' HO_4.out).2.1); rintro e w61 ⟨v626, rfl, ho0, hb⟩; refine ⟨_, rfl, ?_⟩; have n0_ := Aside0.mk (Kd.N_elder' (by (with_reducible repeat (first | apply Kd.N_alloc | apply Kd.N_drewN | apply Kd.N_drew)); exact HO_3.out) (Kd.R_base ho0) hb); have n1_ := Aside0.mk (Kd.N_elder' (by (with_reducible repeat (first | apply Kd.N_alloc | apply Kd.N_drewN | apply Kd.N_drew)); exact HO_4.out) (Kd.R_base ho0) hb); have n2_ := Aside0.mk (Kd.R_lower ho0 (below_size (by repeat (first | (with_reducible first | exact HB.out | apply below_alloc | apply pw_below_drewN | apply below_drew1) | exact HB.out)))); have n3_ := Aside0.mk (below_step (by repeat (first | (with_reducible first | exact HB.out | apply below_alloc | apply pw_below_drewN | apply below_drew1) | exact HB.out)) hb); clear HO_3; clear HO_4; clear HB; have HO_3 := n0_; have HO_4 := n1_; have HO627 := n2_; have HB := n3_; clear n0_ n1_ n2_ n3_; (try clear hb); (try clear hb2); (try clear hk); (try clear hi); (try clear ho0)) | ((with_reducible refine gate_callee (f := 30) rfl ?_); refine goesL_ (some 29) rfl rfl Tryd.func30 (by kernel_rfl) rfl #[.slice Ao7 t611.length co7] rfl (by (try simp only [List.map_toArray, List.map_cons, List.map_nil]); first | done | rfl | (simp only [List.length_drop, List.length_take]; rfl)) ?_; (with_reducible refine (impl_HeadTimes.calls _ _ t611 t628 _ ?side1 ?side2 A28.out ?sideTab).mono ?_); (case sideTab => exact TabOK.below hTab.out (by repeat (first | (with_reducible first | exact HB.out | apply below_alloc | apply pw_below_drewN | apply below_drew1) | exact HB.out))); (case side1 => repeat (first | exact (Kd.N_reads' HO_3.out).2.2 | (with_reducible refine Kd.C_alloc ?_ _) | (with_reducible refine Kd.C_drewN ?_ _) | (with_reducible refine Kd.C_drew ?_))); (case side2 => exact (Kd.N_reads' HO_3.out).2.1); rintro e w62 ⟨v629, rfl, ho0, hb⟩; refine ⟨_, rfl, ?_⟩; have n0_ := Aside0.mk (Kd.N_elder' (by (with_reducible repeat (first | apply Kd.N_alloc | apply Kd.N_drewN | apply Kd.N_drew)); exact HO_3.out) (Kd.R_base ho0) hb); have n1_ := Aside0.mk (Kd.N_elder' (by (with_reducible repeat (first | apply Kd.N_alloc | apply Kd.N_drewN | apply Kd.N_drew)); exact HO_4.out) (Kd.R_base ho0) hb); have n2_ := Aside0.mk (Kd.R_elder' (by (with_reducible repeat (first | apply Kd.R_alloc | apply Kd.R_drewN | apply Kd.R_drew)); exact HO627.out) (Kd.R_base ho0) hb); have n3_ := Aside0.mk (Kd.R_lower (Kd.R_new' ho0 (Kd.R_lt (by (with_reducible repeat (first | apply Kd.R_alloc | apply Kd.R_drewN | apply Kd.R_drew)); exact HO627.out))) (below_size (by repeat (first | (with_reducible first | exact HB.out | apply below_alloc | apply pw_below_drewN | apply below_drew1) | exact HB.out)))); have n4_ := Aside0.mk (below_step (by repeat (first | (with_reducible first | exact HB.out | apply below_alloc | apply pw_below_drewN | apply below_drew1) | exact HB.out)) hb); clear HO_3; clear HO_4; clear HO627; clear HB; have HO_3 := n0_; have HO_4 := n1_; have HO627 := n2_; have HO630 := n3_; have HB := n4_; clear n0_ n1_ n2_ n3_ n4_; (try clear hb); (try clear hb2); (try clear hk); (try clear hi); (try clear ho0); obtain ⟨Ao63, co63, eo63⟩ := Kd.R_slice HO627.out; subst eo63; obtain ⟨Ao64, co64, eo64⟩ := Kd.R_slice HO630.out; subst eo64) | ((with_reducible refine gate_callee (f := 19) rfl ?_); refine goesL_ (some 30) rfl rfl Tryd.func19 (by kernel_rfl) rfl #[.slice Ao63 t625.length co63, .slice Ao64 t628.length co64] rfl (by (try simp only [List.map_toArray, List.map_cons, List.map_nil]); first | done | rfl | (simp only [List.length_drop, List.length_take]; rfl)) ?_; (with_reducible refine (laws_equalInts.calls kj4 _ _ t625 _ _ t628 false _ ?side1 ?side2 ?side3 ?side4 A29.out).mono ?_); (case side1 => repeat (first | exact (Kd.R_reads' HO627.out).2.2 | (with_reducible refine Kd.C_alloc ?_ _) | (with_reducible refine Kd.C_drewN ?_ _) | (with_reducible refine Kd.C_drew ?_))); (case side2 => exact (Kd.R_reads' HO627.out).2.1); (case side3 => repeat (first | exact (Kd.R_reads' HO630.out).2.2 | (with_reducible refine Kd.C_alloc ?_ _) | (with_reducible refine Kd.C_drewN ?_ _) | (with_reducible refine Kd.C_drew ?_))); (case side4 => exact (Kd.R_reads' HO630.out).2.1); rintro e w' ⟨rfl, ⟨nd, rfl⟩⟩; refine ⟨_, rfl, ?_⟩))
      go_ret
      exact ⟨by first | rfl | (simp [errW_none, errW_some] <;> rfl) | (simp [*, errW_none, errW_some] <;> rfl), by repeat (first | (with_reducible first | exact HB.out | apply below_alloc | apply pw_below_drewN | apply below_drew1) | exact HB.out)⟩
def laws_FnWithoutUselessTimes.Pure : Prop := ∀ (l0 : List Int), l0.length ≤ maxLen → l0.length * 1 ≤ 140737488351232 → (∀ x ∈ l0, (Lit.int .u8 x).wf = true) → ∃ k, laws_FnWithoutUselessTimes.f k l0 = some true
theorem laws_FnWithoutUselessTimes.walk (P : laws_FnWithoutUselessTimes.Pure) (a0 : Option Addr) (len0 cap0 : Nat) (z0 : List Int) (w : World) (w0 : (a0 = none ∧ len0 = 0 ∧ cap0 = 0 ∧ z0 = []) ∨ ∃ x, a0 = some x ∧ len0 ≤ cap0 ∧ cap0 ≤ maxLen ∧ z0.length = cap0 ∧ (∀ i, i < z0.length → w.cell? (x.add i) = some (.int .u8 (z0.getD i 0))) ∧ ∀ n ∈ z0, (Lit.int .u8 n).wf = true) (y0 : len0 * 1 ≤ 140737488351232) (hTab0 : TabOK w) :
  Calls Tryd.prog 6 #[.slice a0 len0 cap0] w fun e w' => e = .returned (.bool true) ∧ Below w.heap.size w w' := by
 obtain ⟨l0, rfl, hr0, hm0, hw0, hc0⟩ := ReadsInt.ofRowC w0
 obtain ⟨k, h⟩ := P l0 hm0 y0 hw0
 refine (laws_FnWithoutUselessTimes.calls k _ _ l0 true w (Kd.C_of_reads (d := (0 : Int)) (h1 := fun _ => rfl) hr0) hc0 h hTab0).mono ?_
 rintro e w' ⟨rfl, hd⟩
 exact ⟨rfl, hd⟩
end Go.Proofs.YtajapkjplgaigaaDoor.P
end
section
namespace Go.Proofs.YtajapkjplgaigaaDoor.P
open Go.RowKit Go.Proofs.YtajapkjplgaigaaDoorW.PrintWords Go.Proofs.YtajapkjplgaigaaDoorW.PrintLast Go.Proofs.YtajapkjplgaigaaDoorW.PrintMore
set_option linter.unusedVariables false
set_option linter.unusedSimpArgs false
def Ev {α : Type} (f : Nat → Option α) (x : α) : Prop := ∃ K, ∀ k, K ≤ k → f k = some x
section
variable {α β : Type} {f f' : Nat → Option α} {x : α} {y : β}
theorem Ev.get (h : Ev f x) : ∃ k, f k = some x := by
 obtain ⟨K, h⟩ := h
 exact ⟨K, h K (Nat.le_refl _)⟩
theorem Ev.pure (x : α) : Ev (fun _ => some x) x := ⟨0, fun _ _ => rfl⟩
theorem Ev.eq {o : Option α} (h : o = some x) : Ev (fun _ => o) x := ⟨0, fun _ _ => h⟩
theorem Ev.bind {g : Nat → α → Option β} (hf : Ev f x) (hg : Ev (fun k => g k x) y) : Ev (fun k => (f k).bind (g k)) y := by
 obtain ⟨K, hf⟩ := hf
 obtain ⟨L, hg⟩ := hg
 exact ⟨max K L, fun k hk => by show (f k).bind (g k) = some y; rw [hf k (by omega)]; exact hg k (by omega)⟩
theorem Ev.pos {c : Prop} [Decidable c] (hc : c) (h : Ev f x) : Ev (fun k => if c then f k else f' k) x := by
 obtain ⟨K, h⟩ := h
 exact ⟨K, fun k hk => (if_pos hc).trans (h k hk)⟩
theorem Ev.neg {c : Prop} [Decidable c] (hc : ¬ c) (h : Ev f' x) : Ev (fun k => if c then f k else f' k) x := by
 obtain ⟨K, h⟩ := h
 exact ⟨K, fun k hk => (if_neg hc).trans (h k hk)⟩
theorem Ev.ite {c : Prop} [Decidable c] (h : c → Ev f x) (h' : ¬ c → Ev f' x) : Ev (fun k => if c then f k else f' k) x := by
 by_cases hc : c
 ·exact Ev.pos hc (h hc)
 ·exact Ev.neg hc (h' hc)
theorem Ev.succ (h : Ev (fun k => f (k + 1)) x) : Ev f x := by
 obtain ⟨K, h⟩ := h
 exact ⟨K + 1, fun k hk => by
  obtain ⟨j, rfl⟩ : ∃ j, k = j + 1 := ⟨k - 1, by omega⟩
  exact h j (by omega)⟩
end
theorem w64 {n : Int} (h : -9223372036854775808 ≤ n) (h' : n ≤ 9223372036854775807) : wrap64 n = n := by unfold wrap64; omega
theorem w64n (n : Nat) (h : n < 4611686018427387904) : wrap64 ((n : Int) + 1) = ((n + 1 : Nat) : Int) := by rw [w64 (by omega) (by omega)]; omega
theorem snoc_eq {α : Type} (pre : List α) (x : α) (r : List α) : pre ++ x :: r = (pre ++ [x]) ++ r := by simp
theorem len_lt {α : Type} (pre : List α) (x : α) (r : List α) : (pre.length : Int) < ((pre ++ x :: r).length : Int) := by simp only [List.length_append, List.length_cons]; omega
theorem len_nlt {α : Type} (pre : List α) : ¬ (pre.length : Int) < ((pre ++ []).length : Int) := by simp
theorem len_next {α : Type} (pre : List α) (x : α) (h : pre.length < 4611686018427387904) : wrap64 ((pre.length : Int) + 1) = ((pre ++ [x]).length : Int) := by rw [w64n _ h]; simp
theorem rdm (pre : List Int) (x : Int) (r : List Int) : rd (pre ++ x :: r) (pre.length : Int) = x := by simp [rd]
end Go.Proofs.YtajapkjplgaigaaDoor.P
end
section
namespace Go.Proofs.YtajapkjplgaigaaDoor.P
open Go.RowKit Go.Shelf Go.Proofs.YtajapkjplgaigaaDoorW.PrintWords Go.Proofs.YtajapkjplgaigaaDoorW.PrintLast Go.Proofs.YtajapkjplgaigaaDoorW.PrintMore
set_option linter.unusedVariables false
set_option linter.unusedSimpArgs false
def inB (a b x : Int) : Bool := decide (a ≤ x ∧ x ≤ b)
theorem inRange_eq (x a b : Int) : spec_inRange.f x a b = some (inB a b x) := by
 unfold spec_inRange.f inB
 by_cases h : a ≤ x
 ·rw [if_pos h]; simp [h]
 ·rw [if_neg h]; simp [h]
theorem allIn_go (a b : Int) : ∀ (r pre : List Int), pre.length + r.length < 4611686018427387904 → Ev (fun k => spec_allIn.l0 k (pre ++ r) a b (pre.length : Int)) (r.all (inB a b))
 | [], pre, _ => by
  refine Ev.succ ?_
  simp only [spec_allIn.l0]
  exact Ev.neg (len_nlt pre) (Ev.pure _)
 | x :: r, pre, h => by
  refine Ev.succ ?_
  simp only [spec_allIn.l0]
  refine Ev.pos (len_lt _ _ _) (Ev.pos (by omega) (Ev.bind (Ev.eq (inRange_eq _ _ _)) ?_))
  rw [rdm]
  have hl : pre.length < 4611686018427387904 := by simp only [List.length_cons] at h; omega
  refine Ev.ite (fun hc => ?_) (fun hc => ?_)
  ·rw [len_next pre x hl, snoc_eq, List.all_cons, hc, Bool.true_and]
   exact allIn_go a b r (pre ++ [x]) (by simp only [List.length_append, List.length_cons, List.length_nil] at h ⊢; omega)
  ·rw [List.all_cons, Bool.eq_false_iff.2 hc, Bool.false_and]
   exact Ev.pure _
theorem allIn_ev (l : List Int) (a b : Int) (h : l.length < 4611686018427387904) : Ev (fun k => spec_allIn.f k l a b) (l.all (inB a b)) := allIn_go a b l [] (by simpa using h)
def ascB : List Int → Bool
 | x :: y :: r => decide (x < y) && ascB (y :: r)
 | _ => true
theorem ascends_go : ∀ (r pre : List Int) (x : Int), pre.length + r.length + 1 < 4611686018427387904 → Ev (fun k => spec_ascends.l0 k (pre ++ x :: r) ((pre.length : Int) + 1)) (ascB (x :: r))
 | [], pre, x, _ => by
  refine Ev.succ ?_
  simp only [spec_ascends.l0]
  exact Ev.neg (by simp) (Ev.pure _)
 | y :: r, pre, x, h => by
  have hl : pre.length < 4611686018427387904 := by simp only [List.length_cons] at h; omega
  have h1 : wrap64 ((pre.length : Int) + 1 - 1) = (pre.length : Int) := by rw [w64 (by omega) (by omega)]; omega
  have h2 : rd (pre ++ x :: y :: r) ((pre.length : Int) + 1) = y := by
   simp [rd]
  refine Ev.succ ?_
  simp only [spec_ascends.l0, h1, h2, rdm]
  refine Ev.pos (by simp only [List.length_append, List.length_cons]; omega) (Ev.pos (by omega) (Ev.pos (by omega) (Ev.pos (len_lt _ _ _) (Ev.ite (fun hc => ?_) (fun hc => ?_)))))
  ·rw [ascB, decide_eq_false (by omega), Bool.false_and]
   exact Ev.pure _
  ·have h3 : wrap64 ((pre.length : Int) + 1 + 1) = ((pre ++ [x]).length : Int) + 1 := by
    simp only [List.length_append, List.length_cons, List.length_nil] at h ⊢
    rw [w64 (by omega) (by omega)]; omega
   rw [h3, snoc_eq, ascB, decide_eq_true (by omega : x < y), Bool.true_and]
   exact ascends_go r (pre ++ [x]) y (by simp only [List.length_append, List.length_cons, List.length_nil] at h ⊢; omega)
theorem ascends_ev (l : List Int) (h : l.length < 4611686018427387904) : Ev (fun k => spec_ascends.f k l) (ascB l) := by
 cases l with
 | nil =>
  unfold spec_ascends.f
  refine Ev.succ ?_
  simp only [spec_ascends.l0]
  exact Ev.neg (by simp) (Ev.pure _)
 | cons x r => exact ascends_go r [] x (by simp only [List.length_cons, List.length_nil] at h ⊢; omega)
def taskB (n : Nat) (t : TT) : Bool := inB 1 20 t.f0 && inB 0 2 t.f2 && inB 1 4 t.f3 && t.f1.all (inB 0 ((n : Int) - 1)) && ascB t.f1
theorem validTask_ev (n : Nat) (t : TT) (hn : n < 4611686018427387904) (h : t.f1.length < 4611686018427387904) : Ev (fun k => spec_validTask.f k t.f0 t.f1 t.f2 t.f3 (n : Int)) (taskB n t) := by
 unfold spec_validTask.f taskB
 have hw : wrap64 ((n : Int) - 1) = (n : Int) - 1 := w64 (by omega) (by omega)
 rw [hw]
 refine Ev.bind (Ev.eq (inRange_eq _ _ _)) (Ev.ite (fun h0 => ?_) (fun h0 => ?_))
 ·refine Ev.bind (Ev.eq (inRange_eq _ _ _)) (Ev.ite (fun h1 => ?_) (fun h1 => ?_))
  ·refine Ev.bind (Ev.eq (inRange_eq _ _ _)) (Ev.ite (fun h2 => ?_) (fun h2 => ?_))
   ·refine Ev.bind (allIn_ev _ _ _ h) (Ev.ite (fun h3 => ?_) (fun h3 => ?_))
    ·rw [h0, h1, h2, h3]
     exact Ev.bind (ascends_ev _ h) (Ev.pure _)
    ·rw [Bool.eq_false_iff.2 h3]; simp only [Bool.and_false, Bool.false_and]; exact Ev.pure _
   ·rw [Bool.eq_false_iff.2 h2]; simp only [Bool.and_false, Bool.false_and]; exact Ev.pure _
  ·rw [Bool.eq_false_iff.2 h1]; simp only [Bool.and_false, Bool.false_and]; exact Ev.pure _
 ·rw [Bool.eq_false_iff.2 h0]; simp only [Bool.and_false, Bool.false_and]; exact Ev.pure _
def Small (ts : List TT) : Prop := ts.length < 1099511627776 ∧ ∀ t ∈ ts, t.f1.length < 1099511627776
theorem rdT (pre : List TT) (x : TT) (r : List TT) : rd_T39 (pre ++ x :: r) (pre.length : Int) = x := by simp [rd_T39]
def fineB (ts : List TT) : Bool := ts.all (taskB ts.length) && decide (ts.length ≤ 8)
theorem tasksFine_go (ts : List TT) (hs : Small ts) : ∀ (r pre : List TT), pre ++ r = ts → Ev (fun k => spec_tasksFine.l0 k ts (pre.length : Int)) (r.all (taskB ts.length) && decide (ts.length ≤ 8))
 | [], pre, he => by
  subst he
  refine Ev.succ ?_
  simp only [spec_tasksFine.l0]
  refine Ev.neg (len_nlt pre) ?_
  simp only [List.all_nil, Bool.true_and]
  refine Ev.eq ?_
  congr 1
  exact decide_eq_decide.2 (by omega)
 | x :: r, pre, he => by
  have hl := hs.1
  have hx := hs.2 x (by rw [← he]; simp)
  have h1 : rd_T39 ts (pre.length : Int) = x := by rw [← he]; exact rdT pre x r
  have h2 : (pre.length : Int) < (ts.length : Int) := by rw [← he]; exact len_lt _ _ _
  refine Ev.succ ?_
  simp only [spec_tasksFine.l0, h1]
  refine Ev.pos h2 (Ev.pos (by omega) (Ev.bind (validTask_ev ts.length x (by omega) (by omega)) (Ev.ite (fun hc => ?_) (fun hc => ?_))))
  ·rw [len_next pre x (by omega), List.all_cons, hc, Bool.true_and]
   exact tasksFine_go ts hs r (pre ++ [x]) (by rw [← he]; simp)
  ·rw [List.all_cons, Bool.eq_false_iff.2 hc, Bool.false_and, Bool.false_and]
   exact Ev.pure _
theorem tasksFine_ev (ts : List TT) (hs : Small ts) : Ev (fun k => spec_tasksFine.f k ts) (fineB ts) := tasksFine_go ts hs ts [] rfl
theorem isIn_go (n : Int) : ∀ (r pre : List Int), pre.length + r.length < 4611686018427387904 → Ev (fun k => spec_isIn.l0 k (pre ++ r) n (pre.length : Int)) (decide (n ∈ r))
 | [], pre, _ => by
  refine Ev.succ ?_
  simp only [spec_isIn.l0]
  exact Ev.neg (len_nlt pre) (Ev.eq (by simp))
 | x :: r, pre, h => by
  have hl : pre.length < 4611686018427387904 := by simp only [List.length_cons] at h; omega
  refine Ev.succ ?_
  simp only [spec_isIn.l0, rdm]
  refine Ev.pos (len_lt _ _ _) (Ev.pos (by omega) (Ev.ite (fun hc => ?_) (fun hc => ?_)))
  ·rw [decide_eq_true (by rw [hc]; exact List.mem_cons_self)]
   exact Ev.pure _
  ·rw [len_next pre x hl, snoc_eq, show decide (n ∈ x :: r) = decide (n ∈ r) from decide_eq_decide.2 (by rw [List.mem_cons]; exact ⟨fun h => h.resolve_left (fun e => hc e.symm), Or.inr⟩)]
   exact isIn_go n r (pre ++ [x]) (by simp only [List.length_append, List.length_cons, List.length_nil] at h ⊢; omega)
theorem isIn_ev (l : List Int) (n : Int) (h : l.length < 4611686018427387904) : Ev (fun k => spec_isIn.f k l n) (decide (n ∈ l)) := isIn_go n l [] (by simpa using h)
def subL (needs done : List Int) : Bool := needs.all fun x => decide (x ∈ done)
theorem allDone_go (done : List Int) (hd : done.length < 4611686018427387904) : ∀ (r pre : List Int), pre.length + r.length < 4611686018427387904 → Ev (fun k => spec_allDone.l0 k (pre ++ r) done (pre.length : Int)) (subL r done)
 | [], pre, _ => by
  refine Ev.succ ?_
  simp only [spec_allDone.l0]
  exact Ev.neg (len_nlt pre) (Ev.pure _)
 | x :: r, pre, h => by
  have hl : pre.length < 4611686018427387904 := by simp only [List.length_cons] at h; omega
  refine Ev.succ ?_
  simp only [spec_allDone.l0, rdm]
  refine Ev.pos (len_lt _ _ _) (Ev.pos (by omega) (Ev.bind (isIn_ev _ _ hd) (Ev.ite (fun hc => ?_) (fun hc => ?_))))
  ·rw [len_next pre x hl, snoc_eq, subL, List.all_cons, hc, Bool.true_and]
   exact allDone_go done hd r (pre ++ [x]) (by simp only [List.length_append, List.length_cons, List.length_nil] at h ⊢; omega)
  ·rw [subL, List.all_cons, Bool.eq_false_iff.2 hc, Bool.false_and]
   exact Ev.pure _
theorem allDone_ev (l done : List Int) (h : l.length < 4611686018427387904) (hd : done.length < 4611686018427387904) : Ev (fun k => spec_allDone.f k l done) (subL l done) := allDone_go done hd l [] (by simpa using h)
end Go.Proofs.YtajapkjplgaigaaDoor.P
end
section
namespace Go.Proofs.YtajapkjplgaigaaDoor.P
open Go.RowKit Go.Shelf Go.Proofs.YtajapkjplgaigaaDoorW.PrintWords Go.Proofs.YtajapkjplgaigaaDoorW.PrintLast Go.Proofs.YtajapkjplgaigaaDoorW.PrintMore
set_option linter.unusedVariables false
set_option linter.unusedSimpArgs false
def maskL (l : List Int) : Nat := l.foldl (fun s i => s ||| 2 ^ i.toNat) 0
theorem mask_bit (l : List Int) : ∀ (s : Nat) (j : Nat), (∀ x ∈ l, 0 ≤ x) → (l.foldl (fun s i => s ||| 2 ^ i.toNat) s).testBit j = (s.testBit j || decide ((j : Int) ∈ l)) := by
 induction l with
 | nil => intro s j _; simp
 | cons x r ih =>
  intro s j h
  have hx := h x List.mem_cons_self
  rw [List.foldl_cons, ih _ _ (fun y hy => h y (List.mem_cons_of_mem _ hy)), Nat.testBit_or, Nat.testBit_two_pow, Bool.or_assoc]
  congr 1
  rw [← Bool.decide_or]
  refine decide_eq_decide.2 ?_
  rw [List.mem_cons]
  constructor
  ·rintro (h1 | h1)
   ·exact Or.inl (by omega)
   ·exact Or.inr h1
  ·rintro (h1 | h1)
   ·exact Or.inl (by omega)
   ·exact Or.inr h1
theorem maskL_bit {l : List Int} (h : ∀ x ∈ l, 0 ≤ x) (j : Nat) : (maskL l).testBit j = decide ((j : Int) ∈ l) := by
 unfold maskL; rw [mask_bit l 0 j h]; simp
theorem setGo_eq (n : Nat) : ∀ (l : List Int) (last : Int) (s : Nat), -1 ≤ last → setGo n l last s = if (ascB (last :: l) && l.all (inB 0 ((n : Int) - 1))) = true then some (l.foldl (fun s i => s ||| 2 ^ i.toNat) s) else none
 | [], last, s, h => by simp [setGo, ascB]
 | i :: r, last, s, h => by
  unfold setGo
  by_cases hc : last + 1 ≤ i ∧ i < n
  ·rw [if_pos hc, setGo_eq n r i _ (by omega)]
   rw [ascB, List.all_cons, decide_eq_true (by omega : last < i), Bool.true_and, show inB 0 ((n : Int) - 1) i = true from decide_eq_true (by omega), Bool.true_and]
   rfl
  ·rw [if_neg hc, if_neg]
   intro h2
   rw [ascB, List.all_cons] at h2
   simp only [Bool.and_eq_true, decide_eq_true_eq, inB] at h2
   omega
theorem ascB_neg {l : List Int} (h : ∀ x ∈ l, 0 ≤ x) : ascB (-1 :: l) = ascB l := by
 cases l with
 | nil => rfl
 | cons x r => rw [ascB, decide_eq_true (by have := h x List.mem_cons_self; omega), Bool.true_and]
theorem setP_eq (l : List Int) (n : Nat) : setP l n = if (ascB l && l.all (inB 0 ((n : Int) - 1))) = true then some (maskL l) else none := by
 unfold setP
 rw [setGo_eq n l (-1) 0 (by omega)]
 by_cases hA : l.all (inB 0 ((n : Int) - 1)) = true
 ·have h0 : ∀ x ∈ l, 0 ≤ x := fun x hx => by
   have := List.all_eq_true.1 hA x hx
   simp only [inB, decide_eq_true_eq] at this
   exact this.1
  rw [ascB_neg h0]; rfl
 ·rw [Bool.eq_false_iff.2 hA, Bool.and_false, Bool.and_false]; rfl
theorem taskP_eq (n : Nat) (t : TT) : taskP n t = if taskB n t = true then some (maskL t.f1) else none := by
 unfold taskP taskB
 rw [setP_eq]
 by_cases h1 : (ascB t.f1 && t.f1.all (inB 0 ((n : Int) - 1))) = true
 ·rw [if_pos h1]
  have h2 := Bool.and_eq_true_iff.1 h1
  rw [h2.1, h2.2]
  simp only [Bool.and_true, inB, Bool.and_eq_true, decide_eq_true_eq, and_assoc]
 ·rw [if_neg h1, if_neg]
  intro h
  simp only [Bool.and_eq_true] at h h1
  exact h1 ⟨h.2, h.1.2⟩
theorem needsGo_eq (n : Nat) : ∀ (r : List TT) (acc : List Nat), needsGo n r acc = if r.all (taskB n) = true then some (acc ++ r.map fun t => maskL t.f1) else none
 | [], acc => by simp [needsGo]
 | t :: r, acc => by
  unfold needsGo
  rw [taskP_eq]
  by_cases h : taskB n t = true
  ·rw [if_pos h]
   show needsGo n r (acc ++ [maskL t.f1]) = _
   rw [needsGo_eq n r, List.all_cons, h, Bool.true_and, List.map_cons, List.append_assoc]
   rfl
  ·rw [if_neg h, List.all_cons, Bool.eq_false_iff.2 h, Bool.false_and]
   rfl
def needsM (ts : List TT) : List Nat := ts.map fun t => maskL t.f1
theorem needsP_eq (ts : List TT) : needsP ts = if fineB ts = true then some (needsM ts) else none := by
 unfold needsP fineB
 by_cases h : ts.length > 8
 ·rw [if_pos h, decide_eq_false (by omega), Bool.and_false]; rfl
 ·rw [if_neg h, needsGo_eq, decide_eq_true (by omega : ts.length ≤ 8), Bool.and_true]; rfl
theorem fine_task {ts : List TT} (h : fineB ts = true) {i : Nat} (hi : i < ts.length) : taskB ts.length ts[i] = true := by
 have := (Bool.and_eq_true_iff.1 h).1
 exact List.all_eq_true.1 this _ (List.getElem_mem hi)
theorem fine_len {ts : List TT} (h : fineB ts = true) : ts.length ≤ 8 := of_decide_eq_true (Bool.and_eq_true_iff.1 h).2
theorem task_mem {n : Nat} {t : TT} (h : taskB n t = true) : (∀ x ∈ t.f1, 0 ≤ x ∧ x < n) ∧ ascB t.f1 = true := by
 unfold taskB at h
 simp only [Bool.and_eq_true] at h
 refine ⟨fun x hx => ?_, h.2⟩
 have := List.all_eq_true.1 h.1.2 x hx
 simp only [inB, decide_eq_true_eq] at this
 omega
theorem needsM_get (ts : List TT) (i : Nat) (hi : i < ts.length) : (needsM ts).getD i 0 = maskL (ts[i].f1) := by
 simp [needsM, List.getD_eq_getElem?_getD, List.getElem?_map, List.getElem?_eq_getElem hi]
theorem rdT_at (ts : List TT) (i : Nat) (hi : i < ts.length) : rd_T39 ts (i : Int) = ts[i] := by
 simp [rd_T39, List.getElem?_eq_getElem hi]
theorem sub_eq {l done : List Int} (hl : ∀ x ∈ l, 0 ≤ x) (s : Nat) (hs : ∀ j, s.testBit j = decide ((j : Int) ∈ done)) : (maskL l &&& s == maskL l) = subL l done := by
 rw [Bool.eq_iff_iff]
 unfold subL
 rw [List.all_eq_true, beq_iff_eq]
 constructor
 ·intro h x hx
  have hx0 := hl x hx
  have h1 : (maskL l).testBit x.toNat = true := by rw [maskL_bit hl, decide_eq_true]; rwa [Int.toNat_of_nonneg hx0]
  rw [← h, Nat.testBit_and, hs, Bool.and_eq_true] at h1
  have h2 := of_decide_eq_true h1.2
  rw [Int.toNat_of_nonneg hx0] at h2
  exact decide_eq_true h2
 ·intro h
  refine Nat.eq_of_testBit_eq fun j => ?_
  rw [Nat.testBit_and, hs, maskL_bit hl]
  by_cases hj : (j : Int) ∈ l
  ·have := h _ hj
   rw [this, Bool.and_true]
  ·rw [decide_eq_false hj, Bool.false_and]
theorem canP_eq {ts : List TT} (hf : fineB ts = true) {done : List Int} {s : Nat} (hs : ∀ j, s.testBit j = decide ((j : Int) ∈ done)) {i : Nat} (hi : i < ts.length) :
  canP (needsM ts) s i = (!decide ((i : Int) ∈ done) && subL ts[i].f1 done) := by
 unfold canP
 rw [needsM_get ts i hi, sub_eq (fun x hx => ((task_mem (fine_task hf hi)).1 x hx).1) s hs, hs]
def findFrom (p : Nat → Bool) (n j : Nat) : Option Nat := ((List.range n).drop j).find? p
theorem findFrom_step (p : Nat → Bool) (n j : Nat) (h : j < n) : findFrom p n j = if p j then some j else findFrom p n (j + 1) := by
 unfold findFrom
 rw [List.drop_eq_getElem_cons (by simpa using h), List.find?_cons, List.getElem_range]
 cases p j <;> rfl
theorem findFrom_end (p : Nat → Bool) (n : Nat) : findFrom p n n = none := by
 unfold findFrom
 rw [List.drop_eq_nil_of_le (by simp)]; rfl
theorem top_l1 (ts : List TT) (hs : Small ts) (hf : fineB ts = true) (out : List Nat) (s : Nat) (hb : ∀ j, s.testBit j = decide (((j : Nat) : Int) ∈ nI out)) (hl : out.length ≤ 8) (r : List Int)
  (hnone : firstP (needsM ts) s = none → r = nI out)
  (hsome : ∀ i, firstP (needsM ts) s = some i → Ev (fun k => spec_topOrder.l0 k ts (nI (out ++ [i]))) r) :
  ∀ (m j : Nat), j + m = ts.length → findFrom (canP (needsM ts) s) ts.length j = firstP (needsM ts) s → Ev (fun k => spec_topOrder.l1 k ts (nI out) (-1) (j : Int)) r := by
 have hlen : ts.length ≤ 8 := fine_len hf
 have hnl : (nI out).length = out.length := nI_length out
 intro m
 induction m with
 | zero =>
  intro j hj hfind
  have hjn : j = ts.length := by omega
  subst hjn
  rw [findFrom_end] at hfind
  refine Ev.succ ?_
  simp only [spec_topOrder.l1]
  refine Ev.neg (by omega) (Ev.succ ?_)
  simp only [spec_topOrder.j2]
  refine Ev.neg (by simp) (Ev.pos (by omega) ?_)
  rw [hnone hfind.symm]
  exact Ev.pure _
 | succ m ih =>
  intro j hj hfind
  have hjl : j < ts.length := by omega
  have hw : wrap64 ((j : Int) + 1) = ((j + 1 : Nat) : Int) := w64n j (by omega)
  rw [findFrom_step _ _ _ hjl, canP_eq hf hb hjl] at hfind
  refine Ev.succ ?_
  simp only [spec_topOrder.l1]
  refine Ev.pos (by omega) (Ev.succ ?_)
  simp only [spec_topOrder.j2]
  refine Ev.pos (by simp) (Ev.bind (isIn_ev _ _ (by omega)) (Ev.ite (fun hc => ?_) (fun hc => ?_)))
  ·rw [hc] at hfind
   simp only [Bool.not_true, Bool.false_and] at hfind
   rw [hw]
   exact ih (j + 1) (by omega) hfind
  ·rw [Bool.eq_false_iff.2 hc] at hfind
   simp only [Bool.not_false, Bool.true_and] at hfind
   rw [rdT_at ts j hjl, hw]
   have h1 := hs.2 ts[j] (List.getElem_mem hjl)
   refine Ev.pos (by omega) (Ev.pos (by omega) (Ev.bind (allDone_ev _ _ (by omega) (by omega)) (Ev.ite (fun hd => ?_) (fun hd => ?_))))
   ·rw [if_pos hd] at hfind
    refine Ev.succ ?_
    simp only [spec_topOrder.l1]
    have hgo : Ev (fun k => spec_topOrder.j2 k ts (nI out) (j : Int) ((j + 1 : Nat) : Int) false) r := by
     refine Ev.succ ?_
     simp only [spec_topOrder.j2]
     refine Ev.neg (by simp) (Ev.neg (by omega) (Ev.pos (by omega) ?_))
     have := hsome j hfind.symm
     simpa [nI] using this
    refine Ev.ite (fun h2 => ?_) (fun h2 => hgo)
    rw [decide_eq_false (by omega)]
    exact hgo
   ·rw [if_neg hd] at hfind
    exact ih (j + 1) (by omega) hfind
theorem nodup_len : ∀ (a b : List Nat), a.Nodup → (∀ x ∈ a, x ∈ b) → a.length ≤ b.length
 | [], b, _, _ => Nat.zero_le _
 | x :: a, b, h, hs => by
  have hx : x ∈ b := hs x List.mem_cons_self
  have h1 := nodup_len a (b.erase x) (List.nodup_cons.1 h).2 (fun y hy => (List.mem_erase_of_ne (fun (e : y = x) => (List.nodup_cons.1 h).1 (by rw [← e]; exact hy))).2 (hs y (List.mem_cons_of_mem _ hy)))
  rw [List.length_erase_of_mem hx] at h1
  have : 0 < b.length := List.length_pos_of_mem hx
  rw [List.length_cons]
  omega
structure OrdOk (n : Nat) (out : List Nat) (s : Nat) : Prop where
 nd : out.Nodup
 lt : ∀ i ∈ out, i < n
 bit : ∀ j, s.testBit j = decide (j ∈ out)
theorem mem_nI {out : List Nat} {j : Nat} : ((j : Nat) : Int) ∈ nI out ↔ j ∈ out := by
 unfold nI
 rw [List.mem_map]
 exact ⟨fun ⟨x, hx, he⟩ => by rwa [show j = x by omega], fun h => ⟨j, h, rfl⟩⟩
theorem OrdOk.bits {n : Nat} {out : List Nat} {s : Nat} (h : OrdOk n out s) (j : Nat) : s.testBit j = decide (((j : Nat) : Int) ∈ nI out) := by
 rw [h.bit]; exact decide_eq_decide.2 mem_nI.symm
theorem OrdOk.len {n : Nat} {out : List Nat} {s : Nat} (h : OrdOk n out s) : out.length ≤ n := by
 have := nodup_len out (List.range n) h.nd (fun i hi => List.mem_range.2 (h.lt i hi))
 simpa using this
theorem OrdOk.add {n : Nat} {out : List Nat} {s i : Nat} (h : OrdOk n out s) (hi : i < n) (hn : s.testBit i = false) : OrdOk n (out ++ [i]) (s ||| 2 ^ i) := by
 have hni : i ∉ out := fun hm => by rw [h.bit, decide_eq_true hm] at hn; cases hn
 refine ⟨List.nodup_append.2 ⟨h.nd, by simp, fun a ha b hb => by rw [List.mem_singleton] at hb; subst hb; exact fun e => hni (e ▸ ha)⟩, fun j hj => ?_, fun j => ?_⟩
 ·rcases List.mem_append.1 hj with hj | hj
  ·exact h.lt j hj
  ·rw [List.mem_singleton.1 hj]; exact hi
 ·rw [Nat.testBit_or, h.bit, Nat.testBit_two_pow, ← Bool.decide_or]
  refine decide_eq_decide.2 ?_
  rw [List.mem_append, List.mem_singleton]
  exact or_congr Iff.rfl eq_comm
theorem firstP_can {nd : List Nat} {s i : Nat} (h : firstP nd s = some i) : i < nd.length ∧ canP nd s i = true := by
 refine ⟨firstP_lt h, ?_⟩
 have := List.find?_some h
 exact this
theorem OrdOk.full {n : Nat} {out : List Nat} {s : Nat} (h : OrdOk n out s) (hl : out.length = n) (nd : List Nat) (hnl : nd.length = n) : firstP nd s = none := by
 cases hf : firstP nd s with
 | none => rfl
 | some i =>
  obtain ⟨h1, h2⟩ := firstP_can hf
  have h3 : s.testBit i = false := by unfold canP at h2; simp only [Bool.and_eq_true, Bool.not_eq_true'] at h2; exact h2.1
  have h4 := (h.add (by omega) h3).len
  simp only [List.length_append, List.length_cons, List.length_nil] at h4
  omega
theorem orderGo_none {nd : List Nat} {s : List Nat × Nat} (h : firstP nd s.2 = none) : ∀ m, orderGo nd m s = s
 | 0 => rfl
 | m + 1 => by
  have : orderStep nd s = s := by unfold orderStep; rw [h]
  rw [orderGo, this]
  exact orderGo_none h m
theorem top_l0 (ts : List TT) (hs : Small ts) (hf : fineB ts = true) : ∀ (m : Nat) (out : List Nat) (s : Nat), OrdOk ts.length out s → out.length + m = ts.length →
  Ev (fun k => spec_topOrder.l0 k ts (nI out)) (nI (orderGo (needsM ts) m (out, s)).1) ∧ OrdOk ts.length (orderGo (needsM ts) m (out, s)).1 (orderGo (needsM ts) m (out, s)).2 := by
 have hlen : ts.length ≤ 8 := fine_len hf
 have hnl : (needsM ts).length = ts.length := by simp [needsM]
 intro m
 induction m with
 | zero =>
  intro out s ho hm
  have hno := ho.full (by omega) (needsM ts) hnl
  refine ⟨?_, by simpa [orderGo] using ho⟩
  refine Ev.succ ?_
  simp only [spec_topOrder.l0, orderGo]
  exact top_l1 ts hs hf out s ho.bits (by omega) _ (fun _ => rfl) (fun i hi => by rw [hno] at hi; cases hi) ts.length 0 (by omega) (by unfold findFrom firstP; rw [List.drop_zero, hnl])
 | succ m ih =>
  intro out s ho hm
  cases hfi : firstP (needsM ts) s with
  | none =>
   rw [orderGo_none (s := (out, s)) hfi]
   refine ⟨?_, ho⟩
   refine Ev.succ ?_
   simp only [spec_topOrder.l0]
   exact top_l1 ts hs hf out s ho.bits (by omega) _ (fun _ => rfl) (fun i hi => by rw [hfi] at hi; cases hi) ts.length 0 (by omega) (by unfold findFrom firstP; rw [List.drop_zero, hnl])
  | some i =>
   obtain ⟨h1, h2⟩ := firstP_can hfi
   have h3 : s.testBit i = false := by unfold canP at h2; simp only [Bool.and_eq_true, Bool.not_eq_true'] at h2; exact h2.1
   have hstep : orderStep (needsM ts) (out, s) = (out ++ [i], s ||| 2 ^ i) := by unfold orderStep; simp only [hfi]
   rw [orderGo, hstep]
   obtain ⟨e1, e2⟩ := ih (out ++ [i]) (s ||| 2 ^ i) (ho.add (by omega) h3) (by simp only [List.length_append, List.length_cons, List.length_nil]; omega)
   refine ⟨?_, e2⟩
   refine Ev.succ ?_
   simp only [spec_topOrder.l0]
   exact top_l1 ts hs hf out s ho.bits (by omega) _ (fun h => by rw [hfi] at h; cases h) (fun i' hi => by rw [hfi] at hi; injection hi with hi; subst hi; exact e1) ts.length 0 (by omega) (by unfold findFrom firstP; rw [List.drop_zero, hnl])
theorem ordOk_nil (n : Nat) : OrdOk n [] 0 := ⟨List.nodup_nil, fun i hi => (by cases hi), fun j => (by simp)⟩
theorem topOrder_ev (ts : List TT) (hs : Small ts) (hf : fineB ts = true) : Ev (fun k => spec_topOrder.f k ts) (nI (orderP (needsM ts)).1) ∧ OrdOk ts.length (orderP (needsM ts)).1 (orderP (needsM ts)).2 := by
 have h := top_l0 ts hs hf ts.length [] 0 (ordOk_nil _) (by simp)
 unfold orderP
 have hnl : (needsM ts).length = ts.length := by simp [needsM]
 rw [hnl]
 exact h
theorem OrdOk.all {n : Nat} {out : List Nat} {s : Nat} (h : OrdOk n out s) : out.length = n ↔ s = 2 ^ n - 1 := by
 constructor
 ·intro hl
  refine Nat.eq_of_testBit_eq fun j => ?_
  rw [h.bit, Nat.testBit_two_pow_sub_one]
  refine decide_eq_decide.2 ⟨fun hj => h.lt j hj, fun hj => ?_⟩
  by_cases hm : j ∈ out
  ·exact hm
  ·have h4 := (h.add hj (by rw [h.bit, decide_eq_false hm])).len
   simp only [List.length_append, List.length_cons, List.length_nil] at h4
   omega
 ·intro he
  have := nodup_len (List.range n) out List.nodup_range (fun j hj => by
   have h1 := h.bit j
   rw [he, Nat.testBit_two_pow_sub_one, decide_eq_true (List.mem_range.1 hj)] at h1
   exact of_decide_eq_true h1.symm)
  rw [List.length_range] at this
  have := h.len
  omega
theorem graphP_some (ts : List TT) : (graphP ts).isSome = (fineB ts && decide ((orderP (needsM ts)).2 = 2 ^ ts.length - 1)) := by
 unfold graphP
 rw [needsP_eq]
 cases hf : fineB ts with
 | false => rfl
 | true =>
  simp only [if_true, Bool.true_and]
  by_cases h : (orderP (needsM ts)).2 = 2 ^ ts.length - 1
  ·rw [if_pos h, decide_eq_true h]; rfl
  ·rw [if_neg h, decide_eq_false h]; rfl
theorem graphP_fine {ts : List TT} {G : GrN} (h : graphP ts = some G) : fineB ts = true ∧ G.nd = needsM ts ∧ G.ts = ts := by
 obtain ⟨h1, h2, _⟩ := graphP_ok h
 rw [needsP_eq] at h2
 by_cases hf : fineB ts = true
 ·rw [if_pos hf] at h2
  injection h2 with h2
  exact ⟨hf, h2.symm, h1⟩
 ·rw [if_neg hf] at h2; cases h2
theorem validGraph_ev (ts : List TT) (hs : Small ts) : Ev (fun k => spec_validGraph.f k ts) (graphP ts).isSome := by
 unfold spec_validGraph.f
 rw [graphP_some]
 refine Ev.bind (tasksFine_ev ts hs) (Ev.ite (fun hf => ?_) (fun hf => ?_))
 ·obtain ⟨h1, h2⟩ := topOrder_ev ts hs hf
  refine Ev.bind h1 (Ev.eq ?_)
  congr 1
  rw [hf, Bool.true_and, nI_length, Bool.eq_iff_iff, beq_iff_eq, decide_eq_true_iff, ← h2.all]
  omega
 ·rw [Bool.eq_false_iff.2 hf]
  exact Ev.pure _
end Go.Proofs.YtajapkjplgaigaaDoor.P
end
section
namespace Go.Proofs.YtajapkjplgaigaaDoor.P
open Go.RowKit Go.Proofs.YtajapkjplgaigaaDoorW.PrintWords Go.Proofs.YtajapkjplgaigaaDoorW.PrintLast Go.Proofs.YtajapkjplgaigaaDoorW.PrintMore
attribute [local go_sem] max2_int min2_int max_two min_two max_three min_three max_four min_four   -- for this text's walks alone
set_option linter.unusedVariables false
set_option linter.unusedSimpArgs false
mutual
def spec_validDone.j0 : Nat → List (S39) → List Int → Bool → Option (Bool)
 | 0, _, _, _ => none
 | k + 1, x0, x1, x21 => if x21 = true then (some false) else (spec_validDone.l0 k x0 x1 0)
def spec_validDone.l0 : Nat → List (S39) → List Int → Int → Option (Bool)
 | 0, _, _, _ => none
 | k + 1, x0, x1, x5 => if x5 < (x1.length : Int) then (if 0 ≤ x5 then (if 0 ≤ (rd x1 x5) then (if (rd x1 x5) < (x0.length : Int) then ((spec_allDone.f k ((rd_T39 x0 (rd x1 x5)).f1) x1).bind fun t267 => (if t267 = true then (spec_validDone.l0 k x0 x1 (wrap64 (x5 + 1))) else (some false))) else (none)) else (none)) else (none)) else (some true)
end
def spec_validDone.f (k : Nat) (l0 : List (S39)) (l1 : List Int) : Option (Bool) := (spec_validGraph.f k l0).bind fun t262 => (if t262 = true then ((spec_ascends.f k l1).bind fun t263 => (if t263 = true then ((spec_allIn.f k l1 0 (wrap64 ((l0.length : Int) - 1))).bind fun t264 => (spec_validDone.j0 k l0 l1 (!t264))) else (spec_validDone.j0 k l0 l1 true))) else (spec_validDone.j0 k l0 l1 true))
end Go.Proofs.YtajapkjplgaigaaDoor.P
end
section
namespace Go.Proofs.YtajapkjplgaigaaDoor.P
open Go.RowKit Go.Proofs.YtajapkjplgaigaaDoorW.PrintWords Go.Proofs.YtajapkjplgaigaaDoorW.PrintLast Go.Proofs.YtajapkjplgaigaaDoorW.PrintMore
attribute [local go_sem] max2_int min2_int max_two min_two max_three min_three max_four min_four   -- for this text's walks alone
set_option linter.unusedVariables false
set_option linter.unusedSimpArgs false
def spec_ready.l0 : Nat → List (S39) → List Int → List Int → Int → Option (List Int)
 | 0, _, _, _, _ => none
 | k + 1, x0, x1, x5, x6 => if x6 < (x0.length : Int) then ((spec_isIn.f k x1 x6).bind fun t271 => (if t271 = true then (spec_ready.l0 k x0 x1 x5 (wrap64 (x6 + 1))) else (if 0 ≤ x6 then ((spec_allDone.f k ((rd_T39 x0 x6).f1) x1).bind fun t273 => (if t273 = true then (if x5.length < 17592186044416 then (spec_ready.l0 k x0 x1 (x5 ++ [x6]) (wrap64 (x6 + 1))) else (none)) else (spec_ready.l0 k x0 x1 x5 (wrap64 (x6 + 1))))) else (none)))) else (some x5)
def spec_ready.f (k : Nat) (l0 : List (S39)) (l1 : List Int) : Option (List Int) := spec_ready.l0 k l0 l1 (([] : List Int)) 0
end Go.Proofs.YtajapkjplgaigaaDoor.P
end
section
namespace Go.Proofs.YtajapkjplgaigaaDoor.P
open Go.RowKit Go.Proofs.YtajapkjplgaigaaDoorW.PrintWords Go.Proofs.YtajapkjplgaigaaDoorW.PrintLast Go.Proofs.YtajapkjplgaigaaDoorW.PrintMore
attribute [local go_sem] max2_int min2_int max_two min_two max_three min_three max_four min_four   -- for this text's walks alone
set_option linter.unusedVariables false
set_option linter.unusedSimpArgs false
def spec_ReadyTasks.f (k : Nat) (l0 : List (S39)) (l1 : List Int) : Option (List Int) := (spec_validDone.f k l0 l1).bind fun t277 => (if t277 = true then ((spec_ready.f k l0 l1).bind fun t278 => (some t278)) else (some ([] : List Int)))
end Go.Proofs.YtajapkjplgaigaaDoor.P
end
section
namespace Go.Proofs.YtajapkjplgaigaaDoor.P
open Go.RowKit Go.Proofs.YtajapkjplgaigaaDoorW.PrintWords Go.Proofs.YtajapkjplgaigaaDoorW.PrintLast Go.Proofs.YtajapkjplgaigaaDoorW.PrintMore
attribute [local go_sem] max2_int min2_int max_two min_two max_three min_three max_four min_four   -- for this text's walks alone
set_option linter.unusedVariables false
set_option linter.unusedSimpArgs false
mutual
def spec_FinishTask.j0 : Nat → List (S39) → List Int → Int → List Int → Bool → Option (List Int × Bool)
 | 0, _, _, _, _, _ => none
 | k + 1, x0, x1, x2, x8, x22 => if x22 = true then (some (([] : List Int), false)) else (spec_FinishTask.l0 k x0 x1 x2 x8 0)
def spec_FinishTask.l0 : Nat → List (S39) → List Int → Int → List Int → Int → Option (List Int × Bool)
 | 0, _, _, _, _, _ => none
 | k + 1, x0, x1, x2, x8, x9 => if x9 < (x0.length : Int) then (if x9 = x2 then (if x8.length < 17592186044416 then (spec_FinishTask.l0 k x0 x1 x2 (x8 ++ [x9]) (wrap64 (x9 + 1))) else (none)) else ((spec_isIn.f k x1 x9).bind fun t292 => (if t292 = true then (if x8.length < 17592186044416 then (spec_FinishTask.l0 k x0 x1 x2 (x8 ++ [x9]) (wrap64 (x9 + 1))) else (none)) else (spec_FinishTask.l0 k x0 x1 x2 x8 (wrap64 (x9 + 1)))))) else (some (x8, true))
end
def spec_FinishTask.f (k : Nat) (l0 : List (S39)) (l1 : List Int) (a2 : Int) : Option (List Int × Bool) := (some (([] : List Int) : List Int)).bind fun y281 => ((spec_validDone.f k l0 l1).bind fun t284 => (if t284 = true then ((spec_ready.f k l0 l1).bind fun t285 => ((spec_isIn.f k t285 a2).bind fun t288 => (spec_FinishTask.j0 k l0 l1 a2 y281 (!t288)))) else (spec_FinishTask.j0 k l0 l1 a2 y281 true)))
end Go.Proofs.YtajapkjplgaigaaDoor.P
end
section
namespace Go.Proofs.YtajapkjplgaigaaDoor.P
open Go.RowKit Go.Shelf Go.Proofs.YtajapkjplgaigaaDoorW.PrintWords Go.Proofs.YtajapkjplgaigaaDoorW.PrintLast Go.Proofs.YtajapkjplgaigaaDoorW.PrintMore
set_option linter.unusedVariables false
set_option linter.unusedSimpArgs false
def keepsL (ts : List TT) (done : List Int) (d : Int) : Bool := subL (rd_T39 ts d).f1 done
theorem small_rd {ts : List TT} (hs : Small ts) (i : Int) : (rd_T39 ts i).f1.length < 1099511627776 := by
 unfold rd_T39
 rw [List.getD_eq_getElem?_getD]
 cases h : ts[i.toNat]? with
 | none => simp [z39]
 | some t => exact hs.2 t (List.mem_of_getElem? h)
def doneB (ts : List TT) (done : List Int) : Bool := (graphP ts).isSome && ascB done && done.all (inB 0 ((ts.length : Int) - 1)) && done.all (keepsL ts done)
structure DoneOk (ts : List TT) (done : List Int) (G : GrN) (s : Nat) : Prop where
 g : graphP ts = some G
 fine : fineB ts = true
 nd : G.nd = needsM ts
 gts : G.ts = ts
 s : s = maskL done
 asc : ascB done = true
 rng : ∀ x ∈ done, 0 ≤ x ∧ x < ts.length
 keeps : done.all (keepsL ts done) = true
def pickN (p : Nat → Bool) (n : Nat) : List Nat := (List.range n).filter p
theorem bits_pick {m n : Nat} (hn : n ≤ 8) (hm : m < 2 ^ n) (p : Nat → Bool) (h : ∀ i, i < n → m.testBit i = p i) : bitsN m = pickN p n := by
 unfold bitsN pickN
 obtain ⟨c, rfl⟩ : ∃ c, c = 8 - n := ⟨_, rfl⟩
 have h8 : (8 : Nat) = n + (8 - n) := by omega
 rw [h8, List.range_add, List.filter_append]
 have h2 : ((List.range (8 - n)).map (n + ·)).filter (fun i => m.testBit i) = [] := by
  refine List.filter_eq_nil_iff.2 fun x hx => ?_
  obtain ⟨y, _, rfl⟩ := List.mem_map.1 hx
  rw [Nat.testBit_lt_two_pow (Nat.lt_of_lt_of_le hm (Nat.pow_le_pow_right (by omega) (by omega)))]
  simp
 rw [h2, List.append_nil]
 exact List.filter_congr fun x hx => h x (List.mem_range.1 hx)
def pR (ts : List TT) (done : List Int) (i : Nat) : Bool := !decide ((i : Int) ∈ done) && subL (rd_T39 ts (i : Int)).f1 done
def readyL (ts : List TT) (done : List Int) : List Int := nI (pickN (pR ts done) ts.length)
theorem needsM_len (ts : List TT) : (needsM ts).length = ts.length := by simp [needsM]
theorem ivs_nI (l : List Nat) : ivs l = nI l := rfl
def pF (done : List Int) (at_ : Int) (i : Nat) : Bool := decide ((i : Int) = at_) || decide ((i : Int) ∈ done)
def finishL (ts : List TT) (done : List Int) (at_ : Int) : List Int := nI (pickN (pF done at_) ts.length)
end Go.Proofs.YtajapkjplgaigaaDoor.P
end
section
namespace Go.Proofs.YtajapkjplgaigaaDoor.P
open Go.RowKit Go.Shelf Go.Proofs.YtajapkjplgaigaaDoorW.PrintWords Go.Proofs.YtajapkjplgaigaaDoorW.PrintLast Go.Proofs.YtajapkjplgaigaaDoorW.PrintMore
set_option linter.unusedVariables false
set_option linter.unusedSimpArgs false
structure RdOk (B : List Int) : Prop where
 len : B.length ≤ 2000
 byte : ∀ x ∈ B, 0 ≤ x ∧ x ≤ 255
theorem RdOk.at {B : List Int} (hB : RdOk B) (i : Int) : 0 ≤ rd B i ∧ rd B i ≤ 255 := by
 unfold rd
 rw [List.getD_eq_getElem?_getD]
 cases h : B[i.toNat]? with
 | none => simp
 | some x => exact hB.byte x (List.mem_of_getElem? h)
def Dr {α : Type} (m p : Int) (good : α → Prop) (f : Nat → Option (α × Int)) : Prop := ∃ r q, Ev f (r, q) ∧ good r ∧ p ≤ q ∧ q ≤ p + m
section
variable {α β : Type} {good good' : α → Prop} {goodb : β → Prop} {m m' n p : Int} {f : Nat → Option (α × Int)}
theorem Dr.mono (h : Dr m p good f) (hm : m ≤ m') (hg : ∀ r, good r → good' r) : Dr m' p good' f := by
 obtain ⟨r, q, h1, h2, h3, h4⟩ := h
 exact ⟨r, q, h1, hg r h2, h3, by omega⟩
theorem Dr.bind {g : Nat → α × Int → Option (β × Int)} (hf : Dr m p good f) (hg : ∀ r q, good r → p ≤ q → q ≤ p + m → Dr n q goodb (fun k => g k (r, q))) : Dr (m + n) p goodb (fun k => (f k).bind (g k)) := by
 obtain ⟨r, q, h1, h2, h3, h4⟩ := hf
 obtain ⟨r', q', e1, e2, e3, e4⟩ := hg r q h2 h3 h4
 exact ⟨r', q', h1.bind e1, e2, by omega, by omega⟩
theorem Dr.bind0 {γ : Type} {f : Nat → Option γ} {x : γ} {g : Nat → γ → Option (β × Int)} (hf : Ev f x) (hg : Dr m p goodb (fun k => g k x)) : Dr m p goodb (fun k => (f k).bind (g k)) := by
 obtain ⟨r', q', e1, e2, e3, e4⟩ := hg
 exact ⟨r', q', hf.bind e1, e2, e3, e4⟩
theorem Dr.pure {r : α} {q : Int} (h : good r) (h1 : p ≤ q) (h2 : q ≤ p + m) : Dr m p good (fun _ => some (r, q)) := ⟨r, q, Ev.pure _, h, h1, h2⟩
theorem Dr.here {r : α} {q : Int} (h : good r) (h0 : 0 ≤ m) : Dr m q good (fun _ => some (r, q)) := ⟨r, q, Ev.pure _, h, Int.le_refl _, by omega⟩
theorem Dr.succ {f : Nat → Option (α × Int)} (h : Dr m p good (fun k => f (k + 1))) : Dr m p good f := by
 obtain ⟨r, q, h1, h2⟩ := h
 exact ⟨r, q, h1.succ, h2⟩
theorem Dr.pos {c : Prop} [Decidable c] {g : Nat → Option (α × Int)} (hc : c) (h : Dr m p good f) : Dr m p good (fun k => if c then f k else g k) := by
 obtain ⟨r, q, h1, h2⟩ := h
 exact ⟨r, q, h1.pos hc, h2⟩
theorem Dr.neg {c : Prop} [Decidable c] {g : Nat → Option (α × Int)} (hc : ¬ c) (h : Dr m p good f) : Dr m p good (fun k => if c then g k else f k) := by
 obtain ⟨r, q, h1, h2⟩ := h
 exact ⟨r, q, h1.neg hc, h2⟩
theorem Dr.ite {c : Prop} [Decidable c] {g : Nat → Option (α × Int)} (h : c → Dr m p good f) (h' : ¬ c → Dr m p good g) : Dr m p good (fun k => if c then f k else g k) := by
 by_cases hc : c
 ·exact Dr.pos hc (h hc)
 ·exact Dr.neg hc (h' hc)
end
theorem xor64_nn (a b : Nat) (ha : a < 2 ^ 62) (hb : b < 2 ^ 62) : 0 ≤ Go.bits .xor .i64 (a : Int) (b : Int) ∧ Go.bits .xor .i64 (a : Int) (b : Int) < 2 ^ 62 := by
 have h1 : (BitVec.ofInt 64 (a : Int)).toNat = a := by
  rw [BitVec.ofInt_natCast, BitVec.toNat_ofNat]; exact Nat.mod_eq_of_lt (by omega)
 have h2 : (BitVec.ofInt 64 (b : Int)).toNat = b := by
  rw [BitVec.ofInt_natCast, BitVec.toNat_ofNat]; exact Nat.mod_eq_of_lt (by omega)
 have h3 : Go.bits .xor .i64 (a : Int) (b : Int) = IntKind.i64.wrap ((a ^^^ b : Nat) : Int) := by
  show IntKind.i64.wrap ((BitVec.ofInt 64 (a : Int) ^^^ BitVec.ofInt 64 (b : Int)).toNat : Int) = _
  rw [BitVec.toNat_xor, h1, h2]
 have h4 : a ^^^ b < 2 ^ 62 := Nat.xor_lt_two_pow ha hb
 rw [h3, IntKind.wrap_i64]
 omega
theorem tmod_in {a n : Int} (ha : 0 ≤ a) (hn : 1 ≤ n) : 0 ≤ Int.tmod a n ∧ Int.tmod a n < n := ⟨Int.tmod_nonneg _ ha, Int.tmod_lt_of_pos _ (by omega)⟩
theorem pick_ev {B : List Int} (hB : RdOk B) (n p : Int) (hp : 0 ≤ p) (hp' : p ≤ 1000000) : Dr 1 p (fun r => 0 ≤ r ∧ (1 ≤ n → r < n) ∧ (n < 1 → r = 0)) (fun k => spec_reader_pick.f k B p n) := by
 have hlen := hB.len
 have e1 : wrap64 (p + 1) = p + 1 := w64 (by omega) (by omega)
 have e2 : wrap64 (p + 1 - 1) = p := by rw [w64 (by omega) (by omega)]; omega
 have e3 : wrap64 (p * 7) = p * 7 := w64 (by omega) (by omega)
 have e4 : wrap64 (p * 7 + 3) = p * 7 + 3 := w64 (by omega) (by omega)
 unfold spec_reader_pick.f
 rw [e1]
 refine Dr.ite (fun hn => ?_) (fun hn => ?_)
 ·refine Dr.succ ?_
  simp only [spec_reader_pick.j0]
  exact Dr.pos (by simp) (Dr.pure ⟨by omega, by omega, fun _ => rfl⟩ (by omega) (by omega))
 ·refine Dr.succ ?_
  simp only [spec_reader_pick.j0, e2]
  refine Dr.ite (fun h0 => Dr.pure ⟨by omega, by omega, by omega⟩ (by omega) (by omega)) (fun h0 => ?_)
  have hB0 : 0 < B.length := by
   rcases Nat.eq_zero_or_pos B.length with h | h
   ·exact absurd (by rw [h]; rfl) h0
   ·exact h
  refine Dr.ite (fun h1 => ?_) (fun h1 => ?_)
  ·refine Dr.pos hp (Dr.neg (by omega) ?_)
   have hb := hB.at p
   rw [w64 (by omega) (by omega)]
   have ht := tmod_in hb.1 (by omega : 1 ≤ n)
   exact Dr.pure ⟨ht.1, fun _ => ht.2, by omega⟩ (by omega) (by omega)
  ·have t1 := tmod_in hp (by omega : (1 : Int) ≤ B.length)
   have t2 := tmod_in (by omega : 0 ≤ p * 7 + 3) (by omega : (1 : Int) ≤ B.length)
   simp only [e3, e4]
   refine Dr.neg (by omega) (Dr.pos t1.1 (Dr.pos t1.2 (Dr.pos t2.1 (Dr.pos t2.2 (Dr.neg (by omega) ?_)))))
   have b1 := hB.at (Int.tmod p (B.length : Int))
   have b2 := hB.at (Int.tmod (p * 7 + 3) (B.length : Int))
   obtain ⟨x1, hx1⟩ : ∃ x, x = rd B (Int.tmod p (B.length : Int)) := ⟨_, rfl⟩
   obtain ⟨x2, hx2⟩ : ∃ x, x = rd B (Int.tmod (p * 7 + 3) (B.length : Int)) := ⟨_, rfl⟩
   obtain ⟨d, hd⟩ : ∃ x, x = Int.tdiv p (B.length : Int) := ⟨_, rfl⟩
   have d0 : 0 ≤ d := by rw [hd]; exact Int.tdiv_nonneg hp (by omega)
   have d1 : d ≤ p := by rw [hd, Int.tdiv_eq_ediv_of_nonneg hp]; exact Int.ediv_le_self _ hp
   rw [← hx1] at b1 ⊢
   rw [← hx2] at b2 ⊢
   rw [← hd]
   simp only [w64 (n := x1) (by omega) (by omega), w64 (n := x2) (by omega) (by omega), w64 (n := x1 * 131) (by omega) (by omega), w64 (n := x2 * 1117) (by omega) (by omega), w64 (n := p * 29) (by omega) (by omega), w64 (n := d) (by omega) (by omega), w64 (n := d * 53) (by omega) (by omega),
    w64 (n := x1 * 131 + x2 * 1117) (by omega) (by omega), w64 (n := x1 * 131 + x2 * 1117 + p * 29) (by omega) (by omega), w64 (n := x1 * 131 + x2 * 1117 + p * 29 + d * 53) (by omega) (by omega)]
   obtain ⟨s, hs⟩ : ∃ s : Nat, x1 * 131 + x2 * 1117 + p * 29 + d * 53 = (s : Int) := ⟨(x1 * 131 + x2 * 1117 + p * 29 + d * 53).toNat, by omega⟩
   have hs2 : s < 1000000000000 := by omega
   rw [hs]
   have hdiv : wrap64 (Int.tdiv (s : Int) 64) = ((s / 64 : Nat) : Int) := by
    rw [Int.tdiv_eq_ediv_of_nonneg (by omega), w64 (by omega) (by omega)]; omega
   rw [hdiv]
   have hx := xor64_nn s (s / 64) (by omega) (by omega)
   have ht := tmod_in hx.1 (by omega : 1 ≤ n)
   exact Dr.pure ⟨ht.1, fun _ => ht.2, by omega⟩ (by omega) (by omega)
theorem one_ev {B : List Int} (hB : RdOk B) (l : List Int) (p : Int) (hl : 0 < l.length) (hp : 0 ≤ p) (hp' : p ≤ 1000000) : Dr 1 p (fun r => r ∈ l) (fun k => spec_reader_one.f k B p l) := by
 unfold spec_reader_one.f
 refine ((pick_ev hB (l.length : Int) p hp hp').bind (n := 0) (fun r q hr h1 h2 => ?_)).mono (by omega) (fun _ h => h)
 have h3 := hr.2.1 (by omega)
 refine Dr.pos hr.1 (Dr.pos h3 (Dr.here ?_ (by omega)))
 unfold rd
 rw [List.getD_eq_getElem?_getD, List.getElem?_eq_getElem (by omega)]
 exact List.getElem_mem _
theorem copyInts_eq (l : List Int) (h : l.length < 1099511627776) : spec_copyInts.f l = some l := by
 unfold spec_copyInts.f
 simp only [Option.bind_some]
 rw [if_pos (by simp; omega)]
 rfl
theorem spoil_ev {B : List Int} (hB : RdOk B) (l : List Int) (n p : Int) (hl : l.length ≤ 1000) (hp : 0 ≤ p) (hp' : p ≤ 900000) : Dr 3 p (fun r => r.length ≤ l.length + 1) (fun k => spec_reader_spoil.f k B p l n) := by
 unfold spec_reader_spoil.f
 refine Dr.bind0 (Ev.eq (copyInts_eq l (by omega))) (((pick_ev hB 20 p hp (by omega)).bind (n := 2) (fun r q hr h1 h2 => ?_)).mono (by omega) (fun _ h => h))
 refine Dr.ite (fun _ => Dr.pos (by omega) (Dr.here (by simp) (by omega))) (fun _ => Dr.ite (fun _ => ?_) (fun _ => Dr.ite (fun _ => ?_) (fun _ => Dr.here (by simp) (by omega))))
 ·exact Dr.ite (fun h => Dr.pos (by omega) (Dr.here (by simp; omega) (by omega))) (fun _ => Dr.here (by simp) (by omega))
 ·refine Dr.ite (fun h => ?_) (fun _ => Dr.here (by simp) (by omega))
  refine ((pick_ev hB (l.length : Int) q (by omega) (by omega)).bind (n := 1) (fun r2 q2 hr2 h3 h4 => ?_)).mono (by omega) (fun _ h => h)
  refine ((one_ev hB _ q2 (by simp) (by omega) (by omega)).bind (n := 0) (fun r3 q3 hr3 h5 h6 => ?_)).mono (by omega) (fun _ h => h)
  exact Dr.pos hr2.1 (Dr.pos (hr2.2.1 (by omega)) (Dr.here (by simp) (by omega)))
def GB (L M : Nat) (ts : List TT) : Prop := ts.length ≤ L ∧ ∀ t ∈ ts, t.f1.length ≤ M
theorem GB.small {L M : Nat} {ts : List TT} (h : GB L M ts) (hL : L ≤ 1000) (hM : M ≤ 1000) : Small ts := ⟨by have := h.1; omega, fun t ht => by have := h.2 t ht; omega⟩
theorem GB.snoc {L M : Nat} {ts : List TT} {t : TT} (h : GB L M ts) (ht : t.f1.length ≤ M) : GB (L + 1) M (ts ++ [t]) :=
 ⟨by have := h.1; simp; omega, fun x hx => by
  rcases List.mem_append.1 hx with hx | hx
  ·exact h.2 x hx
  ·rw [List.mem_singleton.1 hx]; exact ht⟩
theorem GB.set {L M : Nat} {ts : List TT} {t : TT} {i : Nat} (h : GB L M ts) (ht : t.f1.length ≤ M) : GB L M (ts.set i t) :=
 ⟨by have := h.1; simp; omega, fun x hx => by
  rcases List.mem_or_eq_of_mem_set hx with hx | hx
  ·exact h.2 x hx
  ·rw [hx]; exact ht⟩
theorem GB.mono {L M L' M' : Nat} {ts : List TT} (h : GB L M ts) (hL : L ≤ L') (hM : M ≤ M') : GB L' M' ts := ⟨by have := h.1; omega, fun x hx => by have := h.2 x hx; omega⟩
theorem GB.rd {L M : Nat} {ts : List TT} (h : GB L M ts) (i : Int) : (rd_T39 ts i).f1.length ≤ M := by
 unfold rd_T39
 rw [List.getD_eq_getElem?_getD]
 cases hh : ts[i.toNat]? with
 | none => simp [z39]
 | some t => exact h.2 t (List.mem_of_getElem? hh)
theorem turned_l1 (Q : List TT → Prop) (g : List TT) (out : List TT) (last i : Int) (a b c : Int) (nd : List Int) (hn : nd.length ≤ 1000)
  (hgo : ∀ acc : List Int, acc.length ≤ nd.length → ∃ r : List TT, Ev (fun k => spec_turned.l0 k g (out ++ [⟨a, acc, b, c⟩]) last (wrap64 (i - 1))) r ∧ Q r) (ho : out.length ≤ 1000) :
  ∀ (m : Nat) (acc : List Int), m ≤ nd.length → acc.length + m ≤ nd.length → ∃ r : List TT, Ev (fun k => spec_turned.l1 k g out last i acc ((m : Int) - 1) a nd b c) r ∧ Q r
 | 0, acc, _, ha => by
  obtain ⟨r, h1, h2⟩ := hgo acc (by omega)
  refine ⟨r, Ev.succ ?_, h2⟩
  simp only [spec_turned.l1]
  exact Ev.neg (by omega) (Ev.pos (by omega) h1)
 | m + 1, acc, hm, ha => by
  have hw : wrap64 (((m + 1 : Nat) : Int) - 1 - 1) = (m : Int) - 1 := by rw [w64 (by omega) (by omega)]; omega
  obtain ⟨r, h1, h2⟩ := turned_l1 Q g out last i a b c nd hn hgo ho m (acc ++ [wrap64 (last - Go.Proofs.YtajapkjplgaigaaDoorW.PrintWords.rd nd (((m + 1 : Nat) : Int) - 1))]) (by omega) (by simp only [List.length_append, List.length_cons, List.length_nil]; omega)
  refine ⟨r, Ev.succ ?_, h2⟩
  simp only [spec_turned.l1, hw]
  exact Ev.pos (by omega) (Ev.pos (by omega) (Ev.pos (by omega) (Ev.pos (by omega) h1)))
theorem turned_l0 (L M : Nat) (hL : L ≤ 1000) (hM : M ≤ 1000) (g : List TT) (hg : GB L M g) (last : Int) : ∀ (m : Nat) (out : List TT), m ≤ g.length → GB (g.length - m) M out → ∃ r, Ev (fun k => spec_turned.l0 k g out last ((m : Int) - 1)) r ∧ GB L M r
 | 0, out, _, ho => by
  refine ⟨out, Ev.succ ?_, ho.mono (by have := hg.1; omega) (Nat.le_refl _)⟩
  simp only [spec_turned.l0]
  exact Ev.neg (by omega) (Ev.pure _)
 | m + 1, out, hm, ho => by
  have hgl := hg.1
  have hol := ho.1
  have hrd := hg.rd (((m + 1 : Nat) : Int) - 1)
  have hw : wrap64 (((m + 1 : Nat) : Int) - 1 - 1) = (m : Int) - 1 := by rw [w64 (by omega) (by omega)]; omega
  obtain ⟨t, ht⟩ : ∃ t, t = rd_T39 g (((m + 1 : Nat) : Int) - 1) := ⟨_, rfl⟩
  rw [← ht] at hrd
  have hw2 : wrap64 ((t.f1.length : Int) - 1) = (t.f1.length : Int) - 1 := w64 (by omega) (by omega)
  obtain ⟨r, h1, h2⟩ := turned_l1 (GB L M) g out last (((m + 1 : Nat) : Int) - 1) t.f0 t.f2 t.f3 t.f1 (by omega) (fun acc ha => by
   rw [hw]
   exact turned_l0 L M hL hM g hg last m _ (by omega) ((ho.snoc (t := ⟨t.f0, acc, t.f2, t.f3⟩) (by show acc.length ≤ M; omega)).mono (by omega) (Nat.le_refl _))) (by omega) t.f1.length [] (Nat.le_refl _) (by simp)
  refine ⟨r, Ev.succ ?_, h2⟩
  simp only [spec_turned.l0, ← ht, hw2]
  exact Ev.pos (by omega) (Ev.pos (by omega) (Ev.pos (by omega) h1))
theorem turned_ev (L M : Nat) (hL : L ≤ 1000) (hM : M ≤ 1000) (g : List TT) (hg : GB L M g) : ∃ r, Ev (fun k => spec_turned.f k g) r ∧ GB L M r := by
 unfold spec_turned.f
 have hgl := hg.1
 rw [w64 (by omega) (by omega)]
 exact turned_l0 L M hL hM g hg _ g.length [] (Nat.le_refl _) ⟨by simp, fun t ht => by cases ht⟩
theorem some_l1 {B : List Int} (hB : RdOk B) (M : Int) (hM : 0 ≤ M) (good : List TT → Prop) (g : List TT) (hg : g.length ≤ 8) (n : Int) (a b c : Int) (E : Int) (hE : E ≤ 10000)
  (hgo : ∀ (acc : List Int) (q : Int), acc.length ≤ g.length → 0 ≤ q → q ≤ E → Dr M q good (fun k => spec_someGraph.l0 k (g ++ [⟨a, acc, b, c⟩]) (wrap64 (n - 1)) B q)) :
  ∀ (m j : Nat) (acc : List Int) (p : Int), j + m = g.length → acc.length ≤ j → 0 ≤ p → p + m ≤ E → Dr (m + M) p good (fun k => spec_someGraph.l1 k g n (j : Int) B p a acc b c)
 | 0, j, acc, p, hj, ha, hp, hp' => by
  refine Dr.succ ?_
  simp only [spec_someGraph.l1]
  exact Dr.neg (by omega) (Dr.pos (by omega) ((hgo acc p (by omega) hp (by omega)).mono (by omega) (fun _ h => h)))
 | m + 1, j, acc, p, hj, ha, hp, hp' => by
  have hw : wrap64 ((j : Int) + 1) = ((j + 1 : Nat) : Int) := w64n j (by omega)
  refine Dr.succ ?_
  simp only [spec_someGraph.l1, hw]
  refine Dr.pos (by omega) (((pick_ev hB 3 p hp (by omega)).bind (n := m + M) (fun r q hr h1 h2 => ?_)).mono (by omega) (fun _ h => h))
  exact Dr.ite (fun _ => Dr.pos (by omega) (some_l1 hB M hM good g hg n a b c E hE hgo m (j + 1) _ q (by omega) (by simp only [List.length_append, List.length_cons, List.length_nil]; omega) (by omega) (by omega))) (fun _ => some_l1 hB M hM good g hg n a b c E hE hgo m (j + 1) acc q (by omega) (by omega) (by omega) (by omega))
theorem some_l0 {B : List Int} (hB : RdOk B) : ∀ (n : Nat) (g : List TT) (p : Int), g.length + n ≤ 8 → GB 8 8 g → 0 ≤ p → p + 11 * n ≤ 5000 → Dr (11 * n + 1) p (GB 8 8) (fun k => spec_someGraph.l0 k g (n : Int) B p)
 | 0, g, p, hn, hg, hp, hp' => by
  refine Dr.succ ?_
  simp only [spec_someGraph.l0]
  refine Dr.neg (by omega) (Dr.ite (fun h => ?_) (fun h => Dr.here hg (by omega)))
  refine ((pick_ev hB 4 p hp (by omega)).bind (n := 0) (fun r q hr h1 h2 => ?_)).mono (by omega) (fun _ h => h)
  obtain ⟨t, h3, h4⟩ := turned_ev 8 8 (by omega) (by omega) g hg
  exact Dr.ite (fun _ => Dr.bind0 h3 (Dr.here h4 (by omega))) (fun _ => Dr.here hg (by omega))
 | n + 1, g, p, hn, hg, hp, hp' => by
  have hw : wrap64 (((n + 1 : Nat) : Int) - 1) = (n : Int) := by rw [w64 (by omega) (by omega)]; omega
  refine Dr.succ ?_
  simp only [spec_someGraph.l0]
  refine Dr.pos (by omega) (((one_ev hB _ p (by simp) hp (by omega)).bind (n := 2 + (8 + (11 * n + 1))) (fun r q hr h1 h2 => ?_)).mono (by omega) (fun _ h => h))
  refine ((pick_ev hB 3 q (by omega) (by omega)).bind (n := 1 + (8 + (11 * n + 1))) (fun r2 q2 hr2 h3 h4 => ?_)).mono (by omega) (fun _ h => h)
  refine ((pick_ev hB 4 q2 (by omega) (by omega)).bind (n := 8 + (11 * n + 1)) (fun r3 q3 hr3 h5 h6 => ?_)).mono (by omega) (fun _ h => h)
  refine (some_l1 hB (11 * n + 1) (by omega) (GB 8 8) g (by omega) ((n + 1 : Nat) : Int) r r2 (wrap64 (1 + r3)) (q3 + g.length) (by omega) (fun acc q4 ha h7 h8 => ?_) g.length 0 [] q3 (by omega) (by simp) (by omega) (by omega)).mono (by omega) (fun _ h => h)
  rw [hw]
  exact some_l0 hB n _ q4 (by simp; omega) ⟨by simp; omega, (hg.snoc (t := ⟨r, acc, r2, wrap64 (1 + r3)⟩) (by show acc.length ≤ 8; omega)).2⟩ h7 (by omega)
theorem someGraph_ev {B : List Int} (hB : RdOk B) (p : Int) (hp : 0 ≤ p) (hp' : p ≤ 1000) : Dr 100 p (GB 8 8) (fun k => spec_someGraph.f k B p 8) := by
 unfold spec_someGraph.f
 refine ((one_ev hB _ p (by simp) hp (by omega)).bind (n := 99) (fun r q hr h1 h2 => ?_)).mono (by omega) (fun _ h => h)
 obtain ⟨n, hn, hn8⟩ : ∃ n : Nat, mn 8 r = (n : Int) ∧ n ≤ 8 := by
  simp only [List.mem_cons, List.not_mem_nil, or_false] at hr
  unfold mn
  rcases hr with h | h | h | h | h | h | h | h <;> subst h
  ·exact ⟨4, by decide, by omega⟩
  ·exact ⟨5, by decide, by omega⟩
  ·exact ⟨3, by decide, by omega⟩
  ·exact ⟨6, by decide, by omega⟩
  ·exact ⟨2, by decide, by omega⟩
  ·exact ⟨1, by decide, by omega⟩
  ·exact ⟨0, by decide, by omega⟩
  ·exact ⟨8, by decide, by omega⟩
 rw [hn]
 exact (some_l0 hB n [] q (by simpa using hn8) ⟨by simp, fun t ht => by cases ht⟩ (by omega) (by omega)).mono (by omega) (fun _ h => h)
theorem anyGraph_ev {B : List Int} (hB : RdOk B) (p : Int) (hp : 0 ≤ p) (hp' : p ≤ 100) : Dr 300 p (GB 16 16) (fun k => spec_anyGraph.f k B p) := by
 unfold spec_anyGraph.f
 refine ((someGraph_ev hB p hp (by omega)).bind (n := 200) (fun g q hg h1 h2 => ?_)).mono (by omega) (fun _ h => h)
 have hg16 := hg.mono (L' := 16) (M' := 16) (by omega) (by omega)
 have hgl := hg.1
 refine Dr.ite (fun _ => Dr.here hg16 (by omega)) (fun h0 => ?_)
 have h0' : ¬ (g.length : Int) = 0 := h0
 refine ((pick_ev hB (g.length : Int) q (by omega) (by omega)).bind (n := 199) (fun a q2 ha h3 h4 => ?_)).mono (by omega) (fun _ h => h)
 have ha2 := ha.2.1 (by omega)
 refine ((pick_ev hB 24 q2 (by omega) (by omega)).bind (n := 198) (fun b q3 hb h5 h6 => ?_)).mono (by omega) (fun _ h => h)
 have hrd := hg.rd a
 refine Dr.ite (fun _ => ?_) (fun _ => Dr.ite (fun _ => ?_) (fun _ => Dr.ite (fun _ => ?_) (fun _ => Dr.ite (fun _ => ?_) (fun _ => Dr.ite (fun _ => ?_) (fun _ => Dr.here hg16 (by omega))))))
 ·refine ((one_ev hB _ q3 (by simp) (by omega) (by omega)).bind (n := 0) (fun r q4 hr h7 h8 => ?_)).mono (by omega) (fun _ h => h)
  exact Dr.pos ha.1 (Dr.pos ha2 (Dr.here (hg16.set (by show _ ≤ 16; dsimp only; omega)) (by omega)))
 ·refine Dr.pos ha.1 (Dr.pos ha2 (Dr.bind0 (Ev.pure _) ?_))
  refine ((pick_ev hB (g.length : Int) q3 (by omega) (by omega)).bind (n := 3) (fun r q4 hr h7 h8 => ?_)).mono (by omega) (fun _ h => h)
  refine Dr.bind0 (Ev.pure _) (Dr.pos (by simp only [List.length_cons, List.length_nil]; omega) ?_)
  refine ((spoil_ev hB _ 8 q4 (by simp only [List.length_append, List.length_cons, List.length_nil]; omega) (by omega) (by omega)).bind (n := 0) (fun r2 q5 hr2 h9 h10 => ?_)).mono (by omega) (fun _ h => h)
  simp only [List.length_append, List.length_cons, List.length_nil] at hr2
  exact Dr.here (hg16.set (by show r2.length ≤ 16; omega)) (by omega)
 ·refine ((one_ev hB _ q3 (by simp) (by omega) (by omega)).bind (n := 0) (fun r q4 hr h7 h8 => ?_)).mono (by omega) (fun _ h => h)
  exact Dr.pos ha.1 (Dr.pos ha2 (Dr.here (hg16.set (by show _ ≤ 16; dsimp only; omega)) (by omega)))
 ·refine ((one_ev hB _ q3 (by simp) (by omega) (by omega)).bind (n := 0) (fun r q4 hr h7 h8 => ?_)).mono (by omega) (fun _ h => h)
  exact Dr.pos ha.1 (Dr.pos ha2 (Dr.here (hg16.set (by show _ ≤ 16; dsimp only; omega)) (by omega)))
 ·refine ((someGraph_ev hB q3 (by omega) (by omega)).bind (n := 0) (fun r q4 hr h7 h8 => ?_)).mono (by omega) (fun _ h => h)
  have hrl := hr.1
  refine Dr.pos (by show g.length + r.length < _; omega) (Dr.here (show GB 16 16 (g ++ r) from ⟨by simp; omega, fun t ht => ?_⟩) (by omega))
  rcases List.mem_append.1 ht with ht | ht
  ·have := hg.2 t ht; omega
  ·have := hr.2 t ht; omega
theorem newReader_ev (l : List Int) (hb : ∀ x ∈ l, (Lit.int .u8 x).wf = true) : ∃ B : List Int, spec_newReader.f l = some (B, 0) ∧ RdOk B := by
 have hbyte : ∀ x ∈ l, 0 ≤ x ∧ x ≤ 255 := fun x hx => by
  have := hb x hx
  have h2 : (decide (IntKind.u8.min ≤ x) && decide (x ≤ IntKind.u8.max)) = true := this
  rw [Bool.and_eq_true, decide_eq_true_eq, decide_eq_true_eq] at h2
  exact h2
 unfold spec_newReader.f
 by_cases h : (l.length : Int) > 2000
 ·rw [if_pos h, if_pos (by omega)]
  exact ⟨_, rfl, by simp; omega, fun x hx => hbyte x (List.mem_of_mem_take hx)⟩
 ·rw [if_neg h]
  exact ⟨_, rfl, by omega, hbyte⟩
end Go.Proofs.YtajapkjplgaigaaDoor.P
end
section
namespace Go.Proofs.YtajapkjplgaigaaDoor.P
open Go.RowKit Go.Shelf Go.Proofs.YtajapkjplgaigaaDoorW.PrintWords Go.Proofs.YtajapkjplgaigaaDoorW.PrintLast Go.Proofs.YtajapkjplgaigaaDoorW.PrintMore
attribute [local go_sem] Oper.semAt_some
set_option linter.unusedVariables false
set_option linter.unusedSimpArgs false
def totI (ts : List TT) (xs : List Nat) : Int := xs.foldl (fun (a : Int) (i : Nat) => a + (rd_T39 ts (i : Int)).f0) 0
def allN (n : Nat) : Nat := 2 ^ n - 1
def progressP (ts : List TT) (done : List Int) : Int := match doneP ts done with
 | none => -1
 | some (G, s) => if ts.length = 0 then 1000 else (1000 * totI ts (bitsN s)) / totI ts (bitsN (allN ts.length))
def impl_ProgressOf.f (l0 : List TT) (l1 : List Int) : Option (Int) := some (progressP l0 l1)
end Go.Proofs.YtajapkjplgaigaaDoor.P
end
section
namespace Go.Proofs.YtajapkjplgaigaaDoor.P
open Go.RowKit Go.Proofs.YtajapkjplgaigaaDoorW.PrintWords Go.Proofs.YtajapkjplgaigaaDoorW.PrintLast Go.Proofs.YtajapkjplgaigaaDoorW.PrintMore
attribute [local go_sem] max2_int min2_int max_two min_two max_three min_three max_four min_four   -- for this text's walks alone
set_option linter.unusedVariables false
set_option linter.unusedSimpArgs false
def spec_someDone.l0 : Nat → List (S39) → List Int → Int → List Int → Int → Option (List Int × Int)
 | 0, _, _, _, _, _ => none
 | k + 1, x1, x5, x6, x1000, x1001 => if x6 > 0 then ((spec_ReadyTasks.f k x1 x5).bind fun t305 => (if (t305.length : Int) > 0 then ((spec_reader_pick.f k x1000 x1001 (t305.length : Int)).bind fun bt308 => (if 0 ≤ bt308.1 then (if bt308.1 < (t305.length : Int) then ((spec_FinishTask.f k x1 x5 (rd t305 bt308.1)).bind fun bt311 => (if bt311.2 = true then (spec_someDone.l0 k x1 bt311.1 (wrap64 (x6 - 1)) x1000 bt308.2) else (spec_someDone.l0 k x1 x5 (wrap64 (x6 - 1)) x1000 bt308.2))) else (none)) else (none))) else (spec_someDone.l0 k x1 x5 (wrap64 (x6 - 1)) x1000 x1001))) else ((spec_reader_spoil.f k x1000 x1001 x5 8).bind fun bt301 => (some (bt301.1, bt301.2)))
def spec_someDone.f (k : Nat) (s0_0 : List Int) (s0_1 : Int) (l1 : List (S39)) : Option (List Int × Int) := (spec_reader_pick.f k s0_0 s0_1 (wrap64 ((l1.length : Int) + 1))).bind fun bt299 => (spec_someDone.l0 k l1 (([] : List Int)) bt299.1 s0_0 bt299.2)
end Go.Proofs.YtajapkjplgaigaaDoor.P
end
section
namespace Go.Proofs.YtajapkjplgaigaaDoor.P
open Go.RowKit Go.Proofs.YtajapkjplgaigaaDoorW.PrintWords Go.Proofs.YtajapkjplgaigaaDoorW.PrintLast Go.Proofs.YtajapkjplgaigaaDoorW.PrintMore
attribute [local go_sem] max2_int min2_int max_two min_two max_three min_three max_four min_four   -- for this text's walks alone
set_option linter.unusedVariables false
set_option linter.unusedSimpArgs false
def spec_toInt.f (a0 : Bool) : Option (Int) := if a0 = true then (some 1) else (some 0)
end Go.Proofs.YtajapkjplgaigaaDoor.P
end
section
namespace Go.Proofs.YtajapkjplgaigaaDoor.P
open Go.RowKit Go.Proofs.YtajapkjplgaigaaDoorW.PrintWords Go.Proofs.YtajapkjplgaigaaDoorW.PrintLast Go.Proofs.YtajapkjplgaigaaDoorW.PrintMore
attribute [local go_sem] max2_int min2_int max_two min_two max_three min_three max_four min_four   -- for this text's walks alone
set_option linter.unusedVariables false
set_option linter.unusedSimpArgs false
def spec_ProgressOf.l0 : Nat → List (S39) → List Int → Int → Int → Int → Option (Int)
 | 0, _, _, _, _, _ => none
 | k + 1, x0, x1, x5, x6, x7 => if x7 < (x0.length : Int) then (if 0 ≤ x7 then ((spec_isIn.f k x1 x7).bind fun t363 => ((spec_toInt.f t363).bind fun t364 => (spec_ProgressOf.l0 k x0 x1 (wrap64 (x5 + (wrap64 (((rd_T39 x0 x7).f0) * t364)))) (wrap64 (x6 + ((rd_T39 x0 x7).f0))) (wrap64 (x7 + 1))))) else (none)) else (if x6 = 0 then (some 1000) else (some (wrap64 (Int.tdiv (wrap64 (1000 * x5)) x6))))
def spec_ProgressOf.f (k : Nat) (l0 : List (S39)) (l1 : List Int) : Option (Int) := (spec_validDone.f k l0 l1).bind fun t360 => (if t360 = true then (spec_ProgressOf.l0 k l0 l1 0 0 0) else (some (-1)))
end Go.Proofs.YtajapkjplgaigaaDoor.P
end
section
namespace Go.Proofs.YtajapkjplgaigaaDoor.P
open Go.RowKit Go.Shelf Go.Proofs.YtajapkjplgaigaaDoorW.PrintWords Go.Proofs.YtajapkjplgaigaaDoorW.PrintLast Go.Proofs.YtajapkjplgaigaaDoorW.PrintMore
set_option linter.unusedVariables false
set_option linter.unusedSimpArgs false
def sumP (ts : List TT) (p : Nat → Bool) (l : List Nat) : Int := l.foldl (fun (a : Int) (i : Nat) => if p i then a + (rd_T39 ts (i : Int)).f0 else a) 0
def inD (done : List Int) (i : Nat) : Bool := decide ((i : Int) ∈ done)
def progL (ts : List TT) (done : List Int) : Int := if ts.length = 0 then 1000 else (1000 * sumP ts (inD done) (List.range ts.length)) / sumP ts (fun _ => true) (List.range ts.length)
theorem asc_pairwise : ∀ (l : List Int), l.Pairwise (· < ·) → ascB l = true
 | [], _ => rfl
 | [x], _ => rfl
 | x :: y :: r, h => by
  have h1 := List.pairwise_cons.1 h
  rw [ascB, decide_eq_true (h1.1 y List.mem_cons_self), Bool.true_and]
  exact asc_pairwise (y :: r) h1.2
end Go.Proofs.YtajapkjplgaigaaDoor.P
end
section
namespace Go.Proofs.YtajapkjplgaigaaDoor.P
open Go.RowKit Go.Proofs.YtajapkjplgaigaaDoorW.PrintWords Go.Proofs.YtajapkjplgaigaaDoorW.PrintLast Go.Proofs.YtajapkjplgaigaaDoorW.PrintMore
attribute [local go_sem] max2_int min2_int max_two min_two max_three min_three max_four min_four   -- for this text's walks alone
set_option linter.unusedVariables false
set_option linter.unusedSimpArgs false
mutual
def spec_tails.l0 : Nat → List (S39) → List Int → List Int → Int → Option (List Int)
 | 0, _, _, _, _ => none
 | k + 1, x0, x3, x4, x5 => if x5 ≥ 0 then (if 0 ≤ x5 then (if x5 < (x4.length : Int) then (spec_tails.l1 k x0 x3 x4 x5 (rd x4 x5) 0 0) else (none)) else (none)) else (some x3)
def spec_tails.l1 : Nat → List (S39) → List Int → List Int → Int → Int → Int → Int → Option (List Int)
 | 0, _, _, _, _, _, _, _ => none
 | k + 1, x0, x3, x4, x5, x6, x7, x8 => if x8 < (x0.length : Int) then (if 0 ≤ x8 then ((spec_isIn.f k ((rd_T39 x0 x8).f1) x6).bind fun t499 => (if t499 = true then (if x8 < (x3.length : Int) then (spec_tails.l1 k x0 x3 x4 x5 x6 (mx x7 (rd x3 x8)) (wrap64 (x8 + 1))) else (none)) else (spec_tails.l1 k x0 x3 x4 x5 x6 x7 (wrap64 (x8 + 1))))) else (none)) else (if 0 ≤ x6 then (if x6 < (x0.length : Int) then (if x6 < (x3.length : Int) then (spec_tails.l0 k x0 (x3.set (x6 : Int).toNat (wrap64 (x7 + ((rd_T39 x0 x6).f0)))) x4 (wrap64 (x5 - 1))) else (none)) else (none)) else (none))
end
def spec_tails.f (k : Nat) (l0 : List (S39)) : Option (List Int) := if 0 ≤ (l0.length : Int) then (if ((l0.length : Int) : Int).toNat ≤ 35184372088832 then ((spec_topOrder.f k l0).bind fun t494 => (spec_tails.l0 k l0 (List.replicate ((l0.length : Int) : Int).toNat 0) t494 (wrap64 ((t494.length : Int) - 1)))) else (none)) else (none)
end Go.Proofs.YtajapkjplgaigaaDoor.P
end
section
namespace Go.Proofs.YtajapkjplgaigaaDoor.P
open Go.RowKit Go.Shelf Go.Proofs.YtajapkjplgaigaaDoorW.PrintWords Go.Proofs.YtajapkjplgaigaaDoorW.PrintLast Go.Proofs.YtajapkjplgaigaaDoorW.PrintMore
set_option linter.unusedVariables false
set_option linter.unusedSimpArgs false
theorem topo_go {ts : List TT} (hf : fineB ts = true) : ∀ (m : Nat) (s : List Nat × Nat), OrdOk ts.length s.1 s.2 → (∀ (a : List Nat) (i : Nat) (b : List Nat), s.1 = a ++ i :: b → ∀ x ∈ (rd_T39 ts (i : Int)).f1, x ∈ nI a) →
  ∀ (a : List Nat) (i : Nat) (b : List Nat), (orderGo (needsM ts) m s).1 = a ++ i :: b → ∀ x ∈ (rd_T39 ts (i : Int)).f1, x ∈ nI a
 | 0, s, _, h => h
 | m + 1, s, ho, h => by
  cases hfi : firstP (needsM ts) s.2 with
  | none =>
   rw [orderGo_none hfi]
   exact h
  | some i =>
   obtain ⟨h1, h2⟩ := firstP_can hfi
   rw [needsM_len] at h1
   have h3 : s.2.testBit i = false := by unfold canP at h2; simp only [Bool.and_eq_true, Bool.not_eq_true'] at h2; exact h2.1
   have hstep : orderStep (needsM ts) s = (s.1 ++ [i], s.2 ||| 2 ^ i) := by unfold orderStep; simp only [hfi]
   rw [orderGo, hstep]
   refine topo_go hf m _ (ho.add h1 h3) (fun a j b he x hx => ?_)
   rw [canP_eq hf ho.bits h1, Bool.and_eq_true] at h2
   rcases List.eq_nil_or_concat b with rfl | ⟨b', y, rfl⟩
   ·have h4 := List.append_inj' he rfl
    have h5 : i = j := by simpa using h4.2
    subst h5
    rw [← h4.1]
    rw [rdT_at ts i h1] at hx
    exact of_decide_eq_true (List.all_eq_true.1 h2.2 x hx)
   ·have h4 : s.1 ++ [i] = (a ++ j :: b') ++ [y] := by
     have h5 : s.1 ++ [i] = a ++ j :: b'.concat y := he
     rw [List.concat_eq_append] at h5
     rw [h5]; simp
    exact h a j b' (List.append_inj' h4 rfl).1 x hx
theorem order_topo {ts : List TT} (hf : fineB ts = true) (a : List Nat) (i : Nat) (b : List Nat) (h : (orderP (needsM ts)).1 = a ++ i :: b) : ∀ x ∈ (rd_T39 ts (i : Int)).f1, x ∈ nI a := by
 unfold orderP at h
 exact topo_go hf _ ([], 0) (ordOk_nil _) (fun a i b he => by simp at he) a i b h
def mstep (ts : List TT) (f : Nat → Int) (i : Nat) (m : Int) (k : Nat) : Int := if ((i : Int) ∈ (rd_T39 ts (k : Int)).f1) then mx m (f k) else m
def mostU (ts : List TT) (f : Nat → Int) (i : Nat) (l : List Nat) : Int := l.foldl (mstep ts f i) 0
def tailGo (ts : List TT) : List Nat → (Nat → Int) → (Nat → Int)
 | [], f => f
 | at_ :: r, f => tailGo ts r (fun i => if i = at_ then mostU ts f at_ (List.range ts.length) + (rd_T39 ts (at_ : Int)).f0 else f i)
def tailF (ts : List TT) : Nat → Int := tailGo ts (orderP (needsM ts)).1.reverse (fun _ => 0)
def tailL (ts : List TT) : List Int := (List.range ts.length).map (tailF ts)
theorem mx_in {a b B : Int} (ha : 0 ≤ a ∧ a ≤ B) (hb : 0 ≤ b ∧ b ≤ B) : 0 ≤ mx a b ∧ mx a b ≤ B := by unfold mx; split <;> omega
theorem mostU_in (ts : List TT) (f : Nat → Int) (i : Nat) (B : Int) (hf : ∀ k, 0 ≤ f k ∧ f k ≤ B) : ∀ (l : List Nat) (m : Int), 0 ≤ m ∧ m ≤ B → 0 ≤ l.foldl (mstep ts f i) m ∧ l.foldl (mstep ts f i) m ≤ B
 | [], m, h => h
 | k :: l, m, h => by
  rw [List.foldl_cons]
  refine mostU_in ts f i B hf l _ ?_
  unfold mstep
  split
  ·exact mx_in h (hf k)
  ·exact h
theorem map_set (f : Nat → Int) (n i : Nat) (v : Int) (hi : i < n) : ((List.range n).map f).set i v = (List.range n).map (fun k => if k = i then v else f k) := by
 refine List.ext_getElem (by simp) (fun j h1 h2 => ?_)
 simp only [List.length_set, List.length_map, List.length_range] at h1
 rw [List.getElem_set]
 simp only [List.getElem_map, List.getElem_range]
 by_cases h : i = j
 ·rw [if_pos h, if_pos h.symm]
 ·rw [if_neg h, if_neg (fun e => h e.symm)]
end Go.Proofs.YtajapkjplgaigaaDoor.P
end
section
namespace Go.Proofs.YtajapkjplgaigaaDoor.P
open Go.RowKit Go.Shelf Go.Proofs.YtajapkjplgaigaaDoorW.PrintWords Go.Proofs.YtajapkjplgaigaaDoorW.PrintLast Go.Proofs.YtajapkjplgaigaaDoorW.PrintMore
set_option linter.unusedVariables false
set_option linter.unusedSimpArgs false
theorem mx_swap (a b c : Int) : mx (mx a b) c = mx (mx a c) b := by
 unfold mx
 repeat' split
 all_goals omega
theorem fold_mx (ts : List TT) (f : Nat → Int) (i : Nat) (v : Int) : ∀ (l : List Nat) (m : Int), l.foldl (mstep ts f i) (mx m v) = mx (l.foldl (mstep ts f i) m) v
 | [], m => rfl
 | k :: l, m => by
  rw [List.foldl_cons, List.foldl_cons]
  have e : mstep ts f i (mx m v) k = mx (mstep ts f i m k) v := by
   unfold mstep
   split
   ·exact mx_swap m v (f k)
   ·rfl
  rw [e, fold_mx ts f i v l]
theorem fold_same (ts : List TT) (f f' : Nat → Int) (i : Nat) : ∀ (l : List Nat) (m : Int), (∀ k ∈ l, f' k = f k) → l.foldl (mstep ts f' i) m = l.foldl (mstep ts f i) m
 | [], m, _ => rfl
 | k :: l, m, h => by
  rw [List.foldl_cons, List.foldl_cons]
  have e : mstep ts f' i m k = mstep ts f i m k := by unfold mstep; rw [h k List.mem_cons_self]
  rw [e, fold_same ts f f' i l _ (fun k hk => h k (List.mem_cons_of_mem _ hk))]
theorem mostU_upd (ts : List TT) (f : Nat → Int) (at_ i n : Nat) (v : Int) (ha : at_ < n) (hf0 : f at_ = 0) (hf : ∀ k, 0 ≤ f k) (B : Int) (hB : ∀ k, f k ≤ B) (hv : 0 ≤ v) :
  (List.range n).foldl (mstep ts (fun k => if k = at_ then v else f k) i) 0 = if ((i : Int) ∈ (rd_T39 ts (at_ : Int)).f1) then mx ((List.range n).foldl (mstep ts f i) 0) v else (List.range n).foldl (mstep ts f i) 0 := by
 obtain ⟨a, b, hab⟩ : ∃ a b, List.range n = a ++ at_ :: b := List.append_of_mem (List.mem_range.2 ha)
 have hnd : (a ++ at_ :: b).Nodup := by rw [← hab]; exact List.nodup_range
 have hna : ∀ k ∈ a, k ≠ at_ := fun k hk e => (List.nodup_append.1 hnd).2.2 k hk at_ List.mem_cons_self e
 have hnb : ∀ k ∈ b, k ≠ at_ := fun k hk e => (List.nodup_cons.1 (List.nodup_append.1 hnd).2.1).1 (e ▸ hk)
 rw [hab, List.foldl_append, List.foldl_append, List.foldl_cons, List.foldl_cons]
 rw [fold_same ts f _ i a 0 (fun k hk => if_neg (hna k hk)), fold_same ts f _ i b _ (fun k hk => if_neg (hnb k hk))]
 have hM := mostU_in ts f i B (fun k => ⟨hf k, hB k⟩) a 0 ⟨by omega, by have := hf 0; have := hB 0; omega⟩
 obtain ⟨M, hMe⟩ : ∃ M, M = a.foldl (mstep ts f i) 0 := ⟨_, rfl⟩
 rw [← hMe] at hM ⊢
 by_cases hc : ((i : Int) ∈ (rd_T39 ts (at_ : Int)).f1)
 ·rw [if_pos hc]
  have e1 : mstep ts (fun k => if k = at_ then v else f k) i M at_ = mx M v := by
   unfold mstep
   rw [if_pos hc]
   show mx M (if at_ = at_ then v else f at_) = mx M v
   rw [if_pos rfl]
  have e2 : mstep ts f i M at_ = M := by unfold mstep; rw [if_pos hc, hf0]; unfold mx; split <;> omega
  rw [e1, e2, fold_mx]
 ·rw [if_neg hc]
  have e1 : mstep ts (fun k => if k = at_ then v else f k) i M at_ = M := by unfold mstep; rw [if_neg hc]
  have e2 : mstep ts f i M at_ = M := by unfold mstep; rw [if_neg hc]
  rw [e1, e2]
def pushF (g : Nat → Int) (at_ : Nat) (l : List Nat) : Nat → Int := l.foldl (fun g k => fun i => if i = k then mx (g k) (g at_) else g i) g
def impStep (ts : List TT) (g : Nat → Int) (at_ : Nat) : Nat → Int := pushF (fun i => if i = at_ then g at_ + (rd_T39 ts (at_ : Int)).f0 else g i) at_ (bitsN ((needsM ts).getD at_ 0))
def impGo (ts : List TT) : List Nat → (Nat → Int) → (Nat → Int)
 | [], g => g
 | at_ :: r, g => impGo ts r (impStep ts g at_)
theorem push_at (at_ : Nat) : ∀ (l : List Nat) (g : Nat → Int), at_ ∉ l → l.Nodup → pushF g at_ l at_ = g at_ ∧ ∀ i, pushF g at_ l i = if i ∈ l then mx (g i) (g at_) else g i
 | [], g, _, _ => ⟨rfl, fun i => by simp [pushF]⟩
 | k :: l, g, h, hn => by
  have hk : at_ ≠ k := fun e => h (e ▸ List.mem_cons_self)
  have hn2 := List.nodup_cons.1 hn
  obtain ⟨h1, h2⟩ := push_at at_ l (fun i => if i = k then mx (g k) (g at_) else g i) (fun hm => h (List.mem_cons_of_mem _ hm)) hn2.2
  have e : pushF g at_ (k :: l) = pushF (fun i => if i = k then mx (g k) (g at_) else g i) at_ l := rfl
  rw [e]
  refine ⟨by rw [h1, if_neg hk], fun i => ?_⟩
  rw [h2 i, if_neg hk]
  by_cases hik : i = k
  ·subst hik
   rw [if_neg hn2.1, if_pos rfl, if_pos List.mem_cons_self]
  ·rw [if_neg hik]
   by_cases hil : i ∈ l
   ·rw [if_pos hil, if_pos (List.mem_cons_of_mem _ hil)]
   ·rw [if_neg hil, if_neg (fun hm => by rcases List.mem_cons.1 hm with e | e; exact hik e; exact hil e)]
theorem needs_bits {ts : List TT} (hf : fineB ts = true) {at_ : Nat} (ha : at_ < ts.length) (i : Nat) : i ∈ bitsN ((needsM ts).getD at_ 0) ↔ (i : Int) ∈ (rd_T39 ts (at_ : Int)).f1 := by
 have hn := (task_mem (fine_task hf ha)).1
 have h8 := fine_len hf
 rw [needsM_get ts at_ ha, mem_bitsN, maskL_bit (fun x hx => (hn x hx).1), rdT_at ts at_ ha, decide_eq_true_eq]
 exact ⟨fun h => h.2, fun h => ⟨by have := hn _ h; omega, h⟩⟩
theorem bitsN_nodup (s : Nat) : (bitsN s).Nodup := List.Pairwise.filter _ List.nodup_range
theorem imp_go {ts : List TT} (hf : fineB ts = true) (od : List Nat) (hod : ∀ i ∈ od, i < ts.length) (hnd : od.Nodup) (htopo : ∀ (a : List Nat) (i : Nat) (b : List Nat), od = a ++ i :: b → ∀ x ∈ (rd_T39 ts (i : Int)).f1, x ∈ nI a)
  (ht : ∀ i, i < ts.length → 0 ≤ (rd_T39 ts (i : Int)).f0) : ∀ (r P : List Nat) (f g : Nat → Int), P ++ r = od.reverse → (∀ k, 0 ≤ f k) → (∃ B, ∀ k, f k ≤ B) → (∀ i ∈ P, g i = f i) → (∀ i, i ∉ P → f i = 0 ∧ g i = (List.range ts.length).foldl (mstep ts f i) 0) →
  ∀ i ∈ od, impGo ts r g i = tailGo ts r f i
 | [], P, f, g, he, _, _, h1, _ => fun i hi => by
  rw [List.append_nil] at he
  exact h1 i (by rw [he]; exact List.mem_reverse.2 hi)
 | at_ :: r, P, f, g, he, hf0, hfB, h1, h2 => by
  obtain ⟨B, hB⟩ := hfB
  have hrn : (P ++ at_ :: r).Nodup := by rw [he]; exact List.pairwise_reverse.2 (hnd.imp (fun h => h.symm))
  have haP : at_ ∉ P := fun hm => (List.nodup_append.1 hrn).2.2 at_ hm at_ List.mem_cons_self rfl
  have hmem : ∀ x ∈ P ++ at_ :: r, x ∈ od := fun x hx => by rw [he] at hx; exact List.mem_reverse.1 hx
  have hat := hod at_ (hmem at_ (by simp))
  have hsplit : od = r.reverse ++ at_ :: P.reverse := by
   have := congrArg List.reverse he
   rw [List.reverse_reverse] at this
   rw [← this]
   simp
  have hneed : ∀ k, k ∈ bitsN ((needsM ts).getD at_ 0) → k ∈ r := fun k hk => by
   have h3 := htopo r.reverse at_ P.reverse hsplit _ ((needs_bits hf hat k).1 hk)
   exact List.mem_reverse.1 (mem_nI.1 h3)
  have hsep : ∀ k ∈ r, k ∉ P ∧ k ≠ at_ := fun k hk => ⟨fun hm => (List.nodup_append.1 hrn).2.2 k hm k (List.mem_cons_of_mem _ hk) rfl, fun e => (List.nodup_cons.1 (List.nodup_append.1 hrn).2.1).1 (e ▸ hk)⟩
  obtain ⟨fa, hfa⟩ : ∃ v, v = (List.range ts.length).foldl (mstep ts f at_) 0 + (rd_T39 ts (at_ : Int)).f0 := ⟨_, rfl⟩
  have hM := mostU_in ts f at_ B (fun k => ⟨hf0 k, hB k⟩) (List.range ts.length) 0 ⟨by omega, by have := hf0 0; have := hB 0; omega⟩
  have htt := ht at_ hat
  have hfa0 : 0 ≤ fa := by omega
  have hpush := push_at at_ (bitsN ((needsM ts).getD at_ 0)) (fun i => if i = at_ then g at_ + (rd_T39 ts (at_ : Int)).f0 else g i) (fun hm => (hsep at_ (hneed at_ hm)).2 rfl) (bitsN_nodup _)
  have hga : g at_ + (rd_T39 ts (at_ : Int)).f0 = fa := by rw [(h2 at_ haP).2, hfa]
  rw [if_pos rfl, hga] at hpush
  have hstep : ∀ i, impStep ts g at_ i = if i ∈ bitsN ((needsM ts).getD at_ 0) then mx (if i = at_ then fa else g i) fa else (if i = at_ then fa else g i) := fun i => by
   unfold impStep
   rw [hga]
   exact hpush.2 i
  have hgo : tailGo ts (at_ :: r) f = tailGo ts r (fun i => if i = at_ then fa else f i) := by rw [hfa]; rfl
  rw [hgo]
  show ∀ i ∈ od, impGo ts r (impStep ts g at_) i = _
  refine imp_go hf od hod hnd htopo ht r (P ++ [at_]) (fun i => if i = at_ then fa else f i) (impStep ts g at_) (by rw [← he]; simp) (fun k => ?_) ⟨max B fa, fun k => ?_⟩ (fun i hi => ?_) (fun i hi => ?_)
  ·show 0 ≤ if k = at_ then fa else f k
   split
   ·exact hfa0
   ·exact hf0 k
  ·show (if k = at_ then fa else f k) ≤ max B fa
   have := hB k
   split <;> omega
  ·rw [hstep]
   rcases List.mem_append.1 hi with hi | hi
   ·have hne : i ≠ at_ := fun e => haP (e ▸ hi)
    rw [if_neg (fun hm => (hsep i (hneed i hm)).1 hi), if_neg hne, if_neg hne]
    exact h1 i hi
   ·rw [List.mem_singleton] at hi
    subst hi
    rw [if_neg (fun hm => (hsep i (hneed i hm)).2 rfl), if_pos rfl, if_pos rfl]
  ·have hiP : i ∉ P := fun hm => hi (List.mem_append_left _ hm)
   have hne : i ≠ at_ := fun e => hi (List.mem_append_right _ (by rw [e]; exact List.mem_cons_self))
   refine ⟨by show (if i = at_ then fa else f i) = 0; rw [if_neg hne]; exact (h2 i hiP).1, ?_⟩
   rw [hstep, mostU_upd ts f at_ i ts.length fa hat (h2 at_ haP).1 hf0 B hB hfa0, if_neg hne, (h2 i hiP).2]
   by_cases hm : i ∈ bitsN ((needsM ts).getD at_ 0)
   ·rw [if_pos hm, if_pos ((needs_bits hf hat i).1 hm)]
   ·rw [if_neg hm, if_neg (fun h => hm ((needs_bits hf hat i).2 h))]
theorem imp_tails {ts : List TT} (hf : fineB ts = true) (hfull : (orderP (needsM ts)).2 = 2 ^ ts.length - 1) (hO : OrdOk ts.length (orderP (needsM ts)).1 (orderP (needsM ts)).2) (i : Nat) (hi : i < ts.length) :
  impGo ts (orderP (needsM ts)).1.reverse (fun _ => 0) i = tailF ts i := by
 have hm : i ∈ (orderP (needsM ts)).1 := by
  have h1 := hO.bit i
  rw [hfull, Nat.testBit_two_pow_sub_one, decide_eq_true hi] at h1
  exact of_decide_eq_true h1.symm
 have hz : ∀ (l : List Nat) (j : Nat), l.foldl (mstep ts (fun _ => 0) j) 0 = 0 := by
  intro l j
  induction l with
  | nil => rfl
  | cons k l ih =>
   rw [List.foldl_cons]
   have e : mstep ts (fun _ => 0) j 0 k = 0 := by unfold mstep; split <;> rfl
   rw [e, ih]
 exact imp_go hf _ hO.lt hO.nd (order_topo hf) (fun j hj => by
  have h := fine_task hf hj
  rw [rdT_at ts j hj]
  unfold taskB at h
  simp only [Bool.and_eq_true, inB, decide_eq_true_eq] at h
  omega) _ [] (fun _ => 0) (fun _ => 0) rfl (fun _ => Int.le_refl _) ⟨0, fun _ => Int.le_refl _⟩ (fun i hi => by cases hi) (fun j _ => ⟨rfl, (hz _ j).symm⟩) i hm
end Go.Proofs.YtajapkjplgaigaaDoor.P
end
section
namespace Go.Proofs.YtajapkjplgaigaaDoor.P
open Go.RowKit Go.Proofs.YtajapkjplgaigaaDoorW.PrintWords Go.Proofs.YtajapkjplgaigaaDoorW.PrintLast Go.Proofs.YtajapkjplgaigaaDoorW.PrintMore
attribute [local go_sem] max2_int min2_int max_two min_two max_three min_three max_four min_four   -- for this text's walks alone
set_option linter.unusedVariables false
set_option linter.unusedSimpArgs false
def spec_timeLeft.l0 : Nat → Int → List Int → List Int → Int → Option (Int)
 | 0, _, _, _, _ => none
 | k + 1, x5, x6, x7, x8 => if x8 < (x7.length : Int) then (if 0 ≤ x8 then (if 0 ≤ (rd x7 x8) then (if (rd x7 x8) < (x6.length : Int) then (spec_timeLeft.l0 k (mx x5 (rd x6 (rd x7 x8))) x6 x7 (wrap64 (x8 + 1))) else (none)) else (none)) else (none)) else (some x5)
def spec_timeLeft.f (k : Nat) (l0 : List (S39)) (l1 : List Int) : Option (Int) := (spec_tails.f k l0).bind fun t503 => ((spec_ready.f k l0 l1).bind fun t506 => (spec_timeLeft.l0 k 0 t503 t506 0))
end Go.Proofs.YtajapkjplgaigaaDoor.P
end
section
namespace Go.Proofs.YtajapkjplgaigaaDoor.P
open Go.RowKit Go.Proofs.YtajapkjplgaigaaDoorW.PrintWords Go.Proofs.YtajapkjplgaigaaDoorW.PrintLast Go.Proofs.YtajapkjplgaigaaDoorW.PrintMore
attribute [local go_sem] max2_int min2_int max_two min_two max_three min_three max_four min_four   -- for this text's walks alone
set_option linter.unusedVariables false
set_option linter.unusedSimpArgs false
def spec_TimeLeft.f (k : Nat) (l0 : List (S39)) (l1 : List Int) : Option (Int) := (spec_validDone.f k l0 l1).bind fun t511 => (if t511 = true then ((spec_timeLeft.f k l0 l1).bind fun t512 => (some t512)) else (some (-1)))
end Go.Proofs.YtajapkjplgaigaaDoor.P
end
section
namespace Go.Proofs.YtajapkjplgaigaaDoor.P
open Go.RowKit Go.Shelf Go.Proofs.YtajapkjplgaigaaDoorW.PrintWords Go.Proofs.YtajapkjplgaigaaDoorW.PrintLast Go.Proofs.YtajapkjplgaigaaDoorW.PrintMore
set_option linter.unusedVariables false
set_option linter.unusedSimpArgs false
def timeL (ts : List TT) (done : List Int) : Int := (readyL ts done).foldl (fun m x => mx m (rd (tailL ts) x)) 0
def timeLeftP (ts : List TT) (done : List Int) : Int := match doneP ts done with
 | none => -1
 | some _ => timeL ts done
end Go.Proofs.YtajapkjplgaigaaDoor.P
end
section
namespace Go.Proofs.YtajapkjplgaigaaDoor.P
open Go.RowKit Go.Shelf Go.Proofs.YtajapkjplgaigaaDoorW.PrintWords Go.Proofs.YtajapkjplgaigaaDoorW.PrintLast Go.Proofs.YtajapkjplgaigaaDoorW.PrintMore
set_option linter.unusedVariables false
set_option linter.unusedSimpArgs false
end Go.Proofs.YtajapkjplgaigaaDoor.P
end
section
namespace Go.Proofs.YtajapkjplgaigaaDoor.P
open Go.RowKit Go.Shelf Go.Proofs.YtajapkjplgaigaaDoorW.PrintWords Go.Proofs.YtajapkjplgaigaaDoorW.PrintLast Go.Proofs.YtajapkjplgaigaaDoorW.PrintMore
attribute [local go_sem] Oper.semAt_some
attribute [local go_sem] max2_int min2_int max_two min_two max_three min_three max_four min_four
set_option linter.unusedVariables false
set_option linter.unusedSimpArgs false
def mostF (f : Nat → Int) (l : List Nat) : Int := l.foldl (fun m i => mx m (f i)) 0
def timeLeftW (ts : List TT) (done : List Int) : Int := match doneP ts done with
 | none => -1
 | some (G, s) => mostF (tailsW G.ts G.nd G.od.reverse) (bitsN (readyN G.nd s))
def impl_TimeLeft.f (l0 : List TT) (l1 : List Int) : Option (Int) := some (timeLeftW l0 l1)
structure Fl (w : World) (b q0 q1 n : Nat) (f : Nat → Int) (m : Int) (W : World) : Prop where
 bel : Below w.heap.size w W
 hb : W.heap[b]? = some (rowL (fnL n f))
 ho : Boxed W q0 24 (slv b n)
 hm : Boxed W q1 3 (.int .i64 m)
end Go.Proofs.YtajapkjplgaigaaDoor.P
end
section
namespace Go.Proofs.YtajapkjplgaigaaDoor.P
open Go.RowKit Go.Shelf Go.Proofs.YtajapkjplgaigaaDoorW.PrintWords Go.Proofs.YtajapkjplgaigaaDoorW.PrintLast Go.Proofs.YtajapkjplgaigaaDoorW.PrintMore
set_option linter.unusedVariables false
set_option linter.unusedSimpArgs false
theorem push_in (at_ : Nat) (B : Int) : ∀ (l : List Nat) (g : Nat → Int), (∀ k, 0 ≤ g k ∧ g k ≤ B) → ∀ k, 0 ≤ pushF g at_ l k ∧ pushF g at_ l k ≤ B
 | [], g, h => h
 | k :: l, g, h => push_in at_ B l (fun i => if i = k then mx (g k) (g at_) else g i) (fun i => by
   show 0 ≤ (if i = k then mx (g k) (g at_) else g i) ∧ (if i = k then mx (g k) (g at_) else g i) ≤ B
   split
   ·exact mx_in (h k) (h at_)
   ·exact h i)
theorem impStep_in {ts : List TT} {g : Nat → Int} {at_ : Nat} {B : Int} (h : ∀ k, 0 ≤ g k ∧ g k ≤ B) (ht : 0 ≤ (rd_T39 ts (at_ : Int)).f0 ∧ (rd_T39 ts (at_ : Int)).f0 ≤ 20) : ∀ k, 0 ≤ impStep ts g at_ k ∧ impStep ts g at_ k ≤ B + 20 := by
 unfold impStep
 refine push_in at_ (B + 20) _ _ (fun i => ?_)
 have h1 := h at_
 have h2 := h i
 show 0 ≤ (if i = at_ then g at_ + _ else g i) ∧ (if i = at_ then g at_ + _ else g i) ≤ B + 20
 split <;> omega
theorem stepW_eq {ts : List TT} {g : Nat → Int} {at_ : Nat} (h0 : 0 ≤ g at_) (h1 : g at_ ≤ 100000) (ht : 0 ≤ (rd_T39 ts (at_ : Int)).f0 ∧ (rd_T39 ts (at_ : Int)).f0 ≤ 20) : stepW ts (needsM ts) g at_ = impStep ts g at_ := by
 unfold stepW impStep
 have e : addW ts g at_ = fun i => if i = at_ then g at_ + (rd_T39 ts (at_ : Int)).f0 else g i := by
  funext i
  unfold addW
  rw [w64 (by omega) (by omega)]
 rw [e]
 rfl
theorem tailsW_go {ts : List TT} : ∀ (l : List Nat) (g : Nat → Int) (B : Int), (∀ k, 0 ≤ g k ∧ g k ≤ B) → B + 20 * l.length ≤ 100000 → (∀ i ∈ l, 0 ≤ (rd_T39 ts (i : Int)).f0 ∧ (rd_T39 ts (i : Int)).f0 ≤ 20) →
  l.foldl (stepW ts (needsM ts)) g = impGo ts l g
 | [], g, B, _, _, _ => rfl
 | at_ :: l, g, B, h, hB, ht => by
  rw [List.length_cons] at hB
  have h1 := ht at_ List.mem_cons_self
  have h2 := h at_
  rw [List.foldl_cons, stepW_eq h2.1 (by omega) h1]
  exact tailsW_go l _ (B + 20) (impStep_in h h1) (by omega) (fun i hi => ht i (List.mem_cons_of_mem _ hi))
theorem fine_times {ts : List TT} (hf : fineB ts = true) (i : Nat) (hi : i < ts.length) : 1 ≤ (rd_T39 ts (i : Int)).f0 ∧ (rd_T39 ts (i : Int)).f0 ≤ 20 := by
 have h := fine_task hf hi
 rw [rdT_at ts i hi]
 unfold taskB at h
 simp only [Bool.and_eq_true, inB, decide_eq_true_eq] at h
 omega
theorem tailsW_eq {ts : List TT} (hs : Small ts) {G : GrN} (hg : graphP ts = some G) (i : Nat) (hi : i < ts.length) : tailsW G.ts G.nd G.od.reverse i = tailF ts i := by
 obtain ⟨hts, _, hOk⟩ := graphP_ok hg
 obtain ⟨hf, hnd, _⟩ := graphP_fine hg
 obtain ⟨_, hO⟩ := topOrder_ev ts hs hf
 have hfull := hOk.full
 have hod := hOk.ord
 have h8 := fine_len hf
 have hol := hO.len
 rw [hnd] at hod hfull
 rw [hts] at hfull
 unfold tailsW
 rw [hts, hnd, hod, tailsW_go _ (fun _ => 0) 0 (fun _ => ⟨Int.le_refl _, Int.le_refl _⟩) (by rw [List.length_reverse]; omega) (fun j hj => by
  have := fine_times hf j (hO.lt j (List.mem_reverse.1 hj))
  omega)]
 exact imp_tails hf hfull hO i hi
end Go.Proofs.YtajapkjplgaigaaDoor.P
end
section
namespace Go.Proofs.YtajapkjplgaigaaDoor.P
open Go.RowKit Go.Proofs.YtajapkjplgaigaaDoorW.PrintWords Go.Proofs.YtajapkjplgaigaaDoorW.PrintLast Go.Proofs.YtajapkjplgaigaaDoorW.PrintMore
attribute [local go_sem] max2_int min2_int max_two min_two max_three min_three max_four min_four   -- for this text's walks alone
set_option linter.unusedVariables false
set_option linter.unusedSimpArgs false
def spec_someAt.f (k : Nat) (s0_0 : List Int) (s0_1 : Int) (l1 : List (S39)) : Option (Int × Int) := (spec_reader_pick.f k s0_0 s0_1 10).bind fun bt398 => (if bt398.1 = 0 then ((spec_reader_one.f k s0_0 bt398.2 (([(-1), (l1.length : Int), 0] : List Int))).bind fun bt403 => (some (bt403.1, bt403.2))) else ((spec_reader_pick.f k s0_0 bt398.2 (mx 1 (l1.length : Int))).bind fun bt405 => (some (bt405.1, bt405.2))))
end Go.Proofs.YtajapkjplgaigaaDoor.P
end
section
namespace Go.Proofs.YtajapkjplgaigaaDoor.P
open Go.RowKit Go.Proofs.YtajapkjplgaigaaDoorW.PrintWords Go.Proofs.YtajapkjplgaigaaDoorW.PrintLast Go.Proofs.YtajapkjplgaigaaDoorW.PrintMore
attribute [local go_sem] max2_int min2_int max_two min_two max_three min_three max_four min_four   -- for this text's walks alone
set_option linter.unusedVariables false
set_option linter.unusedSimpArgs false
mutual
def spec_WaitsFor.j0 : Nat → List (S39) → List Int → Int → List Int → Bool → Option (List Int)
 | 0, _, _, _, _, _ => none
 | k + 1, x0, x1, x2, x7, x21 => if x21 = true then (some ([] : List Int)) else (spec_WaitsFor.l0 k x0 x1 x2 x7 0)
def spec_WaitsFor.l0 : Nat → List (S39) → List Int → Int → List Int → Int → Option (List Int)
 | 0, _, _, _, _, _ => none
 | k + 1, x0, x1, x2, x7, x8 => if 0 ≤ x2 then (if x2 < (x0.length : Int) then (if x8 < (((rd_T39 x0 x2).f1).length : Int) then (if 0 ≤ x8 then ((spec_isIn.f k x1 (rd ((rd_T39 x0 x2).f1) x8)).bind fun t443 => (if t443 = true then (spec_WaitsFor.l0 k x0 x1 x2 x7 (wrap64 (x8 + 1))) else (if x7.length < 17592186044416 then (spec_WaitsFor.l0 k x0 x1 x2 (x7 ++ [rd ((rd_T39 x0 x2).f1) x8]) (wrap64 (x8 + 1))) else (none)))) else (none)) else (some x7)) else (none)) else (none)
end
def spec_WaitsFor.f (k : Nat) (l0 : List (S39)) (l1 : List Int) (a2 : Int) : Option (List Int) := (some (([] : List Int) : List Int)).bind fun y435 => ((spec_validDone.f k l0 l1).bind fun t438 => (if t438 = true then ((spec_inRange.f a2 0 (wrap64 ((l0.length : Int) - 1))).bind fun t439 => (spec_WaitsFor.j0 k l0 l1 a2 y435 (!t439))) else (spec_WaitsFor.j0 k l0 l1 a2 y435 true)))
end Go.Proofs.YtajapkjplgaigaaDoor.P
end
section
namespace Go.Proofs.YtajapkjplgaigaaDoor.P
open Go.RowKit Go.Proofs.YtajapkjplgaigaaDoorW.PrintWords Go.Proofs.YtajapkjplgaigaaDoorW.PrintLast Go.Proofs.YtajapkjplgaigaaDoorW.PrintMore
attribute [local go_sem] max2_int min2_int max_two min_two max_three min_three max_four min_four   -- for this text's walks alone
set_option linter.unusedVariables false
set_option linter.unusedSimpArgs false
def laws_isIn.l0 : Nat → List Int → Int → Int → Option (Bool)
 | 0, _, _, _ => none
 | k + 1, x0, x1, x5 => if x5 < (x0.length : Int) then (if 0 ≤ x5 then (if (rd x0 x5) = x1 then (some true) else (laws_isIn.l0 k x0 x1 (wrap64 (x5 + 1)))) else (none)) else (some false)
def laws_isIn.f (k : Nat) (l0 : List Int) (a1 : Int) : Option (Bool) := laws_isIn.l0 k l0 a1 0
end Go.Proofs.YtajapkjplgaigaaDoor.P
end
section
namespace Go.Proofs.YtajapkjplgaigaaDoor.P
open Go.RowKit Go.Shelf Go.Proofs.YtajapkjplgaigaaDoorW.PrintWords Go.Proofs.YtajapkjplgaigaaDoorW.PrintLast Go.Proofs.YtajapkjplgaigaaDoorW.PrintMore
set_option linter.unusedVariables false
set_option linter.unusedSimpArgs false
theorem pairwise_asc : ∀ (l : List Int), ascB l = true → l.Pairwise (· < ·)
 | [], _ => List.Pairwise.nil
 | [x], _ => List.pairwise_singleton _ _
 | x :: y :: r, h => by
  rw [ascB, Bool.and_eq_true, decide_eq_true_eq] at h
  have h2 := pairwise_asc (y :: r) h.2
  refine List.pairwise_cons.2 ⟨fun z hz => ?_, h2⟩
  rcases List.mem_cons.1 hz with rfl | hz
  ·exact h.1
  ·have := (List.pairwise_cons.1 h2).1 z hz
   omega
theorem asc_ext : ∀ (a b : List Int), a.Pairwise (· < ·) → b.Pairwise (· < ·) → (∀ x, x ∈ a ↔ x ∈ b) → a = b
 | [], [], _, _, _ => rfl
 | [], y :: b, _, _, h => absurd ((h y).2 List.mem_cons_self) List.not_mem_nil
 | x :: a, [], _, _, h => absurd ((h x).1 List.mem_cons_self) List.not_mem_nil
 | x :: a, y :: b, ha, hb, h => by
  have ha2 := List.pairwise_cons.1 ha
  have hb2 := List.pairwise_cons.1 hb
  have hxy : x = y := by
   rcases List.mem_cons.1 ((h x).1 List.mem_cons_self) with e | e
   ·exact e
   ·rcases List.mem_cons.1 ((h y).2 List.mem_cons_self) with e2 | e2
    ·exact e2.symm
    ·have := hb2.1 x e
     have := ha2.1 y e2
     omega
  subst hxy
  rw [asc_ext a b ha2.2 hb2.2 (fun z => ⟨fun hz => ?_, fun hz => ?_⟩)]
  ·rcases List.mem_cons.1 ((h z).1 (List.mem_cons_of_mem _ hz)) with e | e
   ·have := ha2.1 z hz
    omega
   ·exact e
  ·rcases List.mem_cons.1 ((h z).2 (List.mem_cons_of_mem _ hz)) with e | e
   ·have := hb2.1 z hz
    omega
   ·exact e
theorem nI_pick_pairwise (p : Nat → Bool) (n : Nat) : (nI (pickN p n)).Pairwise (· < ·) := by
 unfold nI pickN
 rw [List.pairwise_map]
 exact (List.Pairwise.filter _ List.pairwise_lt_range).imp (fun h => by omega)
def waitL (needs done : List Int) : List Int := needs.filter fun x => !decide (x ∈ done)
def waitsL (ts : List TT) (done : List Int) (a : Int) : List Int := if (doneP ts done).isSome = true ∧ 0 ≤ a ∧ a < ts.length then waitL (rd_T39 ts a).f1 done else []
theorem equal_go : ∀ (a pre b : List Int), pre.length + a.length < 1099511627776 → a.length = b.length → Ev (fun k => laws_equalInts.l0 k (pre ++ a) (pre ++ b) (pre.length : Int)) (decide (a = b))
 | [], pre, b, _, hl => by
  have hb : b = [] := List.length_eq_zero_iff.1 (by simpa using hl.symm)
  subst hb
  refine Ev.succ ?_
  simp only [laws_equalInts.l0]
  exact Ev.neg (len_nlt pre) (Ev.eq (by simp))
 | x :: a, pre, [], _, hl => by simp at hl
 | x :: a, pre, y :: b, h, hl => by
  have hpl : pre.length < 1099511627776 := by omega
  refine Ev.succ ?_
  simp only [laws_equalInts.l0, rdm]
  refine Ev.pos (len_lt _ _ _) (Ev.pos (by omega) (Ev.pos (len_lt _ _ _) (Ev.ite (fun hc => ?_) (fun hc => ?_))))
  ·subst hc
   rw [len_next pre x (by omega), snoc_eq pre x a, snoc_eq pre x b, show decide (x :: a = x :: b) = decide (a = b) from decide_eq_decide.2 (by simp)]
   exact equal_go a (pre ++ [x]) b (by simp only [List.length_append, List.length_cons, List.length_nil] at h ⊢; omega) (by simpa using hl)
  ·rw [decide_eq_false (by simp [hc])]
   exact Ev.pure _
theorem equalInts_ev (a b : List Int) (h : a.length < 1099511627776) : Ev (fun k => laws_equalInts.f k a b) (decide (a = b)) := by
 unfold laws_equalInts.f
 refine Ev.ite (fun hl => ?_) (fun hl => ?_)
 ·exact equal_go a [] b (by simpa using h) (by omega)
 ·rw [decide_eq_false (fun e => hl (by rw [e]))]
  exact Ev.pure _
end Go.Proofs.YtajapkjplgaigaaDoor.P
end
section
namespace Go.Proofs.YtajapkjplgaigaaDoor.P
open Go.RowKit Go.Shelf Go.Proofs.YtajapkjplgaigaaDoorW.PrintWords Go.Proofs.YtajapkjplgaigaaDoorW.PrintLast Go.Proofs.YtajapkjplgaigaaDoorW.PrintMore
set_option linter.unusedVariables false
set_option linter.unusedSimpArgs false
theorem mx_le {a b B : Int} (ha : a ≤ B) (hb : b ≤ B) : mx a b ≤ B := by unfold mx; split <;> omega
theorem le_mx_l (a b : Int) : a ≤ mx a b := by unfold mx; split <;> omega
theorem le_mx_r (a b : Int) : b ≤ mx a b := by unfold mx; split <;> omega
theorem mostF_fold_le (f : Nat → Int) (B : Int) : ∀ (l : List Nat) (m : Int), m ≤ B → (∀ i ∈ l, f i ≤ B) → l.foldl (fun m i => mx m (f i)) m ≤ B
 | [], m, h, _ => h
 | i :: l, m, h, hl => by
  rw [List.foldl_cons]
  exact mostF_fold_le f B l _ (mx_le h (hl i List.mem_cons_self)) (fun j hj => hl j (List.mem_cons_of_mem _ hj))
theorem fold_ge (f : Nat → Int) : ∀ (l : List Nat) (m : Int), m ≤ l.foldl (fun m i => mx m (f i)) m
 | [], m => Int.le_refl _
 | i :: l, m => by
  rw [List.foldl_cons]
  exact Int.le_trans (le_mx_l m (f i)) (fold_ge f l _)
theorem le_fold (f : Nat → Int) : ∀ (l : List Nat) (m : Int), ∀ i ∈ l, f i ≤ l.foldl (fun m i => mx m (f i)) m
 | [], m, i, hi => by cases hi
 | j :: l, m, i, hi => by
  rw [List.foldl_cons]
  rcases List.mem_cons.1 hi with rfl | hi
  ·exact Int.le_trans (le_mx_r m (f i)) (fold_ge f l _)
  ·exact le_fold f l _ i hi
theorem tailGo_app (ts : List TT) : ∀ (p q : List Nat) (f : Nat → Int), tailGo ts (p ++ q) f = tailGo ts q (tailGo ts p f)
 | [], _, _ => rfl
 | a :: p, q, f => tailGo_app ts p q _
theorem tailGo_off (ts : List TT) : ∀ (l : List Nat) (f : Nat → Int) (k : Nat), k ∉ l → tailGo ts l f k = f k
 | [], _, _, _ => rfl
 | a :: l, f, k, h => by
  show tailGo ts l _ k = f k
  rw [tailGo_off ts l _ k (fun hk => h (List.mem_cons_of_mem _ hk))]
  exact if_neg (fun e => h (by rw [e]; exact List.mem_cons_self))
theorem mst_ge (ts : List TT) (f : Nat → Int) (x : Nat) : ∀ (l : List Nat) (m : Int), m ≤ l.foldl (mstep ts f x) m
 | [], m => Int.le_refl _
 | i :: l, m => by
  rw [List.foldl_cons]
  refine Int.le_trans ?_ (mst_ge ts f x l _)
  unfold mstep
  split
  ·exact le_mx_l _ _
  ·exact Int.le_refl _
theorem le_mst (ts : List TT) (f : Nat → Int) (x : Nat) : ∀ (l : List Nat) (m : Int), ∀ i ∈ l, (x : Int) ∈ (rd_T39 ts (i : Int)).f1 → f i ≤ l.foldl (mstep ts f x) m
 | [], m, i, hi, _ => by cases hi
 | j :: l, m, i, hi, hx => by
  rw [List.foldl_cons]
  rcases List.mem_cons.1 hi with rfl | hi
  ·refine Int.le_trans ?_ (mst_ge ts f x l _)
   unfold mstep
   rw [if_pos hx]
   exact le_mx_r _ _
  ·exact le_mst ts f x l _ i hi hx
theorem full_mem {ts : List TT} {G : GrN} (hs : Small ts) (hg : graphP ts = some G) {i : Nat} (hi : i < ts.length) : i ∈ (orderP (needsM ts)).1 := by
 obtain ⟨hts, _, hOk⟩ := graphP_ok hg
 obtain ⟨hf, hnd, _⟩ := graphP_fine hg
 obtain ⟨_, hO⟩ := topOrder_ev ts hs hf
 have hfull := hOk.full
 rw [hnd, hts] at hfull
 have h1 := hO.bit i
 rw [hfull, Nat.testBit_two_pow_sub_one, decide_eq_true hi] at h1
 exact of_decide_eq_true h1.symm
end Go.Proofs.YtajapkjplgaigaaDoor.P
end
section
namespace Go.Proofs.YtajapkjplgaigaaDoor.P
open Go.RowKit Go.Shelf Go.Proofs.YtajapkjplgaigaaDoorW.PrintWords Go.Proofs.YtajapkjplgaigaaDoorW.PrintLast Go.Proofs.YtajapkjplgaigaaDoorW.PrintMore
set_option linter.unusedVariables false
set_option linter.unusedSimpArgs false
inductive Rch (E : Nat → Nat → Prop) : Nat → Nat → Prop
 | one {i k : Nat} : E i k → Rch E i k
 | step {i j k : Nat} : E i j → Rch E j k → Rch E i k
theorem Rch.trans {E : Nat → Nat → Prop} {i j k : Nat} (h : Rch E i j) (h2 : Rch E j k) : Rch E i k := by
 induction h with
 | one h => exact .step h h2
 | step h _ ih => exact .step h (ih h2)
theorem Rch.first {E : Nat → Nat → Prop} {i k : Nat} (h : Rch E i k) : ∃ j, E i j ∧ (j = k ∨ Rch E j k) := by
 cases h with
 | one h => exact ⟨_, h, Or.inl rfl⟩
 | step h h2 => exact ⟨_, h, Or.inr h2⟩
def needE (ts : List TT) (i k : Nat) : Prop := (k : Int) ∈ (rd_T39 ts (i : Int)).f1
theorem rdT_off (ts : List TT) (i : Nat) (hi : ¬ i < ts.length) : (rd_T39 ts (i : Int)).f1 = [] := by
 have : ts[i]? = none := List.getElem?_eq_none (by omega)
 simp [rd_T39, this, z39]
theorem needE_lt {ts : List TT} (hf : fineB ts = true) {i k : Nat} (h : needE ts i k) : i < ts.length ∧ k < ts.length := by
 have hi : i < ts.length := by
  refine Classical.byContradiction (fun hn => ?_)
  unfold needE at h
  rw [rdT_off ts i hn] at h
  cases h
 refine ⟨hi, ?_⟩
 unfold needE at h
 rw [rdT_at ts i hi] at h
 have := (task_mem (fine_task hf hi)).1 _ h
 omega
theorem needE_bits {ts : List TT} (hf : fineB ts = true) {i : Nat} (hi : i < ts.length) (k : Nat) : k ∈ bitsN ((needsM ts).getD i 0) ↔ needE ts i k := needs_bits hf hi k
def Topo (E : Nat → Nat → Prop) (od : List Nat) : Prop := ∀ (a : List Nat) (i : Nat) (b : List Nat), od = a ++ i :: b → ∀ k, E i k → k ∈ a
theorem topo_of {ts : List TT} (hf : fineB ts = true) : Topo (needE ts) (orderP (needsM ts)).1 := fun a i b he k hk => mem_nI.1 (order_topo hf a i b he _ hk)
theorem Topo.rch {E : Nat → Nat → Prop} {od : List Nat} (h : Topo E od) {i k : Nat} (hr : Rch E i k) : ∀ (a b : List Nat), od = a ++ i :: b → k ∈ a := by
 induction hr with
 | one he => exact fun a b hab => h a _ b hab _ he
 | @step i j k he _ ih =>
  intro a b hab
  obtain ⟨c, d, hcd⟩ := List.append_of_mem (h a i b hab j he)
  have := ih c (d ++ i :: b) (by rw [hab, hcd]; simp)
  rw [hcd]
  exact List.mem_append_left _ this
theorem Topo.irr {E : Nat → Nat → Prop} {od : List Nat} (h : Topo E od) (hn : od.Nodup) {i : Nat} (hi : i ∈ od) : ¬ Rch E i i := fun hr => by
 obtain ⟨a, b, hab⟩ := List.append_of_mem hi
 have := h.rch hr a b hab
 rw [hab] at hn
 exact (List.nodup_append.1 hn).2.2 i this i List.mem_cons_self rfl
def blK (i : Nat) (bl : List Nat) (k : Nat) : Nat := bl.getD k 0 ||| 2 ^ k
theorem bFold_get (i : Nat) : ∀ (ks : List Nat) (bl : List Nat), i ∉ ks → i < bl.length → ∀ j b, ((ks.foldl (bStep i) bl).getD j 0).testBit b = ((bl.getD j 0).testBit b || (decide (j = i) && ks.any fun k => (bl.getD k 0).testBit b || decide (k = b)))
 | [], bl, _, _ => fun j b => by simp
 | k :: ks, bl, hn, hi => fun j b => by
  have hki : k ≠ i := fun e => hn (by rw [e]; exact List.mem_cons_self)
  have hg : ∀ x, (bStep i bl k).getD x 0 = if x = i then (bl.getD i 0 ||| (bl.getD k 0 ||| 2 ^ k)) else bl.getD x 0 := fun x => by
   unfold bStep
   rw [List.getD_eq_getElem?_getD, List.getElem?_set]
   by_cases hx : x = i
   ·subst hx; simp [hi]
   ·rw [if_neg (fun e => hx e.symm), if_neg hx, List.getD_eq_getElem?_getD]
  rw [List.foldl_cons, bFold_get i ks (bStep i bl k) (fun h => hn (List.mem_cons_of_mem _ h)) (by simp [bStep, hi]) j b]
  have ha : ks.any (fun k' => ((bStep i bl k).getD k' 0).testBit b || decide (k' = b)) = ks.any (fun k' => (bl.getD k' 0).testBit b || decide (k' = b)) := by
   rw [Bool.eq_iff_iff, List.any_eq_true, List.any_eq_true]
   constructor
   ·rintro ⟨x, hx, h⟩
    exact ⟨x, hx, by rw [hg, if_neg (fun e => hn (by rw [← e]; exact List.mem_cons_of_mem _ hx))] at h; exact h⟩
   ·rintro ⟨x, hx, h⟩
    exact ⟨x, hx, by rw [hg, if_neg (fun e => hn (by rw [← e]; exact List.mem_cons_of_mem _ hx))]; exact h⟩
  rw [ha, hg]
  by_cases hj : j = i
  ·subst hj
   rw [if_pos rfl, List.any_cons, Nat.testBit_or, Nat.testBit_or, Nat.testBit_two_pow, decide_eq_true (show j = j from rfl)]
   simp only [Bool.true_and, Bool.or_assoc]
  ·rw [if_neg hj, decide_eq_false hj]
   simp
theorem bFold_len (i : Nat) : ∀ (ks : List Nat) (bl : List Nat), (ks.foldl (bStep i) bl).length = bl.length
 | [], _ => rfl
 | k :: ks, bl => by rw [List.foldl_cons, bFold_len i ks]; simp [bStep]
theorem rel_first (nd : List Nat) : ∀ (od : List Nat) (s : List Nat × List Nat), (od.foldl (relStep nd) s).1 = od.foldl (fun bl i => (bitsN (nd.getD i 0)).foldl (bStep i) bl) s.1
 | [], _ => rfl
 | i :: od, s => by rw [List.foldl_cons, List.foldl_cons, rel_first nd od]; rfl
theorem below_go {n : Nat} {nd : List Nat} {E : Nat → Nat → Prop} (hE : ∀ i, i < n → ∀ k, k ∈ bitsN (nd.getD i 0) ↔ E i k) {od : List Nat} (ht : Topo E od) (hn : od.Nodup) (hl : ∀ i ∈ od, i < n) :
  ∀ (r P bl : List Nat), P ++ r = od → bl.length = n → (∀ i ∈ P, ∀ j, (bl.getD i 0).testBit j = true ↔ Rch E i j) → (∀ i, i ∉ P → bl.getD i 0 = 0) →
  ∀ i ∈ od, ∀ j, ((r.foldl (fun bl i => (bitsN (nd.getD i 0)).foldl (bStep i) bl) bl).getD i 0).testBit j = true ↔ Rch E i j
 | [], P, bl, he, _, h1, _ => fun i hi j => h1 i (by rw [← he] at hi; simpa using hi) j
 | x :: r, P, bl, he, hbl, h1, h2 => by
  have hxo : x ∈ od := by rw [← he]; simp
  have hxn := hl x hxo
  have hnP : x ∉ P := fun h => by
   rw [← he] at hn
   exact (List.nodup_append.1 hn).2.2 x h x List.mem_cons_self rfl
  have hkP : ∀ k, k ∈ bitsN (nd.getD x 0) → k ∈ P := fun k hk => ht P x r he.symm k ((hE x hxn k).1 hk)
  rw [List.foldl_cons]
  have hget := bFold_get x (bitsN (nd.getD x 0)) bl (fun h => hnP (hkP x h)) (by omega)
  refine below_go hE ht hn hl r (P ++ [x]) _ (by rw [← he]; simp) (by rw [bFold_len]; exact hbl) (fun i hi j => ?_) (fun i hi => ?_)
  ·rw [hget i j]
   rcases List.mem_append.1 hi with hi | hi
   ·have hix : i ≠ x := fun e => hnP (e ▸ hi)
    rw [decide_eq_false hix]
    simp only [Bool.false_and, Bool.or_false]
    exact h1 i hi j
   ·rw [List.mem_singleton] at hi
    subst hi
    rw [h2 i hnP]
    simp only [Nat.zero_testBit, Bool.false_or, decide_true, Bool.true_and, List.any_eq_true, Bool.or_eq_true, decide_eq_true_eq]
    constructor
    ·rintro ⟨k, hk, h | h⟩
     ·exact .step ((hE i hxn k).1 hk) ((h1 k (hkP k hk) j).1 h)
     ·exact h ▸ .one ((hE i hxn k).1 hk)
    ·intro h
     obtain ⟨k, hk, h⟩ := h.first
     have hkb := (hE i hxn k).2 hk
     rcases h with h | h
     ·exact ⟨k, hkb, Or.inr h⟩
     ·exact ⟨k, hkb, Or.inl ((h1 k (hkP k hkb) j).2 h)⟩
  ·have hix : i ≠ x := fun e => hi (List.mem_append_right _ (by rw [e]; exact List.mem_singleton_self _))
   apply Nat.eq_of_testBit_eq
   intro j
   rw [hget i j, decide_eq_false hix, h2 i (fun h => hi (List.mem_append_left _ h))]
   simp
theorem below_bit {ts : List TT} (hs : Small ts) {G : GrN} (hg : graphP ts = some G) {i : Nat} (hi : i < ts.length) (j : Nat) : (G.bl.getD i 0).testBit j = true ↔ Rch (needE ts) i j := by
 obtain ⟨hts, _, hOk⟩ := graphP_ok hg
 obtain ⟨hf, hnd, _⟩ := graphP_fine hg
 obtain ⟨_, hO⟩ := topOrder_ev ts hs hf
 rw [hOk.blE, hOk.ord, hnd, hts]
 unfold relP
 rw [rel_first]
 exact below_go (fun i hi k => needE_bits hf hi k) (topo_of hf) hO.nd hO.lt _ [] (List.replicate ts.length 0) rfl (by simp) (fun i hi => (by cases hi)) (fun i _ => by
  rw [List.getD_eq_getElem?_getD]
  by_cases hi : i < ts.length
  ·simp [hi]
  ·simp [hi]) i (full_mem hs hg hi) j
theorem addNeeds {ts : List TT} (hs : Small ts) (at_ : Int) (i : Int) (nd : List Int) (hnl : nd.length < 1099511627776) (Q : List Int → Prop) (r : List Int)
  (hgo : ∀ seen', Q seen' → (∀ x ∈ nd, x ∈ seen') → Ev (fun k => spec_allNeeds.l0 k ts at_ seen' (wrap64 (i + 1))) r) :
  ∀ (m : List Int) (pre seen : List Int), pre ++ m = nd → Q seen → (∀ x ∈ pre, x ∈ seen) → (∀ s, Q s → s.length ≤ 1000) → (∀ s x, Q s → x ∈ nd → x ∉ s → Q (s ++ [x])) →
  Ev (fun k => spec_allNeeds.l1 k ts at_ seen i nd (pre.length : Int)) r
 | [], pre, seen, he, hQ, hp, _, _ => by
  refine Ev.succ ?_
  simp only [spec_allNeeds.l1]
  have e : pre = nd := by rw [← he]; simp
  exact Ev.neg (by rw [← he]; exact len_nlt pre) (hgo seen hQ (fun x hx => hp x (by rw [e]; exact hx)))
 | x :: m, pre, seen, he, hQ, hp, hQl, hQa => by
  have hx : x ∈ nd := by rw [← he]; simp
  have h1 : rd nd (pre.length : Int) = x := by rw [← he]; exact rdm pre x m
  have h2 : (pre.length : Int) < (nd.length : Int) := by rw [← he]; exact len_lt _ _ _
  have hl := hQl seen hQ
  refine Ev.succ ?_
  simp only [spec_allNeeds.l1, h1]
  refine Ev.pos h2 (Ev.pos (by omega) (Ev.bind (isIn_ev _ _ (by omega)) (Ev.ite (fun hc => ?_) (fun hc => ?_))))
  ·rw [len_next pre x (by omega)]
   exact addNeeds hs at_ i nd hnl Q r hgo m (pre ++ [x]) seen (by rw [← he]; simp) hQ (fun y hy => by
    rcases List.mem_append.1 hy with hy | hy
    ·exact hp y hy
    ·rw [List.mem_singleton] at hy; subst hy; exact of_decide_eq_true hc) hQl hQa
  ·refine Ev.pos (by omega) ?_
   rw [len_next pre x (by omega)]
   exact addNeeds hs at_ i nd hnl Q r hgo m (pre ++ [x]) (seen ++ [x]) (by rw [← he]; simp) (hQa seen x hQ hx (fun h => hc (decide_eq_true h))) (fun y hy => by
    rcases List.mem_append.1 hy with hy | hy
    ·exact List.mem_append_left _ (hp y hy)
    ·exact List.mem_append_right _ hy) hQl hQa
structure SeenOk (ts : List TT) (at_ : Nat) (seen : List Nat) : Prop where
 nd : seen.Nodup
 lt : ∀ i ∈ seen, i < ts.length
 rch : ∀ i ∈ seen, i = at_ ∨ Rch (needE ts) at_ i
 at_ : at_ ∈ seen
theorem SeenOk.len {ts : List TT} {a : Nat} {seen : List Nat} (h : SeenOk ts a seen) : seen.length ≤ ts.length := by
 have := nodup_len seen (List.range ts.length) h.nd (fun x hx => List.mem_range.2 (h.lt x hx))
 simpa using this
theorem lastNeeds {ts : List TT} (hn : ts.length ≤ 8) (at_ : Nat) (seen : List Nat) (hl : seen.length ≤ 8) : ∀ (m j : Nat) (acc : List Int), j + m = ts.length → acc.length ≤ j →
  Ev (fun k => spec_allNeeds.l2 k ts (at_ : Int) (nI seen) acc (j : Int)) (acc ++ nI ((List.range' j m).filter fun i => !decide (i = at_) && decide (i ∈ seen)))
 | 0, j, acc, hj, ha => by
  refine Ev.succ ?_
  simp only [spec_allNeeds.l2]
  exact Ev.neg (by omega) (Ev.eq (by simp [nI]))
 | m + 1, j, acc, hj, ha => by
  have hw : wrap64 ((j : Int) + 1) = ((j + 1 : Nat) : Int) := w64n j (by omega)
  refine Ev.succ ?_
  simp only [spec_allNeeds.l2, hw]
  rw [List.range'_succ]
  refine Ev.pos (by omega) (Ev.ite (fun h => ?_) (fun h => ?_))
  ·have hja : j = at_ := by omega
   rw [List.filter_cons_of_neg (by simp [hja])]
   exact lastNeeds hn at_ seen hl m (j + 1) acc (by omega) (by omega)
  ·have hja : j ≠ at_ := fun e => h (by rw [e])
   refine Ev.bind (isIn_ev _ _ (by rw [nI_length]; omega)) (Ev.ite (fun hc => ?_) (fun hc => ?_))
   ·have hjs : j ∈ seen := mem_nI.1 (of_decide_eq_true hc)
    rw [List.filter_cons_of_pos (by simp [hja, hjs])]
    refine Ev.pos (by omega) ?_
    have e : acc ++ nI (j :: (List.range' (j + 1) m).filter fun i => !decide (i = at_) && decide (i ∈ seen)) = (acc ++ [(j : Int)]) ++ nI ((List.range' (j + 1) m).filter fun i => !decide (i = at_) && decide (i ∈ seen)) := by simp [nI]
    rw [e]
    exact lastNeeds hn at_ seen hl m (j + 1) (acc ++ [(j : Int)]) (by omega) (by simp; omega)
   ·have hjs : j ∉ seen := fun h => hc (decide_eq_true (mem_nI.2 h))
    rw [List.filter_cons_of_neg (by simp [hjs])]
    exact lastNeeds hn at_ seen hl m (j + 1) acc (by omega) (by omega)
theorem allNeeds_go {ts : List TT} (hs : Small ts) (hf : fineB ts = true) (at_ : Nat) (r : List Int)
  (hr : ∀ seen, SeenOk ts at_ seen → (∀ i ∈ seen, ∀ k, needE ts i k → k ∈ seen) → Ev (fun k => spec_allNeeds.l2 k ts (at_ : Int) (nI seen) [] 0) r) :
  ∀ (m j : Nat) (seen : List Nat), j + m = ts.length + 1 → SeenOk ts at_ seen → j ≤ seen.length → (∀ i ∈ seen.take j, ∀ k, needE ts i k → k ∈ seen) → Ev (fun k => spec_allNeeds.l0 k ts (at_ : Int) (nI seen) (j : Int)) r
 | 0, j, seen, hj, hS, hjl, hc => by
  have := hS.len
  omega
 | m + 1, j, seen, hj, hS, hjl, hc => by
  have hn8 := fine_len hf
  have hsl := hS.len
  refine Ev.succ ?_
  simp only [spec_allNeeds.l0]
  by_cases hlt : j < seen.length
  ·have hrd : rd (nI seen) (j : Int) = ((seen[j] : Nat) : Int) := by rw [rd_nI]; simp [hlt]
   have hin := hS.lt seen[j] (List.getElem_mem hlt)
   rw [hrd]
   refine Ev.pos (by rw [nI_length]; omega) (Ev.pos (by omega) (Ev.pos (by omega) (Ev.pos (by omega) ?_)))
   have hnd := task_mem (fine_task hf hin)
   have hrt := rdT_at ts seen[j] hin
   refine addNeeds hs (at_ : Int) (j : Int) (rd_T39 ts ((seen[j] : Nat) : Int)).f1 (small_rd hs _) (fun s => ∃ sn : List Nat, s = nI sn ∧ SeenOk ts at_ sn ∧ ∃ t, sn = seen ++ t) r ?_ _ [] (nI seen) rfl ⟨seen, rfl, hS, [], by simp⟩ (fun x hx => (by cases hx)) ?_ ?_
   ·rintro s ⟨sn, rfl, hSn, t, rfl⟩ hall
    rw [w64n j (by omega)]
    refine allNeeds_go hs hf at_ r hr m (j + 1) _ (by omega) hSn (by simp; omega) (fun i hi k hk => ?_)
    rw [List.take_append_of_le_length (by omega), List.take_succ_eq_append_getElem hlt] at hi
    rcases List.mem_append.1 hi with hi | hi
    ·exact List.mem_append_left _ (hc i hi k hk)
    ·rw [List.mem_singleton] at hi
     subst hi
     exact mem_nI.1 (hall _ hk)
   ·rintro s ⟨sn, rfl, hSn, _⟩
    have := hSn.len
    rw [nI_length]; omega
   ·rintro s x ⟨sn, rfl, hSn, t, rfl⟩ hx hxs
    rw [hrt] at hx
    have hx1 := hnd.1 x hx
    obtain ⟨xn, rfl⟩ : ∃ xn : Nat, x = (xn : Int) := ⟨x.toNat, by omega⟩
    have hxn : xn ∉ seen ++ t := fun h => hxs (mem_nI.2 h)
    have he : needE ts seen[j] xn := by unfold needE; rw [hrt]; exact hx
    refine ⟨(seen ++ t) ++ [xn], by simp [nI], ⟨?_, ?_, ?_, List.mem_append_left _ hSn.at_⟩, t ++ [xn], by simp⟩
    ·refine List.nodup_append.2 ⟨hSn.nd, by simp, fun a ha b hb e => ?_⟩
     rw [List.mem_singleton] at hb
     subst hb
     exact hxn (e ▸ ha)
    ·intro i hi
     rcases List.mem_append.1 hi with hi | hi
     ·exact hSn.lt i hi
     ·rw [List.mem_singleton] at hi; subst hi; omega
    ·intro i hi
     rcases List.mem_append.1 hi with hi | hi
     ·exact hSn.rch i hi
     ·rw [List.mem_singleton] at hi
      subst hi
      right
      rcases hS.rch seen[j] (List.getElem_mem hlt) with e | e
      ·rw [e] at he; exact .one he
      ·exact e.trans (.one he)
  ·refine Ev.neg (by rw [nI_length]; omega) (hr seen hS (fun i hi k hk => hc i ?_ k hk))
   rw [List.take_of_length_le (by omega)]
   exact hi
def allL (G : GrN) (at_ : Nat) : List Int := nI (bitsN (G.bl.getD at_ 0))
theorem allNeeds_ev {ts : List TT} (hs : Small ts) {G : GrN} (hg : graphP ts = some G) (at_ : Nat) (ha : at_ < ts.length) : Ev (fun k => spec_allNeeds.f k ts (at_ : Int)) (allL G at_) := by
 obtain ⟨hf, hnd, hts⟩ := graphP_fine hg
 have hn8 := fine_len hf
 obtain ⟨_, hO⟩ := topOrder_ev ts hs hf
 have hirr := (topo_of hf).irr hO.nd (full_mem hs hg ha)
 unfold spec_allNeeds.f
 refine allNeeds_go hs hf at_ (allL G at_) (fun seen hS hcl => ?_) (ts.length + 1) 0 [at_] (by omega) ⟨by simp, fun i hi => by simp at hi; omega, fun i hi => by simp at hi; exact Or.inl hi, by simp⟩ (by simp) (fun i hi => by simp at hi)
 have h := lastNeeds hn8 at_ seen (by have := hS.len; omega) ts.length 0 [] (by omega) (by simp)
 have e : [] ++ nI ((List.range' 0 ts.length).filter fun i => !decide (i = at_) && decide (i ∈ seen)) = allL G at_ := by
  rw [List.nil_append, ← List.range_eq_range']
  unfold allL
  have hb : G.bl.getD at_ 0 < 2 ^ ts.length := by
   have := (graphP_ok hg).2.2.bl.get at_
   rwa [hts] at this
  rw [bits_pick hn8 hb (fun i => !decide (i = at_) && decide (i ∈ seen)) (fun i hi => ?_)]
  ·rfl
  ·rw [Bool.eq_iff_iff, below_bit hs hg ha]
   simp only [Bool.and_eq_true, Bool.not_eq_true', decide_eq_false_iff_not, decide_eq_true_eq]
   have hclr : ∀ {x y : Nat}, Rch (needE ts) x y → x ∈ seen → y ∈ seen := by
    intro x y hxy
    induction hxy with
    | one h => exact fun hx => hcl _ hx _ h
    | step h _ ih => exact fun hx => ih (hcl _ hx _ h)
   constructor
   ·intro h
    exact ⟨fun e => hirr (by rw [← e]; rw [← e] at h; exact h), hclr h hS.at_⟩
   ·rintro ⟨h1, h2⟩
    exact (hS.rch i h2).resolve_left h1
 rw [e] at h
 exact h
end Go.Proofs.YtajapkjplgaigaaDoor.P
end
