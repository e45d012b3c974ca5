/- Merged texts of one claim: part 24 of what the statement's proof stands on. No condition. -/
import Derived.Test.YtdmeiiedbhfniaaDoorE10
import Derived.RangeFuncNested
import Derived.RangeFuncBound
import Derived.RangeFuncCalls
import Derived.RangeFuncLeaves
import Derived.WalkKit
import Derived.OwnWalkIn
import Derived.TacticsInMore
import Derived.LoopNIn
import Derived.LoopIn
import Derived.Lib.TrailingZeros
import Derived.Laws.BitsLemmas
import Derived.Shelf.Abstract
import Derived.Test.YtdmeiiedbhfniaaDoorE1WMore
import Derived.Test.YtdmeiiedbhfniaaDoorProg
import Derived.OrdersIn
import Derived.StillTail
import Derived.Deep.Quiet
import Derived.Outline
import Derived.StillTailTactics
import Derived.Laws.OwnMore
import Derived.Laws.BitsAllLaws
import Derived.Deep.LoopGhost
import Derived.Laws.MakeOwn
import Derived.RegionTactic
import Derived.ChangeAlike
set_option linter.unusedSimpArgs false
set_option linter.unusedVariables false
section
namespace Go.Proofs.YtdmeiiedbhfniaaDoor.P
open Go.RowKit YtdmeiiedbhfniaaDoorW.PrintWords YtdmeiiedbhfniaaDoorW.PrintLast YtdmeiiedbhfniaaDoorW.PrintMore
attribute [local go_sem] max2_int min2_int max_two min_two max_three min_three max_four min_four
mutual
def spec_order.l0 : Nat → List (S38) → List Int → Int → List Int → List Int → Int → Option (List Int)
 | 0, _, _, _, _, _, _ => none
 | k + 1, x0, x1, x2, x3, x9, x10 => if x10 < (x9.length : Int) then (if 0 ≤ x10 then (spec_order.l0 k x0 x1 x2 x3 (x9.set (x10 : Int).toNat 200) (wrap64 (x10 + 1))) else (none)) else (spec_order.l1 k x0 x1 x2 x3 x9 0)
def spec_order.l1 : Nat → List (S38) → List Int → Int → List Int → List Int → Int → Option (List Int)
 | 0, _, _, _, _, _, _ => none
 | k + 1, x0, x1, x2, x3, x9, x11 => if x11 < (x3.length : Int) then (if 0 ≤ x11 then (spec_order.l2 k x0 x1 x2 x3 x9 x11 (rd x3 x11) 0 0) else (none)) else (some x9)
def spec_order.l2 : Nat → List (S38) → List Int → Int → List Int → List Int → Int → Int → Int → Int → Option (List Int)
 | 0, _, _, _, _, _, _, _, _, _ => none
 | k + 1, x0, x1, x2, x3, x9, x11, x12, x13, x14 => if 0 ≤ x12 then (if x12 < (x0.length : Int) then (if x14 < (((rd_T38 x0 x12).f1).length : Int) then (if 0 ≤ x14 then (if 0 ≤ (rd ((rd_T38 x0 x12).f1) x14) then (if (rd ((rd_T38 x0 x12).f1) x14) < (x9.length : Int) then (if (rd ((rd_T38 x0 x12).f1) x14) < (x0.length : Int) then (spec_order.l2 k x0 x1 x2 x3 x9 x11 x12 (mx x13 (wrap64 ((rd x9 (rd ((rd_T38 x0 x12).f1) x14)) + ((rd_T38 x0 (rd ((rd_T38 x0 x12).f1) x14)).f0)))) (wrap64 (x14 + 1))) else (none)) else (none)) else (none)) else (none)) else (spec_order.l3 k x0 x1 x2 x3 x9 x11 x12 x13)) else (none)) else (none)
def spec_order.l3 : Nat → List (S38) → List Int → Int → List Int → List Int → Int → Int → Int → Option (List Int)
 | 0, _, _, _, _, _, _, _, _ => none
 | k + 1, x0, x1, x2, x3, x9, x11, x12, x13 => (spec_fits.f k x0 x1 x2 x9 x12 x13).bind fun t180 => (if t180 = true then (if 0 ≤ x12 then (if x12 < (x9.length : Int) then (spec_order.l1 k x0 x1 x2 x3 (x9.set (x12 : Int).toNat x13) (wrap64 (x11 + 1))) else (none)) else (none)) else (spec_order.l3 k x0 x1 x2 x3 x9 x11 x12 (wrap64 (x13 + 1))))
end
def spec_order.f (k : Nat) (l0 : List (S38)) (l1 : List Int) (a2 : Int) (l3 : List Int) : Option (List Int) := if 0 ≤ (l0.length : Int) then (if ((l0.length : Int) : Int).toNat ≤ 35184372088832 then (spec_order.l0 k l0 l1 a2 l3 (List.replicate ((l0.length : Int) : Int).toNat 0) 0) else (none)) else (none)
set_option maxHeartbeats 8000000 in
set_option maxRecDepth 100000 in
theorem spec_order.calls (k : Nat) (A0 : Option Addr) (c0 : Nat) (l0 : List (S38)) (A1 : Option Addr) (c1 : Nat) (l1 : List Int) (a2 : Int) (A3 : Option Addr) (c3 : Nat) (l3 : List Int) (r : List Int) (w : World) (hr0 : Kd.C k38 w A0 l0.length l0) (hc0 : l0.length ≤ c0) (hr1 : Kd.C (Kd.int .i64) w A1 l1.length l1) (hc1 : l1.length ≤ c1) (hr3 : Kd.C (Kd.int .i64) w A3 l3.length l3) (hc3 : l3.length ≤ c3) (h : spec_order.f k l0 l1 a2 l3 = some r) :
  Calls Tryd.prog 45 #[.slice A0 l0.length c0, .slice A1 l1.length c1, .int .i64 a2, .slice A3 l3.length c3] w fun e w' => ∃ v0_ : Value, e = .returned (v0_) ∧ Kd.R (Kd.int .i64) 3 w' w.heap.size (fun _ => True) v0_ r ∧ Below w.heap.size w w' := by
 have HR0 := Aside0.mk hr0
 have HC0 := Aside0.mk hc0
 clear hr0 hc0
 have HR1 := Aside0.mk hr1
 have HC1 := Aside0.mk hc1
 clear hr1 hc1
 have HR3 := Aside0.mk hr3
 have HC3 := Aside0.mk hc3
 clear hr3 hc3
 have HB := Aside0.mk (Below.refl w.heap.size w)
 have H : (if 0 ≤ (l0.length : Int) then (if ((l0.length : Int) : Int).toNat ≤ 35184372088832 then (spec_order.l0 k l0 l1 a2 l3 (List.replicate ((l0.length : Int) : Int).toNat 0) 0) else (none)) else (none)) = some r := h
 clear h
 by_cases c5 : 0 ≤ (l0.length : Int)
 ·rw [if_pos c5] at H
  have c5b0 := eq_true c5
  have c5b1 : decide (0 ≤ (l0.length : Int)) = true := decide_eq_true c5
  clear c5
  by_cases c6 : ((l0.length : Int) : Int).toNat ≤ 35184372088832
  ·rw [if_pos c6] at H
   have c6b0 := eq_true c6
   have c6b1 : decide (((l0.length : Int) : Int).toNat ≤ 35184372088832) = true := decide_eq_true c6
   clear c6
   obtain ⟨y168, hy168⟩ : ∃ y_ : List Int, y_ = (List.replicate ((l0.length : Int) : Int).toNat 0) := ⟨_, rfl⟩
   replace H : (spec_order.l0 k l0 l1 a2 l3 y168 0) = some r := by first | (rw [hy168]; with_reducible exact H) | (have H2_ := (Option.bind_some _ _).symm.trans H; rw [hy168]; with_reducible exact H2_) | (have H2_ := (Option.bind_some _ _).symm.trans H; with_reducible exact H2_) | with_reducible exact H | (rw [hy168]; exact H) | exact H
   have Ny168 := Aside0.mk hy168
   clear hy168
   have H' := Aside0.mk H
   clear H
   go_enter Tryd.func45, Tryd.ntmps45
   iterate 7 (first | go_quiet (first | ((with_reducible refine gate_dst (N := 17) rfl ?_); refine Kd.R_make (Kd.int .i64) _ 3 rfl (N := 17) rfl 23 _ _ rfl (l0.length : Int) rfl rfl Tryd.underlying23 (.int .i64 0) 8 info3 rfl (by decide) (by omega) 0 (ok := fun _ => True) (okp := fun _ => True) rfl (fun _ hk => hk) trivial (of_decide_eq_true (by with_reducible assumption)) (Nat.le_trans (Nat.mul_le_mul_right _ (of_decide_eq_true (by with_reducible assumption) : (l0.length : Int).toNat ≤ 35184372088832)) (by omega)) (Below.refl _ _) (Nat.le_refl _) ?_; intro v169 w7 ho8 hb hg_ hnew_; clear hg_ hnew_; (first | rw [← Ny168.out] at ho8 | (simp only [Int.reduceToNat] at ho8; rw [← Ny168.out] at ho8)); have n0_ := Aside0.mk (Kd.R_lower ho8 (below_size (by repeat (with_reducible first | exact HB.out | apply below_alloc | apply pw_below_drewN | apply below_drew1)))); have n1_ := Aside0.mk (below_step (by repeat (with_reducible first | exact HB.out | apply below_alloc | apply pw_below_drewN | apply below_drew1)) hb); clear HB; have HO170 := n0_; have HB := n1_; clear n0_ n1_; clear hb ho8)) | go_wp2_with (first | ((with_reducible refine gate_dst (N := 17) rfl ?_); refine Kd.R_make (Kd.int .i64) _ 3 rfl (N := 17) rfl 23 _ _ rfl (l0.length : Int) rfl rfl Tryd.underlying23 (.int .i64 0) 8 info3 rfl (by decide) (by omega) 0 (ok := fun _ => True) (okp := fun _ => True) rfl (fun _ hk => hk) trivial (of_decide_eq_true (by with_reducible assumption)) (Nat.le_trans (Nat.mul_le_mul_right _ (of_decide_eq_true (by with_reducible assumption) : (l0.length : Int).toNat ≤ 35184372088832)) (by omega)) (Below.refl _ _) (Nat.le_refl _) ?_; intro v169 w7 ho8 hb hg_ hnew_; clear hg_ hnew_; (first | rw [← Ny168.out] at ho8 | (simp only [Int.reduceToNat] at ho8; rw [← Ny168.out] at ho8)); have n0_ := Aside0.mk (Kd.R_lower ho8 (below_size (by repeat (with_reducible first | exact HB.out | apply below_alloc | apply pw_below_drewN | apply below_drew1)))); have n1_ := Aside0.mk (below_step (by repeat (with_reducible first | exact HB.out | apply below_alloc | apply pw_below_drewN | apply below_drew1)) hb); clear HB; have HO170 := n0_; have HB := n1_; clear n0_ n1_; clear hb ho8)) | skip)
   go_loopg [10] k (fun kq v10 w' => ∃ (x9_1 : List Int) (x10_1 : Int), v10 = .int .i64 x10_1 ∧ Aside0 (spec_order.l0 kq l0 l1 a2 l3 x9_1 x10_1 = some r) ∧ Aside0 (kq ≤ k) ∧ Aside0 (Kd.R (Kd.int .i64) 3 w' w.heap.size (fun _ => True) v169 x9_1) ∧ Aside0 (Below w.heap.size w w'))
   case atStart => exact ⟨(y168), (0), (by first | rfl | (simp; done) | (simp [*]; done)), H', ⟨Nat.le_refl _⟩, ⟨by (with_reducible repeat (first | apply Kd.R_alloc | apply Kd.R_drewN | apply Kd.R_drew)); exact HO170.out⟩, ⟨by repeat (with_reducible first | exact HB.out | apply below_alloc | apply pw_below_drewN | apply below_drew1)⟩⟩
   case round =>
    clear H'
    try clear c1
    try clear p2
    try clear c3
    try clear c4
    try clear c5
    try clear c5b0
    try clear c5b1
    try clear c6
    try clear c6b0
    try clear c6b1
    obtain ⟨x9_1, x10_1, rfl, HA, HK1, HO_9, HB⟩ := hrel
    cases gk with
    | zero => exact absurd HA.out (by simp [spec_order.l0])
    | succ k1 =>
     have H := HA.out
     clear HA
     simp only [spec_order.l0] at H
     by_cases c9 : x10_1 < (x9_1.length : Int)
     ·rw [if_pos c9] at H
      have c9b0 : decide (x10_1 < (x9_1.length : Int)) = true := decide_eq_true c9
      clear c9
      by_cases c10 : 0 ≤ x10_1
      ·rw [if_pos c10] at H
       have c10b0 : decide (0 ≤ x10_1) = true := decide_eq_true c10
       clear c10
       obtain ⟨y171, hy171⟩ : ∃ y_ : List Int, y_ = (x9_1.set (x10_1 : Int).toNat 200) := ⟨_, rfl⟩
       replace H : (spec_order.l0 k1 l0 l1 a2 l3 y171 (wrap64 (x10_1 + 1))) = some r := by first | (rw [hy171]; with_reducible exact H) | (have H2_ := (Option.bind_some _ _).symm.trans H; rw [hy171]; with_reducible exact H2_) | (have H2_ := (Option.bind_some _ _).symm.trans H; with_reducible exact H2_) | with_reducible exact H | (rw [hy171]; exact H) | exact H
       have Ny171 := Aside0.mk hy171
       clear hy171
       have H' := Aside0.mk H
       clear H
       obtain ⟨Ao12, co12, eo12⟩ := Kd.R_slice HO_9.out
       subst eo12
       have p11 : 0 ≤ (x10_1 : Int) := of_decide_eq_true (by with_reducible assumption)
       have q11 : (x10_1 : Int) < ((x9_1.length : Int) : Int) := of_decide_eq_true (by with_reducible assumption)
       obtain ⟨go11, co11, eo11, gb11, gl11, cl11, HG11⟩ := Kd.R_form HO_9.out (by omega)
       (first | cases eo11 | (injection eo11 with ea_ en_ ec_; (first | subst ea_ | (injection ea_ with ea_; subst ea_)); subst ec_; clear en_))
       have GB11 := Aside0.mk gb11
       have GG11 := Aside0.mk HG11
       clear gb11 gl11 HG11
       obtain ⟨hx11_0, hf11_0⟩ := Kd.R_celln 0 HO_9.out (x10_1 : Int) p11 q11
       replace p11 := eq_true p11
       replace q11 := eq_true q11
       have HP13 := Kd.R_putg HO_9.out (x10_1 : Int) 200
       iterate 7 (first | go_quiet (first | ((with_reducible refine gate_store (t := 3) (p := 26) rfl ?_); (try (rw [drewN_self wr]; generalize hq_ : World.drewN wr _ = wr; have n0_ := Aside0.mk (Kd.R_at hq_ HO_9.out); have n1_ := Aside0.mk (below_at hq_ HB.out); clear hq_ HO_9 HB; have HO_9 := n0_; have HB := n1_; clear n0_ n1_; (try (have HP13 := Kd.R_putg HO_9.out (x10_1 : Int) 200)))); refine store_event (t := 3) (p := 26) (v := ?vo_w14) (w1 := (wr.setCell ⟨go11, (x10_1 : Int).toNat, none⟩ (.int .i64 200))) ?hg ?ho ?hn ?hr ?_; (case ho => rfl); (case hg => rfl); (case hn => rfl); (case hr => first | (go_simp; done) | (go_simp; rfl)); intro w14 hw; have hg : wr.grownBy w14 (some go11) := (by rw [hw]; exact HP13.2); have hp_ : Kd.R (Kd.int .i64) 3 w14 w.heap.size (fun _ => True) (.slice (some ⟨go11, 0, none⟩) x9_1.length co12) y171 := (by rw [hw, Ny171.out]; exact HP13.1); clear HP13; have n0_ := Aside0.mk (hp_); have n1_ := Aside0.mk ((by rw [hw]; exact below_set (HB.out) GB11.out : Below w.heap.size w w14)); clear HO_9; clear HB; have HO_9 := n0_; have HB := n1_; clear n0_ n1_; clear hg hw hp_)) | go_wp2_with (first | ((with_reducible refine gate_store (t := 3) (p := 26) rfl ?_); (try (rw [drewN_self wr]; generalize hq_ : World.drewN wr _ = wr; have n0_ := Aside0.mk (Kd.R_at hq_ HO_9.out); have n1_ := Aside0.mk (below_at hq_ HB.out); clear hq_ HO_9 HB; have HO_9 := n0_; have HB := n1_; clear n0_ n1_; (try (have HP13 := Kd.R_putg HO_9.out (x10_1 : Int) 200)))); refine store_event (t := 3) (p := 26) (v := ?vo_w14) (w1 := (wr.setCell ⟨go11, (x10_1 : Int).toNat, none⟩ (.int .i64 200))) ?hg ?ho ?hn ?hr ?_; (case ho => rfl); (case hg => rfl); (case hn => rfl); (case hr => first | (go_simp; done) | (go_simp; rfl)); intro w14 hw; have hg : wr.grownBy w14 (some go11) := (by rw [hw]; exact HP13.2); have hp_ : Kd.R (Kd.int .i64) 3 w14 w.heap.size (fun _ => True) (.slice (some ⟨go11, 0, none⟩) x9_1.length co12) y171 := (by rw [hw, Ny171.out]; exact HP13.1); clear HP13; have n0_ := Aside0.mk (hp_); have n1_ := Aside0.mk ((by rw [hw]; exact below_set (HB.out) GB11.out : Below w.heap.size w w14)); clear HO_9; clear HB; have HO_9 := n0_; have HB := n1_; clear n0_ n1_; clear hg hw hp_)) | skip)
       go_roundg k1
       case measure => have := HK1.out; omega
       case rel => exact ⟨(y171), (wrap64 (x10_1 + 1)), (by first | rfl | (simp; done) | (simp [*]; done)), H', ⟨by have := HK1.out; omega⟩, ⟨by (with_reducible repeat (first | apply Kd.R_alloc | apply Kd.R_drewN | apply Kd.R_drew)); exact HO_9.out⟩, ⟨by repeat (with_reducible first | exact HB.out | apply below_alloc | apply pw_below_drewN | apply below_drew1)⟩⟩
      ·rw [if_neg c10] at H
       exact absurd H (by simp)
     ·rw [if_neg c9] at H
      have c9b0 : decide (x10_1 < (x9_1.length : Int)) = false := decide_eq_false c9
      clear c9
      have H' := Aside0.mk H
      clear H
      obtain ⟨Ao15, co15, eo15⟩ := Kd.R_slice HO_9.out
      subst eo15
      go_wp2
      repeat (go_quiet (fail); try go_wp2)
      go_loopg [11] k1 (fun kq v11 w' => ∃ (x9_2 : List Int) (x11_2 : Int), v11 = .int .i64 x11_2 ∧ Aside0 (spec_order.l1 kq l0 l1 a2 l3 x9_2 x11_2 = some r) ∧ Aside0 (kq ≤ k1) ∧ Aside0 (Kd.R (Kd.int .i64) 3 w' w.heap.size (fun _ => True) (.slice Ao15 x9_1.length co15) x9_2) ∧ Aside0 (Below w.heap.size w w'))
      case atStart => exact ⟨(x9_1), (0), (by first | rfl | (simp; done) | (simp [*]; done)), H', ⟨Nat.le_refl _⟩, ⟨by (with_reducible repeat (first | apply Kd.R_alloc | apply Kd.R_drewN | apply Kd.R_drew)); exact HO_9.out⟩, ⟨by repeat (with_reducible first | exact HB.out | apply below_alloc | apply pw_below_drewN | apply below_drew1)⟩⟩
      case round =>
       clear H'
       try clear c1
       try clear p1
       try clear q1
       try clear hx1
       try clear p2
       try clear c3
       try clear c4
       try clear c5
       try clear c5b0
       try clear c5b1
       try clear c6
       try clear c6b0
       try clear c6b1
       try clear p6
       try clear c9
       try clear c9b0
       try clear c10
       try clear c10b0
       try clear p11
       try clear q11
       try clear hx11
       try clear hf11
       try clear hx11_0
       try clear p11
       try clear p2
       try clear q11
       obtain ⟨x9_2, x11_2, rfl, HA, HK2, HO_9, HB⟩ := hrel
       have hl9_2 := (Kd.R_reads' HO_9.out).1
       rw [hl9_2] at HO_9
       (try simp only [hl9_2])
       cases gk with
       | zero => exact absurd HA.out (by simp [spec_order.l1])
       | succ k2 =>
        have H := HA.out
        clear HA
        simp only [spec_order.l1] at H
        by_cases c16 : x11_2 < (l3.length : Int)
        ·rw [if_pos c16] at H
         have c16b0 : decide (x11_2 < (l3.length : Int)) = true := decide_eq_true c16
         clear c16
         by_cases c17 : 0 ≤ x11_2
         ·rw [if_pos c17] at H
          have c17b0 : decide (0 ≤ x11_2) = true := decide_eq_true c17
          clear c17
          have H' := Aside0.mk H
          clear H
          have p172 : 0 ≤ (x11_2 : Int) := of_decide_eq_true (by with_reducible assumption)
          have q172 : x11_2 < (l3.length : Int) := of_decide_eq_true (by with_reducible assumption)
          obtain ⟨ad172, e172, hx172_0⟩ := Kd.at_int HR3.out x11_2 p172 q172
          cases e172
          replace hx172_0 := (HB.out.cell (World.block_lt_of_cell? w _ hx172_0)).trans hx172_0
          replace p172 := eq_true p172
          replace q172 := eq_true q172
          go_wp2
          repeat (go_quiet (fail); try go_wp2)
          go_loopg [13, 14] k2 (fun kq v13 v14 w' => ∃ (x13_3 : Int) (x14_3 : Int), v13 = .int .i64 x13_3 ∧ v14 = .int .i64 x14_3 ∧ Aside0 (spec_order.l2 kq l0 l1 a2 l3 x9_2 x11_2 (rd l3 x11_2) x13_3 x14_3 = some r) ∧ Aside0 (kq ≤ k2) ∧ Aside0 (Kd.R (Kd.int .i64) 3 w' w.heap.size (fun _ => True) (.slice Ao15 x9_2.length co15) x9_2) ∧ Aside0 (Below w.heap.size w w'))
          case atStart => exact ⟨(0), (0), (by first | rfl | (simp; done) | (simp [*]; done)), (by first | rfl | (simp; done) | (simp [*]; done)), H', ⟨Nat.le_refl _⟩, ⟨by (try simp only [hl9_2]); (with_reducible repeat (first | apply Kd.R_alloc | apply Kd.R_drewN | apply Kd.R_drew)); exact HO_9.out⟩, ⟨by repeat (with_reducible first | exact HB.out | apply below_alloc | apply pw_below_drewN | apply below_drew1)⟩⟩
          case round =>
           clear H'
           try clear c1
           try clear p1
           try clear q1
           try clear hx1
           try clear p2
           try clear c3
           try clear c4
           try clear c5
           try clear c5b0
           try clear c5b1
           try clear c6
           try clear c6b0
           try clear c6b1
           try clear p6
           try clear c9
           try clear c9b0
           try clear c10
           try clear c10b0
           try clear p11
           try clear q11
           try clear hx11
           try clear hf11
           try clear c16
           try clear c16b0
           try clear c17
           try clear c17b0
           try clear p17
           try clear q17
           try clear hx17
           try clear hx11_0
           try clear hx172_0
           try clear p1
           try clear p11
           try clear p172
           try clear p2
           try clear p6
           try clear q1
           try clear q11
           try clear q172
           obtain ⟨x13_3, x14_3, rfl, rfl, HA, HK3, HO_9, HB⟩ := hrel
           cases gk with
           | zero => exact absurd HA.out (by simp [spec_order.l2])
           | succ k3 =>
            have H := HA.out
            clear HA
            simp only [spec_order.l2] at H
            by_cases c18 : 0 ≤ (rd l3 x11_2)
            ·rw [if_pos c18] at H
             have c18b0 : decide (0 ≤ (rd l3 x11_2)) = true := decide_eq_true c18
             clear c18
             by_cases c19 : (rd l3 x11_2) < (l0.length : Int)
             ·rw [if_pos c19] at H
              have c19b0 : decide ((rd l3 x11_2) < (l0.length : Int)) = true := decide_eq_true c19
              clear c19
              by_cases c20 : x14_3 < (((rd_T38 l0 (rd l3 x11_2)).f1).length : Int)
              ·rw [if_pos c20] at H
               have c20b0 : decide (x14_3 < (((rd_T38 l0 (rd l3 x11_2)).f1).length : Int)) = true := decide_eq_true c20
               clear c20
               by_cases c21 : 0 ≤ x14_3
               ·rw [if_pos c21] at H
                have c21b0 : decide (0 ≤ x14_3) = true := decide_eq_true c21
                clear c21
                by_cases c22 : 0 ≤ (rd ((rd_T38 l0 (rd l3 x11_2)).f1) x14_3)
                ·rw [if_pos c22] at H
                 have c22b0 : decide (0 ≤ (rd ((rd_T38 l0 (rd l3 x11_2)).f1) x14_3)) = true := decide_eq_true c22
                 clear c22
                 by_cases c23 : (rd ((rd_T38 l0 (rd l3 x11_2)).f1) x14_3) < (x9_2.length : Int)
                 ·rw [if_pos c23] at H
                  have c23b0 : decide ((rd ((rd_T38 l0 (rd l3 x11_2)).f1) x14_3) < (x9_2.length : Int)) = true := decide_eq_true c23
                  clear c23
                  by_cases c24 : (rd ((rd_T38 l0 (rd l3 x11_2)).f1) x14_3) < (l0.length : Int)
                  ·rw [if_pos c24] at H
                   have c24b0 : decide ((rd ((rd_T38 l0 (rd l3 x11_2)).f1) x14_3) < (l0.length : Int)) = true := decide_eq_true c24
                   clear c24
                   obtain ⟨ji25, hji25⟩ : ∃ j_ : Int, (mx x13_3 (wrap64 ((rd x9_2 (rd ((rd_T38 l0 (rd l3 x11_2)).f1) x14_3)) + ((rd_T38 l0 (rd ((rd_T38 l0 (rd l3 x11_2)).f1) x14_3)).f0)))) = j_ := ⟨_, rfl⟩
                   replace H : (spec_order.l2 k3 l0 l1 a2 l3 x9_2 x11_2 (rd l3 x11_2) ji25 (wrap64 (x14_3 + 1))) = some r := by first | (rw [hji25] at H; exact H) | (simp only [hji25] at H ⊢; exact H)
                   have hji25_ : (if x13_3 < (wrap64 ((rd x9_2 (rd ((rd_T38 l0 (rd l3 x11_2)).f1) x14_3)) + ((rd_T38 l0 (rd ((rd_T38 l0 (rd l3 x11_2)).f1) x14_3)).f0))) then (wrap64 ((rd x9_2 (rd ((rd_T38 l0 (rd l3 x11_2)).f1) x14_3)) + ((rd_T38 l0 (rd ((rd_T38 l0 (rd l3 x11_2)).f1) x14_3)).f0))) else x13_3) = ji25 := hji25
                   have H' := Aside0.mk H
                   clear H
                   have p173 : 0 ≤ ((rd l3 x11_2) : Int) := of_decide_eq_true (by with_reducible assumption)
                   have q173 : (rd l3 x11_2) < (l0.length : Int) := of_decide_eq_true (by with_reducible assumption)
                   obtain ⟨ad173, A173_1, c173_1, e173, hx173_0, hx173_1, hx173_2, hx173_3, hl173_1, hi173_1⟩ := at_T38 HR0.out (rd l3 x11_2) p173 q173
                   cases e173
                   replace hx173_0 := (HB.out.cell (World.block_lt_of_cell? w _ hx173_0)).trans hx173_0
                   replace hx173_1 := (HB.out.cell (World.block_lt_of_cell? w _ hx173_1)).trans hx173_1
                   replace hx173_2 := (HB.out.cell (World.block_lt_of_cell? w _ hx173_2)).trans hx173_2
                   replace hx173_3 := (HB.out.cell (World.block_lt_of_cell? w _ hx173_3)).trans hx173_3
                   have HR173_1 := Aside0.mk hi173_1
                   have HC173_1 := Aside0.mk hl173_1
                   clear hi173_1 hl173_1
                   replace p173 := eq_true p173
                   replace q173 := eq_true q173
                   have p174 : 0 ≤ ((rd l3 x11_2) : Int) := of_decide_eq_true (by with_reducible assumption)
                   have q174 : (rd l3 x11_2) < (l0.length : Int) := of_decide_eq_true (by with_reducible assumption)
                   obtain ⟨ad174, A174_1, c174_1, e174, hx174_0, hx174_1, hx174_2, hx174_3, hl174_1, hi174_1⟩ := at_T38 HR0.out (rd l3 x11_2) p174 q174
                   obtain rfl : ad173 = ad174 := (by injection e174)
                   replace hx174_0 := (HB.out.cell (World.block_lt_of_cell? w _ hx174_0)).trans hx174_0
                   replace hx174_1 := (HB.out.cell (World.block_lt_of_cell? w _ hx174_1)).trans hx174_1
                   replace hx174_2 := (HB.out.cell (World.block_lt_of_cell? w _ hx174_2)).trans hx174_2
                   replace hx174_3 := (HB.out.cell (World.block_lt_of_cell? w _ hx174_3)).trans hx174_3
                   have HR174_1 := Aside0.mk hi174_1
                   have HC174_1 := Aside0.mk hl174_1
                   clear hi174_1 hl174_1
                   replace p174 := eq_true p174
                   replace q174 := eq_true q174
                   have ea_ := Option.some.inj (hx173_1.symm.trans hx174_1)
                   injection ea_ with ea_ en_ ec_
                   subst ea_
                   subst ec_
                   clear en_
                   have p175 : 0 ≤ (x14_3 : Int) := of_decide_eq_true (by with_reducible assumption)
                   have q175 : x14_3 < (((rd_T38 l0 (rd l3 x11_2)).f1).length : Int) := of_decide_eq_true (by with_reducible assumption)
                   obtain ⟨ad175, e175, hx175_0⟩ := Kd.at_int HR174_1.out x14_3 p175 q175
                   cases e175
                   replace hx175_0 := (HB.out.cell (World.block_lt_of_cell? w _ hx175_0)).trans hx175_0
                   replace p175 := eq_true p175
                   replace q175 := eq_true q175
                   have p176 : 0 ≤ ((rd ((rd_T38 l0 (rd l3 x11_2)).f1) x14_3) : Int) := of_decide_eq_true (by with_reducible assumption)
                   have q176 : (rd ((rd_T38 l0 (rd l3 x11_2)).f1) x14_3) < (x9_2.length : Int) := of_decide_eq_true (by with_reducible assumption)
                   obtain ⟨ad176, e176, hx176_0⟩ := Kd.at_int (Kd.R_reads' HO_9.out).2.2 (rd ((rd_T38 l0 (rd l3 x11_2)).f1) x14_3) p176 q176
                   cases e176
                   replace p176 := eq_true p176
                   replace q176 := eq_true q176
                   have p177 : 0 ≤ ((rd l3 x11_2) : Int) := of_decide_eq_true (by with_reducible assumption)
                   have q177 : (rd l3 x11_2) < (l0.length : Int) := of_decide_eq_true (by with_reducible assumption)
                   obtain ⟨ad177, A177_1, c177_1, e177, hx177_0, hx177_1, hx177_2, hx177_3, hl177_1, hi177_1⟩ := at_T38 HR0.out (rd l3 x11_2) p177 q177
                   obtain rfl : ad173 = ad177 := (by injection e177)
                   replace hx177_0 := (HB.out.cell (World.block_lt_of_cell? w _ hx177_0)).trans hx177_0
                   replace hx177_1 := (HB.out.cell (World.block_lt_of_cell? w _ hx177_1)).trans hx177_1
                   replace hx177_2 := (HB.out.cell (World.block_lt_of_cell? w _ hx177_2)).trans hx177_2
                   replace hx177_3 := (HB.out.cell (World.block_lt_of_cell? w _ hx177_3)).trans hx177_3
                   have HR177_1 := Aside0.mk hi177_1
                   have HC177_1 := Aside0.mk hl177_1
                   clear hi177_1 hl177_1
                   replace p177 := eq_true p177
                   replace q177 := eq_true q177
                   have ea_ := Option.some.inj (hx173_1.symm.trans hx177_1)
                   injection ea_ with ea_ en_ ec_
                   subst ea_
                   subst ec_
                   clear en_
                   have p178 : 0 ≤ (x14_3 : Int) := of_decide_eq_true (by with_reducible assumption)
                   have q178 : x14_3 < (((rd_T38 l0 (rd l3 x11_2)).f1).length : Int) := of_decide_eq_true (by with_reducible assumption)
                   obtain ⟨ad178, e178, hx178_0⟩ := Kd.at_int HR177_1.out x14_3 p178 q178
                   cases e178
                   replace hx178_0 := (HB.out.cell (World.block_lt_of_cell? w _ hx178_0)).trans hx178_0
                   replace p178 := eq_true p178
                   replace q178 := eq_true q178
                   have p179 : 0 ≤ ((rd ((rd_T38 l0 (rd l3 x11_2)).f1) x14_3) : Int) := of_decide_eq_true (by with_reducible assumption)
                   have q179 : (rd ((rd_T38 l0 (rd l3 x11_2)).f1) x14_3) < (l0.length : Int) := of_decide_eq_true (by with_reducible assumption)
                   obtain ⟨ad179, A179_1, c179_1, e179, hx179_0, hx179_1, hx179_2, hx179_3, hl179_1, hi179_1⟩ := at_T38 HR0.out (rd ((rd_T38 l0 (rd l3 x11_2)).f1) x14_3) p179 q179
                   obtain rfl : ad173 = ad179 := (by injection e179)
                   replace hx179_0 := (HB.out.cell (World.block_lt_of_cell? w _ hx179_0)).trans hx179_0
                   replace hx179_1 := (HB.out.cell (World.block_lt_of_cell? w _ hx179_1)).trans hx179_1
                   replace hx179_2 := (HB.out.cell (World.block_lt_of_cell? w _ hx179_2)).trans hx179_2
                   replace hx179_3 := (HB.out.cell (World.block_lt_of_cell? w _ hx179_3)).trans hx179_3
                   have HR179_1 := Aside0.mk hi179_1
                   have HC179_1 := Aside0.mk hl179_1
                   clear hi179_1 hl179_1
                   replace p179 := eq_true p179
                   replace q179 := eq_true q179
                   go_wp2
                   repeat (go_quiet (fail); try go_wp2)
                   go_roundg k3
                   case measure => have := HK1.out; have := HK2.out; have := HK3.out; omega
                   case rel => exact ⟨(ji25), (wrap64 (x14_3 + 1)), (by first | rfl | (simp; done) | (simp only [← hji25] <;> (first | rfl | simp)) | (simp [*]; done)), (by first | rfl | (simp; done) | (simp [*]; done)), H', ⟨by have := HK1.out; have := HK2.out; have := HK3.out; omega⟩, ⟨by (try simp only [hl9_2]); (with_reducible repeat (first | apply Kd.R_alloc | apply Kd.R_drewN | apply Kd.R_drew)); exact HO_9.out⟩, ⟨by repeat (with_reducible first | exact HB.out | apply below_alloc | apply pw_below_drewN | apply below_drew1)⟩⟩
                  ·rw [if_neg c24] at H
                   exact absurd H (by simp)
                 ·rw [if_neg c23] at H
                  exact absurd H (by simp)
                ·rw [if_neg c22] at H
                 exact absurd H (by simp)
               ·rw [if_neg c21] at H
                exact absurd H (by simp)
              ·rw [if_neg c20] at H
               have c20b0 : decide (x14_3 < (((rd_T38 l0 (rd l3 x11_2)).f1).length : Int)) = false := decide_eq_false c20
               clear c20
               have H' := Aside0.mk H
               clear H
               have p173 : 0 ≤ ((rd l3 x11_2) : Int) := of_decide_eq_true (by with_reducible assumption)
               have q173 : (rd l3 x11_2) < (l0.length : Int) := of_decide_eq_true (by with_reducible assumption)
               obtain ⟨ad173, A173_1, c173_1, e173, hx173_0, hx173_1, hx173_2, hx173_3, hl173_1, hi173_1⟩ := at_T38 HR0.out (rd l3 x11_2) p173 q173
               cases e173
               replace hx173_0 := (HB.out.cell (World.block_lt_of_cell? w _ hx173_0)).trans hx173_0
               replace hx173_1 := (HB.out.cell (World.block_lt_of_cell? w _ hx173_1)).trans hx173_1
               replace hx173_2 := (HB.out.cell (World.block_lt_of_cell? w _ hx173_2)).trans hx173_2
               replace hx173_3 := (HB.out.cell (World.block_lt_of_cell? w _ hx173_3)).trans hx173_3
               have HR173_1 := Aside0.mk hi173_1
               have HC173_1 := Aside0.mk hl173_1
               clear hi173_1 hl173_1
               replace p173 := eq_true p173
               replace q173 := eq_true q173
               go_wp2
               repeat (go_quiet (fail); try go_wp2)
               go_loopg [13] k3 (fun kq v13 w' => ∃ (x13_4 : Int), v13 = .int .i64 x13_4 ∧ Aside0 (spec_order.l3 kq l0 l1 a2 l3 x9_2 x11_2 (rd l3 x11_2) x13_4 = some r) ∧ Aside0 (kq ≤ k3) ∧ Aside0 (Kd.R (Kd.int .i64) 3 w' w.heap.size (fun _ => True) (.slice Ao15 x9_2.length co15) x9_2) ∧ Aside0 (Below w.heap.size w w'))
               case atStart => exact ⟨(x13_3), (by first | rfl | (simp; done) | (simp [*]; done)), H', ⟨Nat.le_refl _⟩, ⟨by (try simp only [hl9_2]); (with_reducible repeat (first | apply Kd.R_alloc | apply Kd.R_drewN | apply Kd.R_drew)); exact HO_9.out⟩, ⟨by repeat (with_reducible first | exact HB.out | apply below_alloc | apply pw_below_drewN | apply below_drew1)⟩⟩
               case round =>
                clear H'
                try clear c1
                try clear p1
                try clear q1
                try clear hx1
                try clear c2
                try clear p2
                try clear c3
                try clear c4
                try clear c5
                try clear c5b0
                try clear c5b1
                try clear c6
                try clear c6b0
                try clear c6b1
                try clear p6
                try clear c9
                try clear c9b0
                try clear c10
                try clear c10b0
                try clear p11
                try clear q11
                try clear hx11
                try clear hf11
                try clear c16
                try clear c16b0
                try clear c17
                try clear c17b0
                try clear p17
                try clear q17
                try clear hx17
                try clear c18
                try clear c18b0
                try clear c19
                try clear c19b0
                try clear c20
                try clear c20b0
                try clear c21
                try clear c21b0
                try clear c22
                try clear c22b0
                try clear c23
                try clear c23b0
                try clear c24
                try clear c24b0
                try clear hx11_0
                try clear hx172_0
                try clear hx173_0
                try clear hx173_1
                try clear hx173_2
                try clear hx173_3
                try clear hx174_0
                try clear hx174_1
                try clear hx174_2
                try clear hx174_3
                try clear hx175_0
                try clear hx176_0
                try clear hx177_0
                try clear hx177_1
                try clear hx177_2
                try clear hx177_3
                try clear hx178_0
                try clear hx179_0
                try clear hx179_1
                try clear hx179_2
                try clear hx179_3
                try clear p1
                try clear p11
                try clear p17
                try clear p172
                try clear p173
                try clear p174
                try clear p175
                try clear p176
                try clear p177
                try clear p178
                try clear p179
                try clear p2
                try clear p6
                try clear q1
                try clear q11
                try clear q17
                try clear q172
                try clear q173
                try clear q174
                try clear q175
                try clear q176
                try clear q177
                try clear q178
                try clear q179
                obtain ⟨x13_4, rfl, HA, HK4, HO_9, HB⟩ := hrel
                cases gk with
                | zero => exact absurd HA.out (by simp [spec_order.l3])
                | succ k4 =>
                 have H := HA.out
                 clear HA
                 simp only [spec_order.l3] at H
                 replace H := Option.bind_eq_some_iff.mp H
                 obtain ⟨t180, A260, H⟩ := H
                 replace H : (if t180 = true then (if 0 ≤ (rd l3 x11_2) then (if (rd l3 x11_2) < (x9_2.length : Int) then (spec_order.l1 k4 l0 l1 a2 l3 (x9_2.set ((rd l3 x11_2) : Int).toNat x13_4) (wrap64 (x11_2 + 1))) else (none)) else (none)) else (spec_order.l3 k4 l0 l1 a2 l3 x9_2 x11_2 (rd l3 x11_2) (wrap64 (x13_4 + 1)))) = some r := H
                 have A26 := Aside0.mk A260
                 clear A260
                 by_cases c27 : t180 = true
                 ·subst c27
                  have H1 : (if 0 ≤ (rd l3 x11_2) then (if (rd l3 x11_2) < (x9_2.length : Int) then (spec_order.l1 k4 l0 l1 a2 l3 (x9_2.set ((rd l3 x11_2) : Int).toNat x13_4) (wrap64 (x11_2 + 1))) else (none)) else (none)) = some r := by rw [if_pos rfl] at H; exact H
                  clear H
                  have H := H1
                  clear H1
                  by_cases c28 : 0 ≤ (rd l3 x11_2)
                  ·rw [if_pos c28] at H
                   have c28b0 : decide (0 ≤ (rd l3 x11_2)) = true := decide_eq_true c28
                   clear c28
                   by_cases c29 : (rd l3 x11_2) < (x9_2.length : Int)
                   ·rw [if_pos c29] at H
                    have c29b0 : decide ((rd l3 x11_2) < (x9_2.length : Int)) = true := decide_eq_true c29
                    clear c29
                    obtain ⟨y181, hy181⟩ : ∃ y_ : List Int, y_ = (x9_2.set ((rd l3 x11_2) : Int).toNat x13_4) := ⟨_, rfl⟩
                    replace H : (spec_order.l1 k4 l0 l1 a2 l3 y181 (wrap64 (x11_2 + 1))) = some r := by first | (rw [hy181]; with_reducible exact H) | (have H2_ := (Option.bind_some _ _).symm.trans H; rw [hy181]; with_reducible exact H2_) | (have H2_ := (Option.bind_some _ _).symm.trans H; with_reducible exact H2_) | with_reducible exact H | (rw [hy181]; exact H) | exact H
                    have Ny181 := Aside0.mk hy181
                    clear hy181
                    have H' := Aside0.mk H
                    clear H
                    iterate 7 (first | go_quiet (first | (go_at_call 87; (with_reducible refine (spec_fits.calls k4 _ _ l0 _ _ l1 a2 _ _ x9_2 (rd l3 x11_2) x13_4 true _ ?side1 ?side2 ?side3 ?side4 ?side5 ?side6 A26.out).mono ?_); (case side1 => repeat (first | exact (Kd.C_below HR0.out HB.out) | (with_reducible refine Kd.C_alloc ?_ _) | (with_reducible refine Kd.C_drewN ?_ _) | (with_reducible refine Kd.C_drew ?_))); (case side2 => exact HC0.out); (case side3 => repeat (first | exact (Kd.C_below HR1.out HB.out) | (with_reducible refine Kd.C_alloc ?_ _) | (with_reducible refine Kd.C_drewN ?_ _) | (with_reducible refine Kd.C_drew ?_))); (case side4 => exact HC1.out); (case side5 => repeat (first | exact (Kd.R_reads' HO_9.out).2.2 | (with_reducible refine Kd.C_alloc ?_ _) | (with_reducible refine Kd.C_drewN ?_ _) | (with_reducible refine Kd.C_drew ?_))); (case side6 => exact (Kd.R_reads' HO_9.out).2.1); rintro e w31 ⟨rfl, hb⟩; have n0_ := Aside0.mk (Kd.R_below (by (with_reducible repeat (first | apply Kd.R_alloc | apply Kd.R_drewN | apply Kd.R_drew)); exact HO_9.out) hb); have n1_ := Aside0.mk (below_step (by repeat (with_reducible first | exact HB.out | apply below_alloc | apply pw_below_drewN | apply below_drew1)) hb); clear HO_9; clear HB; have HO_9 := n0_; have HB := n1_; clear n0_ n1_; (try clear hb); (try clear hb2); (try clear hk); (try clear hi); have p30 : 0 ≤ ((rd l3 x11_2) : Int) := of_decide_eq_true (by with_reducible assumption); have q30 : ((rd l3 x11_2) : Int) < ((x9_2.length : Int) : Int) := of_decide_eq_true (by with_reducible assumption); obtain ⟨go30, co30, eo30, gb30, gl30, cl30, HG30⟩ := Kd.R_form HO_9.out (by omega); (first | cases eo30 | (injection eo30 with ea_ en_ ec_; (first | subst ea_ | (injection ea_ with ea_; subst ea_)); subst ec_; clear en_)); have GB30 := Aside0.mk gb30; have GG30 := Aside0.mk HG30; clear gb30 gl30 HG30; obtain ⟨hx30_0, hf30_0⟩ := Kd.R_celln 0 HO_9.out ((rd l3 x11_2) : Int) p30 q30; replace p30 := eq_true p30; replace q30 := eq_true q30; obtain ⟨hy32_, hz32_⟩ := Kd.R_celln 0 HO_9.out ((rd l3 x11_2) : Int) (of_decide_eq_true (by with_reducible assumption)) (of_decide_eq_true (by with_reducible assumption)); have HP32 := Kd.R_putg HO_9.out ((rd l3 x11_2) : Int) x13_4) | ((with_reducible refine gate_store (t := 3) (p := 86) rfl ?_); (try (rw [drewN_self w31]; generalize hq_ : World.drewN w31 _ = w31; have n0_ := Aside0.mk (Kd.R_at hq_ HO_9.out); have n1_ := Aside0.mk (below_at hq_ HB.out); clear hq_ HO_9 HB; have HO_9 := n0_; have HB := n1_; clear n0_ n1_; (try (obtain ⟨hy32_, hz32_⟩ := Kd.R_celln 0 HO_9.out ((rd l3 x11_2) : Int) (of_decide_eq_true (by with_reducible assumption)) (of_decide_eq_true (by with_reducible assumption)))); (try (have HP32 := Kd.R_putg HO_9.out ((rd l3 x11_2) : Int) x13_4)))); refine store_event (t := 3) (p := 86) (v := ?vo_w33) (w1 := (w31.setCell ⟨go30, ((rd l3 x11_2) : Int).toNat, none⟩ (.int .i64 x13_4))) ?hg ?ho ?hn ?hr ?_; (case ho => rfl); (case hg => rfl); (case hn => rfl); (case hr => first | (go_simp; done) | (go_simp; rfl)); intro w33 hw; have hg : w31.grownBy w33 (some go30) := (by rw [hw]; exact HP32.2); have hp_ : Kd.R (Kd.int .i64) 3 w33 w.heap.size (fun _ => True) (.slice (some ⟨go30, 0, none⟩) x9_2.length co15) y181 := (by rw [hw, Ny181.out]; exact HP32.1); clear HP32; have n0_ := Aside0.mk (hp_); have n1_ := Aside0.mk ((by rw [hw]; exact below_set (HB.out) GB30.out : Below w.heap.size w w33)); clear HO_9; clear HB; have HO_9 := n0_; have HB := n1_; clear n0_ n1_; clear hg hw hp_)) | go_wp2_with (first | (go_at_call 87; (with_reducible refine (spec_fits.calls k4 _ _ l0 _ _ l1 a2 _ _ x9_2 (rd l3 x11_2) x13_4 true _ ?side1 ?side2 ?side3 ?side4 ?side5 ?side6 A26.out).mono ?_); (case side1 => repeat (first | exact (Kd.C_below HR0.out HB.out) | (with_reducible refine Kd.C_alloc ?_ _) | (with_reducible refine Kd.C_drewN ?_ _) | (with_reducible refine Kd.C_drew ?_))); (case side2 => exact HC0.out); (case side3 => repeat (first | exact (Kd.C_below HR1.out HB.out) | (with_reducible refine Kd.C_alloc ?_ _) | (with_reducible refine Kd.C_drewN ?_ _) | (with_reducible refine Kd.C_drew ?_))); (case side4 => exact HC1.out); (case side5 => repeat (first | exact (Kd.R_reads' HO_9.out).2.2 | (with_reducible refine Kd.C_alloc ?_ _) | (with_reducible refine Kd.C_drewN ?_ _) | (with_reducible refine Kd.C_drew ?_))); (case side6 => exact (Kd.R_reads' HO_9.out).2.1); rintro e w31 ⟨rfl, hb⟩; have n0_ := Aside0.mk (Kd.R_below (by (with_reducible repeat (first | apply Kd.R_alloc | apply Kd.R_drewN | apply Kd.R_drew)); exact HO_9.out) hb); have n1_ := Aside0.mk (below_step (by repeat (with_reducible first | exact HB.out | apply below_alloc | apply pw_below_drewN | apply below_drew1)) hb); clear HO_9; clear HB; have HO_9 := n0_; have HB := n1_; clear n0_ n1_; (try clear hb); (try clear hb2); (try clear hk); (try clear hi); have p30 : 0 ≤ ((rd l3 x11_2) : Int) := of_decide_eq_true (by with_reducible assumption); have q30 : ((rd l3 x11_2) : Int) < ((x9_2.length : Int) : Int) := of_decide_eq_true (by with_reducible assumption); obtain ⟨go30, co30, eo30, gb30, gl30, cl30, HG30⟩ := Kd.R_form HO_9.out (by omega); (first | cases eo30 | (injection eo30 with ea_ en_ ec_; (first | subst ea_ | (injection ea_ with ea_; subst ea_)); subst ec_; clear en_)); have GB30 := Aside0.mk gb30; have GG30 := Aside0.mk HG30; clear gb30 gl30 HG30; obtain ⟨hx30_0, hf30_0⟩ := Kd.R_celln 0 HO_9.out ((rd l3 x11_2) : Int) p30 q30; replace p30 := eq_true p30; replace q30 := eq_true q30; obtain ⟨hy32_, hz32_⟩ := Kd.R_celln 0 HO_9.out ((rd l3 x11_2) : Int) (of_decide_eq_true (by with_reducible assumption)) (of_decide_eq_true (by with_reducible assumption)); have HP32 := Kd.R_putg HO_9.out ((rd l3 x11_2) : Int) x13_4) | ((with_reducible refine gate_store (t := 3) (p := 86) rfl ?_); (try (rw [drewN_self w31]; generalize hq_ : World.drewN w31 _ = w31; have n0_ := Aside0.mk (Kd.R_at hq_ HO_9.out); have n1_ := Aside0.mk (below_at hq_ HB.out); clear hq_ HO_9 HB; have HO_9 := n0_; have HB := n1_; clear n0_ n1_; (try (obtain ⟨hy32_, hz32_⟩ := Kd.R_celln 0 HO_9.out ((rd l3 x11_2) : Int) (of_decide_eq_true (by with_reducible assumption)) (of_decide_eq_true (by with_reducible assumption)))); (try (have HP32 := Kd.R_putg HO_9.out ((rd l3 x11_2) : Int) x13_4)))); refine store_event (t := 3) (p := 86) (v := ?vo_w33) (w1 := (w31.setCell ⟨go30, ((rd l3 x11_2) : Int).toNat, none⟩ (.int .i64 x13_4))) ?hg ?ho ?hn ?hr ?_; (case ho => rfl); (case hg => rfl); (case hn => rfl); (case hr => first | (go_simp; done) | (go_simp; rfl)); intro w33 hw; have hg : w31.grownBy w33 (some go30) := (by rw [hw]; exact HP32.2); have hp_ : Kd.R (Kd.int .i64) 3 w33 w.heap.size (fun _ => True) (.slice (some ⟨go30, 0, none⟩) x9_2.length co15) y181 := (by rw [hw, Ny181.out]; exact HP32.1); clear HP32; have n0_ := Aside0.mk (hp_); have n1_ := Aside0.mk ((by rw [hw]; exact below_set (HB.out) GB30.out : Below w.heap.size w w33)); clear HO_9; clear HB; have HO_9 := n0_; have HB := n1_; clear n0_ n1_; clear hg hw hp_)) | skip)
                    (try simp only [← hl9_2])
                    go_roundg k4
                    case measure => have := HK1.out; have := HK2.out; have := HK3.out; have := HK4.out; omega
                    case rel => exact ⟨(y181), (wrap64 (x11_2 + 1)), (by first | rfl | (simp; done) | (simp [*]; done)), H', ⟨by have := HK1.out; have := HK2.out; have := HK3.out; have := HK4.out; omega⟩, ⟨by (try simp only [hl9_2]); (with_reducible repeat (first | apply Kd.R_alloc | apply Kd.R_drewN | apply Kd.R_drew)); exact HO_9.out⟩, ⟨by repeat (with_reducible first | exact HB.out | apply below_alloc | apply pw_below_drewN | apply below_drew1)⟩⟩
                   ·rw [if_neg c29] at H
                    exact absurd H (by simp)
                  ·rw [if_neg c28] at H
                   exact absurd H (by simp)
                 ·replace c27 := Bool.eq_false_iff.mpr c27
                  subst c27
                  have H1 : (spec_order.l3 k4 l0 l1 a2 l3 x9_2 x11_2 (rd l3 x11_2) (wrap64 (x13_4 + 1))) = some r := by rw [if_neg (show ¬ (false = true) by decide)] at H; exact H
                  clear H
                  have H := H1
                  clear H1
                  have H' := Aside0.mk H
                  clear H
                  iterate 7 (first | go_quiet (first | (go_at_call 87; (with_reducible refine (spec_fits.calls k4 _ _ l0 _ _ l1 a2 _ _ x9_2 (rd l3 x11_2) x13_4 false _ ?side1 ?side2 ?side3 ?side4 ?side5 ?side6 A26.out).mono ?_); (case side1 => repeat (first | exact (Kd.C_below HR0.out HB.out) | (with_reducible refine Kd.C_alloc ?_ _) | (with_reducible refine Kd.C_drewN ?_ _) | (with_reducible refine Kd.C_drew ?_))); (case side2 => exact HC0.out); (case side3 => repeat (first | exact (Kd.C_below HR1.out HB.out) | (with_reducible refine Kd.C_alloc ?_ _) | (with_reducible refine Kd.C_drewN ?_ _) | (with_reducible refine Kd.C_drew ?_))); (case side4 => exact HC1.out); (case side5 => repeat (first | exact (Kd.R_reads' HO_9.out).2.2 | (with_reducible refine Kd.C_alloc ?_ _) | (with_reducible refine Kd.C_drewN ?_ _) | (with_reducible refine Kd.C_drew ?_))); (case side6 => exact (Kd.R_reads' HO_9.out).2.1); rintro e w34 ⟨rfl, hb⟩; have n0_ := Aside0.mk (Kd.R_below (by (with_reducible repeat (first | apply Kd.R_alloc | apply Kd.R_drewN | apply Kd.R_drew)); exact HO_9.out) hb); have n1_ := Aside0.mk (below_step (by repeat (with_reducible first | exact HB.out | apply below_alloc | apply pw_below_drewN | apply below_drew1)) hb); clear HO_9; clear HB; have HO_9 := n0_; have HB := n1_; clear n0_ n1_; (try clear hb); (try clear hb2); (try clear hk); (try clear hi))) | go_wp2_with (first | (go_at_call 87; (with_reducible refine (spec_fits.calls k4 _ _ l0 _ _ l1 a2 _ _ x9_2 (rd l3 x11_2) x13_4 false _ ?side1 ?side2 ?side3 ?side4 ?side5 ?side6 A26.out).mono ?_); (case side1 => repeat (first | exact (Kd.C_below HR0.out HB.out) | (with_reducible refine Kd.C_alloc ?_ _) | (with_reducible refine Kd.C_drewN ?_ _) | (with_reducible refine Kd.C_drew ?_))); (case side2 => exact HC0.out); (case side3 => repeat (first | exact (Kd.C_below HR1.out HB.out) | (with_reducible refine Kd.C_alloc ?_ _) | (with_reducible refine Kd.C_drewN ?_ _) | (with_reducible refine Kd.C_drew ?_))); (case side4 => exact HC1.out); (case side5 => repeat (first | exact (Kd.R_reads' HO_9.out).2.2 | (with_reducible refine Kd.C_alloc ?_ _) | (with_reducible refine Kd.C_drewN ?_ _) | (with_reducible refine Kd.C_drew ?_))); (case side6 => exact (Kd.R_reads' HO_9.out).2.1); rintro e w34 ⟨rfl, hb⟩; have n0_ := Aside0.mk (Kd.R_below (by (with_reducible repeat (first | apply Kd.R_alloc | apply Kd.R_drewN | apply Kd.R_drew)); exact HO_9.out) hb); have n1_ := Aside0.mk (below_step (by repeat (with_reducible first | exact HB.out | apply below_alloc | apply pw_below_drewN | apply below_drew1)) hb); clear HO_9; clear HB; have HO_9 := n0_; have HB := n1_; clear n0_ n1_; (try clear hb); (try clear hb2); (try clear hk); (try clear hi))) | skip)
                  go_roundg k4
                  case measure => have := HK1.out; have := HK2.out; have := HK3.out; have := HK4.out; omega
                  case rel => exact ⟨(wrap64 (x13_4 + 1)), (by first | rfl | (simp; done) | (simp [*]; done)), H', ⟨by have := HK1.out; have := HK2.out; have := HK3.out; have := HK4.out; omega⟩, ⟨by (try simp only [hl9_2]); (with_reducible repeat (first | apply Kd.R_alloc | apply Kd.R_drewN | apply Kd.R_drew)); exact HO_9.out⟩, ⟨by repeat (with_reducible first | exact HB.out | apply below_alloc | apply pw_below_drewN | apply below_drew1)⟩⟩
             ·rw [if_neg c19] at H
              exact absurd H (by simp)
            ·rw [if_neg c18] at H
             exact absurd H (by simp)
         ·rw [if_neg c17] at H
          exact absurd H (by simp)
        ·rw [if_neg c16] at H
         have c16b0 : decide (x11_2 < (l3.length : Int)) = false := decide_eq_false c16
         clear c16
         obtain rfl := Option.some.inj H
         go_wp2
         repeat (go_quiet (fail); try go_wp2)
         go_ret
         exact ⟨_, by first | rfl | (simp [errW_none, errW_some] <;> rfl) | (simp [*, errW_none, errW_some] <;> rfl), by (with_reducible repeat (first | apply Kd.R_alloc | apply Kd.R_drewN | apply Kd.R_drew)); exact HO_9.out, by repeat (with_reducible first | exact HB.out | apply below_alloc | apply pw_below_drewN | apply below_drew1)⟩
  ·rw [if_neg c6] at H
   exact absurd H (by simp)
 ·rw [if_neg c5] at H
  exact absurd H (by simp)
end Go.Proofs.YtdmeiiedbhfniaaDoor.P
end
section
namespace Go.Proofs.YtdmeiiedbhfniaaDoor.P
open Go.RowKit YtdmeiiedbhfniaaDoorW.PrintWords YtdmeiiedbhfniaaDoorW.PrintLast YtdmeiiedbhfniaaDoorW.PrintMore
def spec_OrderStarts.f (k : Nat) (l0 : List (S38)) (l1 : List Int) (a2 : Int) (l3 : List Int) : Option (List Int) := (spec_validSearch.f k l0 l1 a2).bind fun t182 => (if t182 = true then ((spec_isOrder.f k l0 l3).bind fun t183 => (if t183 = true then ((spec_order.f k l0 l1 a2 l3).bind fun t184 => (some t184)) else (some ([] : List Int)))) else (some ([] : List Int)))
set_option maxHeartbeats 8000000 in
set_option maxRecDepth 100000 in
theorem spec_OrderStarts.calls (k : Nat) (A0 : Option Addr) (c0 : Nat) (l0 : List (S38)) (A1 : Option Addr) (c1 : Nat) (l1 : List Int) (a2 : Int) (A3 : Option Addr) (c3 : Nat) (l3 : List Int) (r : List Int) (w : World) (hr0 : Kd.C k38 w A0 l0.length l0) (hc0 : l0.length ≤ c0) (hr1 : Kd.C (Kd.int .i64) w A1 l1.length l1) (hc1 : l1.length ≤ c1) (hr3 : Kd.C (Kd.int .i64) w A3 l3.length l3) (hc3 : l3.length ≤ c3) (h : spec_OrderStarts.f k l0 l1 a2 l3 = some r) :
  Calls Tryd.prog 14 #[.slice A0 l0.length c0, .slice A1 l1.length c1, .int .i64 a2, .slice A3 l3.length c3] w fun e w' => ∃ v0_ : Value, e = .returned (v0_) ∧ Kd.R (Kd.int .i64) 3 w' w.heap.size (fun _ => True) v0_ r ∧ Below w.heap.size w w' := by
 have HR0 := Aside0.mk hr0
 have HC0 := Aside0.mk hc0
 clear hr0 hc0
 have HR1 := Aside0.mk hr1
 have HC1 := Aside0.mk hc1
 clear hr1 hc1
 have HR3 := Aside0.mk hr3
 have HC3 := Aside0.mk hc3
 clear hr3 hc3
 have HB := Aside0.mk (Below.refl w.heap.size w)
 have H : ((spec_validSearch.f k l0 l1 a2).bind fun t182 => (if t182 = true then ((spec_isOrder.f k l0 l3).bind fun t183 => (if t183 = true then ((spec_order.f k l0 l1 a2 l3).bind fun t184 => (some t184)) else (some ([] : List Int)))) else (some ([] : List Int)))) = some r := h
 clear h
 replace H := Option.bind_eq_some_iff.mp H
 obtain ⟨t182, A50, H⟩ := H
 replace H : (if t182 = true then ((spec_isOrder.f k l0 l3).bind fun t183 => (if t183 = true then ((spec_order.f k l0 l1 a2 l3).bind fun t184 => (some t184)) else (some ([] : List Int)))) else (some ([] : List Int))) = some r := H
 have A5 := Aside0.mk A50
 clear A50
 by_cases c6 : t182 = true
 ·subst c6
  have H1 : ((spec_isOrder.f k l0 l3).bind fun t183 => (if t183 = true then ((spec_order.f k l0 l1 a2 l3).bind fun t184 => (some t184)) else (some ([] : List Int)))) = some r := by rw [if_pos rfl] at H; exact H
  clear H
  have H := H1
  clear H1
  replace H := Option.bind_eq_some_iff.mp H
  obtain ⟨t183, A70, H⟩ := H
  replace H : (if t183 = true then ((spec_order.f k l0 l1 a2 l3).bind fun t184 => (some t184)) else (some ([] : List Int))) = some r := H
  have A7 := Aside0.mk A70
  clear A70
  by_cases c8 : t183 = true
  ·subst c8
   have H1 : ((spec_order.f k l0 l1 a2 l3).bind fun t184 => (some t184)) = some r := by rw [if_pos rfl] at H; exact H
   clear H
   have H := H1
   clear H1
   replace H := Option.bind_eq_some_iff.mp H
   obtain ⟨t184, A90, H⟩ := H
   replace H : (some t184) = some r := H
   have A9 := Aside0.mk A90
   clear A90
   obtain rfl := Option.some.inj H
   go_enter Tryd.func14, Tryd.ntmps14
   go_wp2_with (first | ((with_reducible refine gate_callee (f := 43) rfl ?_); refine goesL_ (some 12) rfl rfl Tryd.func43 (by kernel_rfl) rfl #[.slice A0 l0.length c0, .slice A1 l1.length c1, .int .i64 a2] rfl (by (try simp only [List.map_toArray, List.map_cons, List.map_nil]); first | done | rfl | (simp only [List.length_drop, List.length_take]; rfl)) ?_; (with_reducible refine (spec_validSearch.calls k _ _ l0 _ _ l1 a2 true _ ?side1 ?side2 ?side3 ?side4 A5.out).mono ?_); (case side1 => repeat (first | exact HR0.out | (with_reducible refine Kd.C_alloc ?_ _) | (with_reducible refine Kd.C_drewN ?_ _) | (with_reducible refine Kd.C_drew ?_))); (case side2 => exact HC0.out); (case side3 => repeat (first | exact HR1.out | (with_reducible refine Kd.C_alloc ?_ _) | (with_reducible refine Kd.C_drewN ?_ _) | (with_reducible refine Kd.C_drew ?_))); (case side4 => exact HC1.out); rintro e w10 ⟨rfl, hb⟩; refine ⟨_, rfl, ?_⟩; have n0_ := Aside0.mk (below_step (by repeat (with_reducible first | exact HB.out | apply below_alloc | apply pw_below_drewN | apply below_drew1)) hb); clear HB; have HB := n0_; clear n0_; (try clear hb); (try clear hb2); (try clear hk); (try clear hi)) | (go_at_call 44; (with_reducible refine (spec_isOrder.calls k _ _ l0 _ _ l3 true _ ?side1 ?side2 ?side3 ?side4 A7.out).mono ?_); (case side1 => repeat (first | exact (Kd.C_below HR0.out HB.out) | (with_reducible refine Kd.C_alloc ?_ _) | (with_reducible refine Kd.C_drewN ?_ _) | (with_reducible refine Kd.C_drew ?_))); (case side2 => exact HC0.out); (case side3 => repeat (first | exact (Kd.C_below HR3.out HB.out) | (with_reducible refine Kd.C_alloc ?_ _) | (with_reducible refine Kd.C_drewN ?_ _) | (with_reducible refine Kd.C_drew ?_))); (case side4 => exact HC3.out); rintro e w11 ⟨rfl, hb⟩; have n0_ := Aside0.mk (below_step (by repeat (with_reducible first | exact HB.out | apply below_alloc | apply pw_below_drewN | apply below_drew1)) hb); clear HB; have HB := n0_; clear n0_; (try clear hb); (try clear hb2); (try clear hk); (try clear hi)) | ((with_reducible refine gate_callee (f := 45) rfl ?_); refine goesL_ (some 24) rfl rfl Tryd.func45 (by kernel_rfl) rfl #[.slice A0 l0.length c0, .slice A1 l1.length c1, .int .i64 a2, .slice A3 l3.length c3] rfl (by (try simp only [List.map_toArray, List.map_cons, List.map_nil]); first | done | rfl | (simp only [List.length_drop, List.length_take]; rfl)) ?_; (with_reducible refine (spec_order.calls k _ _ l0 _ _ l1 a2 _ _ l3 t184 _ ?side1 ?side2 ?side3 ?side4 ?side5 ?side6 A9.out).mono ?_); (case side1 => repeat (first | exact (Kd.C_below HR0.out HB.out) | (with_reducible refine Kd.C_alloc ?_ _) | (with_reducible refine Kd.C_drewN ?_ _) | (with_reducible refine Kd.C_drew ?_))); (case side2 => exact HC0.out); (case side3 => repeat (first | exact (Kd.C_below HR1.out HB.out) | (with_reducible refine Kd.C_alloc ?_ _) | (with_reducible refine Kd.C_drewN ?_ _) | (with_reducible refine Kd.C_drew ?_))); (case side4 => exact HC1.out); (case side5 => repeat (first | exact (Kd.C_below HR3.out HB.out) | (with_reducible refine Kd.C_alloc ?_ _) | (with_reducible refine Kd.C_drewN ?_ _) | (with_reducible refine Kd.C_drew ?_))); (case side6 => exact HC3.out); rintro e w12 ⟨v185, rfl, ho0, hb⟩; refine ⟨_, rfl, ?_⟩; have n0_ := Aside0.mk (Kd.R_lower ho0 (below_size (by repeat (with_reducible first | exact HB.out | apply below_alloc | apply pw_below_drewN | apply below_drew1)))); have n1_ := Aside0.mk (below_step (by repeat (with_reducible first | exact HB.out | apply below_alloc | apply pw_below_drewN | apply below_drew1)) hb); clear HB; have HO186 := n0_; have HB := n1_; clear n0_ n1_; (try clear hb); (try clear hb2); (try clear hk); (try clear hi); (try clear ho0)))
   go_ret
   exact ⟨_, by first | rfl | (simp [errW_none, errW_some] <;> rfl) | (simp [*, errW_none, errW_some] <;> rfl), by (with_reducible repeat (first | apply Kd.R_alloc | apply Kd.R_drewN | apply Kd.R_drew)); exact HO186.out, by repeat (with_reducible first | exact HB.out | apply below_alloc | apply pw_below_drewN | apply below_drew1)⟩
  ·replace c8 := Bool.eq_false_iff.mpr c8
   subst c8
   have H1 : (some ([] : List Int)) = some r := by rw [if_neg (show ¬ (false = true) by decide)] at H; exact H
   clear H
   have H := H1
   clear H1
   obtain rfl := Option.some.inj H
   go_enter Tryd.func14, Tryd.ntmps14
   go_wp2_with (first | ((with_reducible refine gate_callee (f := 43) rfl ?_); refine goesL_ (some 12) rfl rfl Tryd.func43 (by kernel_rfl) rfl #[.slice A0 l0.length c0, .slice A1 l1.length c1, .int .i64 a2] rfl (by (try simp only [List.map_toArray, List.map_cons, List.map_nil]); first | done | rfl | (simp only [List.length_drop, List.length_take]; rfl)) ?_; (with_reducible refine (spec_validSearch.calls k _ _ l0 _ _ l1 a2 true _ ?side1 ?side2 ?side3 ?side4 A5.out).mono ?_); (case side1 => repeat (first | exact HR0.out | (with_reducible refine Kd.C_alloc ?_ _) | (with_reducible refine Kd.C_drewN ?_ _) | (with_reducible refine Kd.C_drew ?_))); (case side2 => exact HC0.out); (case side3 => repeat (first | exact HR1.out | (with_reducible refine Kd.C_alloc ?_ _) | (with_reducible refine Kd.C_drewN ?_ _) | (with_reducible refine Kd.C_drew ?_))); (case side4 => exact HC1.out); rintro e w13 ⟨rfl, hb⟩; refine ⟨_, rfl, ?_⟩; have n0_ := Aside0.mk (below_step (by repeat (with_reducible first | exact HB.out | apply below_alloc | apply pw_below_drewN | apply below_drew1)) hb); clear HB; have HB := n0_; clear n0_; (try clear hb); (try clear hb2); (try clear hk); (try clear hi)) | (go_at_call 44; (with_reducible refine (spec_isOrder.calls k _ _ l0 _ _ l3 false _ ?side1 ?side2 ?side3 ?side4 A7.out).mono ?_); (case side1 => repeat (first | exact (Kd.C_below HR0.out HB.out) | (with_reducible refine Kd.C_alloc ?_ _) | (with_reducible refine Kd.C_drewN ?_ _) | (with_reducible refine Kd.C_drew ?_))); (case side2 => exact HC0.out); (case side3 => repeat (first | exact (Kd.C_below HR3.out HB.out) | (with_reducible refine Kd.C_alloc ?_ _) | (with_reducible refine Kd.C_drewN ?_ _) | (with_reducible refine Kd.C_drew ?_))); (case side4 => exact HC3.out); rintro e w14 ⟨rfl, hb⟩; have n0_ := Aside0.mk (below_step (by repeat (with_reducible first | exact HB.out | apply below_alloc | apply pw_below_drewN | apply below_drew1)) hb); clear HB; have HB := n0_; clear n0_; (try clear hb); (try clear hb2); (try clear hk); (try clear hi)))
   go_ret
   exact ⟨_, by first | rfl | (simp [errW_none, errW_some] <;> rfl) | (simp [*, errW_none, errW_some] <;> rfl), by first | exact Kd.R_nil _ _ _ _ _ | exact Kd.N_nil _ _ _ _ _ | exact Kd.V_nil _ _ _ _ _ | exact Kd.Q_nil _ _ _ _ _ | exact Kd.S_nil _ _ _ _ _, by repeat (with_reducible first | exact HB.out | apply below_alloc | apply pw_below_drewN | apply below_drew1)⟩
 ·replace c6 := Bool.eq_false_iff.mpr c6
  subst c6
  have H1 : (some ([] : List Int)) = some r := by rw [if_neg (show ¬ (false = true) by decide)] at H; exact H
  clear H
  have H := H1
  clear H1
  obtain rfl := Option.some.inj H
  go_enter Tryd.func14, Tryd.ntmps14
  go_wp2_with (first | ((with_reducible refine gate_callee (f := 43) rfl ?_); refine goesL_ (some 12) rfl rfl Tryd.func43 (by kernel_rfl) rfl #[.slice A0 l0.length c0, .slice A1 l1.length c1, .int .i64 a2] rfl (by (try simp only [List.map_toArray, List.map_cons, List.map_nil]); first | done | rfl | (simp only [List.length_drop, List.length_take]; rfl)) ?_; (with_reducible refine (spec_validSearch.calls k _ _ l0 _ _ l1 a2 false _ ?side1 ?side2 ?side3 ?side4 A5.out).mono ?_); (case side1 => repeat (first | exact HR0.out | (with_reducible refine Kd.C_alloc ?_ _) | (with_reducible refine Kd.C_drewN ?_ _) | (with_reducible refine Kd.C_drew ?_))); (case side2 => exact HC0.out); (case side3 => repeat (first | exact HR1.out | (with_reducible refine Kd.C_alloc ?_ _) | (with_reducible refine Kd.C_drewN ?_ _) | (with_reducible refine Kd.C_drew ?_))); (case side4 => exact HC1.out); rintro e w15 ⟨rfl, hb⟩; refine ⟨_, rfl, ?_⟩; have n0_ := Aside0.mk (below_step (by repeat (with_reducible first | exact HB.out | apply below_alloc | apply pw_below_drewN | apply below_drew1)) hb); clear HB; have HB := n0_; clear n0_; (try clear hb); (try clear hb2); (try clear hk); (try clear hi)))
  go_ret
  exact ⟨_, by first | rfl | (simp [errW_none, errW_some] <;> rfl) | (simp [*, errW_none, errW_some] <;> rfl), by first | exact Kd.R_nil _ _ _ _ _ | exact Kd.N_nil _ _ _ _ _ | exact Kd.V_nil _ _ _ _ _ | exact Kd.Q_nil _ _ _ _ _ | exact Kd.S_nil _ _ _ _ _, by repeat (with_reducible first | exact HB.out | apply below_alloc | apply pw_below_drewN | apply below_drew1)⟩
end Go.Proofs.YtdmeiiedbhfniaaDoor.P
end
section
namespace Go.Proofs.YtdmeiiedbhfniaaDoor
open Go.RowKit Go.Shelf YtdmeiiedbhfniaaDoorW.PrintWords YtdmeiiedbhfniaaDoorW.PrintLast YtdmeiiedbhfniaaDoorW.PrintMore
attribute [local go_sem] Oper.semAt_some
def TabOK (w : World) : Prop := ∀ j, j < 32 → w.cell? ⟨0, j, none⟩ = some (.int .u8 (Lib.deBruijn32tab.getD j 0))
theorem TabOK.lt {w : World} (h : TabOK w) : 0 < w.heap.size := by
 have := h 0 (by omega)
 apply Nat.lt_of_not_le
 intro hle
 simp [World.cell?, Array.getElem?_eq_none hle] at this
theorem TabOK.below {w W : World} (h : TabOK w) (hb : Below w.heap.size w W) : TabOK W := fun j hj => (hb.cell (p := ⟨0, j, none⟩) h.lt).trans (h j hj)
theorem wrap_u16' (n : Int) : IntKind.u16.wrap n = n % 65536 := by simp [IntKind.wrap, IntKind.signed, IntKind.bits]
theorem bits_u16_nat (a b : Nat) (ha : a < 65536) (hb : b < 65536) : bits .and .u16 (a : Int) (b : Int) = ((a &&& b : Nat) : Int) := by
 have hx : a &&& b < 2 ^ 16 := Nat.and_lt_two_pow _ (by omega)
 have h1 : (BitVec.ofInt 16 (a : Int)).toNat = a := by
  rw [BitVec.ofInt_natCast, BitVec.toNat_ofNat]; exact Nat.mod_eq_of_lt (by omega)
 have h2 : (BitVec.ofInt 16 (b : Int)).toNat = b := by
  rw [BitVec.ofInt_natCast, BitVec.toNat_ofNat]; exact Nat.mod_eq_of_lt (by omega)
 show IntKind.u16.wrap ((BitVec.ofInt 16 (a : Int) &&& BitVec.ofInt 16 (b : Int)).toNat : Int) = _
 rw [BitVec.toNat_and, h1, h2, wrap_u16']
 omega
set_option maxHeartbeats 1000000 in
theorem tz16_core (x k idx : Nat) (w : World) (hx0 : ((x : Int) == 0) = false)
  (key : bits BinOp.and IntKind.u16 (x : Int) (IntKind.u16.wrap (-(x : Int))) % 4294967296 * 125613361 % 4294967296 / 134217728 = (idx : Int))
  (hi : idx < 32) (hk : k < 32) (hcell : w.cell? ⟨0, idx, none⟩ = some (.int .u8 k)) :
  Calls Tryd.prog 114 #[.int .u16 x] w fun e w' => e = .returned (.int .i64 k) ∧ w' = w := by
 go_enter Tryd.func114, Tryd.ntmps114
 go_wp2_with (simp only [key])
 go_ret
 exact ⟨rfl, rfl⟩
theorem tz16_key (x a : Nat) (hx : x < 65536) (hx0 : x ≠ 0) (hlow : x &&& (65536 - x) = a) :
  bits BinOp.and IntKind.u16 (x : Int) (IntKind.u16.wrap (-(x : Int))) % 4294967296 * 125613361 % 4294967296 / 134217728 = ((a * 125613361 % 4294967296 / 134217728 : Nat) : Int) := by
 have e1 : IntKind.u16.wrap (-(x : Int)) = ((65536 - x : Nat) : Int) := by rw [wrap_u16']; omega
 have ha : a < 65536 := by rw [← hlow]; exact Nat.lt_of_le_of_lt Nat.and_le_left hx
 rw [e1, bits_u16_nat x _ hx (by omega), hlow]
 omega
theorem tz16 (x : Nat) (hx : x < 65536) (hx0 : x ≠ 0) (w : World) (hT : TabOK w) :
  Calls Tryd.prog 114 #[.int .u16 x] w fun e w' => e = .returned (.int .i64 (Lib.ctz 16 x : Nat)) ∧ w' = w := by
 obtain ⟨hlow, hk⟩ := Lib.lowest_bit 16 x hx0 hx
 obtain ⟨hi, htab⟩ := Lib.deBruijn32_at _ (Nat.lt_trans hk (by decide))
 have hcell := hT _ hi
 rw [htab] at hcell
 exact tz16_core x _ _ w (by simp; omega) (tz16_key x _ hx hx0 hlow) hi (Nat.lt_trans hk (by decide)) hcell
end Go.Proofs.YtdmeiiedbhfniaaDoor
end
section
namespace Go.Proofs.YtdmeiiedbhfniaaDoor
open Go.RowKit
section
variable {P : Program} {ops : Array Oper} {md : Region.Mode} {l n : Nat}
def NoDefer (ops : Array Oper) : Prop := ∀ o ∈ ops.toList, ∀ c, o.op ≠ .defer c
def noDeferB (ops : Array Oper) : Bool := ops.toList.all fun o => match o.op with | .defer _ => false | _ => true
theorem NoDefer.of (h : noDeferB ops = true) : NoDefer ops := by
 intro o ho c hc
 simp only [noDeferB, List.all_eq_true] at h
 have := h o ho
 rw [hc] at this
 cases this
theorem wpIn_of_oper {o : Oper} {a : Act} {w : World} {K : Act → World → Prop} {Q : Exit → Act → World → Prop} (hd : ∀ c, o.op ≠ .defer c) (h : o.wp P a w K Q) :
  o.wpIn (Fence.wide.inRound l) n P a w K Q := by
 refine ⟨fun f _ => trivial, ?_⟩
 simp only [Fence.inRound_round]
 rw [Oper.semAt_some l a.eval o hd]
 unfold Oper.wp at h
 generalize (execOp a.eval o).run P w = r at *
 cases r with
 | ok x w' =>
  cases x <;> simp only [Oper.upon, Oper.uponIn] at h ⊢ <;> first | exact h | exact h.elim | skip
  ·exact ⟨fun hh => by simp [Fence.wide] at hh, CallsIn.inRound l ((callsIn_wide (n := n - 1)).2 h)⟩
  ·refine ⟨fun hh => by simp [Fence.wide] at hh, fun c cs _ => ?_⟩
   obtain ⟨v, w'', hr, hs⟩ := h c cs
   exact ⟨v, w'', hr, stepsIn_wide.2 hs⟩
 | halt x w' => cases x <;> simp only [Oper.upon, Oper.uponIn] at h ⊢ <;> first | exact h | exact h.elim
theorem wpOpIn_of {i : Nat} {K : Act → World → Prop} {Q : Exit → Act → World → Prop} {a : Act} {w : World} (hd : NoDefer ops) (hQ : ¬ LetsOut Q) (h : wpOp P ops Q i K a w) :
  wpOpIn (Fence.wide.inRound l) n P ops Q i K a w := by
 unfold wpOp at h
 unfold wpOpIn
 cases ho : ops[i]? with
 | none => simpa [ho] using h
 | some o =>
  simp only [ho] at h ⊢
  have hm : o ∈ ops.toList := by
   obtain ⟨hlt, he⟩ := Array.getElem?_eq_some_iff.1 ho
   rw [← he]; simp
  split
  ·rename_i hw
   simp only [hw, if_true] at h
   rcases h with h | ⟨_, h⟩
   ·exact wpIn_of_oper (hd o hm) h
   ·exact (hQ h).elim
  ·rename_i hw
   simp only [hw] at h
   exact ⟨fun f _ => trivial, h⟩
theorem wpAnyIn_of {Q : Exit → Act → World → Prop} (hd : NoDefer ops) (hQ : ¬ LetsOut Q) : ∀ (fuel : Nat) (listed : Array Bool) (a : Act) (w : World), wpAny P md ops Q fuel listed a w → wpAnyIn (Fence.wide.inRound l) n P md ops Q fuel listed a w
 | 0, _, _, _, h => h
 | fuel + 1, listed, a, w, h => ⟨h.1, fun i hi => wpOpIn_mono (fun a w => wpAnyIn_of hd hQ fuel _ a w) (wpOpIn_of hd hQ (h.2 i hi))⟩
theorem wpIn_region_quiet_lit {id : Nat} {Q : Exit → Act → World → Prop} {a : Act} {w : World} {ol : List Oper} (hQ : ¬ LetsOut Q) (hd : noDeferB ol.toArray = true) (hm : P.follows .mixedOrders = true) (hB : Region.lexB .any ol.toArray = true)
  (h : wpQuiet P ol.toArray (fun w' => ∃ n, w' = w.drewN n) (fun a' => ∀ w', (∃ n, w' = w.drewN n) → Q .normal a' w') ol a) : (Code.region id ol.toArray true).wpIn (Fence.wide.inRound l) n P Q a w := by
 simp only [Region.lexB, Bool.and_eq_true] at hB
 refine wpIn_region_any hm (wpAnyIn_of (NoDefer.of hd) hQ _ _ _ _ (wpAny_of_quiet (C := fun w' => ∃ n, w' = w.drewN n) (Q := fun a' => ∀ w', (∃ n, w' = w.drewN n) → Q .normal a' w') (fun _ w' hw' h => h w' hw') _ _ _ _ ⟨1, rfl⟩ ?_))
 have := wpAnyQ_lex (C := fun w' => ∃ n, w' = w.drewN n) (md := .any) hB.1 ol 0 (Array.replicate ol.toArray.size false) a (by simp) (by simpa using hB.2) h
 simpa using this
theorem wpIn_region_of_any {id : Nat} {Q : Exit → Act → World → Prop} {a : Act} {w : World} {ol : List Oper} (hQ : ¬ LetsOut Q) (hd : noDeferB ol.toArray = true) (hm : P.follows .mixedOrders = true)
  (h : wpAny P .any ol.toArray Q ol.toArray.size (Array.replicate ol.toArray.size false) a { w with drawn := w.drawn + 1 }) : (Code.region id ol.toArray true).wpIn (Fence.wide.inRound l) n P Q a w :=
 wpIn_region_any hm (wpAnyIn_of (NoDefer.of hd) hQ _ _ _ _ h)
theorem wpIn_region_tail {id : Nat} {Q : Exit → Act → World → Prop} {a : Act} {w : World} {ol : List Oper} (k : Nat) (hQ : ¬ LetsOut Q) (hd : noDeferB ol.toArray = true) (hm : P.follows .mixedOrders = true) (hB : Region.lexTailB .any ol.toArray k = true)
  (h : wpStill P ol.toArray { w with drawn := w.drawn + 1 } (fun a' => wpList P ol.toArray Q (ol.drop k) a' { w with drawn := w.drawn + 1 }) (ol.take k) a) : (Code.region id ol.toArray true).wpIn (Fence.wide.inRound l) n P Q a w := by
 refine wpIn_region_any hm (wpAnyIn_of (NoDefer.of hd) hQ _ _ _ _ ?_)
 simp only [Region.lexTailB, Bool.and_eq_true, decide_eq_true_eq] at hB
 obtain ⟨⟨⟨⟨b1, b2⟩, b3⟩, b4⟩, b5⟩ := hB
 have hk : k < ol.length := by simpa using b2
 have lt : (ol.take k).length = k := List.length_take_of_le (Nat.le_of_lt hk)
 have ld : (ol.drop k).length = ol.toArray.size - k := by simp
 have start : HeadInv .any ol.toArray k (Array.replicate ol.toArray.size false) :=
  ⟨by simp, fun j oj _ hl => absurd hl (by rw [getD_replicate_false]; simp), fun t _ ht => getD_in (by simpa using ht) (getD_replicate_false _ _)⟩
 have head := wpAnyL_lex (md := .any) (g := ol.toArray.size - k) b1 b3 b4 b2 (ol.take k) 0 _ a (fun j hj => by rw [List.getElem?_take]; rw [lt] at hj; simp [hj]) (by rw [lt]; simp) start (by rw [lt]; exact b5) h
 have whole := wpAny_of_head (Q' := Q) (g := ol.toArray.size - k) (fun listed a' hL => by
  have := wpAny_of_seq (md := .any) (Q' := Q) (ol.drop k) k listed a' { w with drawn := w.drawn + 1 } (fun j => by simp [List.getElem?_drop]) (by rw [ld]; exact hL.1) hL.2
  rw [ld] at this
  exact this) _ _ _ head
 have es : (ol.take k).length + (ol.toArray.size - k) = ol.toArray.size := by rw [lt]; simp; omega
 rw [es] at whole
 exact whole
end
end Go.Proofs.YtdmeiiedbhfniaaDoor
end
section
namespace Go.Proofs.YtdmeiiedbhfniaaDoor
open Go.RowKit Go.Shelf YtdmeiiedbhfniaaDoorW.PrintWords YtdmeiiedbhfniaaDoorW.PrintLast YtdmeiiedbhfniaaDoorW.PrintMore
attribute [local go_sem] Oper.semAt_some
abbrev El (s : Nat) := { x : Nat // x < 8 ∧ s.testBit x = true }
def encI {s : Nat} (x : El s) : Array Value := #[Value.int .i64 (x.1 : Int)]
def bitsN (s : Nat) : List Nat := (List.range 8).filter fun i => s.testBit i
theorem mem_bitsN {s x : Nat} : x ∈ bitsN s ↔ x < 8 ∧ s.testBit x = true := by simp [bitsN]
theorem idx_step : ∀ s, s < 256 → s ≠ 0 → bitsN s = Lib.ctz 16 s :: bitsN (s &&& (s - 1)) ∧ (s &&& (s - 1)) < s := by decide +kernel
theorem bitsN_zero : bitsN 0 = [] := by decide +kernel
theorem bitsN_len (s : Nat) : (bitsN s).length ≤ 8 := by
 have h := List.length_filter_le (fun i => s.testBit i) (List.range 8)
 simpa [bitsN] using h
theorem rest_key (r : Nat) (hr : r < 256) (h0 : r ≠ 0) : bits BinOp.and IntKind.u16 (r : Int) ((r : Int) - 1) = ((r &&& (r - 1) : Nat) : Int) := by
 have e : (r : Int) - 1 = ((r - 1 : Nat) : Int) := by omega
 rw [e, bits_u16_nat r _ (by omega) (by omega)]
set_option maxRecDepth 100000 in
set_option maxHeartbeats 2000000 in
theorem all1_in (n l Bs : Nat) (hn : 1 ≤ n) (s : Nat) (hs : s < 256) (J Jx : List (El s) → World → Prop)
  (hY : ∀ (pre : List (El s)) x W, J pre W → pre.length < 8 → YieldAt Fence.wide (n - 1) Tryd.prog l (encI x) W fun e W' =>
   (e = .returned (.bool true) ∧ J (pre ++ [x]) W' ∧ (TabOK W → TabOK W')) ∨ (e = .returned (.bool false) ∧ Jx (pre ++ [x]) W'))
  (W : World) (hT : TabOK W) (hBs : W.cell? ⟨Bs, 0, none⟩ = some (.int .u16 s)) (h0 : J [] W) :
  CallsIn Fence.wide n Tryd.prog 113 #[.func (.yield l) #[] #[], .pointer (some ⟨Bs, 0, none⟩)] W fun e W' => (∃ v, e = .returned v) ∧
   ((∃ ys, ys.map (·.1) = bitsN s ∧ J ys W') ∨ (∃ pre, pre.map (·.1) <+: bitsN s ∧ Jx pre W')) := by
 refine callsIn_of_wp Tryd.func113 rfl trivial ?_ rfl
 simp only [Tryd.ntmps113, List.size_toArray, List.length_cons, List.length_nil, Nat.reduceAdd, Nat.reduceSub, Array.replicate_succ, Array.replicate_zero, List.push_toArray, List.append_toArray, List.nil_append, List.cons_append]
 have hT' := Aside0.mk hT
 clear hT
 gi_wp2
 gi_loopw [3] (fun p wr => ∃ (pre : List (El s)) (r : Nat), p = .int .u16 r ∧ Hid (r < 256 ∧ bitsN s = pre.map (·.1) ++ bitsN r) ∧ J pre wr ∧ Aside0 (TabOK wr)) (fun p _ => (intOf p).toNat)
 case atStart => exact ⟨[], s, rfl, ⟨hs, rfl⟩, h0, hT'⟩
 case round =>
  obtain ⟨pre, r, rfl, hx, hJ, hT⟩ := hrel
  obtain ⟨hr, he⟩ := hx
  by_cases hr0 : r = 0
  ·subst hr0
   rw [bitsN_zero, List.append_nil] at he
   have he' := Aside0.mk he
   clear he
   gi_wp2
   go_end0
   exact ⟨⟨_, rfl⟩, .inl ⟨pre, he'.out.symm, hJ⟩⟩
  ·obtain ⟨hcons, hlt0⟩ := idx_step r hr hr0
   have hmem : Lib.ctz 16 r ∈ bitsN s := by rw [he, hcons]; simp
   have hlen : pre.length < 8 := by have := bitsN_len s; rw [he, hcons] at this; simp at this; omega
   obtain ⟨fn, tmps, assign, body, hy, hR⟩ := hY pre ⟨Lib.ctz 16 r, mem_bitsN.1 hmem⟩ wr hJ hlen
   have key := Aside0.mk (rest_key r hr hr0)
   have hlt := Aside0.mk hlt0
   have he' := Aside0.mk he
   have hcons' := Aside0.mk hcons
   have htz := Aside0.mk (tz16 r (by omega) hr0 wr hT.out)
   clear he hcons hlt0
   have hb : ((r : Int) == 0) = false := by simp; exact hr0
   have hb' : ((r : Int) != 0) = true := by simp; exact hr0
   dsimp only [encI] at hy
   gi_wp2_with (refine ⟨trivial, ?_⟩; gi_at_call 114; refine (callsIn_wide.2 (htz.out)).mono ?_; rintro e w' ⟨rfl, rfl⟩)
   refine hR.mono ?_
   rintro e W3 (⟨rfl, hJ3, hk3⟩ | ⟨rfl, hJx3⟩)
   ·have hT3 := Aside0.mk (hk3 hT.out)
    clear hk3 hT
    gi_wp2_with (simp only [key.out])
    go_roundw
    case rel => exact ⟨pre ++ [⟨Lib.ctz 16 r, mem_bitsN.1 hmem⟩], r &&& (r - 1), rfl, ⟨Nat.lt_of_le_of_lt Nat.and_le_left hr, he'.out.trans (by rw [hcons'.out]; simp)⟩, hJ3, hT3⟩
    case measure => have := hlt.out; simp [intOf]; omega
   ·gi_wp2
    refine bodyPost_ret (results_none rfl _ _ _) rfl ?_
    exact ⟨⟨_, rfl⟩, .inr ⟨pre ++ [⟨Lib.ctz 16 r, mem_bitsN.1 hmem⟩], ⟨bitsN (r &&& (r - 1)), (he'.out.trans (by rw [hcons'.out]; simp)).symm⟩, hJx3⟩⟩
set_option maxHeartbeats 1000000 in
theorem all_calls (s : Int) (w : World) :
  Calls Tryd.prog 83 #[.int .u16 s] w fun e w' => e = .returned (.func (.func 113) #[] #[.pointer (some ⟨w.heap.size, 0, none⟩)]) ∧ w' = w.alloc (.cells #[.int .u16 s] 64) := by
 go_enter Tryd.func83, Tryd.ntmps83
 go_wp2
 go_ret
 exact ⟨rfl, rfl⟩
theorem all_stops (n : Nat) (hn : 1 ≤ n) (Bs s : Nat) (hs : s < 256) (w : World) (hBs : Bs < w.heap.size) (hc : w.cell? ⟨Bs, 0, none⟩ = some (.int .u16 s)) (hT : TabOK w) :
  SeqStopsK Fence.wide n Tryd.prog 113 #[.pointer (some ⟨Bs, 0, none⟩)] (encI (s := s)) (fun A B => TabOK A → TabOK B) (fun ys => ys.map (·.1) = bitsN s) (fun pre => pre.map (·.1) <+: bitsN s) 8 w := fun l J Jx W hW _ _ hY h0 =>
 all1_in n l Bs hn s hs J Jx hY W (hT.below hW) ((hW.cell (p := ⟨Bs, 0, none⟩) hBs).trans hc) h0
end Go.Proofs.YtdmeiiedbhfniaaDoor
end
section
namespace Go.Proofs.YtdmeiiedbhfniaaDoor
open Go.RowKit Go.Shelf YtdmeiiedbhfniaaDoorW.PrintWords YtdmeiiedbhfniaaDoorW.PrintLast YtdmeiiedbhfniaaDoorW.PrintMore
def Bk (xs : List Int) : Type := { p : Int × Int // p.2 ∈ xs }
def encB {xs : List Int} (p : Bk xs) : Array Value := #[.int .i64 p.1.1, .int .i64 p.1.2]
def KpB (w0 : World) (Bs : Nat) (v : Value) (A B : World) : Prop := (Below w0.heap.size w0 A → Below w0.heap.size w0 B) ∧ (A.cell? ⟨Bs, 0, none⟩ = some v → B.cell? ⟨Bs, 0, none⟩ = some v)
end Go.Proofs.YtdmeiiedbhfniaaDoor
end
section
namespace Go.Proofs.YtdmeiiedbhfniaaDoor
open Go.RowKit Go.Shelf YtdmeiiedbhfniaaDoorW.PrintWords YtdmeiiedbhfniaaDoorW.PrintLast YtdmeiiedbhfniaaDoorW.PrintMore
def RPost {α : Type} (B : Nat) (I : List α → World → Prop) (Ix : Code → List α → World → Prop) (xs : List α) (W : World) : Exit → Act → World → Prop
 | .normal, _, W' => KeepsFrom B W W' ∧ I xs W'
 | .ret, _, W' => KeepsFrom B W W' ∧ Ix .ret xs W'
 | .exit id, _, W' => KeepsFrom B W W' ∧ Ix (.exit id) xs W'
 | .goto t, _, W' => KeepsFrom B W W' ∧ Ix (.goto t) xs W'
 | .panic _, _, _ => False
 | .outgrown, _, _ => False
abbrev markOf (D : Nat) : Deferred := { target := .collected D, args := #[] }
theorem wp_all1 {g : Operand} {rid : Nat} {o : Oper} {p d : Tmp} {body : Code} {Q : Exit → Act → World → Prop} {tmps : Array Value} {ds : List Deferred} {w : World} (Bs s : Nat) (hs : s < 256)
  (hg : ({ tmps := tmps, defers := ds } : Act).eval g = .func (.func 113) #[] #[.pointer (some ⟨Bs, 0, none⟩)]) (hBs : Bs < w.heap.size) (hc : w.cell? ⟨Bs, 0, none⟩ = some (.int .u16 s)) (hT : TabOK w)
  (ho : o.op = .assign (.tmp p)) (hd : o.dst = some d) (hgd : o.guard = none) (hp : p < tmps.size)
  (I : List Nat → World → Prop) (Ix : Code → List Nat → World → Prop) (hI : OwnFrom w.heap.size I) (hIx : ∀ c, OwnFrom w.heap.size (Ix c)) (h0 : I [] w) (hIT : ∀ pre W, I pre W → TabOK W)
  (hbody : ∀ (l : Nat) (pre : List Nat) (x : Nat) (W : World), x < 8 → s.testBit x = true → I pre W → pre.length < 8 →
   body.wpIn (Fence.wide.inRound l) 7 Tryd.prog (RPost w.heap.size I Ix (pre ++ [x]) W) { tmps := (tmps.setIfInBounds p (.int .i64 (x : Int))).setIfInBounds d (.int .i64 (x : Int)), defers := [] } W)
  (hdone : ∀ (D : Nat) (W : World), w.heap.size ≤ D → I (bitsN s) W → W.heap[D]? = some (.deferred (some [])) → Q .normal { tmps := tmps, defers := markOf D :: ds } W)
  (hstop : ∀ (D : Nat) (c : Code) (pre : List Nat) (W : World), w.heap.size ≤ D → pre <+: bitsN s → Ix c pre W → W.heap[D]? = some (.deferred (some [])) → c.wp Tryd.prog Q { tmps := tmps, defers := markOf D :: ds } W) :
  (Code.rangeFunc g #[p] (.region rid #[o] false) body).wp Tryd.prog Q { tmps := tmps, defers := ds } w := by
 refine (wpIn_wide (n := 9)).1 (wpIn_rangeFunc_ownG (F := Fence.wide) (n := 9) rfl (by omega) hg trivial (enters_of Tryd.func113 (by kernel_rfl) rfl)
  (all_stops (9 - 1) (by omega) Bs s hs w hBs hc hT) (fun h k hA => k (h hA)) (fun W l o o' hl ho hcells _ hTW => ?_) (Below.refl _ _) (fun x => rfl) (fun pre W => I (pre.map (·.1)) W) (fun c pre W => Ix c (pre.map (·.1)) W) (fun s W W' row h => hI (s.map (·.1)) W W' row h) (fun c s W W' row h => hIx c (s.map (·.1)) W W' row h) h0
  (fun x => { tmps := (tmps.setIfInBounds p (.int .i64 (x.1 : Int))).setIfInBounds d (.int .i64 (x.1 : Int)), defers := [] }) ?_ ?_ ?_ ?_)
 ·intro j hj
  exact cell_kept (hTW j hj) (grownBy_putObj' W l o') (fun r e => by cases e; exact ⟨_, ho, hcells⟩)
 ·intro l x W K hK
  refine wpIn_region_list (ops := #[o]) ?_
  show wpListIn _ _ _ _ _ [o] _ _
  refine wpListIn_plain hgd fun K' hK' => ⟨fun _ _ => trivial, ?_⟩
  have he : ({ tmps := (tmps.setIfInBounds p (.int .i64 (x.1 : Int))), defers := [] } : Act).eval (.tmp p) = .int .i64 (x.1 : Int) := by
   simp [Act.eval, hp]
  have hz : ((#[p] : Array Tmp).zip (encI x)).foldl (fun t (p, v) => t.setIfInBounds p v) tmps = tmps.setIfInBounds p (.int .i64 (x.1 : Int)) := by simp [encI]
  simp only [hz]
  rw [show (Fence.wide.inRound l).round = some l from rfl, Oper.semAt_some l _ o (fun c hcc => by rw [ho] at hcc; cases hcc)]
  simp only [execOp, ho, he]
  simp only [Sem.run_pure, Sem.run, Sem.run_bind, Result.andThen, Oper.uponIn]
  refine hK' _ _ ?_
  simp only [wpListIn, Act.put, hd]
  exact hK
 ·intro l pre x W hi hlen
  refine wpIn_mono (hbody l (pre.map (·.1)) x.1 W x.2.1 x.2.2 hi (by simpa using hlen)) ?_
  rintro e a' W' h
  have em : (pre ++ [x]).map (·.1) = pre.map (·.1) ++ [x.1] := by simp
  cases e <;> simp only [ownPostG, RPost, em] at h ⊢ <;> first | exact h | skip
  exact ⟨h.1, fun _ => hIT _ _ h.2, h.2⟩
 ·rintro D xs W hD hxs hi hk
  exact hdone D W hD (by rw [hxs] at hi; exact hi) hk
 ·rintro D c pre W hD hp hi hk
  exact wpIn_wide.2 (hstop D c _ W hD hp hi hk)
def Marks (B : Nat) : List Deferred → World → Prop
 | [], _ => True
 | d :: ds, W => (∃ D, d = markOf D ∧ B ≤ D ∧ W.heap[D]? = some (.deferred (some [])) ∧ ∀ d' ∈ ds, d' ≠ d) ∧ Marks B ds W
theorem Marks.nil (B : Nat) (W : World) : Marks B [] W := trivial
theorem Marks.keeps {B : Nat} : ∀ {ds : List Deferred} {W W' : World}, Marks B ds W → KeepsFrom B W W' → Marks B ds W'
 | [], _, _, _, _ => trivial
 | d :: ds, W, W', ⟨⟨D, he, hB, hD, hn⟩, h⟩, hk => ⟨⟨D, he, hB, hk.same D _ hB hD rfl, hn⟩, Marks.keeps h hk⟩
theorem Marks.lt {B : Nat} : ∀ {ds : List Deferred} {W : World}, Marks B ds W → ∀ d ∈ ds, ∃ D, d = markOf D ∧ D < W.heap.size
 | [], _, _, d, h => by cases h
 | d :: ds, W, ⟨⟨D, he, hB, hD, hn⟩, h⟩, d', hm => by
  rcases List.mem_cons.1 hm with rfl | hm
  ·exact ⟨D, he, (Array.getElem?_eq_some_iff.1 hD).1⟩
  ·exact Marks.lt h d' hm
theorem Marks.shut {B D : Nat} {o : Obj} : ∀ {ds : List Deferred} {W : World}, Marks B ds W → (∀ d ∈ ds, d ≠ markOf D) → Marks B ds (W.putObj D o)
 | [], _, _, _ => trivial
 | d :: ds, W, ⟨⟨D', he, hB, hD, hn⟩, h⟩, hne => ⟨⟨D', he, hB, (World.putObj_heap_other (fun e => hne d List.mem_cons_self (by rw [he, e]))).trans hD, hn⟩, Marks.shut h (fun d' hm => hne d' (List.mem_cons_of_mem _ hm))⟩
theorem leavesM {F : Fence} {n : Nat} {P : Program} {fn : Func} {tmps : Array Value} {R : Ending → World → Prop} {B : Nat} {Φ : World → Prop} (hΦ : OwnFrom B (fun (_ : Unit) W => Φ W))
  (hR : ∀ W, Φ W → ∃ v, (results fn tmps).run P W = .ok v W ∧ R (.returned v) W) : ∀ (ds : List Deferred) (W : World), Marks B ds W → Φ W → LeavesInM F n P fn tmps R ds .returning W
 | [], W, _, h => hR W h
 | d :: ds, W, ⟨⟨D, he, hB, hD, hn⟩, hm⟩, h => ⟨by simp, .inl ⟨D, _, by rw [he], run_takeDeferred hD, leavesM hΦ hR ds _ (Marks.shut hm (fun d' hd' => he ▸ hn d' hd')) (hΦ.putObj (s := ()) _ h hB hD rfl)⟩⟩
theorem retM {n : Nat} {P : Program} {fn : Func} {R : Ending → World → Prop} {B : Nat} {a : Act} {W : World} (Φ : World → Prop) (hΦ : OwnFrom B (fun (_ : Unit) W => Φ W)) (hm : Marks B a.defers W) (h : Φ W)
  (hR : ∀ W, Φ W → ∃ v, (results fn a.tmps).run P W = .ok v W ∧ R (.returned v) W) : bodyPostM Fence.wide n P fn R .ret a W := leavesM hΦ hR a.defers W hm h
theorem calls_of_wpM {f : FuncId} {fn : Func} {c : Code} {args : Array Value} {w : World} {R : Ending → World → Prop} {P : Program} (hf : P.funcs[f]? = some fn) (hb : fn.body = some c)
  (h : c.wp P (bodyPostM Fence.wide 9 P fn R) { tmps := args ++ Array.replicate (fn.ntmps - args.size) undef, defers := [] } w) : Calls P f args w R :=
 callsIn_wide.1 (callsIn_of_wp_marks (F := Fence.wide) (n := 9) hf hb trivial (wpIn_wide.2 h))
theorem own_box {β : Type} (B Bx : Nat) (t : TypeId) (f : β → Value) : OwnFrom B (fun s W => Boxed W Bx t (f s)) := (boxed_own Bx t f).from B
end Go.Proofs.YtdmeiiedbhfniaaDoor
end
section
namespace Go.Proofs.YtdmeiiedbhfniaaDoor
open Go.RowKit Go.Shelf YtdmeiiedbhfniaaDoorW.PrintWords YtdmeiiedbhfniaaDoorW.PrintLast YtdmeiiedbhfniaaDoorW.PrintMore
attribute [local go_sem] Oper.semAt_some
def ivs (xs : List Nat) : List Int := xs.map Int.ofNat
end Go.Proofs.YtdmeiiedbhfniaaDoor
end
section
namespace Go.Proofs.YtdmeiiedbhfniaaDoor.P
open Go.RowKit Go.Shelf YtdmeiiedbhfniaaDoorW.PrintWords YtdmeiiedbhfniaaDoorW.PrintLast YtdmeiiedbhfniaaDoorW.PrintMore
attribute [local go_sem] Oper.semAt_some
abbrev TT := S38
structure Gr where
 ts : List TT
 nd : List Int
 od : List Int
 bl : List Int
 ab : List Int
def IsG (W : World) (g : Nat) (G : Gr) : Prop := ∃ A0 c0 A1 c1 A2 c2 A3 c3 A4 c4,
 W.heap[g]? = some (.cells #[.slice A0 G.ts.length c0, .slice A1 G.nd.length c1, .slice A2 G.od.length c2, .slice A3 G.bl.length c3, .slice A4 G.ab.length c4] 69 (0, 0)) ∧
 (Kd.C k38 W A0 G.ts.length G.ts ∧ G.ts.length ≤ c0) ∧ (Kd.C (Kd.int .u16) W A1 G.nd.length G.nd ∧ G.nd.length ≤ c1) ∧ (Kd.C (Kd.int .i64) W A2 G.od.length G.od ∧ G.od.length ≤ c2) ∧
 (Kd.C (Kd.int .u16) W A3 G.bl.length G.bl ∧ G.bl.length ≤ c3) ∧ (Kd.C (Kd.int .u16) W A4 G.ab.length G.ab ∧ G.ab.length ≤ c4)
theorem IsG.lt {W : World} {g : Nat} {G : Gr} (h : IsG W g G) : g < W.heap.size := by
 obtain ⟨_, _, _, _, _, _, _, _, _, _, h, _⟩ := h
 exact (Array.getElem?_eq_some_iff.1 h).1
theorem IsG.below {W W1 : World} {g : Nat} {G : Gr} (h : IsG W g G) (hb : Below W.heap.size W W1) : IsG W1 g G := by
 have hlt := h.lt
 obtain ⟨A0, c0, A1, c1, A2, c2, A3, c3, A4, c4, h, ⟨a, a'⟩, ⟨b, b'⟩, ⟨c, c'⟩, ⟨d, d'⟩, ⟨e, e'⟩⟩ := h
 exact ⟨A0, c0, A1, c1, A2, c2, A3, c3, A4, c4, (hb.block g hlt).trans h, ⟨Kd.C_below a hb, a'⟩, ⟨Kd.C_below b hb, b'⟩, ⟨Kd.C_below c hb, c'⟩, ⟨Kd.C_below d hb, d'⟩, ⟨Kd.C_below e hb, e'⟩⟩
theorem IsG.drewN {W : World} {g : Nat} {G : Gr} (h : IsG W g G) (m : Nat) : IsG (W.drewN m) g G := h
theorem box_at (W : World) (t : TypeId) (v : Value) (B : Nat) (hB : W.heap.size = B) : Boxed (W.alloc (.cells #[v] t)) B t v := hB ▸ Boxed.new W t v
end Go.Proofs.YtdmeiiedbhfniaaDoor.P
end
section
namespace Go.Proofs.YtdmeiiedbhfniaaDoor.P
open Go.RowKit YtdmeiiedbhfniaaDoorW.PrintWords YtdmeiiedbhfniaaDoorW.PrintLast YtdmeiiedbhfniaaDoorW.PrintMore
def impl_set_has.f (a0 : Int) (a1 : Int) : Option (Bool) := if 0 ≤ a1 then (some ((Go.bits .and .u16 (shr .u16 a0 a1) 1) == 1)) else (none)
set_option maxHeartbeats 8000000 in
set_option maxRecDepth 100000 in
theorem impl_set_has.calls (a0 : Int) (a1 : Int) (r : Bool) (w : World) (h : impl_set_has.f a0 a1 = some r) :
  Calls Tryd.prog 50 #[.int .u16 a0, .int .i64 a1] w fun e w' => e = .returned (.bool r) ∧ Drawn0 w w' := by
 have H : (if 0 ≤ a1 then (some ((Go.bits .and .u16 (shr .u16 a0 a1) 1) == 1)) else (none)) = some r := h
 clear h
 by_cases c3 : 0 ≤ a1
 ·rw [if_pos c3] at H
  have c3b0 := eq_true c3
  have c3b1 : decide (0 ≤ a1) = true := decide_eq_true c3
  clear c3
  obtain ⟨ji4, hji4⟩ : ∃ j_ : Int, (shr .u16 a0 a1) = j_ := ⟨_, rfl⟩
  replace H : (some ((Go.bits .and .u16 (ji4) 1) == 1)) = some r := by first | (rw [hji4] at H; exact H) | (simp only [hji4] at H ⊢; exact H)
  have hji4_ : (a0 / 2 ^ min a1.toNat 16) = ji4 := hji4
  have hji4z : a1 ≤ 16 → (a0 / 2 ^ a1.toNat) = ji4 := shr_small hji4
  obtain rfl := Option.some.inj H
  go_enter Tryd.func50, Tryd.ntmps50
  go_wp2
  go_ret
  exact ⟨by first | rfl | (simp; done) | (simp only [← hji4] <;> (first | rfl | simp)) | (simp [*]; done), by repeat (first | exact Drawn0.refl _ | apply Drawn0.step)⟩
 ·rw [if_neg c3] at H
  exact absurd H (by simp)
end Go.Proofs.YtdmeiiedbhfniaaDoor.P
end
section
namespace Go.Proofs.YtdmeiiedbhfniaaDoor.P
open Go.RowKit YtdmeiiedbhfniaaDoorW.PrintWords YtdmeiiedbhfniaaDoorW.PrintLast YtdmeiiedbhfniaaDoorW.PrintMore
def impl_set_with.f (a0 : Int) (a1 : Int) : Option (Int) := if 0 ≤ a1 then (some (Go.bits .or .u16 a0 (shl .u16 1 a1))) else (none)
set_option maxHeartbeats 8000000 in
set_option maxRecDepth 100000 in
theorem impl_set_with.calls (a0 : Int) (a1 : Int) (r : Int) (w : World) (h : impl_set_with.f a0 a1 = some r) :
  Calls Tryd.prog 51 #[.int .u16 a0, .int .i64 a1] w fun e w' => e = .returned (.int .u16 r) ∧ Drawn0 w w' := by
 have H : (if 0 ≤ a1 then (some (Go.bits .or .u16 a0 (shl .u16 1 a1))) else (none)) = some r := h
 clear h
 by_cases c3 : 0 ≤ a1
 ·rw [if_pos c3] at H
  have c3b0 := eq_true c3
  have c3b1 : decide (0 ≤ a1) = true := decide_eq_true c3
  clear c3
  obtain ⟨ji4, hji4⟩ : ∃ j_ : Int, (shl .u16 1 a1) = j_ := ⟨_, rfl⟩
  replace H : (some (Go.bits .or .u16 a0 (ji4))) = some r := by first | (rw [hji4] at H; exact H) | (simp only [hji4] at H ⊢; exact H)
  have hji4_ : (IntKind.u16.wrap (1 * 2 ^ min a1.toNat 16)) = ji4 := hji4
  have hji4z : a1 ≤ 16 → (IntKind.u16.wrap (1 * 2 ^ a1.toNat)) = ji4 := shl_small hji4
  have hji4u : (IntKind.u16.wrap (2 ^ min a1.toNat 16)) = ji4 := by have h_ := hji4_; rw [Int.one_mul] at h_; exact h_
  have hji4v : a1 ≤ 16 → (IntKind.u16.wrap (2 ^ a1.toNat)) = ji4 := fun hle_ => by have h_ := hji4z hle_; rw [Int.one_mul] at h_; exact h_
  obtain rfl := Option.some.inj H
  go_enter Tryd.func51, Tryd.ntmps51
  go_wp2
  go_ret
  exact ⟨by first | rfl | (simp; done) | (simp only [← hji4] <;> (first | rfl | simp)) | (simp [*]; done), by repeat (first | exact Drawn0.refl _ | apply Drawn0.step)⟩
 ·rw [if_neg c3] at H
  exact absurd H (by simp)
end Go.Proofs.YtdmeiiedbhfniaaDoor.P
end
section
namespace Go.Proofs.YtdmeiiedbhfniaaDoor.P
open Go.RowKit Go.Shelf YtdmeiiedbhfniaaDoorW.PrintWords YtdmeiiedbhfniaaDoorW.PrintLast YtdmeiiedbhfniaaDoorW.PrintMore
def hasB (a i : Int) : Bool := Go.bits .and .u16 (shr .u16 a i) 1 == 1
def withI (a i : Int) : Int := Go.bits .or .u16 a (shl .u16 1 i)
def subB (a b : Int) : Bool := Go.bits .andNot .u16 a b == 0
theorem hasB_calls (a i : Int) (h : 0 ≤ i) (w : World) : Calls Tryd.prog 50 #[.int .u16 a, .int .i64 i] w fun e w' => e = .returned (.bool (hasB a i)) ∧ Drawn0 w w' :=
 impl_set_has.calls a i _ w (by unfold impl_set_has.f; rw [if_pos h]; rfl)
theorem withI_calls (a i : Int) (h : 0 ≤ i) (w : World) : Calls Tryd.prog 51 #[.int .u16 a, .int .i64 i] w fun e w' => e = .returned (.int .u16 (withI a i)) ∧ Drawn0 w w' :=
 impl_set_with.calls a i _ w (by unfold impl_set_with.f; rw [if_pos h]; rfl)
def readyStep (nd : List Int) (done : Int) (out : Int) (i : Nat) : Int := if !(hasB done (i : Int)) && subB (rd nd (i : Int)) done then withI out (i : Int) else out
def readyP (nd : List Int) (done : Int) : Int := (List.range nd.length).foldl (readyStep nd done) 0
end Go.Proofs.YtdmeiiedbhfniaaDoor.P
end
section
namespace Go.Proofs.YtdmeiiedbhfniaaDoor.P
open Go.RowKit Go.Shelf YtdmeiiedbhfniaaDoorW.PrintWords YtdmeiiedbhfniaaDoorW.PrintLast YtdmeiiedbhfniaaDoorW.PrintMore
theorem infoS : (Tryd.prog.info? 64).map (fun i => (i.zero, i.size, i.bytes)) = some (some (.int .u16 0), 1, 2) := by kernel_rfl
theorem infoPG : (Tryd.prog.info? 59).map (fun i => (i.zero, i.size, i.bytes)) = some (some (.pointer none), 1, 8) := by kernel_rfl
theorem mk_sets (n : Nat) (hn : n ≤ 8) (W : World) : (Instr.makeSlice 67 (.int .i64 (n : Int)) (.int .i64 (n : Int))).run Tryd.prog W = .ok (.slice (some ⟨W.heap.size, 0, none⟩) n n) (W.alloc (.cells (Array.replicate n (.int .u16 0)) 64)) := by
 obtain ⟨i0, hi, hz0, hz1, hz2⟩ := info_parts infoS
 have h := run_make (P := Tryd.prog) W 67 64 i0 (.int .u16 0) Tryd.underlying67 hi hz0 .i64 .i64 (n : Int) (n : Int) (by omega) (by omega) (by rw [hz2]; omega) (by omega)
 rw [hz1] at h
 simp only [Int.toNat_natCast] at h
 rw [h]
 have : madeCells (Value.int IntKind.u16 0).cells (n * 1) = Array.replicate n (.int .u16 0) := by
  have e := toList_madeCells_one (.int .u16 0) n
  apply Array.toList_inj.1
  rw [Nat.mul_one, Array.toList_replicate]
  exact e
 rw [this]
section
variable {P : Program} {ops : Array Oper} {Q : Exit → Act → World → Prop} {B : List Nat} {O : List Nat} {I : (Nat → Bool) → Act → World → Prop}
theorem step_val {i : Nat} {oi : Oper} (t : Tmp) (hi : ops[i]? = some oi) (hg : oi.guard = none) (hd : oi.dst = some t)
  (h : ∀ b a w, I b a w → b i = false → (∀ j, (O.contains j && (B.getD i 0).testBit j) = true → b j = true) → (∀ d, (O.contains d && (B.getD d 0).testBit i) = true → b d = false) →
   ∃ v w1, (execOp a.eval oi).run P w = .ok (.value v) w1 ∧ I (up b i) (a.put (some t) v) w1) : StepAt P ops Q B O I i := by
 intro b a w hI hb h1 h2
 obtain ⟨v, w1, hr, hI1⟩ := h b a w hI hb h1 h2
 refine ⟨oi, hi, fun K hK => ?_⟩
 rw [hd]
 exact value_ (by simp [Region.wanted, hg]) hd hr (hK.out _ _ hI1)
theorem step_skip {i : Nat} {oi : Oper} (hi : ops[i]? = some oi) (hg : oi.guard = none) (hd : oi.dst = none)
  (h : ∀ b a w, I b a w → b i = false → (∀ j, (O.contains j && (B.getD i 0).testBit j) = true → b j = true) → (∀ d, (O.contains d && (B.getD d 0).testBit i) = true → b d = false) →
   ∃ w1, (execOp a.eval oi).run P w = .ok .skip w1 ∧ I (up b i) a w1) : StepAt P ops Q B O I i := by
 intro b a w hI hb h1 h2
 obtain ⟨w1, hr, hI1⟩ := h b a w hI hb h1 h2
 refine ⟨oi, hi, fun K hK => ?_⟩
 rw [hd]
 exact skip_ (by simp [Region.wanted, hg]) hd hr (hK.out _ _ hI1)
variable {e : Operand → Value} {oi : Oper} {x y : Operand} {w w1 : World} {v : Value}
theorem op_move (ho : oi.op = .move x) (hx : e x = v) : (execOp e oi).run P w = .ok (.value v) w := by simp [execOp, ho, hx]
theorem op_len {A : Option Addr} {n c : Nat} (t t' : TypeId) (ht : P.underlying t = some (.slice t')) (ho : oi.op = .call { callee := .builtin .len, args := #[x], argTypes := #[t] }) (hx : e x = .slice A n c) : (execOp e oi).run P w = .ok (.value (.int .i64 (n : Int))) w := by
 simp [execOp, ho, hx, resolve, invoke, builtin, Builtin.len_, run_underlying ht, goInt]
theorem op_mkslice {t : TypeId} (ho : oi.op = .makeSlice t x y) (h : (Instr.makeSlice t (e x) (e y)).run P w = .ok v w1) : (execOp e oi).run P w = .ok (.value v) w1 := by simp [execOp, ho, h]
theorem op_build {t : TypeId} {ps : Array (Nat × Operand)} (ho : oi.op = .build t ps) (h : (Instr.build t (ps.map fun x => (x.1, e x.2))).run P w = .ok v w1) : (execOp e oi).run P w = .ok (.value v) w1 := by simp [execOp, ho, h]
theorem op_box {t : TypeId} (ho : oi.op = .box t x) (h : (Instr.box t (e x)).run P w = .ok v w1) : (execOp e oi).run P w = .ok (.value v) w1 := by simp [execOp, ho, h]
theorem op_alloc {t : TypeId} (ho : oi.op = .alloc t) (h : (Instr.alloc t true (.tuple #[])).run P w = .ok v w1) : (execOp e oi).run P w = .ok (.value v) w1 := by simp [execOp, ho, h]
theorem op_store {t : TypeId} {u : Unit} (ho : oi.op = .store t x y) (h : (Instr.storeAt t (e x) (e y)).run P w = .ok u w1) : (execOp e oi).run P w = .ok .skip w1 := by simp [execOp, ho, h]
end
abbrev slv (b n : Nat) : Value := .slice (some ⟨b, 0, none⟩) n n
def L7 (V0 : Value) (V1 V2 : Value) (n b1 b2 b3 b4 : Nat) (v9 : Value) : List (Nat × Tmp × Value) :=
 [(0, 30, V0), (1, 31, V1), (2, 32, V2), (3, 33, V0), (4, 34, .int .i64 (n : Int)), (5, 35, slv b1 n), (6, 36, V0), (7, 37, .int .i64 (n : Int)), (8, 38, slv b2 n), (9, 39, v9), (10, 40, .pointer (some ⟨b3, 0, none⟩)), (11, 8, .pointer (some ⟨b4, 0, none⟩))]
def zrow (n : Nat) : Obj := .cells (Array.replicate n (.int .u16 0)) 64 (0, 0)
structure F7 (V0 V1 V2 : Value) (n : Nat) (w0 : World) (b : Nat → Bool) (w : World) (b1 b2 b3 b4 : Nat) (v9 : Value) : Prop where
 h9 : b 9 = true → v9 = .agg #[V0, V1, V2, slv b1 n, slv b2 n]
 bel : Below w0.heap.size w0 w
 h1 : b 5 = true → w.heap[b1]? = some (zrow n)
 h2 : b 8 = true → w.heap[b2]? = some (zrow n)
 ne : b 5 = true → b 8 = true → b1 ≠ b2
 h3 : b 10 = true → w.heap[b3]? = some (.cells #[V0, V1, V2, slv b1 n, slv b2 n] 69 (0, 0))
 h4 : b 11 = true → b 12 = false → w.heap[b4]? = some (.cells #[.pointer none] 59 (0, 0))
 h5 : b 12 = true → w.heap[b4]? = some (.cells #[.pointer (some ⟨b3, 0, none⟩)] 59 (0, 0))
 g1 : b 5 = true → w0.heap.size ≤ b1
 g2 : b 8 = true → w0.heap.size ≤ b2
 g3 : b 10 = true → w0.heap.size ≤ b3
 g4 : b 11 = true → w0.heap.size ≤ b4
def I7 (V0 V1 V2 : Value) (n : Nat) (w0 : World) (a0 : Act) (b : Nat → Bool) (a : Act) (w : World) : Prop := ∃ b1 b2 b3 b4 v9, a = putSel a0 b (L7 V0 V1 V2 n b1 b2 b3 b4 v9) ∧ F7 V0 V1 V2 n w0 b w b1 b2 b3 b4 v9
theorem F7.same {V0 V1 V2 : Value} {n : Nat} {w0 w : World} {b : Nat → Bool} {b1 b2 b3 b4 : Nat} {v9 : Value} (h : F7 V0 V1 V2 n w0 b w b1 b2 b3 b4 v9) {i : Nat} (hi : i ≠ 5 ∧ i ≠ 8 ∧ i ≠ 9 ∧ i ≠ 10 ∧ i ≠ 11 ∧ i ≠ 12) : F7 V0 V1 V2 n w0 (up b i) w b1 b2 b3 b4 v9 := by
 obtain ⟨i5, i8, i9, i10, i11, i12⟩ := hi
 have e9 := up_ne (b := b) (Ne.symm i9)
 have e5 := up_ne (b := b) (Ne.symm i5)
 have e8 := up_ne (b := b) (Ne.symm i8)
 have e10 := up_ne (b := b) (Ne.symm i10)
 have e11 := up_ne (b := b) (Ne.symm i11)
 have e12 := up_ne (b := b) (Ne.symm i12)
 exact ⟨by rw [e9]; exact h.h9, h.bel, by rw [e5]; exact h.h1, by rw [e8]; exact h.h2, by rw [e5, e8]; exact h.ne, by rw [e10]; exact h.h3, by rw [e11, e12]; exact h.h4, by rw [e12]; exact h.h5, by rw [e5]; exact h.g1, by rw [e8]; exact h.g2, by rw [e10]; exact h.g3, by rw [e11]; exact h.g4⟩
set_option maxRecDepth 100000 in
set_option maxHeartbeats 4000000 in
theorem region7 (A0 A1 A2 : Option Addr) (n n1 n2 c0 c1 c2 : Nat) (a0 : Act) (hsz : 97 ≤ a0.tmps.size) (e0 : a0.tmps[0]? = some (.slice A0 n c0)) (e4 : a0.tmps[4]? = some (.slice A1 n1 c1)) (e6 : a0.tmps[6]? = some (.slice A2 n2 c2)) (hn : n ≤ 8) (w0 w : World) (hw : Below w0.heap.size w0 w)
  (Q : Exit → Act → World → Prop) (hQ : ∀ a' w', I7 (.slice A0 n c0) (.slice A1 n1 c1) (.slice A2 n2 c2) n w0 a0 (fun _ => true) a' w' → Q .normal a' w') :
  (Code.region 7 (opsOf Tryd.f73 7) true).wp Tryd.prog Q a0 w := by
 refine start_ (n := 13) (S := fun _ => True) (ds := []) #[false, false, false, false, false, false, false, false, false, false, false, false, false] (by kernel_rfl) rfl rfl trivial (fun _ => ?_)
 refine inv_ (T := (true, [([], []), ([], []), ([], []), ([], []), ([3], [3]), ([4, 4], [4]), ([], []), ([6], [6]), ([7, 7], [7]), ([0, 1, 2, 5, 8], [0, 1, 2, 5, 8]), ([9], [9]), ([], []), ([11, 10, 0, 1, 2, 3, 4, 5, 6, 7, 8, 9, 10, 11], [10, 11])])) (B := [0, 0, 0, 0, 8, 24, 0, 64, 192, 511, 1023, 0, 4095]) [0, 1, 2, 3, 4, 5, 6, 7, 8, 9, 10, 11, 12]
  (I7 (.slice A0 n c0) (.slice A1 n1 c1) (.slice A2 n2 c2) n w0 a0) (by kernel_rfl) (by kernel_rfl) (by kernel_rfl) (by kernel_rfl) ?h0 ?hs ?hend
 case h0 => exact ⟨0, 0, 0, 0, undef, rfl, ⟨fun h => (by cases h), hw.drew, fun h => (by cases h), fun h => (by cases h), fun h => (by cases h), fun h => (by cases h), fun h => (by cases h), fun h => (by cases h), fun h => (by cases h), fun h => (by cases h), fun h => (by cases h), fun h => (by cases h)⟩⟩
 case hend =>
  rintro b a w h ⟨b1, b2, b3, b4, v9, ha, hF⟩
  have q : ∀ j, j < 13 → b j = true := by
   intro j hj
   refine h j ?_
   have : j = 0 ∨ j = 1 ∨ j = 2 ∨ j = 3 ∨ j = 4 ∨ j = 5 ∨ j = 6 ∨ j = 7 ∨ j = 8 ∨ j = 9 ∨ j = 10 ∨ j = 11 ∨ j = 12 := by omega
   rcases this with rfl | rfl | rfl | rfl | rfl | rfl | rfl | rfl | rfl | rfl | rfl | rfl | rfl <;> rfl
  refine hQ a w ⟨b1, b2, b3, b4, v9, ?_, ⟨fun _ => hF.h9 (q 9 (by omega)), hF.bel, fun _ => hF.h1 (q 5 (by omega)), fun _ => hF.h2 (q 8 (by omega)), fun _ _ => hF.ne (q 5 (by omega)) (q 8 (by omega)), fun _ => hF.h3 (q 10 (by omega)), fun _ h => (by cases h), fun _ => hF.h5 (q 12 (by omega)), fun _ => hF.g1 (q 5 (by omega)), fun _ => hF.g2 (q 8 (by omega)), fun _ => hF.g3 (q 10 (by omega)), fun _ => hF.g4 (q 11 (by omega))⟩⟩
  rw [ha]
  simp only [L7, putSel, q 0 (by omega), q 1 (by omega), q 2 (by omega), q 3 (by omega), q 4 (by omega), q 5 (by omega), q 6 (by omega), q 7 (by omega), q 8 (by omega), q 9 (by omega), q 10 (by omega), q 11 (by omega)]
 case hs =>
  refine steps_cons (step_val 30 rfl rfl rfl ?s0) (steps_cons (step_val 31 rfl rfl rfl ?s1) (steps_cons (step_val 32 rfl rfl rfl ?s2) (steps_cons (step_val 33 rfl rfl rfl ?s3) (steps_cons (step_val 34 rfl rfl rfl ?s4) (steps_cons (step_val 35 rfl rfl rfl ?s5) (steps_cons (step_val 36 rfl rfl rfl ?s6) (steps_cons (step_val 37 rfl rfl rfl ?s7) (steps_cons (step_val 38 rfl rfl rfl ?s8) (steps_cons (step_val 39 rfl rfl rfl ?s9) (steps_cons (step_val 40 rfl rfl rfl ?s10) (steps_cons (step_val 8 rfl rfl rfl ?s11) (steps_cons (step_skip rfl rfl rfl ?s12) steps_nil))))))))))))
  case s0 =>
   rintro b a w ⟨b1, b2, b3, b4, v9, rfl, hF⟩ hb d1 d2
   have v0 : (putSel a0 b (L7 (.slice A0 n c0) (.slice A1 n1 c1) (.slice A2 n2 c2) n b1 b2 b3 b4 v9)).eval (.tmp 0) = .slice A0 n c0 := eval_of ((putSel_off rfl).trans e0)
   exact ⟨_, w, op_move rfl v0, b1, b2, b3, b4, v9, putSel_upk 0 hb rfl rfl rfl, hF.same (by decide)⟩
  case s1 =>
   rintro b a w ⟨b1, b2, b3, b4, v9, rfl, hF⟩ hb d1 d2
   have v0 : (putSel a0 b (L7 (.slice A0 n c0) (.slice A1 n1 c1) (.slice A2 n2 c2) n b1 b2 b3 b4 v9)).eval (.tmp 4) = .slice A1 n1 c1 := eval_of ((putSel_off rfl).trans e4)
   exact ⟨_, w, op_move rfl v0, b1, b2, b3, b4, v9, putSel_upk 1 hb rfl rfl rfl, hF.same (by decide)⟩
  case s2 =>
   rintro b a w ⟨b1, b2, b3, b4, v9, rfl, hF⟩ hb d1 d2
   have v0 : (putSel a0 b (L7 (.slice A0 n c0) (.slice A1 n1 c1) (.slice A2 n2 c2) n b1 b2 b3 b4 v9)).eval (.tmp 6) = .slice A2 n2 c2 := eval_of ((putSel_off rfl).trans e6)
   exact ⟨_, w, op_move rfl v0, b1, b2, b3, b4, v9, putSel_upk 2 hb rfl rfl rfl, hF.same (by decide)⟩
  case s3 =>
   rintro b a w ⟨b1, b2, b3, b4, v9, rfl, hF⟩ hb d1 d2
   have v0 : (putSel a0 b (L7 (.slice A0 n c0) (.slice A1 n1 c1) (.slice A2 n2 c2) n b1 b2 b3 b4 v9)).eval (.tmp 0) = .slice A0 n c0 := eval_of ((putSel_off rfl).trans e0)
   exact ⟨_, w, op_move rfl v0, b1, b2, b3, b4, v9, putSel_upk 3 hb rfl rfl rfl, hF.same (by decide)⟩
  case s6 =>
   rintro b a w ⟨b1, b2, b3, b4, v9, rfl, hF⟩ hb d1 d2
   have v0 : (putSel a0 b (L7 (.slice A0 n c0) (.slice A1 n1 c1) (.slice A2 n2 c2) n b1 b2 b3 b4 v9)).eval (.tmp 0) = .slice A0 n c0 := eval_of ((putSel_off rfl).trans e0)
   exact ⟨_, w, op_move rfl v0, b1, b2, b3, b4, v9, putSel_upk 6 hb rfl rfl rfl, hF.same (by decide)⟩
  case s4 =>
   rintro b a w ⟨b1, b2, b3, b4, v9, rfl, hF⟩ hb d1 d2
   have v0 : (putSel a0 b (L7 (.slice A0 n c0) (.slice A1 n1 c1) (.slice A2 n2 c2) n b1 b2 b3 b4 v9)).eval (.tmp 33) = .slice A0 n c0 := eval_of (putSel_on (e := (3, 33, .slice A0 n c0)) 3 rfl rfl (d1 3 (by decide)) (Nat.ble_eq_true_of_le (Nat.le_trans (show 33 + 1 ≤ 97 by decide) hsz)))
   exact ⟨.int .i64 (n : Int), w, op_len 26 38 Tryd.underlying26 rfl v0, b1, b2, b3, b4, v9, putSel_upk 4 hb rfl rfl rfl, hF.same (by decide)⟩
  case s7 =>
   rintro b a w ⟨b1, b2, b3, b4, v9, rfl, hF⟩ hb d1 d2
   have v0 : (putSel a0 b (L7 (.slice A0 n c0) (.slice A1 n1 c1) (.slice A2 n2 c2) n b1 b2 b3 b4 v9)).eval (.tmp 36) = .slice A0 n c0 := eval_of (putSel_on (e := (6, 36, .slice A0 n c0)) 6 rfl rfl (d1 6 (by decide)) (Nat.ble_eq_true_of_le (Nat.le_trans (show 36 + 1 ≤ 97 by decide) hsz)))
   exact ⟨.int .i64 (n : Int), w, op_len 26 38 Tryd.underlying26 rfl v0, b1, b2, b3, b4, v9, putSel_upk 7 hb rfl rfl rfl, hF.same (by decide)⟩
  case s5 =>
   rintro b a w ⟨b1, b2, b3, b4, v9, rfl, hF⟩ hb d1 d2
   have u34 : (putSel a0 b (L7 (.slice A0 n c0) (.slice A1 n1 c1) (.slice A2 n2 c2) n b1 b2 b3 b4 v9)).eval (.tmp 34) = .int .i64 (n : Int) := eval_of (putSel_on (e := (4, 34, .int .i64 (n : Int))) 4 rfl rfl (d1 4 (by decide)) (Nat.ble_eq_true_of_le (Nat.le_trans (show 34 + 1 ≤ 97 by decide) hsz)))
   have keep : ∀ {x o}, w.heap[x]? = some o → (w.alloc (zrow n)).heap[x]? = some o := fun h => (Below.heap_alloc w _ _ (Array.getElem?_eq_some_iff.1 h).1).trans h
   have hsz2 : w0.heap.size ≤ w.heap.size := hF.bel.size
   refine ⟨slv w.heap.size n, w.alloc (zrow n), op_mkslice rfl (by rw [u34]; exact mk_sets n hn w), w.heap.size, b2, b3, b4, v9, putSel_upk 5 hb rfl rfl rfl, ?_⟩
   exact ⟨fun q => (by rw [up_ne (show 9 ≠ 5 by decide), d2 9 (by decide)] at q; cases q), hF.bel.alloc hsz2 _, fun _ => World.alloc_heap_new w _, by rw [up_ne (show 8 ≠ 5 by decide)]; exact fun q => keep (hF.h2 q), fun q1 q2 => (Nat.ne_of_gt (Array.getElem?_eq_some_iff.1 (hF.h2 (by rw [up_ne (show 8 ≠ 5 by decide)] at q2; exact q2))).1), fun q => (by rw [up_ne (show 10 ≠ 5 by decide), d2 10 (by decide)] at q; cases q), by rw [up_ne (show 11 ≠ 5 by decide), up_ne (show 12 ≠ 5 by decide)]; exact fun q q' => keep (hF.h4 q q'), fun q => (by rw [up_ne (show 12 ≠ 5 by decide), d2 12 (by decide)] at q; cases q), fun _ => hsz2, by rw [up_ne (show 8 ≠ 5 by decide)]; exact hF.g2, fun q => (by rw [up_ne (show 10 ≠ 5 by decide), d2 10 (by decide)] at q; cases q), by rw [up_ne (show 11 ≠ 5 by decide)]; exact hF.g4⟩
  case s8 =>
   rintro b a w ⟨b1, b2, b3, b4, v9, rfl, hF⟩ hb d1 d2
   have u37 : (putSel a0 b (L7 (.slice A0 n c0) (.slice A1 n1 c1) (.slice A2 n2 c2) n b1 b2 b3 b4 v9)).eval (.tmp 37) = .int .i64 (n : Int) := eval_of (putSel_on (e := (7, 37, .int .i64 (n : Int))) 7 rfl rfl (d1 7 (by decide)) (Nat.ble_eq_true_of_le (Nat.le_trans (show 37 + 1 ≤ 97 by decide) hsz)))
   have keep : ∀ {x o}, w.heap[x]? = some o → (w.alloc (zrow n)).heap[x]? = some o := fun h => (Below.heap_alloc w _ _ (Array.getElem?_eq_some_iff.1 h).1).trans h
   have hsz2 : w0.heap.size ≤ w.heap.size := hF.bel.size
   refine ⟨slv w.heap.size n, w.alloc (zrow n), op_mkslice rfl (by rw [u37]; exact mk_sets n hn w), b1, w.heap.size, b3, b4, v9, putSel_upk 8 hb rfl rfl rfl, ?_⟩
   exact ⟨fun q => (by rw [up_ne (show 9 ≠ 8 by decide), d2 9 (by decide)] at q; cases q), hF.bel.alloc hsz2 _, by rw [up_ne (show 5 ≠ 8 by decide)]; exact fun q => keep (hF.h1 q), fun _ => World.alloc_heap_new w _, fun q1 q2 => (Nat.ne_of_lt (Array.getElem?_eq_some_iff.1 (hF.h1 (by rw [up_ne (show 5 ≠ 8 by decide)] at q1; exact q1))).1), fun q => (by rw [up_ne (show 10 ≠ 8 by decide), d2 10 (by decide)] at q; cases q), by rw [up_ne (show 11 ≠ 8 by decide), up_ne (show 12 ≠ 8 by decide)]; exact fun q q' => keep (hF.h4 q q'), fun q => (by rw [up_ne (show 12 ≠ 8 by decide), d2 12 (by decide)] at q; cases q), by rw [up_ne (show 5 ≠ 8 by decide)]; exact hF.g1, fun _ => hsz2, fun q => (by rw [up_ne (show 10 ≠ 8 by decide), d2 10 (by decide)] at q; cases q), by rw [up_ne (show 11 ≠ 8 by decide)]; exact hF.g4⟩
  case s9 =>
   rintro b a w ⟨b1, b2, b3, b4, v9, rfl, hF⟩ hb d1 d2
   have u30 : (putSel a0 b (L7 (.slice A0 n c0) (.slice A1 n1 c1) (.slice A2 n2 c2) n b1 b2 b3 b4 v9)).eval (.tmp 30) = .slice A0 n c0 := eval_of (putSel_on (e := (0, 30, .slice A0 n c0)) 0 rfl rfl (d1 0 (by decide)) (Nat.ble_eq_true_of_le (Nat.le_trans (show 30 + 1 ≤ 97 by decide) hsz)))
   have u31 : (putSel a0 b (L7 (.slice A0 n c0) (.slice A1 n1 c1) (.slice A2 n2 c2) n b1 b2 b3 b4 v9)).eval (.tmp 31) = .slice A1 n1 c1 := eval_of (putSel_on (e := (1, 31, .slice A1 n1 c1)) 1 rfl rfl (d1 1 (by decide)) (Nat.ble_eq_true_of_le (Nat.le_trans (show 31 + 1 ≤ 97 by decide) hsz)))
   have u32 : (putSel a0 b (L7 (.slice A0 n c0) (.slice A1 n1 c1) (.slice A2 n2 c2) n b1 b2 b3 b4 v9)).eval (.tmp 32) = .slice A2 n2 c2 := eval_of (putSel_on (e := (2, 32, .slice A2 n2 c2)) 2 rfl rfl (d1 2 (by decide)) (Nat.ble_eq_true_of_le (Nat.le_trans (show 32 + 1 ≤ 97 by decide) hsz)))
   have u35 : (putSel a0 b (L7 (.slice A0 n c0) (.slice A1 n1 c1) (.slice A2 n2 c2) n b1 b2 b3 b4 v9)).eval (.tmp 35) = slv b1 n := eval_of (putSel_on (e := (5, 35, slv b1 n)) 5 rfl rfl (d1 5 (by decide)) (Nat.ble_eq_true_of_le (Nat.le_trans (show 35 + 1 ≤ 97 by decide) hsz)))
   have u38 : (putSel a0 b (L7 (.slice A0 n c0) (.slice A1 n1 c1) (.slice A2 n2 c2) n b1 b2 b3 b4 v9)).eval (.tmp 38) = slv b2 n := eval_of (putSel_on (e := (8, 38, slv b2 n)) 8 rfl rfl (d1 8 (by decide)) (Nat.ble_eq_true_of_le (Nat.le_trans (show 38 + 1 ≤ 97 by decide) hsz)))
   refine ⟨.agg #[.slice A0 n c0, .slice A1 n1 c1, .slice A2 n2 c2, slv b1 n, slv b2 n], w, op_build rfl ?_, b1, b2, b3, b4, _, putSel_upk 9 hb rfl rfl rfl, ?_⟩
   ·simp only [List.map_toArray, List.map_cons, List.map_nil, u30, u31, u32, u35, u38]
    exact Go.run_build _ _ _ _ (by kernel_rfl)
   ·exact ⟨fun _ => rfl, hF.bel, by rw [up_ne (show 5 ≠ 9 by decide)]; exact hF.h1, by rw [up_ne (show 8 ≠ 9 by decide)]; exact hF.h2, by rw [up_ne (show 5 ≠ 9 by decide), up_ne (show 8 ≠ 9 by decide)]; exact hF.ne, by rw [up_ne (show 10 ≠ 9 by decide)]; exact hF.h3, by rw [up_ne (show 11 ≠ 9 by decide), up_ne (show 12 ≠ 9 by decide)]; exact hF.h4, by rw [up_ne (show 12 ≠ 9 by decide)]; exact hF.h5, by rw [up_ne (show 5 ≠ 9 by decide)]; exact hF.g1, by rw [up_ne (show 8 ≠ 9 by decide)]; exact hF.g2, by rw [up_ne (show 10 ≠ 9 by decide)]; exact hF.g3, by rw [up_ne (show 11 ≠ 9 by decide)]; exact hF.g4⟩
  case s10 =>
   rintro b a w ⟨b1, b2, b3, b4, v9, rfl, hF⟩ hb d1 d2
   have q9 := d1 9 (by decide)
   have u39 : (putSel a0 b (L7 (.slice A0 n c0) (.slice A1 n1 c1) (.slice A2 n2 c2) n b1 b2 b3 b4 v9)).eval (.tmp 39) = v9 := eval_of (putSel_on (e := (9, 39, v9)) 9 rfl rfl q9 (Nat.ble_eq_true_of_le (Nat.le_trans (show 39 + 1 ≤ 97 by decide) hsz)))
   have keep : ∀ {x o}, w.heap[x]? = some o → (w.alloc (.cells #[.slice A0 n c0, .slice A1 n1 c1, .slice A2 n2 c2, slv b1 n, slv b2 n] 69 (0, 0))).heap[x]? = some o := fun h => (Below.heap_alloc w _ _ (Array.getElem?_eq_some_iff.1 h).1).trans h
   have hsz2 : w0.heap.size ≤ w.heap.size := hF.bel.size
   refine ⟨.pointer (some ⟨w.heap.size, 0, none⟩), w.alloc (.cells #[.slice A0 n c0, .slice A1 n1 c1, .slice A2 n2 c2, slv b1 n, slv b2 n] 69 (0, 0)), op_box rfl (by rw [u39, hF.h9 q9]; simp [Instr.box, newVar, newRow, Value.cells]), b1, b2, w.heap.size, b4, v9, putSel_upk 10 hb rfl rfl rfl, ?_⟩
   exact ⟨by rw [up_ne (show 9 ≠ 10 by decide)]; exact hF.h9, hF.bel.alloc hsz2 _, by rw [up_ne (show 5 ≠ 10 by decide)]; exact fun q => keep (hF.h1 q), by rw [up_ne (show 8 ≠ 10 by decide)]; exact fun q => keep (hF.h2 q), by rw [up_ne (show 5 ≠ 10 by decide), up_ne (show 8 ≠ 10 by decide)]; exact hF.ne, fun _ => World.alloc_heap_new w _, by rw [up_ne (show 11 ≠ 10 by decide), up_ne (show 12 ≠ 10 by decide)]; exact fun q q' => keep (hF.h4 q q'), fun q => (by rw [up_ne (show 12 ≠ 10 by decide), d2 12 (by decide)] at q; cases q), by rw [up_ne (show 5 ≠ 10 by decide)]; exact hF.g1, by rw [up_ne (show 8 ≠ 10 by decide)]; exact hF.g2, fun _ => hsz2, by rw [up_ne (show 11 ≠ 10 by decide)]; exact hF.g4⟩
  case s11 =>
   rintro b a w ⟨b1, b2, b3, b4, v9, rfl, hF⟩ hb d1 d2
   have keep : ∀ {x o}, w.heap[x]? = some o → (w.alloc (.cells #[.pointer none] 59 (0, 0))).heap[x]? = some o := fun h => (Below.heap_alloc w _ _ (Array.getElem?_eq_some_iff.1 h).1).trans h
   have hsz2 : w0.heap.size ≤ w.heap.size := hF.bel.size
   refine ⟨.pointer (some ⟨w.heap.size, 0, none⟩), w.alloc (.cells #[.pointer none] 59 (0, 0)), op_alloc rfl ?_, b1, b2, b3, w.heap.size, v9, putSel_upk 11 hb rfl rfl rfl, ?_⟩
   ·obtain ⟨i0, hi, hz0, hz1, hz2⟩ := info_parts infoPG
    simp [Instr.alloc, zeroValue, typeInfo, hi, hz0, newVar, newRow, Value.cells]
   ·exact ⟨by rw [up_ne (show 9 ≠ 11 by decide)]; exact hF.h9, hF.bel.alloc hsz2 _, by rw [up_ne (show 5 ≠ 11 by decide)]; exact fun q => keep (hF.h1 q), by rw [up_ne (show 8 ≠ 11 by decide)]; exact fun q => keep (hF.h2 q), by rw [up_ne (show 5 ≠ 11 by decide), up_ne (show 8 ≠ 11 by decide)]; exact hF.ne, by rw [up_ne (show 10 ≠ 11 by decide)]; exact fun q => keep (hF.h3 q), fun _ _ => World.alloc_heap_new w _, fun q => (by rw [up_ne (show 12 ≠ 11 by decide), d2 12 (by decide)] at q; cases q), by rw [up_ne (show 5 ≠ 11 by decide)]; exact hF.g1, by rw [up_ne (show 8 ≠ 11 by decide)]; exact hF.g2, by rw [up_ne (show 10 ≠ 11 by decide)]; exact hF.g3, fun _ => hsz2⟩
  case s12 =>
   rintro b a w ⟨b1, b2, b3, b4, v9, rfl, hF⟩ hb d1 d2
   have u8 : (putSel a0 b (L7 (.slice A0 n c0) (.slice A1 n1 c1) (.slice A2 n2 c2) n b1 b2 b3 b4 v9)).eval (.tmp 8) = .pointer (some ⟨b4, 0, none⟩) := eval_of (putSel_on (e := (11, 8, .pointer (some ⟨b4, 0, none⟩))) 11 rfl rfl (d1 11 (by decide)) (Nat.ble_eq_true_of_le (Nat.le_trans (show 8 + 1 ≤ 97 by decide) hsz)))
   have u40 : (putSel a0 b (L7 (.slice A0 n c0) (.slice A1 n1 c1) (.slice A2 n2 c2) n b1 b2 b3 b4 v9)).eval (.tmp 40) = .pointer (some ⟨b3, 0, none⟩) := eval_of (putSel_on (e := (10, 40, .pointer (some ⟨b3, 0, none⟩))) 10 rfl rfl (d1 10 (by decide)) (Nat.ble_eq_true_of_le (Nat.le_trans (show 40 + 1 ≤ 97 by decide) hsz)))
   have hb4 := hF.h4 (d1 11 (by decide)) hb
   have hlt := (Array.getElem?_eq_some_iff.1 hb4).1
   have far : ∀ {x o}, w.heap[x]? = some o → x ≠ b4 → (w.setCell ⟨b4, 0, none⟩ (.pointer (some ⟨b3, 0, none⟩))).heap[x]? = some o := fun h hne => (Below.heap_setCell w _ _ _ hne).trans h
   have hsz2 : w0.heap.size ≤ w.heap.size := hF.bel.size
   have n1 : ∀ {x cs t}, w.heap[x]? = some (.cells cs t (0, 0)) → t ≠ 59 → x ≠ b4 := by
    rintro x cs t h ht rfl
    rw [hb4] at h
    injection h with h
    injection h with h1 h2
    exact ht h2.symm
   refine ⟨w.setCell ⟨b4, 0, none⟩ (.pointer (some ⟨b3, 0, none⟩)), op_store (u := ()) rfl ?_, b1, b2, b3, b4, v9, rfl, ?_⟩
   ·rw [u8, u40]
    exact (run_store_run 59 (.pointer (some ⟨b3, 0, none⟩)) [.pointer (some ⟨b3, 0, none⟩)] hb4 rfl (by kernel_rfl) (by simp) (by simp [Value.oneCell'])).trans rfl
   ·exact ⟨by rw [up_ne (show 9 ≠ 12 by decide)]; exact hF.h9, hF.bel.setCell (hF.g4 (d1 11 (by decide))) _, by rw [up_ne (show 5 ≠ 12 by decide)]; exact fun q => far (hF.h1 q) (n1 (hF.h1 q) (by decide)), by rw [up_ne (show 8 ≠ 12 by decide)]; exact fun q => far (hF.h2 q) (n1 (hF.h2 q) (by decide)), by rw [up_ne (show 5 ≠ 12 by decide), up_ne (show 8 ≠ 12 by decide)]; exact hF.ne,
     by rw [up_ne (show 10 ≠ 12 by decide)]; exact fun q => far (hF.h3 q) (n1 (hF.h3 q) (by decide)), fun _ q => (by rw [up_self] at q; cases q), fun _ => (blk_set hb4 0 _).trans rfl, by rw [up_ne (show 5 ≠ 12 by decide)]; exact hF.g1, by rw [up_ne (show 8 ≠ 12 by decide)]; exact hF.g2, by rw [up_ne (show 10 ≠ 12 by decide)]; exact hF.g3, by rw [up_ne (show 11 ≠ 12 by decide)]; exact hF.g4⟩
end Go.Proofs.YtdmeiiedbhfniaaDoor.P
end
section
namespace Go.Proofs.YtdmeiiedbhfniaaDoor.P
open Go.RowKit Go.Shelf YtdmeiiedbhfniaaDoorW.PrintWords YtdmeiiedbhfniaaDoorW.PrintLast YtdmeiiedbhfniaaDoorW.PrintMore
theorem withI_quiet (a i : Int) (h : 0 ≤ i) (w : World) (m : Nat) : Calls Tryd.prog 51 #[.int .u16 a, .int .i64 i] (w.drewN m) fun e w' => e = .returned (.int .u16 (withI a i)) ∧ ∃ m', w' = w.drewN m' := by
 refine (withI_calls a i h (w.drewN m)).mono ?_
 rintro e w' ⟨rfl, ⟨k, rfl⟩⟩
 exact ⟨rfl, m + k, by rw [World.drewN_drewN]⟩
theorem shl_one : ∀ i, i < 8 → shl .u16 1 ((i : Nat) : Int) = ((2 ^ i : Nat) : Int) := by decide +kernel
theorem withI_nat (s i : Nat) (hs : s < 256) (hi : i < 8) : withI (s : Int) (i : Int) = ((s ||| 2 ^ i : Nat) : Int) := by
 unfold withI
 rw [shl_one i hi, u16_or_nat s (2 ^ i) (by omega) (Nat.lt_of_lt_of_le (Nat.pow_lt_pow_right (by omega) hi) (by decide))]
theorem hasB_nat : ∀ s, s < 256 → ∀ i, i < 8 → hasB ((s : Nat) : Int) ((i : Nat) : Int) = s.testBit i := by decide +kernel
theorem orI_nat (a b : Nat) (ha : a < 256) (hb : b < 256) : Go.bits .or .u16 (a : Int) (b : Int) = ((a ||| b : Nat) : Int) := u16_or_nat a b (by omega) (by omega)
theorem or_lt8 {a b n : Nat} (ha : a < 2 ^ n) (hb : b < 2 ^ n) : a ||| b < 2 ^ n := Nat.or_lt_two_pow ha hb
theorem pow_lt8 {i n : Nat} (h : i < n) : 2 ^ i < 2 ^ n := Nat.pow_lt_pow_right (by omega) h
theorem with_lt {s i n : Nat} (hs : s < 2 ^ n) (hi : i < n) : s ||| 2 ^ i < 2 ^ n := Nat.or_lt_two_pow hs (pow_lt8 hi)
theorem lt256 {s n : Nat} (hs : s < 2 ^ n) (hn : n ≤ 8) : s < 256 := Nat.lt_of_lt_of_le hs (Nat.pow_le_pow_right (by omega) hn)
theorem bit_lt {s n i : Nat} (hs : s < 2 ^ n) (h : s.testBit i = true) : i < n := by
 rcases Nat.lt_or_ge i n with h' | h'
 ·exact h'
 ·rw [Nat.testBit_lt_two_pow (Nat.lt_of_lt_of_le hs (Nat.pow_le_pow_right (by omega) h'))] at h
  cases h
def nI (l : List Nat) : List Int := l.map fun (x : Nat) => (x : Int)
theorem nI_length (l : List Nat) : (nI l).length = l.length := by simp [nI]
theorem rd_nI (l : List Nat) (i : Nat) : rd (nI l) (i : Int) = ((l.getD i 0 : Nat) : Int) := by
 simp only [rd, nI, Int.toNat_natCast, List.getD_eq_getElem?_getD, List.getElem?_map]
 cases l[i]? <;> rfl
theorem nI_append (l m : List Nat) : nI (l ++ m) = nI l ++ nI m := by simp [nI]
theorem cell_alloc {w : World} {a : Addr} {v : Value} (h : w.cell? a = some v) (o : Obj) : (w.alloc o).cell? a = some v :=
 (Below.cell ((Below.refl _ w).alloc (Nat.le_refl _) o) (World.block_lt_of_cell? w a h)).trans h
def rowU (l : List Nat) : Obj := .cells (((nI l).map (Value.int .u16)).toArray) 64 (0, 0)
theorem rowU_get (l : List Nat) (i : Nat) (h : i < l.length) : (((nI l).map (Value.int .u16)).toArray)[i]? = some (.int .u16 ((l.getD i 0 : Nat) : Int)) := by
 simp [nI, List.getD_eq_getElem?_getD, h]
theorem rowU_cell {W : World} {b : Nat} {l : List Nat} (h : W.heap[b]? = some (rowU l)) (i : Nat) (hi : i < l.length) : W.cell? ⟨b, i, none⟩ = some (.int .u16 ((l.getD i 0 : Nat) : Int)) := (blk_cell h i).trans (rowU_get l i hi)
theorem rowU_set {W : World} {b : Nat} {l : List Nat} (h : W.heap[b]? = some (rowU l)) (i x : Nat) : (W.setCell ⟨b, i, none⟩ (.int .u16 (x : Int))).heap[b]? = some (rowU (l.set i x)) := by
 rw [blk_set h i]
 simp [rowU, nI]
theorem rowU_reads {W : World} {b : Nat} {l : List Nat} (h : W.heap[b]? = some (rowU l)) (hl : l.length ≤ 8) : ReadsOf (Value.int .u16) (0 : Int) W (some ⟨b, 0, none⟩) l.length (nI l) := by
 refine ⟨nI_length l, by omega, fun _ => ⟨_, rfl, fun i hi => ?_⟩⟩
 have h1 := rowU_cell h i hi
 have e : (⟨b, 0, none⟩ : Addr).add i = ⟨b, i, none⟩ := by simp [Addr.add]; exact fun h => h.symm
 rw [e, h1]
 have h2 := rd_nI l i
 simp only [rd, Int.toNat_natCast] at h2
 rw [h2]
theorem rowU_zero (n : Nat) : Obj.cells (Array.replicate n (.int .u16 0)) 64 (0, 0) = rowU (List.replicate n 0) := by
 simp [rowU, nI]
end Go.Proofs.YtdmeiiedbhfniaaDoor.P
end
section
namespace Go.Proofs.YtdmeiiedbhfniaaDoor
open Go.RowKit Go.Shelf YtdmeiiedbhfniaaDoorW.PrintWords YtdmeiiedbhfniaaDoorW.PrintLast YtdmeiiedbhfniaaDoorW.PrintMore
def setAll : Array Value → List Tmp → List Value → Array Value
 | T, s :: ss, v :: vs => setAll (T.setIfInBounds s v) ss vs
 | T, _, _ => T
theorem wp_loop_slots {P : Program} {Q : Exit → Act → World → Prop} {T : Array Value} {ds : List Deferred} {w : World} {c : Code} (ss : List Tmp) (vs : List Value) (R : Nat → List Value → List Deferred → World → Prop) (n₀ : Nat)
  (hT : setAll T ss vs = T) (h₀ : R n₀ vs ds w)
  (round : ∀ n vs ds w, R n vs ds w → ∀ K : Act → World → Prop, (∀ n' vs' ds' w', n' < n → R n' vs' ds' w' → K { tmps := setAll T ss vs', defers := ds' } w') → c.wp P (Exit.then K Q) { tmps := setAll T ss vs, defers := ds } w) :
  (Code.loop c).wp P Q { tmps := T, defers := ds } w := by
 refine wp_loop_ghost (fun n a w => ∃ vs ds, a = { tmps := setAll T ss vs, defers := ds } ∧ R n vs ds w) n₀ ⟨vs, ds, by rw [hT], h₀⟩ ?_
 rintro n a w ⟨vs, ds, rfl, h⟩
 exact round n vs ds w h _ (fun n' vs' ds' w' hlt hR => ⟨n', hlt, vs', ds', rfl, hR⟩)
def MarksLt (B : Nat) (ds : List Deferred) : Prop := ∀ d ∈ ds, ∃ D, d = markOf D ∧ D < B
theorem Marks.ltOf {B : Nat} {ds : List Deferred} {W : World} (h : Marks B ds W) : MarksLt W.heap.size ds := h.lt
theorem MarksLt.le {B B' : Nat} {ds : List Deferred} (h : MarksLt B ds) (hle : B ≤ B') : MarksLt B' ds := fun d hd => by
 obtain ⟨D, e, hD⟩ := h d hd
 exact ⟨D, e, by omega⟩
theorem Marks.block {B B1 : Nat} : ∀ {ds : List Deferred} {W W' : World}, Marks B ds W → MarksLt B1 ds → (∀ k, k < B1 → W'.heap[k]? = W.heap[k]?) → Marks B ds W'
 | [], _, _, _, _, _ => trivial
 | d :: ds, W, W', ⟨⟨D, he, hB, hD, hn⟩, h⟩, hl, hk => by
  obtain ⟨D', he', hD'⟩ := hl d List.mem_cons_self
  have : D = D' := by rw [he] at he'; simpa [markOf] using he'
  subst this
  exact ⟨⟨D, he, hB, (hk D hD').trans hD, hn⟩, h.block (fun d' h' => hl d' (List.mem_cons_of_mem _ h')) hk⟩
theorem own_marks {β : Type} (B0 B : Nat) (ds : List Deferred) (hl : MarksLt B ds) : OwnFrom B (fun (_ : β) W => Marks B0 ds W) := by
 intro s W W' row h hg hr
 have hs := h.ltOf
 have : ∀ (ds : List Deferred), Marks B0 ds W → MarksLt B ds → Marks B0 ds W' := by
  intro ds
  induction ds with
  | nil => intro _ _; trivial
  | cons d ds ih =>
   rintro ⟨⟨D, he, hB, hD, hn⟩, h⟩ hl
   obtain ⟨D', he', hD'⟩ := hl d List.mem_cons_self
   have e : D = D' := by rw [he] at he'; simpa [markOf] using he'
   subst e
   refine ⟨⟨D, he, hB, (hg.block D (Array.getElem?_eq_some_iff.1 hD).1 (fun e => ?_)).trans hD, hn⟩, ih h (fun d' h' => hl d' (List.mem_cons_of_mem _ h'))⟩
   have := (hr D e.symm).1
   omega
 exact this ds h hl
theorem Marks.cons {B D : Nat} {ds : List Deferred} {W : World} (h : Marks B ds W) (hB : B ≤ D) (hD : W.heap[D]? = some (.deferred (some []))) (hl : MarksLt D ds) : Marks B (markOf D :: ds) W :=
 ⟨⟨D, rfl, hB, hD, fun d hd e => by
  obtain ⟨D', e', hD'⟩ := hl d hd
  rw [e'] at e
  have : D' = D := by simpa [markOf] using e
  omega⟩, h⟩
theorem own_blk {β : Type} (B b : Nat) (cs : β → Array Value) (t : TypeId) : OwnFrom B (fun s W => W.heap[b]? = some (.cells (cs s) t (0, 0))) := by
 intro s W W' row h hg hr
 refine blk_grown h hg (fun e => ?_)
 obtain ⟨_, o, ho, hc⟩ := hr b e.symm
 rw [h] at ho
 cases ho
 cases hc
end Go.Proofs.YtdmeiiedbhfniaaDoor
end
section
namespace Go.Proofs.YtdmeiiedbhfniaaDoor
open Go.RowKit
section
variable {P : Program} {ops hd : Array Oper} {md : Region.Mode} {C : World → Prop} {n : Nat}
structure Ag (n m : Nat) (lh lf : Array Bool) : Prop where
 sh : lh.size = n
 sf : lf.size = m
 lo : ∀ j, j < n → lf[j]? = lh[j]?
 hi : ∀ t, n ≤ t → t < m → lf[t]? = some false
def headB (md : Region.Mode) (ops : Array Oper) (n : Nat) : Bool :=
 decide (n < ops.size) && ((List.range n).all fun i => match ops[i]? with | some o => o.guard.isNone && o.after.all (fun e => !Region.binds md e || decide (e.on < i)) | none => false) &&
 ((List.range n).all fun i => Region.waitsFor md ops n i) && Region.chainB md ops n && Region.seqB md ops (ops.size - n) n (Array.replicate n true ++ Array.replicate (ops.size - n) false)
theorem getD_of {l : Array Bool} {j : Nat} {d : Bool} : l.getD j d = (l[j]?).getD d := by simp [Array.getD_eq_getD_getElem?]
theorem Ag.put {m i : Nat} {lh lf : Array Bool} (h : Ag n m lh lf) (hi : i < n) (hm : n ≤ m) : Ag n m (lh.setIfInBounds i true) (lf.setIfInBounds i true) := by
 refine ⟨by simp [h.sh], by simp [h.sf], fun j hj => ?_, fun t ht hm' => ?_⟩
 ·simp only [Array.getElem?_setIfInBounds, h.lo j hj, h.sh, h.sf]
  by_cases hij : i = j
  ·simp [hij, hj, show j < m by omega]
  ·simp [hij]
 ·simp only [Array.getElem?_setIfInBounds]
  rw [if_neg (by omega)]
  exact h.hi t ht hm'
theorem wpAny_of_qhead {Q : Act → Prop} {Q' : Exit → Act → World → Prop} {tl : List Oper} (hh : ∀ j, j < n → hd[j]? = ops[j]?) (hs : hd.size = n) (hB : headB md ops n = true)
  (htl : ∀ j, tl[j]? = ops[n + j]?) (hlen : tl.length = ops.size - n) (hQ : ∀ a w, C w → Q a → wpList P ops Q' tl a w) :
  ∀ (f : Nat) (lh lf : Array Bool) (a : Act) (w : World), Ag n ops.size lh lf → lh.toList.count false = f → C w → wpAnyQ P md hd C Q f lh a → wpAny P md ops Q' (f + tl.length) lf a w := by
 simp only [headB, Bool.and_eq_true, decide_eq_true_eq, List.all_eq_true, List.mem_range] at hB
 obtain ⟨⟨⟨⟨hn, hrow⟩, hwait⟩, hchain⟩, hseq⟩ := hB
 have row : ∀ i, i < n → ∃ o, ops[i]? = some o ∧ o.guard = none ∧ ∀ e ∈ o.after, Region.binds md e = true → e.on < i := by
  intro i hi
  have h := hrow i hi
  cases ho : ops[i]? with
  | none => rw [ho] at h; cases h
  | some o =>
   rw [ho] at h
   simp only [Bool.and_eq_true, Option.isNone_iff_eq_none, Array.all_eq_true_iff_forall_mem] at h
   refine ⟨o, rfl, h.1, fun e he hb => ?_⟩
   have h2 := h.2 e he
   simpa [hb] using h2
 intro f
 induction f with
 | zero =>
  intro lh lf a w hA hc hC h
  have all : ∀ j, j < n → lf[j]? = some true := by
   intro j hj
   rw [hA.lo j hj]
   have hj' : j < lh.size := by rw [hA.sh]; exact hj
   rw [Array.getElem?_eq_getElem hj']
   have : lh[j] ∈ lh.toList := by simp
   cases hv : lh[j] with
   | true => rfl
   | false => exact absurd (List.count_eq_zero.1 hc) (by simp only [Classical.not_not]; rw [← hv]; exact this)
  have e : lf = Array.replicate n true ++ Array.replicate (ops.size - n) false := by
   apply Array.ext_getElem?
   intro j
   rw [Array.getElem?_append]
   by_cases hj : j < n
   ·simp [hj, all j hj]
   ·by_cases hj2 : j < ops.size
    ·simp [hj, hA.hi j (by omega) hj2, show j - n < ops.size - n by omega]
    ·simp [hj, show ¬ j - n < ops.size - n by omega]
     rw [hA.sf]; omega
  rw [Nat.zero_add]
  refine wpAny_of_seq tl n lf a w htl ?_ (hQ a w hC h.2)
  rw [hlen, e]
  exact hseq
 | succ f ih =>
  intro lh lf a w hA hc hC h
  rw [show f + 1 + tl.length = (f + tl.length) + 1 by omega]
  -- the first one that is not listed
  have some0 : ∃ k, k < n ∧ lf[k]? = some false ∧ ∀ j, j < k → lf[j]? = some true := by
   have hm : false ∈ lh.toList := List.count_pos_iff.1 (by omega)
   obtain ⟨k, hk, hv⟩ := List.getElem_of_mem hm
   have hk0 : k < n := by rw [← hA.sh]; simpa using hk
   have hk1 : lf[k]? = some false := by rw [hA.lo k hk0, Array.getElem?_eq_getElem (by simpa using hk)]; simpa using hv
   clear hv hk
   induction k using Nat.strongRecOn with
   | _ k ihk =>
    by_cases hx : ∃ j, j < k ∧ lf[j]? = some false
    ·obtain ⟨j, hj, hj2⟩ := hx
     exact ihk j hj (by omega) hj2
    ·refine ⟨k, hk0, hk1, fun j hj => ?_⟩
     have hjs : j < lf.size := by rw [hA.sf]; omega
     rw [Array.getElem?_eq_getElem hjs]
     cases hv : lf[j] with
     | true => rfl
     | false => exact absurd ⟨j, hj, by rw [Array.getElem?_eq_getElem hjs, hv]⟩ hx
  obtain ⟨k, hk, hkf, hkl⟩ := some0
  obtain ⟨ok, hok, _, hkd⟩ := row k hk
  have hkr : k ∈ Region.ready md ops lf := mem_ready.2 ⟨by rw [getD_of, hkf]; rfl, ok, hok, fun e he hb => by rw [getD_of, hkl _ (hkd e he hb)]; rfl⟩
  refine ⟨fun h0 => (by rw [h0] at hkr; cases hkr), fun i hi => ?_⟩
  obtain ⟨hi1, oi, hoi, hid⟩ := mem_ready.1 hi
  have him : i < ops.size := (Array.getElem?_eq_some_iff.1 hoi).1
  -- no other one is ready yet
  have hin : i < n := by
   rcases Nat.lt_or_ge i n with h' | h'
   ·exact h'
   ·exfalso
    by_cases hin : i = n
    ·obtain ⟨o', ho', e, he, hb, hon⟩ := Region.waitsFor_spec (hwait k hk)
     rw [← hin, hoi] at ho'
     cases ho'
     have := hid e he hb
     rw [hon, getD_of, hkf] at this
     cases this
    ·have h1 := List.all_eq_true.1 hchain i (List.mem_range.2 him)
     simp only [Bool.or_eq_true, decide_eq_true_eq] at h1
     rcases h1 with h1 | h1
     ·omega
     ·obtain ⟨o', ho', e, he, hb, hon⟩ := Region.waitsFor_spec h1
      rw [hoi] at ho'
      cases ho'
      have := hid e he hb
      rw [hon, getD_of, hA.hi (i - 1) (by omega) (by omega)] at this
      cases this
  obtain ⟨o', ho', hg, hdep⟩ := row i hin
  rw [hoi] at ho'
  cases ho'
  have hih : i ∈ Region.ready md hd lh := by
   refine mem_ready.2 ⟨?_, oi, (hh i hin).trans hoi, fun e he hb => ?_⟩
   ·rw [getD_of, ← hA.lo i hin, ← getD_of]; exact hi1
   ·have := hid e he hb
    rw [getD_of, hA.lo _ (by have := hdep e he hb; omega), ← getD_of] at this
    exact this
  have hil : i < lh.toList.length := by simp [hA.sh, hin]
  have hif : lh.toList[i] = false := by
   have := (mem_ready.1 hih).1
   rw [getD_of, Array.getElem?_eq_getElem (by simpa using hil)] at this
   simpa using this
  have hq := h.2 i hih
  have step : wpOp P hd Q' i (wpAny P md ops Q' (f + tl.length) (lf.setIfInBounds i true)) a w := by
   refine wpOp_of_qOp hC (fun a' w' hC' hK => ?_) hq
   refine ih _ _ a' w' (hA.put hin (Nat.le_of_lt hn)) ?_ hC' hK
   rw [Array.toList_setIfInBounds, List.count_set hil, hif]
   simp only [beq_self_eq_true, if_true, show (true == false) = false from rfl, Bool.false_eq_true, if_false]
   omega
  unfold wpOp at step ⊢
  rw [hh i hin] at step
  simp only [hoi, Region.wanted, hg] at step ⊢
  exact step
theorem wp_region_qtail {Q : Exit → Act → World → Prop} {a : Act} {w : World} {ol : List Oper} (k : Nat) (hm : P.follows .mixedOrders = true) (hB : headB .any ol.toArray k = true) (hL : Region.lexB .any (ol.take k).toArray = true)
  (h : wpQuiet P (ol.take k).toArray (fun w' => ∃ m, w' = w.drewN m) (fun a' => ∀ w', (∃ m, w' = w.drewN m) → wpList P ol.toArray Q (ol.drop k) a' w') (ol.take k) a) : wpAny P .any ol.toArray Q ol.toArray.size (Array.replicate ol.toArray.size false) a { w with drawn := w.drawn + 1 } := by
 have hk : k < ol.length := by
  have := hB
  simp only [headB, Bool.and_eq_true, decide_eq_true_eq] at this
  simpa using this.1.1.1.1
 have lt : (ol.take k).length = k := List.length_take_of_le (Nat.le_of_lt hk)
 simp only [Region.lexB, Bool.and_eq_true] at hL
 have hq := wpAnyQ_lex (C := fun w' => ∃ m, w' = w.drewN m) (md := .any) hL.1 (ol.take k) 0 (Array.replicate (ol.take k).toArray.size false) a (by simp) (by simpa using hL.2) h
 have := wpAny_of_qhead (P := P) (ops := ol.toArray) (hd := (ol.take k).toArray) (n := k) (tl := ol.drop k) (Q' := Q) (C := fun w' => ∃ m, w' = w.drewN m) (Q := fun a' => ∀ w', (∃ m, w' = w.drewN m) → wpList P ol.toArray Q (ol.drop k) a' w') (fun j hj => by simp [hj]) (by simpa using lt) hB (fun j => by simp [List.getElem?_drop]) (by simp)
  (fun a' w' hC hQ => hQ w' hC) k (Array.replicate k false) (Array.replicate ol.toArray.size false) a { w with drawn := w.drawn + 1 }
  ⟨by simp, by simp, fun j hj => by simp [hj, show j < ol.length by omega], fun t ht ht' => by simp at ht'; simp [ht']⟩ (by simp) ⟨1, rfl⟩ (by simpa [lt] using hq)
 rw [show k + (ol.drop k).length = ol.toArray.size by simp; omega] at this
 exact this
end
section
variable {P : Program} {l n : Nat}
theorem wpIn_region_qtail {id : Nat} {Q : Exit → Act → World → Prop} {a : Act} {w : World} {ol : List Oper} (k : Nat) (hQ : ¬ LetsOut Q) (hd : noDeferB ol.toArray = true) (hm : P.follows .mixedOrders = true) (hB : headB .any ol.toArray k = true) (hL : Region.lexB .any (ol.take k).toArray = true)
  (h : wpQuiet P (ol.take k).toArray (fun w' => ∃ m, w' = w.drewN m) (fun a' => ∀ w', (∃ m, w' = w.drewN m) → wpList P ol.toArray Q (ol.drop k) a' w') (ol.take k) a) : (Code.region id ol.toArray true).wpIn (Fence.wide.inRound l) n P Q a w :=
 wpIn_region_of_any hQ hd hm (wp_region_qtail k hm hB hL h)
end
end Go.Proofs.YtdmeiiedbhfniaaDoor
end
section
namespace Go.Proofs.YtdmeiiedbhfniaaDoor
open Go.RowKit YtdmeiiedbhfniaaDoorW.PrintWords YtdmeiiedbhfniaaDoorW.PrintLast YtdmeiiedbhfniaaDoorW.PrintMore
theorem R_makecap {P : Program} {ops : Array Oper} {o : Oper} {a : Act} {Q : Exit → Act → World → Prop} {rest : List Oper} {α : Type} (d : Kd α) {W : World} (e : Nat) (hgd : o.guard = none) (t : TypeId) (x y : Operand) (ho : o.op = .makeSlice t x y)
  (c : Nat) (hx : a.eval x = .int .i64 0) (hy : a.eval y = .int .i64 (c : Int)) (ht : P.underlying t = some (.slice e)) (z : Value) (bytes : Nat) (hinfo : (P.info? e).map (fun i => (i.zero, i.size, i.bytes)) = some (some z, d.sz, bytes)) (hl : bytes * c ≤ 281474976710656) (hc : c ≤ 9223372036854775807)
  (h : ∀ v1 w1, d.R e w1 W.heap.size (fun _ => True) v1 ([] : List α) → Below W.heap.size W w1 → W.grownBy w1 none → (∃ b, v1.ownBlock = some b ∧ W.heap.size ≤ b) → wpList P ops Q rest (a.put o.dst v1) w1) : wpList P ops Q (o :: rest) a W := by
 obtain ⟨i0, hi, hzz⟩ := Option.map_eq_some_iff.1 hinfo
 simp only [Prod.mk.injEq] at hzz
 obtain ⟨hz0, hz1, hz2⟩ := hzz
 obtain ⟨w', hr, hown, hg⟩ := run_make_own (P := P) W W.heap.size t e i0 z d.sz ht hi hz0 hz1 .i64 .i64 c (by rw [hz2]; exact hl) (by simpa [maxLen] using hc) (Nat.le_refl _)
 refine Kd.event_run hgd (v := .slice (some ⟨W.heap.size, 0, none⟩) 0 c) (w1 := w') (by simp [execOp, ho, hx, hy, hr]) (h _ _ ⟨fun _ _ => trivial, [], hown, Reps.none _ _⟩ ((Below.refl _ _).grown hg (Nat.le_refl _) (fun k e => by cases e)) hg ⟨W.heap.size, by simp [Value.ownBlock], Nat.le_refl _⟩)
end Go.Proofs.YtdmeiiedbhfniaaDoor
end
section
namespace Go.Proofs.YtdmeiiedbhfniaaDoor.P
open Go.RowKit YtdmeiiedbhfniaaDoorW.PrintWords YtdmeiiedbhfniaaDoorW.PrintLast YtdmeiiedbhfniaaDoorW.PrintMore
def impl_within.f (a0 : Int) (a1 : Int) (a2 : Int) : Option (Bool) := if a0 ≥ a1 then (some (decide (a0 ≤ a2))) else (some false)
set_option maxHeartbeats 8000000 in
set_option maxRecDepth 100000 in
theorem impl_within.calls (a0 : Int) (a1 : Int) (a2 : Int) (r : Bool) (w : World) (h : impl_within.f a0 a1 a2 = some r) :
  Calls Tryd.prog 49 #[.int .i64 a0, .int .i64 a1, .int .i64 a2] w fun e w' => e = .returned (.bool r) ∧ Drawn0 w w' := by
 have H : (if a0 ≥ a1 then (some (decide (a0 ≤ a2))) else (some false)) = some r := h
 clear h
 by_cases c4 : a0 ≥ a1
 ·rw [if_pos c4] at H
  have c4b0 : decide (a1 ≤ a0) = true := decide_eq_true c4
  clear c4
  obtain rfl := Option.some.inj H
  go_enter Tryd.func49, Tryd.ntmps49
  go_wp2
  go_ret
  exact ⟨by first | rfl | (simp; done) | (simp [*]; done), by repeat (first | exact Drawn0.refl _ | apply Drawn0.step)⟩
 ·rw [if_neg c4] at H
  have c4b0 : decide (a1 ≤ a0) = false := decide_eq_false c4
  clear c4
  obtain rfl := Option.some.inj H
  go_enter Tryd.func49, Tryd.ntmps49
  go_wp2
  go_ret
  exact ⟨by first | rfl | (simp; done) | (simp [*]; done), by repeat (first | exact Drawn0.refl _ | apply Drawn0.step)⟩
end Go.Proofs.YtdmeiiedbhfniaaDoor.P
end
section
namespace Go.Proofs.YtdmeiiedbhfniaaDoor.P
open Go.RowKit YtdmeiiedbhfniaaDoorW.PrintWords YtdmeiiedbhfniaaDoorW.PrintLast YtdmeiiedbhfniaaDoorW.PrintMore
def impl_setOf.l0 : Nat → Int → Int → Int → List Int → Int → Int → Option (Int × Bool)
 | 0, _, _, _, _, _, _ => none
 | k + 1, x1, x6, x7, x10, x11, x12 => if x12 < x11 then (if 0 ≤ x12 then (if x12 < (x10.length : Int) then ((impl_within.f (rd x10 x12) (wrap64 (x7 + 1)) (wrap64 (x1 - 1))).bind fun t210 => (if t210 = true then ((impl_set_with.f x6 (rd x10 x12)).bind fun t211 => (impl_setOf.l0 k x1 t211 (rd x10 x12) x10 x11 (wrap64 (x12 + 1)))) else (some (0, false)))) else (none)) else (none)) else (some (x6, true))
def impl_setOf.f (k : Nat) (l0 : List Int) (a1 : Int) : Option (Int × Bool) := impl_setOf.l0 k a1 0 (-1) l0 (l0.length : Int) 0
set_option maxHeartbeats 8000000 in
set_option maxRecDepth 100000 in
theorem impl_setOf.calls (k : Nat) (A0 : Option Addr) (c0 : Nat) (l0 : List Int) (a1 : Int) (r1 : Int) (r2 : Bool) (w : World) (hr0 : Kd.C (Kd.int .i64) w A0 l0.length l0) (hc0 : l0.length ≤ c0) (h : impl_setOf.f k l0 a1 = some (r1, r2)) :
  Calls Tryd.prog 97 #[.slice A0 l0.length c0, .int .i64 a1] w fun e w' => e = .returned (.tuple #[.int .u16 r1, .bool r2]) ∧ Drawn0 w w' := by
 have HR0 := Aside0.mk hr0
 have HC0 := Aside0.mk hc0
 clear hr0 hc0
 have H : (impl_setOf.l0 k a1 0 (-1) l0 (l0.length : Int) 0) = some (r1, r2) := h
 clear h
 have H' := Aside0.mk H
 clear H
 go_enter Tryd.func97, Tryd.ntmps97
 go_wp2
 go_loopg [6, 7, 12] k (fun kq v6 v7 v12 w' => ∃ (x6_1 : Int) (x7_1 : Int) (x12_1 : Int), v6 = .int .u16 x6_1 ∧ v7 = .int .i64 x7_1 ∧ v12 = .int .i64 x12_1 ∧ Aside0 (impl_setOf.l0 kq a1 x6_1 x7_1 l0 (l0.length : Int) x12_1 = some (r1, r2)) ∧ Aside0 (kq ≤ k) ∧ Drawn0 w w')
 case atStart => exact ⟨(0), ((-1)), (0), (by first | rfl | (simp; done) | (simp [*]; done)), (by first | rfl | (simp; done) | (simp [*]; done)), (by first | rfl | (simp; done) | (simp [*]; done)), H', ⟨Nat.le_refl _⟩, by repeat (first | exact Drawn0.refl _ | apply Drawn0.step)⟩
 case round =>
  clear H'
  try clear p2
  obtain ⟨x6_1, x7_1, x12_1, rfl, rfl, rfl, HA, HK1, ⟨m1, rfl⟩⟩ := hrel
  cases gk with
  | zero => exact absurd HA.out (by simp [impl_setOf.l0])
  | succ k1 =>
   have H := HA.out
   clear HA
   simp only [impl_setOf.l0] at H
   by_cases c3 : x12_1 < (l0.length : Int)
   ·rw [if_pos c3] at H
    have c3b0 : decide (x12_1 < (l0.length : Int)) = true := decide_eq_true c3
    clear c3
    by_cases c4 : 0 ≤ x12_1
    ·rw [if_pos c4] at H
     have c4b0 : decide (0 ≤ x12_1) = true := decide_eq_true c4
     clear c4
     by_cases c5 : x12_1 < (l0.length : Int)
     ·rw [if_pos c5] at H
      have c5b0 : decide (x12_1 < (l0.length : Int)) = true := decide_eq_true c5
      clear c5
      replace H := Option.bind_eq_some_iff.mp H
      obtain ⟨t210, A60, H⟩ := H
      replace H : (if t210 = true then ((impl_set_with.f x6_1 (rd l0 x12_1)).bind fun t211 => (impl_setOf.l0 k1 a1 t211 (rd l0 x12_1) l0 (l0.length : Int) (wrap64 (x12_1 + 1)))) else (some (0, false))) = some (r1, r2) := H
      have A6 := Aside0.mk A60
      clear A60
      by_cases c7 : t210 = true
      ·subst c7
       have H1 : ((impl_set_with.f x6_1 (rd l0 x12_1)).bind fun t211 => (impl_setOf.l0 k1 a1 t211 (rd l0 x12_1) l0 (l0.length : Int) (wrap64 (x12_1 + 1)))) = some (r1, r2) := by rw [if_pos rfl] at H; exact H
       clear H
       have H := H1
       clear H1
       replace H := Option.bind_eq_some_iff.mp H
       obtain ⟨t211, A80, H⟩ := H
       replace H : (impl_setOf.l0 k1 a1 t211 (rd l0 x12_1) l0 (l0.length : Int) (wrap64 (x12_1 + 1))) = some (r1, r2) := H
       have A8 := Aside0.mk A80
       clear A80
       have H' := Aside0.mk H
       clear H
       have p209 : 0 ≤ (x12_1 : Int) := of_decide_eq_true (by with_reducible assumption)
       have q209 : x12_1 < (l0.length : Int) := of_decide_eq_true (by with_reducible assumption)
       obtain ⟨ad209, e209, hx209_0⟩ := Kd.at_int HR0.out x12_1 p209 q209
       cases e209
       replace p209 := eq_true p209
       replace q209 := eq_true q209
       go_wp2_with (first | ((with_reducible refine gate_callee (f := 49) rfl ?_); refine goesL_ (some 21) rfl rfl Tryd.func49 (by kernel_rfl) rfl #[.int .i64 (rd l0 x12_1), .int .i64 (wrap64 (x7_1 + 1)), .int .i64 (wrap64 (a1 - 1))] rfl (by (try simp only [List.map_toArray, List.map_cons, List.map_nil]); first | done | rfl | (simp only [List.length_drop, List.length_take]; rfl)) ?_; (with_reducible refine (impl_within.calls (rd l0 x12_1) (wrap64 (x7_1 + 1)) (wrap64 (a1 - 1)) true _ A6.out).mono ?_); rintro e w' ⟨rfl, ⟨nd, rfl⟩⟩; refine ⟨_, rfl, ?_⟩) | ((with_reducible refine gate_callee (f := 51) rfl ?_); refine goesL_ (some 25) rfl rfl Tryd.func51 (by kernel_rfl) rfl #[.int .u16 x6_1, .int .i64 (rd l0 x12_1)] rfl (by (try simp only [List.map_toArray, List.map_cons, List.map_nil]); first | done | rfl | (simp only [List.length_drop, List.length_take]; rfl)) ?_; (with_reducible refine (impl_set_with.calls x6_1 (rd l0 x12_1) t211 _ A8.out).mono ?_); rintro e w' ⟨rfl, ⟨nd, rfl⟩⟩; refine ⟨_, rfl, ?_⟩))
       go_roundg k1
       case measure => have := HK1.out; omega
       case rel => exact ⟨(t211), (rd l0 x12_1), (wrap64 (x12_1 + 1)), (by first | rfl | (simp; done) | (simp [*]; done)), (by first | rfl | (simp; done) | (simp [*]; done)), (by first | rfl | (simp; done) | (simp [*]; done)), H', ⟨by have := HK1.out; omega⟩, by repeat (first | exact Drawn0.refl _ | apply Drawn0.step)⟩
      ·replace c7 := Bool.eq_false_iff.mpr c7
       subst c7
       have H1 : (some (0, false)) = some (r1, r2) := by rw [if_neg (show ¬ (false = true) by decide)] at H; exact H
       clear H
       have H := H1
       clear H1
       simp only [Option.some.injEq, Prod.mk.injEq] at H
       obtain ⟨rfl, rfl⟩ := H
       have p209 : 0 ≤ (x12_1 : Int) := of_decide_eq_true (by with_reducible assumption)
       have q209 : x12_1 < (l0.length : Int) := of_decide_eq_true (by with_reducible assumption)
       obtain ⟨ad209, e209, hx209_0⟩ := Kd.at_int HR0.out x12_1 p209 q209
       cases e209
       replace p209 := eq_true p209
       replace q209 := eq_true q209
       go_wp2_with (first | ((with_reducible refine gate_callee (f := 49) rfl ?_); refine goesL_ (some 21) rfl rfl Tryd.func49 (by kernel_rfl) rfl #[.int .i64 (rd l0 x12_1), .int .i64 (wrap64 (x7_1 + 1)), .int .i64 (wrap64 (a1 - 1))] rfl (by (try simp only [List.map_toArray, List.map_cons, List.map_nil]); first | done | rfl | (simp only [List.length_drop, List.length_take]; rfl)) ?_; (with_reducible refine (impl_within.calls (rd l0 x12_1) (wrap64 (x7_1 + 1)) (wrap64 (a1 - 1)) false _ A6.out).mono ?_); rintro e w' ⟨rfl, ⟨nd, rfl⟩⟩; refine ⟨_, rfl, ?_⟩))
       go_ret2
       exact ⟨by first | rfl | (simp; done) | (simp [*]; done), by repeat (first | exact Drawn0.refl _ | apply Drawn0.step)⟩
     ·rw [if_neg c5] at H
      exact absurd H (by simp)
    ·rw [if_neg c4] at H
     exact absurd H (by simp)
   ·rw [if_neg c3] at H
    have c3b0 : decide (x12_1 < (l0.length : Int)) = false := decide_eq_false c3
    clear c3
    simp only [Option.some.injEq, Prod.mk.injEq] at H
    obtain ⟨rfl, rfl⟩ := H
    go_wp2
    go_ret2
    exact ⟨by first | rfl | (simp; done) | (simp [*]; done), by repeat (first | exact Drawn0.refl _ | apply Drawn0.step)⟩
end Go.Proofs.YtdmeiiedbhfniaaDoor.P
end
section
namespace Go.Proofs.YtdmeiiedbhfniaaDoor.P
open Go.RowKit YtdmeiiedbhfniaaDoorW.PrintWords YtdmeiiedbhfniaaDoorW.PrintLast YtdmeiiedbhfniaaDoorW.PrintMore
def impl_needsOf.l0 : Nat → List (S38) → List Int → List (S38) → Int → Int → Option (List Int × Bool)
 | 0, _, _, _, _, _ => none
 | k + 1, x0, x4, x15, x16, x17 => if x17 < x16 then (if 0 ≤ x17 then (if x17 < (x15.length : Int) then ((impl_setOf.f k ((rd_T38 x15 x17).f1) (x0.length : Int)).bind fun bt217 => (if bt217.2 = true then ((impl_within.f ((rd_T38 x15 x17).f0) 1 20).bind fun t219 => (if t219 = true then ((impl_within.f ((rd_T38 x15 x17).f2) 0 2).bind fun t220 => (if t220 = true then ((impl_within.f ((rd_T38 x15 x17).f3) 1 4).bind fun t221 => (if t221 = true then (if x4.length < 70368744177664 then (impl_needsOf.l0 k x0 (x4 ++ [bt217.1]) x15 x16 (wrap64 (x17 + 1))) else (none)) else (some (([] : List Int), false)))) else (some (([] : List Int), false)))) else (some (([] : List Int), false)))) else (some (([] : List Int), false)))) else (none)) else (none)) else (some (x4, true))
def impl_needsOf.f (k : Nat) (l0 : List (S38)) : Option (List Int × Bool) := if (l0.length : Int) > 8 then (some (([] : List Int), false)) else (impl_needsOf.l0 k l0 (([] : List Int)) l0 (l0.length : Int) 0)
set_option maxHeartbeats 8000000 in
set_option maxRecDepth 100000 in
theorem impl_needsOf.calls (k : Nat) (A0 : Option Addr) (c0 : Nat) (l0 : List (S38)) (r1 : List Int) (r2 : Bool) (w : World) (hr0 : Kd.C k38 w A0 l0.length l0) (hc0 : l0.length ≤ c0) (h : impl_needsOf.f k l0 = some (r1, r2)) :
  Calls Tryd.prog 101 #[.slice A0 l0.length c0] w fun e w' => ∃ v0_ : Value, e = .returned (.tuple #[v0_, .bool r2]) ∧ Kd.R (Kd.int .u16) 64 w' w.heap.size (fun _ => True) v0_ r1 ∧ Below w.heap.size w w' := by
 have hu38 := Tryd.underlying38
 have HR0 := Aside0.mk hr0
 have HC0 := Aside0.mk hc0
 clear hr0 hc0
 have HB := Aside0.mk (Below.refl w.heap.size w)
 have H : (if (l0.length : Int) > 8 then (some (([] : List Int), false)) else (impl_needsOf.l0 k l0 (([] : List Int)) l0 (l0.length : Int) 0)) = some (r1, r2) := h
 clear h
 by_cases c2 : (l0.length : Int) > 8
 ·rw [if_pos c2] at H
  have c2b0 : decide (8 < (l0.length : Int)) = true := decide_eq_true c2
  have c2b1 : decide (8 < l0.length) = true := decide_eq_true (by omega)
  clear c2
  simp only [Option.some.injEq, Prod.mk.injEq] at H
  obtain ⟨rfl, rfl⟩ := H
  go_enter Tryd.func101, Tryd.ntmps101
  go_wp2
  go_ret2
  exact ⟨_, by first | rfl | (simp [errW_none, errW_some] <;> rfl) | (simp [*, errW_none, errW_some] <;> rfl), by first | exact Kd.R_nil _ _ _ _ _ | exact Kd.N_nil _ _ _ _ _ | exact Kd.V_nil _ _ _ _ _ | exact Kd.Q_nil _ _ _ _ _ | exact Kd.S_nil _ _ _ _ _, by repeat (with_reducible first | exact HB.out | apply below_alloc | apply pw_below_drewN | apply below_drew1)⟩
 ·rw [if_neg c2] at H
  have c2b0 : decide (8 < (l0.length : Int)) = false := decide_eq_false c2
  have c2b1 : decide (8 < l0.length) = false := decide_eq_false (by omega)
  clear c2
  obtain ⟨y212, hy212⟩ : ∃ y_ : List Int, y_ = (([] : List Int)) := ⟨_, rfl⟩
  replace H : (impl_needsOf.l0 k l0 y212 l0 (l0.length : Int) 0) = some (r1, r2) := by first | (rw [hy212]; with_reducible exact H) | (have H2_ := (Option.bind_some _ _).symm.trans H; rw [hy212]; with_reducible exact H2_) | (have H2_ := (Option.bind_some _ _).symm.trans H; with_reducible exact H2_) | with_reducible exact H | (rw [hy212]; exact H) | exact H
  have Ny212 := Aside0.mk hy212
  clear hy212
  have H' := Aside0.mk H
  clear H
  go_enter Tryd.func101, Tryd.ntmps101
  go_wp2_with (first | ((with_reducible refine gate_dst (N := 14) rfl ?_); refine R_makecap (Kd.int .u16) 64 rfl 67 (.const (.int .i64 0)) (.tmp 13) rfl l0.length rfl rfl Tryd.underlying67 (.int .u16 0) 2 (by kernel_rfl) (by have := of_decide_eq_false c2b1; omega) (by have := of_decide_eq_false c2b1; omega) ?_; intro v213 w3 ho4 hb hg_ hnew_; clear hg_ hnew_; (first | rw [← Ny212.out] at ho4 | (simp only [Int.reduceToNat] at ho4; rw [← Ny212.out] at ho4)); have n0_ := Aside0.mk (Kd.R_lower ho4 (below_size (by repeat (with_reducible first | exact HB.out | apply below_alloc | apply pw_below_drewN | apply below_drew1)))); have n1_ := Aside0.mk (below_step (by repeat (with_reducible first | exact HB.out | apply below_alloc | apply pw_below_drewN | apply below_drew1)) hb); clear HB; have HO214 := n0_; have HB := n1_; clear n0_ n1_; clear hb ho4))
  go_loopg [4, 17] k (fun kq v4 v17 w' => ∃ (x4_1 : List Int) (x17_1 : Int), v17 = .int .i64 x17_1 ∧ Aside0 (impl_needsOf.l0 kq l0 x4_1 l0 (l0.length : Int) x17_1 = some (r1, r2)) ∧ Aside0 (kq ≤ k) ∧ Aside0 (Kd.R (Kd.int .u16) 64 w' w.heap.size (fun _ => True) v4 x4_1) ∧ Aside0 (Below w.heap.size w w'))
  case atStart => exact ⟨(y212), (0), (by first | rfl | (simp; done) | (simp [*]; done)), H', ⟨Nat.le_refl _⟩, ⟨by (with_reducible repeat (first | apply Kd.R_alloc | apply Kd.R_drewN | apply Kd.R_drew)); exact HO214.out⟩, ⟨by repeat (with_reducible first | exact HB.out | apply below_alloc | apply pw_below_drewN | apply below_drew1)⟩⟩
  case round =>
   clear H'
   try clear c1
   try clear c2
   try clear c2b0
   try clear c2b1
   try clear p2
   obtain ⟨x4_1, x17_1, rfl, HA, HK1, HO_4, HB⟩ := hrel
   cases gk with
   | zero => exact absurd HA.out (by simp [impl_needsOf.l0])
   | succ k1 =>
    have H := HA.out
    clear HA
    simp only [impl_needsOf.l0] at H
    by_cases c5 : x17_1 < (l0.length : Int)
    ·rw [if_pos c5] at H
     have c5b0 : decide (x17_1 < (l0.length : Int)) = true := decide_eq_true c5
     clear c5
     by_cases c6 : 0 ≤ x17_1
     ·rw [if_pos c6] at H
      have c6b0 : decide (0 ≤ x17_1) = true := decide_eq_true c6
      clear c6
      by_cases c7 : x17_1 < (l0.length : Int)
      ·rw [if_pos c7] at H
       have c7b0 : decide (x17_1 < (l0.length : Int)) = true := decide_eq_true c7
       clear c7
       replace H := Option.bind_eq_some_iff.mp H
       obtain ⟨⟨t217, t218⟩, A80, H⟩ := H
       replace H : (if t218 = true then ((impl_within.f ((rd_T38 l0 x17_1).f0) 1 20).bind fun t219 => (if t219 = true then ((impl_within.f ((rd_T38 l0 x17_1).f2) 0 2).bind fun t220 => (if t220 = true then ((impl_within.f ((rd_T38 l0 x17_1).f3) 1 4).bind fun t221 => (if t221 = true then (if x4_1.length < 70368744177664 then (impl_needsOf.l0 k1 l0 (x4_1 ++ [t217]) l0 (l0.length : Int) (wrap64 (x17_1 + 1))) else (none)) else (some (([] : List Int), false)))) else (some (([] : List Int), false)))) else (some (([] : List Int), false)))) else (some (([] : List Int), false))) = some (r1, r2) := H
       have A8 := Aside0.mk A80
       clear A80
       by_cases c9 : t218 = true
       ·subst c9
        have H1 : ((impl_within.f ((rd_T38 l0 x17_1).f0) 1 20).bind fun t219 => (if t219 = true then ((impl_within.f ((rd_T38 l0 x17_1).f2) 0 2).bind fun t220 => (if t220 = true then ((impl_within.f ((rd_T38 l0 x17_1).f3) 1 4).bind fun t221 => (if t221 = true then (if x4_1.length < 70368744177664 then (impl_needsOf.l0 k1 l0 (x4_1 ++ [t217]) l0 (l0.length : Int) (wrap64 (x17_1 + 1))) else (none)) else (some (([] : List Int), false)))) else (some (([] : List Int), false)))) else (some (([] : List Int), false)))) = some (r1, r2) := by rw [if_pos rfl] at H; exact H
        clear H
        have H := H1
        clear H1
        replace H := Option.bind_eq_some_iff.mp H
        obtain ⟨t219, A100, H⟩ := H
        replace H : (if t219 = true then ((impl_within.f ((rd_T38 l0 x17_1).f2) 0 2).bind fun t220 => (if t220 = true then ((impl_within.f ((rd_T38 l0 x17_1).f3) 1 4).bind fun t221 => (if t221 = true then (if x4_1.length < 70368744177664 then (impl_needsOf.l0 k1 l0 (x4_1 ++ [t217]) l0 (l0.length : Int) (wrap64 (x17_1 + 1))) else (none)) else (some (([] : List Int), false)))) else (some (([] : List Int), false)))) else (some (([] : List Int), false))) = some (r1, r2) := H
        have A10 := Aside0.mk A100
        clear A100
        by_cases c11 : t219 = true
        ·subst c11
         have H1 : ((impl_within.f ((rd_T38 l0 x17_1).f2) 0 2).bind fun t220 => (if t220 = true then ((impl_within.f ((rd_T38 l0 x17_1).f3) 1 4).bind fun t221 => (if t221 = true then (if x4_1.length < 70368744177664 then (impl_needsOf.l0 k1 l0 (x4_1 ++ [t217]) l0 (l0.length : Int) (wrap64 (x17_1 + 1))) else (none)) else (some (([] : List Int), false)))) else (some (([] : List Int), false)))) = some (r1, r2) := by rw [if_pos rfl] at H; exact H
         clear H
         have H := H1
         clear H1
         replace H := Option.bind_eq_some_iff.mp H
         obtain ⟨t220, A120, H⟩ := H
         replace H : (if t220 = true then ((impl_within.f ((rd_T38 l0 x17_1).f3) 1 4).bind fun t221 => (if t221 = true then (if x4_1.length < 70368744177664 then (impl_needsOf.l0 k1 l0 (x4_1 ++ [t217]) l0 (l0.length : Int) (wrap64 (x17_1 + 1))) else (none)) else (some (([] : List Int), false)))) else (some (([] : List Int), false))) = some (r1, r2) := H
         have A12 := Aside0.mk A120
         clear A120
         by_cases c13 : t220 = true
         ·subst c13
          have H1 : ((impl_within.f ((rd_T38 l0 x17_1).f3) 1 4).bind fun t221 => (if t221 = true then (if x4_1.length < 70368744177664 then (impl_needsOf.l0 k1 l0 (x4_1 ++ [t217]) l0 (l0.length : Int) (wrap64 (x17_1 + 1))) else (none)) else (some (([] : List Int), false)))) = some (r1, r2) := by rw [if_pos rfl] at H; exact H
          clear H
          have H := H1
          clear H1
          replace H := Option.bind_eq_some_iff.mp H
          obtain ⟨t221, A140, H⟩ := H
          replace H : (if t221 = true then (if x4_1.length < 70368744177664 then (impl_needsOf.l0 k1 l0 (x4_1 ++ [t217]) l0 (l0.length : Int) (wrap64 (x17_1 + 1))) else (none)) else (some (([] : List Int), false))) = some (r1, r2) := H
          have A14 := Aside0.mk A140
          clear A140
          by_cases c15 : t221 = true
          ·subst c15
           have H1 : (if x4_1.length < 70368744177664 then (impl_needsOf.l0 k1 l0 (x4_1 ++ [t217]) l0 (l0.length : Int) (wrap64 (x17_1 + 1))) else (none)) = some (r1, r2) := by rw [if_pos rfl] at H; exact H
           clear H
           have H := H1
           clear H1
           by_cases c16 : x4_1.length < 70368744177664
           ·rw [if_pos c16] at H
            have LMc16 := Aside0.mk c16
            clear c16
            obtain ⟨y222, hy222⟩ : ∃ y_ : List Int, y_ = (x4_1 ++ [t217]) := ⟨_, rfl⟩
            replace H : (impl_needsOf.l0 k1 l0 y222 l0 (l0.length : Int) (wrap64 (x17_1 + 1))) = some (r1, r2) := by first | (rw [hy222]; with_reducible exact H) | (have H2_ := (Option.bind_some _ _).symm.trans H; rw [hy222]; with_reducible exact H2_) | (have H2_ := (Option.bind_some _ _).symm.trans H; with_reducible exact H2_) | with_reducible exact H | (rw [hy222]; exact H) | exact H
            have Ny222 := Aside0.mk hy222
            clear hy222
            have H' := Aside0.mk H
            clear H
            have p215 : 0 ≤ (x17_1 : Int) := of_decide_eq_true (by with_reducible assumption)
            have q215 : x17_1 < (l0.length : Int) := of_decide_eq_true (by with_reducible assumption)
            obtain ⟨ad215, A215_1, c215_1, e215, hx215_0, hx215_1, hx215_2, hx215_3, hl215_1, hi215_1⟩ := at_T38 HR0.out x17_1 p215 q215
            cases e215
            replace hx215_0 := (HB.out.cell (World.block_lt_of_cell? w _ hx215_0)).trans hx215_0
            replace hx215_1 := (HB.out.cell (World.block_lt_of_cell? w _ hx215_1)).trans hx215_1
            replace hx215_2 := (HB.out.cell (World.block_lt_of_cell? w _ hx215_2)).trans hx215_2
            replace hx215_3 := (HB.out.cell (World.block_lt_of_cell? w _ hx215_3)).trans hx215_3
            have HR215_1 := Aside0.mk hi215_1
            have HC215_1 := Aside0.mk hl215_1
            clear hi215_1 hl215_1
            replace p215 := eq_true p215
            replace q215 := eq_true q215
            go_wp2_with (first | ((with_reducible refine gate_dst (N := 6) rfl ?_); refine box_event ?hg (N := 6) ?hd (cs := #[.int .i64 0, .slice none 0 0, .int .i64 0, .int .i64 0]) (t := 38) ?hr ?_; (case hd => rfl); (case hg => rfl); (case hr => first | (go_simp; done) | (go_simp; rfl)); intro gb216 hg w17 hbox hb; have n0_ := Aside0.mk (Kd.R_below (by (with_reducible repeat (first | apply Kd.R_alloc | apply Kd.R_drewN | apply Kd.R_drew)); exact HO_4.out) hb); have n1_ := Aside0.mk (below_step (by repeat (with_reducible first | exact HB.out | apply below_alloc | apply pw_below_drewN | apply below_drew1)) hb); have n2_ := Aside0.mk (hbox); have n3_ := Aside0.mk ((by rw [hg]; exact (below_size (by repeat (with_reducible first | exact HB.out | apply below_alloc | apply pw_below_drewN | apply below_drew1))) : w.heap.size ≤ gb216)); have n4_ := Aside0.mk ((by rw [hg]; exact (below_size (by repeat (with_reducible first | exact HB.out | apply below_alloc | apply pw_below_drewN | apply below_drew1))) : w.heap.size ≤ gb216)); clear HO_4; clear HB; have HO_4 := n0_; have HB := n1_; have BK216 := n2_; have GW216 := n3_; have GE216 := n4_; clear n0_ n1_ n2_ n3_ n4_; clear hb hbox hg; have hcz18_0 : w17.cell? ⟨gb216, 0, none⟩ = some (.int .i64 0) := (blk_cell BK216.out 0).trans rfl; have hcz18_1 : w17.cell? ⟨gb216, 1, none⟩ = some (.slice none 0 0) := (blk_cell BK216.out 1).trans rfl; have hcz18_2 : w17.cell? ⟨gb216, 2, none⟩ = some (.int .i64 0) := (blk_cell BK216.out 2).trans rfl; have hcz18_3 : w17.cell? ⟨gb216, 3, none⟩ = some (.int .i64 0) := (blk_cell BK216.out 3).trans rfl; have hfz18_0 := blk_frozen BK216.out 0; have hfz18_1 := blk_frozen BK216.out 1; have hfz18_2 := blk_frozen BK216.out 2; have hfz18_3 := blk_frozen BK216.out 3) | ((with_reducible refine gate_callee (f := 97) rfl ?_); refine goesL_ (some 26) rfl rfl Tryd.func97 (by kernel_rfl) rfl #[.slice A215_1 ((rd_T38 l0 x17_1).f1).length c215_1, .int .i64 (l0.length : Int)] rfl (by (try simp only [List.map_toArray, List.map_cons, List.map_nil]); first | done | rfl | (simp only [List.length_drop, List.length_take]; rfl)) ?_; (with_reducible refine (impl_setOf.calls k1 _ _ ((rd_T38 l0 x17_1).f1) (l0.length : Int) t217 true _ ?side1 ?side2 A8.out).mono ?_); (case side1 => exact Kd.C_below HR215_1.out (by repeat (with_reducible first | exact HB.out | apply below_alloc | apply pw_below_drewN | apply below_drew1 | refine below_set ?_ GE216.out))); (case side2 => exact HC215_1.out); rintro e w' ⟨rfl, ⟨nd, rfl⟩⟩; refine ⟨_, rfl, ?_⟩) | (go_at_call 49; (with_reducible refine (impl_within.calls ((rd_T38 l0 x17_1).f0) 1 20 true _ A10.out).mono ?_); rintro e w' ⟨rfl, ⟨nd, rfl⟩⟩) | (go_at_call 49; (with_reducible refine (impl_within.calls ((rd_T38 l0 x17_1).f2) 0 2 true _ A12.out).mono ?_); rintro e w' ⟨rfl, ⟨nd, rfl⟩⟩) | (go_at_call 49; (with_reducible refine (impl_within.calls ((rd_T38 l0 x17_1).f3) 1 4 true _ A14.out).mono ?_); rintro e w' ⟨rfl, ⟨nd, rfl⟩⟩) | ((with_reducible refine gate_builtin (b := .append) (xs := #[.tmp 49, .tmp 51]) rfl ?_); at_builtin; refine Kd.R_append (Kd.int .u16) (w0 := w) w.heap.size rfl (.tmp 49) (.tmp 51) 67 64 (.int .u16 0) 2 rfl Tryd.underlying67 info64 rfl (by decide) (by omega) u4 x4_1 t217 [.int .u16 t217] (fun _ => True) (fun _ => False) rfl (by first | (go_simp; done) | (go_simp; rfl)) ?aP (fun _ hk => hk.elim) ?aF ?aO ?aB ?aS ?aL ?_; (case aP => exact rfl); (case aB => exact (by repeat (with_reducible first | exact HB.out | apply below_alloc | apply pw_below_drewN | apply below_drew1 | refine below_set ?_ GE216.out))); (case aF => exact (fun _ _ => trivial)); (case aO => exact (by (with_reducible repeat (first | apply Kd.R_alloc | apply Kd.R_drewN | apply Kd.R_drew)); exact Kd.R_mono (Kd.R_far (p := ⟨gb216, 3, none⟩) (Kd.R_far (p := ⟨gb216, 2, none⟩) (Kd.R_far (p := ⟨gb216, 1, none⟩) (Kd.R_far (p := ⟨gb216, 0, none⟩) (Kd.R_types HO_4.out BK216.out (by decide)) (fun _ hk => hk.2) (.int .i64 ((rd_T38 l0 x17_1).f0))) (fun _ hk => hk.2) (.slice A215_1 ((rd_T38 l0 x17_1).f1).length c215_1)) (fun _ hk => hk.2) (.int .i64 ((rd_T38 l0 x17_1).f2))) (fun _ hk => hk.2) (.int .i64 ((rd_T38 l0 x17_1).f3))) (fun _ hk => trivial))); (case aS => exact (below_size (by repeat (with_reducible first | exact HB.out | apply below_alloc | apply pw_below_drewN | apply below_drew1 | refine below_set ?_ GE216.out)))); (case aL => have := LMc16.out; omega); intro v223 w19 ho hb hg hat; rw [← Ny222.out] at ho; have n0_ := Aside0.mk (blk_grown (g := gb216) (o := .cells #[.int .i64 ((rd_T38 l0 x17_1).f0), .slice A215_1 ((rd_T38 l0 x17_1).f1).length c215_1, .int .i64 ((rd_T38 l0 x17_1).f2), .int .i64 ((rd_T38 l0 x17_1).f3)] 38 (0, 0)) (by (with_reducible repeat (first | refine blk_drewN ?_ _ | refine blk_drew ?_ | refine blk_alloc ?_ _)); refine blk_put (cs := #[.int .i64 ((rd_T38 l0 x17_1).f0), .slice A215_1 ((rd_T38 l0 x17_1).f1).length c215_1, .int .i64 ((rd_T38 l0 x17_1).f2), .int .i64 0]) ?_ 3 _ rfl; (with_reducible repeat (first | refine blk_drewN ?_ _ | refine blk_drew ?_ | refine blk_alloc ?_ _)); refine blk_put (cs := #[.int .i64 ((rd_T38 l0 x17_1).f0), .slice A215_1 ((rd_T38 l0 x17_1).f1).length c215_1, .int .i64 0, .int .i64 0]) ?_ 2 _ rfl; (with_reducible repeat (first | refine blk_drewN ?_ _ | refine blk_drew ?_ | refine blk_alloc ?_ _)); refine blk_put (cs := #[.int .i64 ((rd_T38 l0 x17_1).f0), .slice none 0 0, .int .i64 0, .int .i64 0]) ?_ 1 _ rfl; (with_reducible repeat (first | refine blk_drewN ?_ _ | refine blk_drew ?_ | refine blk_alloc ?_ _)); refine blk_put (cs := #[.int .i64 0, .slice none 0 0, .int .i64 0, .int .i64 0]) ?_ 0 _ rfl; (with_reducible repeat (first | refine blk_drewN ?_ _ | refine blk_drew ?_ | refine blk_alloc ?_ _)); exact BK216.out) hg (Kd.R_ne HO_4.out BK216.out (by decide))); have n1_ := Aside0.mk (hb); have n2_ := Aside0.mk (ho); clear BK216; clear HB; clear HO_4; have BK216 := n0_; have HB := n1_; have HO224 := n2_; clear n0_ n1_ n2_; clear ho hb hg hat))
            go_roundg k1
            case measure => have := HK1.out; omega
            case rel => exact ⟨(y222), (wrap64 (x17_1 + 1)), (by first | rfl | (simp; done) | (simp [*]; done)), H', ⟨by have := HK1.out; omega⟩, ⟨by (with_reducible repeat (first | apply Kd.R_alloc | apply Kd.R_drewN | apply Kd.R_drew)); exact HO224.out⟩, ⟨by repeat (with_reducible first | exact HB.out | apply below_alloc | apply pw_below_drewN | apply below_drew1 | refine below_set ?_ GE216.out)⟩⟩
           ·rw [if_neg c16] at H
            exact absurd H (by simp)
          ·replace c15 := Bool.eq_false_iff.mpr c15
           subst c15
           have H1 : (some (([] : List Int), false)) = some (r1, r2) := by rw [if_neg (show ¬ (false = true) by decide)] at H; exact H
           clear H
           have H := H1
           clear H1
           simp only [Option.some.injEq, Prod.mk.injEq] at H
           obtain ⟨rfl, rfl⟩ := H
           have p215 : 0 ≤ (x17_1 : Int) := of_decide_eq_true (by with_reducible assumption)
           have q215 : x17_1 < (l0.length : Int) := of_decide_eq_true (by with_reducible assumption)
           obtain ⟨ad215, A215_1, c215_1, e215, hx215_0, hx215_1, hx215_2, hx215_3, hl215_1, hi215_1⟩ := at_T38 HR0.out x17_1 p215 q215
           cases e215
           replace hx215_0 := (HB.out.cell (World.block_lt_of_cell? w _ hx215_0)).trans hx215_0
           replace hx215_1 := (HB.out.cell (World.block_lt_of_cell? w _ hx215_1)).trans hx215_1
           replace hx215_2 := (HB.out.cell (World.block_lt_of_cell? w _ hx215_2)).trans hx215_2
           replace hx215_3 := (HB.out.cell (World.block_lt_of_cell? w _ hx215_3)).trans hx215_3
           have HR215_1 := Aside0.mk hi215_1
           have HC215_1 := Aside0.mk hl215_1
           clear hi215_1 hl215_1
           replace p215 := eq_true p215
           replace q215 := eq_true q215
           go_wp2_with (first | ((with_reducible refine gate_dst (N := 6) rfl ?_); refine box_event ?hg (N := 6) ?hd (cs := #[.int .i64 0, .slice none 0 0, .int .i64 0, .int .i64 0]) (t := 38) ?hr ?_; (case hd => rfl); (case hg => rfl); (case hr => first | (go_simp; done) | (go_simp; rfl)); intro gb216 hg w20 hbox hb; have n0_ := Aside0.mk (Kd.R_below (by (with_reducible repeat (first | apply Kd.R_alloc | apply Kd.R_drewN | apply Kd.R_drew)); exact HO_4.out) hb); have n1_ := Aside0.mk (below_step (by repeat (with_reducible first | exact HB.out | apply below_alloc | apply pw_below_drewN | apply below_drew1)) hb); have n2_ := Aside0.mk (hbox); have n3_ := Aside0.mk ((by rw [hg]; exact (below_size (by repeat (with_reducible first | exact HB.out | apply below_alloc | apply pw_below_drewN | apply below_drew1))) : w.heap.size ≤ gb216)); have n4_ := Aside0.mk ((by rw [hg]; exact (below_size (by repeat (with_reducible first | exact HB.out | apply below_alloc | apply pw_below_drewN | apply below_drew1))) : w.heap.size ≤ gb216)); clear HO_4; clear HB; have HO_4 := n0_; have HB := n1_; have BK216 := n2_; have GW216 := n3_; have GE216 := n4_; clear n0_ n1_ n2_ n3_ n4_; clear hb hbox hg; have hcz21_0 : w20.cell? ⟨gb216, 0, none⟩ = some (.int .i64 0) := (blk_cell BK216.out 0).trans rfl; have hcz21_1 : w20.cell? ⟨gb216, 1, none⟩ = some (.slice none 0 0) := (blk_cell BK216.out 1).trans rfl; have hcz21_2 : w20.cell? ⟨gb216, 2, none⟩ = some (.int .i64 0) := (blk_cell BK216.out 2).trans rfl; have hcz21_3 : w20.cell? ⟨gb216, 3, none⟩ = some (.int .i64 0) := (blk_cell BK216.out 3).trans rfl; have hfz21_0 := blk_frozen BK216.out 0; have hfz21_1 := blk_frozen BK216.out 1; have hfz21_2 := blk_frozen BK216.out 2; have hfz21_3 := blk_frozen BK216.out 3) | ((with_reducible refine gate_callee (f := 97) rfl ?_); refine goesL_ (some 26) rfl rfl Tryd.func97 (by kernel_rfl) rfl #[.slice A215_1 ((rd_T38 l0 x17_1).f1).length c215_1, .int .i64 (l0.length : Int)] rfl (by (try simp only [List.map_toArray, List.map_cons, List.map_nil]); first | done | rfl | (simp only [List.length_drop, List.length_take]; rfl)) ?_; (with_reducible refine (impl_setOf.calls k1 _ _ ((rd_T38 l0 x17_1).f1) (l0.length : Int) t217 true _ ?side1 ?side2 A8.out).mono ?_); (case side1 => exact Kd.C_below HR215_1.out (by repeat (with_reducible first | exact HB.out | apply below_alloc | apply pw_below_drewN | apply below_drew1 | refine below_set ?_ GE216.out))); (case side2 => exact HC215_1.out); rintro e w' ⟨rfl, ⟨nd, rfl⟩⟩; refine ⟨_, rfl, ?_⟩) | (go_at_call 49; (with_reducible refine (impl_within.calls ((rd_T38 l0 x17_1).f0) 1 20 true _ A10.out).mono ?_); rintro e w' ⟨rfl, ⟨nd, rfl⟩⟩) | (go_at_call 49; (with_reducible refine (impl_within.calls ((rd_T38 l0 x17_1).f2) 0 2 true _ A12.out).mono ?_); rintro e w' ⟨rfl, ⟨nd, rfl⟩⟩) | (go_at_call 49; (with_reducible refine (impl_within.calls ((rd_T38 l0 x17_1).f3) 1 4 false _ A14.out).mono ?_); rintro e w' ⟨rfl, ⟨nd, rfl⟩⟩))
           go_ret2
           exact ⟨_, by first | rfl | (simp [errW_none, errW_some] <;> rfl) | (simp [*, errW_none, errW_some] <;> rfl), by first | exact Kd.R_nil _ _ _ _ _ | exact Kd.N_nil _ _ _ _ _ | exact Kd.V_nil _ _ _ _ _ | exact Kd.Q_nil _ _ _ _ _ | exact Kd.S_nil _ _ _ _ _, by repeat (with_reducible first | exact HB.out | apply below_alloc | apply pw_below_drewN | apply below_drew1 | refine below_set ?_ GE216.out)⟩
         ·replace c13 := Bool.eq_false_iff.mpr c13
          subst c13
          have H1 : (some (([] : List Int), false)) = some (r1, r2) := by rw [if_neg (show ¬ (false = true) by decide)] at H; exact H
          clear H
          have H := H1
          clear H1
          simp only [Option.some.injEq, Prod.mk.injEq] at H
          obtain ⟨rfl, rfl⟩ := H
          have p215 : 0 ≤ (x17_1 : Int) := of_decide_eq_true (by with_reducible assumption)
          have q215 : x17_1 < (l0.length : Int) := of_decide_eq_true (by with_reducible assumption)
          obtain ⟨ad215, A215_1, c215_1, e215, hx215_0, hx215_1, hx215_2, hx215_3, hl215_1, hi215_1⟩ := at_T38 HR0.out x17_1 p215 q215
          cases e215
          replace hx215_0 := (HB.out.cell (World.block_lt_of_cell? w _ hx215_0)).trans hx215_0
          replace hx215_1 := (HB.out.cell (World.block_lt_of_cell? w _ hx215_1)).trans hx215_1
          replace hx215_2 := (HB.out.cell (World.block_lt_of_cell? w _ hx215_2)).trans hx215_2
          replace hx215_3 := (HB.out.cell (World.block_lt_of_cell? w _ hx215_3)).trans hx215_3
          have HR215_1 := Aside0.mk hi215_1
          have HC215_1 := Aside0.mk hl215_1
          clear hi215_1 hl215_1
          replace p215 := eq_true p215
          replace q215 := eq_true q215
          go_wp2_with (first | ((with_reducible refine gate_dst (N := 6) rfl ?_); refine box_event ?hg (N := 6) ?hd (cs := #[.int .i64 0, .slice none 0 0, .int .i64 0, .int .i64 0]) (t := 38) ?hr ?_; (case hd => rfl); (case hg => rfl); (case hr => first | (go_simp; done) | (go_simp; rfl)); intro gb216 hg w22 hbox hb; have n0_ := Aside0.mk (Kd.R_below (by (with_reducible repeat (first | apply Kd.R_alloc | apply Kd.R_drewN | apply Kd.R_drew)); exact HO_4.out) hb); have n1_ := Aside0.mk (below_step (by repeat (with_reducible first | exact HB.out | apply below_alloc | apply pw_below_drewN | apply below_drew1)) hb); have n2_ := Aside0.mk (hbox); have n3_ := Aside0.mk ((by rw [hg]; exact (below_size (by repeat (with_reducible first | exact HB.out | apply below_alloc | apply pw_below_drewN | apply below_drew1))) : w.heap.size ≤ gb216)); have n4_ := Aside0.mk ((by rw [hg]; exact (below_size (by repeat (with_reducible first | exact HB.out | apply below_alloc | apply pw_below_drewN | apply below_drew1))) : w.heap.size ≤ gb216)); clear HO_4; clear HB; have HO_4 := n0_; have HB := n1_; have BK216 := n2_; have GW216 := n3_; have GE216 := n4_; clear n0_ n1_ n2_ n3_ n4_; clear hb hbox hg; have hcz23_0 : w22.cell? ⟨gb216, 0, none⟩ = some (.int .i64 0) := (blk_cell BK216.out 0).trans rfl; have hcz23_1 : w22.cell? ⟨gb216, 1, none⟩ = some (.slice none 0 0) := (blk_cell BK216.out 1).trans rfl; have hcz23_2 : w22.cell? ⟨gb216, 2, none⟩ = some (.int .i64 0) := (blk_cell BK216.out 2).trans rfl; have hcz23_3 : w22.cell? ⟨gb216, 3, none⟩ = some (.int .i64 0) := (blk_cell BK216.out 3).trans rfl; have hfz23_0 := blk_frozen BK216.out 0; have hfz23_1 := blk_frozen BK216.out 1; have hfz23_2 := blk_frozen BK216.out 2; have hfz23_3 := blk_frozen BK216.out 3) | ((with_reducible refine gate_callee (f := 97) rfl ?_); refine goesL_ (some 26) rfl rfl Tryd.func97 (by kernel_rfl) rfl #[.slice A215_1 ((rd_T38 l0 x17_1).f1).length c215_1, .int .i64 (l0.length : Int)] rfl (by (try simp only [List.map_toArray, List.map_cons, List.map_nil]); first | done | rfl | (simp only [List.length_drop, List.length_take]; rfl)) ?_; (with_reducible refine (impl_setOf.calls k1 _ _ ((rd_T38 l0 x17_1).f1) (l0.length : Int) t217 true _ ?side1 ?side2 A8.out).mono ?_); (case side1 => exact Kd.C_below HR215_1.out (by repeat (with_reducible first | exact HB.out | apply below_alloc | apply pw_below_drewN | apply below_drew1 | refine below_set ?_ GE216.out))); (case side2 => exact HC215_1.out); rintro e w' ⟨rfl, ⟨nd, rfl⟩⟩; refine ⟨_, rfl, ?_⟩) | (go_at_call 49; (with_reducible refine (impl_within.calls ((rd_T38 l0 x17_1).f0) 1 20 true _ A10.out).mono ?_); rintro e w' ⟨rfl, ⟨nd, rfl⟩⟩) | (go_at_call 49; (with_reducible refine (impl_within.calls ((rd_T38 l0 x17_1).f2) 0 2 false _ A12.out).mono ?_); rintro e w' ⟨rfl, ⟨nd, rfl⟩⟩))
          go_ret2
          exact ⟨_, by first | rfl | (simp [errW_none, errW_some] <;> rfl) | (simp [*, errW_none, errW_some] <;> rfl), by first | exact Kd.R_nil _ _ _ _ _ | exact Kd.N_nil _ _ _ _ _ | exact Kd.V_nil _ _ _ _ _ | exact Kd.Q_nil _ _ _ _ _ | exact Kd.S_nil _ _ _ _ _, by repeat (with_reducible first | exact HB.out | apply below_alloc | apply pw_below_drewN | apply below_drew1 | refine below_set ?_ GE216.out)⟩
        ·replace c11 := Bool.eq_false_iff.mpr c11
         subst c11
         have H1 : (some (([] : List Int), false)) = some (r1, r2) := by rw [if_neg (show ¬ (false = true) by decide)] at H; exact H
         clear H
         have H := H1
         clear H1
         simp only [Option.some.injEq, Prod.mk.injEq] at H
         obtain ⟨rfl, rfl⟩ := H
         have p215 : 0 ≤ (x17_1 : Int) := of_decide_eq_true (by with_reducible assumption)
         have q215 : x17_1 < (l0.length : Int) := of_decide_eq_true (by with_reducible assumption)
         obtain ⟨ad215, A215_1, c215_1, e215, hx215_0, hx215_1, hx215_2, hx215_3, hl215_1, hi215_1⟩ := at_T38 HR0.out x17_1 p215 q215
         cases e215
         replace hx215_0 := (HB.out.cell (World.block_lt_of_cell? w _ hx215_0)).trans hx215_0
         replace hx215_1 := (HB.out.cell (World.block_lt_of_cell? w _ hx215_1)).trans hx215_1
         replace hx215_2 := (HB.out.cell (World.block_lt_of_cell? w _ hx215_2)).trans hx215_2
         replace hx215_3 := (HB.out.cell (World.block_lt_of_cell? w _ hx215_3)).trans hx215_3
         have HR215_1 := Aside0.mk hi215_1
         have HC215_1 := Aside0.mk hl215_1
         clear hi215_1 hl215_1
         replace p215 := eq_true p215
         replace q215 := eq_true q215
         go_wp2_with (first | ((with_reducible refine gate_dst (N := 6) rfl ?_); refine box_event ?hg (N := 6) ?hd (cs := #[.int .i64 0, .slice none 0 0, .int .i64 0, .int .i64 0]) (t := 38) ?hr ?_; (case hd => rfl); (case hg => rfl); (case hr => first | (go_simp; done) | (go_simp; rfl)); intro gb216 hg w24 hbox hb; have n0_ := Aside0.mk (Kd.R_below (by (with_reducible repeat (first | apply Kd.R_alloc | apply Kd.R_drewN | apply Kd.R_drew)); exact HO_4.out) hb); have n1_ := Aside0.mk (below_step (by repeat (with_reducible first | exact HB.out | apply below_alloc | apply pw_below_drewN | apply below_drew1)) hb); have n2_ := Aside0.mk (hbox); have n3_ := Aside0.mk ((by rw [hg]; exact (below_size (by repeat (with_reducible first | exact HB.out | apply below_alloc | apply pw_below_drewN | apply below_drew1))) : w.heap.size ≤ gb216)); have n4_ := Aside0.mk ((by rw [hg]; exact (below_size (by repeat (with_reducible first | exact HB.out | apply below_alloc | apply pw_below_drewN | apply below_drew1))) : w.heap.size ≤ gb216)); clear HO_4; clear HB; have HO_4 := n0_; have HB := n1_; have BK216 := n2_; have GW216 := n3_; have GE216 := n4_; clear n0_ n1_ n2_ n3_ n4_; clear hb hbox hg; have hcz25_0 : w24.cell? ⟨gb216, 0, none⟩ = some (.int .i64 0) := (blk_cell BK216.out 0).trans rfl; have hcz25_1 : w24.cell? ⟨gb216, 1, none⟩ = some (.slice none 0 0) := (blk_cell BK216.out 1).trans rfl; have hcz25_2 : w24.cell? ⟨gb216, 2, none⟩ = some (.int .i64 0) := (blk_cell BK216.out 2).trans rfl; have hcz25_3 : w24.cell? ⟨gb216, 3, none⟩ = some (.int .i64 0) := (blk_cell BK216.out 3).trans rfl; have hfz25_0 := blk_frozen BK216.out 0; have hfz25_1 := blk_frozen BK216.out 1; have hfz25_2 := blk_frozen BK216.out 2; have hfz25_3 := blk_frozen BK216.out 3) | ((with_reducible refine gate_callee (f := 97) rfl ?_); refine goesL_ (some 26) rfl rfl Tryd.func97 (by kernel_rfl) rfl #[.slice A215_1 ((rd_T38 l0 x17_1).f1).length c215_1, .int .i64 (l0.length : Int)] rfl (by (try simp only [List.map_toArray, List.map_cons, List.map_nil]); first | done | rfl | (simp only [List.length_drop, List.length_take]; rfl)) ?_; (with_reducible refine (impl_setOf.calls k1 _ _ ((rd_T38 l0 x17_1).f1) (l0.length : Int) t217 true _ ?side1 ?side2 A8.out).mono ?_); (case side1 => exact Kd.C_below HR215_1.out (by repeat (with_reducible first | exact HB.out | apply below_alloc | apply pw_below_drewN | apply below_drew1 | refine below_set ?_ GE216.out))); (case side2 => exact HC215_1.out); rintro e w' ⟨rfl, ⟨nd, rfl⟩⟩; refine ⟨_, rfl, ?_⟩) | (go_at_call 49; (with_reducible refine (impl_within.calls ((rd_T38 l0 x17_1).f0) 1 20 false _ A10.out).mono ?_); rintro e w' ⟨rfl, ⟨nd, rfl⟩⟩))
         go_ret2
         exact ⟨_, by first | rfl | (simp [errW_none, errW_some] <;> rfl) | (simp [*, errW_none, errW_some] <;> rfl), by first | exact Kd.R_nil _ _ _ _ _ | exact Kd.N_nil _ _ _ _ _ | exact Kd.V_nil _ _ _ _ _ | exact Kd.Q_nil _ _ _ _ _ | exact Kd.S_nil _ _ _ _ _, by repeat (with_reducible first | exact HB.out | apply below_alloc | apply pw_below_drewN | apply below_drew1 | refine below_set ?_ GE216.out)⟩
       ·replace c9 := Bool.eq_false_iff.mpr c9
        subst c9
        have H1 : (some (([] : List Int), false)) = some (r1, r2) := by rw [if_neg (show ¬ (false = true) by decide)] at H; exact H
        clear H
        have H := H1
        clear H1
        simp only [Option.some.injEq, Prod.mk.injEq] at H
        obtain ⟨rfl, rfl⟩ := H
        have p215 : 0 ≤ (x17_1 : Int) := of_decide_eq_true (by with_reducible assumption)
        have q215 : x17_1 < (l0.length : Int) := of_decide_eq_true (by with_reducible assumption)
        obtain ⟨ad215, A215_1, c215_1, e215, hx215_0, hx215_1, hx215_2, hx215_3, hl215_1, hi215_1⟩ := at_T38 HR0.out x17_1 p215 q215
        cases e215
        replace hx215_0 := (HB.out.cell (World.block_lt_of_cell? w _ hx215_0)).trans hx215_0
        replace hx215_1 := (HB.out.cell (World.block_lt_of_cell? w _ hx215_1)).trans hx215_1
        replace hx215_2 := (HB.out.cell (World.block_lt_of_cell? w _ hx215_2)).trans hx215_2
        replace hx215_3 := (HB.out.cell (World.block_lt_of_cell? w _ hx215_3)).trans hx215_3
        have HR215_1 := Aside0.mk hi215_1
        have HC215_1 := Aside0.mk hl215_1
        clear hi215_1 hl215_1
        replace p215 := eq_true p215
        replace q215 := eq_true q215
        go_wp2_with (first | ((with_reducible refine gate_dst (N := 6) rfl ?_); refine box_event ?hg (N := 6) ?hd (cs := #[.int .i64 0, .slice none 0 0, .int .i64 0, .int .i64 0]) (t := 38) ?hr ?_; (case hd => rfl); (case hg => rfl); (case hr => first | (go_simp; done) | (go_simp; rfl)); intro gb216 hg w26 hbox hb; have n0_ := Aside0.mk (Kd.R_below (by (with_reducible repeat (first | apply Kd.R_alloc | apply Kd.R_drewN | apply Kd.R_drew)); exact HO_4.out) hb); have n1_ := Aside0.mk (below_step (by repeat (with_reducible first | exact HB.out | apply below_alloc | apply pw_below_drewN | apply below_drew1)) hb); have n2_ := Aside0.mk (hbox); have n3_ := Aside0.mk ((by rw [hg]; exact (below_size (by repeat (with_reducible first | exact HB.out | apply below_alloc | apply pw_below_drewN | apply below_drew1))) : w.heap.size ≤ gb216)); have n4_ := Aside0.mk ((by rw [hg]; exact (below_size (by repeat (with_reducible first | exact HB.out | apply below_alloc | apply pw_below_drewN | apply below_drew1))) : w.heap.size ≤ gb216)); clear HO_4; clear HB; have HO_4 := n0_; have HB := n1_; have BK216 := n2_; have GW216 := n3_; have GE216 := n4_; clear n0_ n1_ n2_ n3_ n4_; clear hb hbox hg; have hcz27_0 : w26.cell? ⟨gb216, 0, none⟩ = some (.int .i64 0) := (blk_cell BK216.out 0).trans rfl; have hcz27_1 : w26.cell? ⟨gb216, 1, none⟩ = some (.slice none 0 0) := (blk_cell BK216.out 1).trans rfl; have hcz27_2 : w26.cell? ⟨gb216, 2, none⟩ = some (.int .i64 0) := (blk_cell BK216.out 2).trans rfl; have hcz27_3 : w26.cell? ⟨gb216, 3, none⟩ = some (.int .i64 0) := (blk_cell BK216.out 3).trans rfl; have hfz27_0 := blk_frozen BK216.out 0; have hfz27_1 := blk_frozen BK216.out 1; have hfz27_2 := blk_frozen BK216.out 2; have hfz27_3 := blk_frozen BK216.out 3) | ((with_reducible refine gate_callee (f := 97) rfl ?_); refine goesL_ (some 26) rfl rfl Tryd.func97 (by kernel_rfl) rfl #[.slice A215_1 ((rd_T38 l0 x17_1).f1).length c215_1, .int .i64 (l0.length : Int)] rfl (by (try simp only [List.map_toArray, List.map_cons, List.map_nil]); first | done | rfl | (simp only [List.length_drop, List.length_take]; rfl)) ?_; (with_reducible refine (impl_setOf.calls k1 _ _ ((rd_T38 l0 x17_1).f1) (l0.length : Int) t217 false _ ?side1 ?side2 A8.out).mono ?_); (case side1 => exact Kd.C_below HR215_1.out (by repeat (with_reducible first | exact HB.out | apply below_alloc | apply pw_below_drewN | apply below_drew1 | refine below_set ?_ GE216.out))); (case side2 => exact HC215_1.out); rintro e w' ⟨rfl, ⟨nd, rfl⟩⟩; refine ⟨_, rfl, ?_⟩))
        go_ret2
        exact ⟨_, by first | rfl | (simp [errW_none, errW_some] <;> rfl) | (simp [*, errW_none, errW_some] <;> rfl), by first | exact Kd.R_nil _ _ _ _ _ | exact Kd.N_nil _ _ _ _ _ | exact Kd.V_nil _ _ _ _ _ | exact Kd.Q_nil _ _ _ _ _ | exact Kd.S_nil _ _ _ _ _, by repeat (with_reducible first | exact HB.out | apply below_alloc | apply pw_below_drewN | apply below_drew1 | refine below_set ?_ GE216.out)⟩
      ·rw [if_neg c7] at H
       exact absurd H (by simp)
     ·rw [if_neg c6] at H
      exact absurd H (by simp)
    ·rw [if_neg c5] at H
     have c5b0 : decide (x17_1 < (l0.length : Int)) = false := decide_eq_false c5
     clear c5
     simp only [Option.some.injEq, Prod.mk.injEq] at H
     obtain ⟨rfl, rfl⟩ := H
     go_wp2
     go_ret2
     exact ⟨_, by first | rfl | (simp [errW_none, errW_some] <;> rfl) | (simp [*, errW_none, errW_some] <;> rfl), by (with_reducible repeat (first | apply Kd.R_alloc | apply Kd.R_drewN | apply Kd.R_drew)); exact HO_4.out, by repeat (with_reducible first | exact HB.out | apply below_alloc | apply pw_below_drewN | apply below_drew1)⟩
end Go.Proofs.YtdmeiiedbhfniaaDoor.P
end
section
namespace Go.Proofs.YtdmeiiedbhfniaaDoor.P
open Go.RowKit YtdmeiiedbhfniaaDoorW.PrintWords YtdmeiiedbhfniaaDoorW.PrintLast YtdmeiiedbhfniaaDoorW.PrintMore
mutual
def impl_order.l0 : Nat → List Int → List Int → Int → Int → Int → Option (List Int × Int)
 | 0, _, _, _, _, _ => none
 | k + 1, x0, x4, x5, x10, x11 => if x11 < x10 then (impl_order.l1 k x0 x4 x5 x10 x11 x0 (x0.length : Int) 0) else (some (x4, x5))
def impl_order.l1 : Nat → List Int → List Int → Int → Int → Int → List Int → Int → Int → Option (List Int × Int)
 | 0, _, _, _, _, _, _, _, _ => none
 | k + 1, x0, x4, x5, x10, x11, x13, x14, x15 => if x15 < x14 then (if 0 ≤ x15 then (if x15 < (x13.length : Int) then ((impl_set_has.f x5 x15).bind fun t229 => (if t229 = true then (impl_order.l1 k x0 x4 x5 x10 x11 x13 x14 (wrap64 (x15 + 1))) else (if (Go.bits .andNot .u16 (rd x13 x15) x5) = 0 then (if x4.length < 17592186044416 then ((impl_set_with.f x5 x15).bind fun t233 => (impl_order.l0 k x0 (x4 ++ [x15]) t233 x10 (wrap64 (x11 + 1)))) else (none)) else (impl_order.l1 k x0 x4 x5 x10 x11 x13 x14 (wrap64 (x15 + 1)))))) else (none)) else (none)) else (impl_order.l0 k x0 x4 x5 x10 (wrap64 (x11 + 1)))
end
def impl_order.f (k : Nat) (l0 : List Int) : Option (List Int × Int) := impl_order.l0 k l0 (([] : List Int)) 0 (l0.length : Int) 0
set_option maxHeartbeats 8000000 in
set_option maxRecDepth 100000 in
theorem impl_order.calls (k : Nat) (A0 : Option Addr) (c0 : Nat) (l0 : List Int) (r1 : List Int) (r2 : Int) (w : World) (hr0 : Kd.C (Kd.int .u16) w A0 l0.length l0) (hc0 : l0.length ≤ c0) (h : impl_order.f k l0 = some (r1, r2)) :
  Calls Tryd.prog 102 #[.slice A0 l0.length c0] w fun e w' => ∃ v0_ : Value, e = .returned (.tuple #[v0_, .int .u16 r2]) ∧ Kd.R (Kd.int .i64) 3 w' w.heap.size (fun _ => True) v0_ r1 ∧ Below w.heap.size w w' := by
 have HR0 := Aside0.mk hr0
 have HC0 := Aside0.mk hc0
 clear hr0 hc0
 have HB := Aside0.mk (Below.refl w.heap.size w)
 have H : (impl_order.l0 k l0 (([] : List Int)) 0 (l0.length : Int) 0) = some (r1, r2) := h
 clear h
 obtain ⟨y225, hy225⟩ : ∃ y_ : List Int, y_ = (([] : List Int)) := ⟨_, rfl⟩
 replace H : (impl_order.l0 k l0 y225 0 (l0.length : Int) 0) = some (r1, r2) := by first | (rw [hy225]; with_reducible exact H) | (have H2_ := (Option.bind_some _ _).symm.trans H; rw [hy225]; with_reducible exact H2_) | (have H2_ := (Option.bind_some _ _).symm.trans H; with_reducible exact H2_) | with_reducible exact H | (rw [hy225]; exact H) | exact H
 have Ny225 := Aside0.mk hy225
 clear hy225
 have H' := Aside0.mk H
 clear H
 go_enter Tryd.func102, Tryd.ntmps102
 go_wp2_with (first | ((with_reducible refine gate_dst (N := 8) rfl ?_); refine Kd.R_lit (Kd.int .i64) _ 3 ?hg (N := 8) ?hd (xs := ([] : List Int)) (inner := []) (ok := fun _ => True) (okp := fun _ => True) ?hr ?hp (fun _ hk => hk) trivial (Below.refl _ _) (Nat.le_refl _) (by simp) ?_; (case hd => rfl); (case hg => rfl); (case hr => first | (go_simp; done) | (go_simp; rfl)); (case hp => exact (Reps.none _ _)); intro v226 w2 ho3 hb hg_ hnew_; clear hg_ hnew_; (first | rw [← Ny225.out] at ho3 | (simp only [Int.reduceToNat] at ho3; rw [← Ny225.out] at ho3)); have n0_ := Aside0.mk (Kd.R_lower ho3 (below_size (by repeat (with_reducible first | exact HB.out | apply below_alloc | apply pw_below_drewN | apply below_drew1)))); have n1_ := Aside0.mk (below_step (by repeat (with_reducible first | exact HB.out | apply below_alloc | apply pw_below_drewN | apply below_drew1)) hb); clear HB; have HO227 := n0_; have HB := n1_; clear n0_ n1_; clear hb ho3))
 go_loopg [4, 5, 11] k (fun kq v4 v5 v11 w' => ∃ (x4_1 : List Int) (x5_1 : Int) (x11_1 : Int), v5 = .int .u16 x5_1 ∧ v11 = .int .i64 x11_1 ∧ Aside0 (impl_order.l0 kq l0 x4_1 x5_1 (l0.length : Int) x11_1 = some (r1, r2)) ∧ Aside0 (kq ≤ k) ∧ Aside0 (Kd.R (Kd.int .i64) 3 w' w.heap.size (fun _ => True) v4 x4_1) ∧ Aside0 (Below w.heap.size w w'))
 case atStart => exact ⟨(y225), (0), (0), (by first | rfl | (simp; done) | (simp [*]; done)), (by first | rfl | (simp; done) | (simp [*]; done)), H', ⟨Nat.le_refl _⟩, ⟨by (with_reducible repeat (first | apply Kd.R_alloc | apply Kd.R_drewN | apply Kd.R_drew)); exact HO227.out⟩, ⟨by repeat (with_reducible first | exact HB.out | apply below_alloc | apply pw_below_drewN | apply below_drew1)⟩⟩
 case round =>
  clear H'
  try clear c1
  try clear p2
  obtain ⟨x4_1, x5_1, x11_1, rfl, rfl, HA, HK1, HO_4, HB⟩ := hrel
  cases gk with
  | zero => exact absurd HA.out (by simp [impl_order.l0])
  | succ k1 =>
   have H := HA.out
   clear HA
   simp only [impl_order.l0] at H
   by_cases c4 : x11_1 < (l0.length : Int)
   ·rw [if_pos c4] at H
    have c4b0 : decide (x11_1 < (l0.length : Int)) = true := decide_eq_true c4
    clear c4
    have H' := Aside0.mk H
    clear H
    go_wp2
    go_loopg [4, 5, 15] k1 (fun kq v4 v5 v15 w' => ∃ (x4_2 : List Int) (x5_2 : Int) (x15_2 : Int), v5 = .int .u16 x5_2 ∧ v15 = .int .i64 x15_2 ∧ Aside0 (impl_order.l1 kq l0 x4_2 x5_2 (l0.length : Int) x11_1 l0 (l0.length : Int) x15_2 = some (r1, r2)) ∧ Aside0 (kq ≤ k1) ∧ Aside0 (Kd.R (Kd.int .i64) 3 w' w.heap.size (fun _ => True) v4 x4_2) ∧ Aside0 (Below w.heap.size w w'))
    case atStart => exact ⟨(x4_1), (x5_1), (0), (by first | rfl | (simp; done) | (simp [*]; done)), (by first | rfl | (simp; done) | (simp [*]; done)), H', ⟨Nat.le_refl _⟩, ⟨by (with_reducible repeat (first | apply Kd.R_alloc | apply Kd.R_drewN | apply Kd.R_drew)); exact HO_4.out⟩, ⟨by repeat (with_reducible first | exact HB.out | apply below_alloc | apply pw_below_drewN | apply below_drew1)⟩⟩
    case round =>
     clear H'
     try clear c1
     try clear p2
     try clear c4
     try clear c4b0
     try clear p2
     obtain ⟨x4_2, x5_2, x15_2, rfl, rfl, HA, HK2, HO_4, HB⟩ := hrel
     cases gk with
     | zero => exact absurd HA.out (by simp [impl_order.l1])
     | succ k2 =>
      have H := HA.out
      clear HA
      simp only [impl_order.l1] at H
      by_cases c5 : x15_2 < (l0.length : Int)
      ·rw [if_pos c5] at H
       have c5b0 : decide (x15_2 < (l0.length : Int)) = true := decide_eq_true c5
       clear c5
       by_cases c6 : 0 ≤ x15_2
       ·rw [if_pos c6] at H
        have c6b0 : decide (0 ≤ x15_2) = true := decide_eq_true c6
        clear c6
        by_cases c7 : x15_2 < (l0.length : Int)
        ·rw [if_pos c7] at H
         have c7b0 : decide (x15_2 < (l0.length : Int)) = true := decide_eq_true c7
         clear c7
         replace H := Option.bind_eq_some_iff.mp H
         obtain ⟨t229, A80, H⟩ := H
         replace H : (if t229 = true then (impl_order.l1 k2 l0 x4_2 x5_2 (l0.length : Int) x11_1 l0 (l0.length : Int) (wrap64 (x15_2 + 1))) else (if (Go.bits .andNot .u16 (rd l0 x15_2) x5_2) = 0 then (if x4_2.length < 17592186044416 then ((impl_set_with.f x5_2 x15_2).bind fun t233 => (impl_order.l0 k2 l0 (x4_2 ++ [x15_2]) t233 (l0.length : Int) (wrap64 (x11_1 + 1)))) else (none)) else (impl_order.l1 k2 l0 x4_2 x5_2 (l0.length : Int) x11_1 l0 (l0.length : Int) (wrap64 (x15_2 + 1))))) = some (r1, r2) := H
         have A8 := Aside0.mk A80
         clear A80
         by_cases c9 : t229 = true
         ·subst c9
          have H1 : (impl_order.l1 k2 l0 x4_2 x5_2 (l0.length : Int) x11_1 l0 (l0.length : Int) (wrap64 (x15_2 + 1))) = some (r1, r2) := by rw [if_pos rfl] at H; exact H
          clear H
          have H := H1
          clear H1
          have H' := Aside0.mk H
          clear H
          have p228 : 0 ≤ (x15_2 : Int) := of_decide_eq_true (by with_reducible assumption)
          have q228 : x15_2 < (l0.length : Int) := of_decide_eq_true (by with_reducible assumption)
          obtain ⟨ad228, e228, hx228_0⟩ := Kd.at_int HR0.out x15_2 p228 q228
          cases e228
          replace hx228_0 := (HB.out.cell (World.block_lt_of_cell? w _ hx228_0)).trans hx228_0
          replace p228 := eq_true p228
          replace q228 := eq_true q228
          go_wp2_with (first | ((with_reducible refine gate_callee (f := 50) rfl ?_); refine goesL_ (some 22) rfl rfl Tryd.func50 (by kernel_rfl) rfl #[.int .u16 x5_2, .int .i64 x15_2] rfl (by (try simp only [List.map_toArray, List.map_cons, List.map_nil]); first | done | rfl | (simp only [List.length_drop, List.length_take]; rfl)) ?_; (with_reducible refine (impl_set_has.calls x5_2 x15_2 true _ A8.out).mono ?_); rintro e w' ⟨rfl, ⟨nd, rfl⟩⟩; refine ⟨_, rfl, ?_⟩))
          go_roundg k2
          case measure => have := HK1.out; have := HK2.out; omega
          case rel => exact ⟨(x4_2), (x5_2), (wrap64 (x15_2 + 1)), (by first | rfl | (simp; done) | (simp [*]; done)), (by first | rfl | (simp; done) | (simp [*]; done)), H', ⟨by have := HK1.out; have := HK2.out; omega⟩, ⟨by (with_reducible repeat (first | apply Kd.R_alloc | apply Kd.R_drewN | apply Kd.R_drew)); exact HO_4.out⟩, ⟨by repeat (with_reducible first | exact HB.out | apply below_alloc | apply pw_below_drewN | apply below_drew1)⟩⟩
         ·replace c9 := Bool.eq_false_iff.mpr c9
          subst c9
          have H1 : (if (Go.bits .andNot .u16 (rd l0 x15_2) x5_2) = 0 then (if x4_2.length < 17592186044416 then ((impl_set_with.f x5_2 x15_2).bind fun t233 => (impl_order.l0 k2 l0 (x4_2 ++ [x15_2]) t233 (l0.length : Int) (wrap64 (x11_1 + 1)))) else (none)) else (impl_order.l1 k2 l0 x4_2 x5_2 (l0.length : Int) x11_1 l0 (l0.length : Int) (wrap64 (x15_2 + 1)))) = some (r1, r2) := by rw [if_neg (show ¬ (false = true) by decide)] at H; exact H
          clear H
          have H := H1
          clear H1
          by_cases c10 : (Go.bits .andNot .u16 (rd l0 x15_2) x5_2) = 0
          ·rw [if_pos c10] at H
           have c10b0 : ((Go.bits .andNot .u16 (rd l0 x15_2) x5_2) == 0) = true := beq_iff_eq.mpr c10
           have c10b1 : ((Go.bits .andNot .u16 (rd l0 x15_2) x5_2) != 0) = false := bne_eq_false_iff_eq.mpr c10
           clear c10
           by_cases c11 : x4_2.length < 17592186044416
           ·rw [if_pos c11] at H
            have LMc11 := Aside0.mk c11
            clear c11
            obtain ⟨y230, hy230⟩ : ∃ y_ : List Int, y_ = (x4_2 ++ [x15_2]) := ⟨_, rfl⟩
            replace H : ((impl_set_with.f x5_2 x15_2).bind fun t233 => (impl_order.l0 k2 l0 y230 t233 (l0.length : Int) (wrap64 (x11_1 + 1)))) = some (r1, r2) := by first | (rw [hy230]; with_reducible exact H) | (have H2_ := (Option.bind_some _ _).symm.trans H; rw [hy230]; with_reducible exact H2_) | (have H2_ := (Option.bind_some _ _).symm.trans H; with_reducible exact H2_) | with_reducible exact H | (rw [hy230]; exact H) | exact H
            have Ny230 := Aside0.mk hy230
            clear hy230
            replace H := Option.bind_eq_some_iff.mp H
            obtain ⟨t233, A120, H⟩ := H
            replace H : (impl_order.l0 k2 l0 y230 t233 (l0.length : Int) (wrap64 (x11_1 + 1))) = some (r1, r2) := H
            have A12 := Aside0.mk A120
            clear A120
            have H' := Aside0.mk H
            clear H
            have p228 : 0 ≤ (x15_2 : Int) := of_decide_eq_true (by with_reducible assumption)
            have q228 : x15_2 < (l0.length : Int) := of_decide_eq_true (by with_reducible assumption)
            obtain ⟨ad228, e228, hx228_0⟩ := Kd.at_int HR0.out x15_2 p228 q228
            cases e228
            replace hx228_0 := (HB.out.cell (World.block_lt_of_cell? w _ hx228_0)).trans hx228_0
            replace p228 := eq_true p228
            replace q228 := eq_true q228
            go_wp2_with (first | ((with_reducible refine gate_callee (f := 50) rfl ?_); refine goesL_ (some 22) rfl rfl Tryd.func50 (by kernel_rfl) rfl #[.int .u16 x5_2, .int .i64 x15_2] rfl (by (try simp only [List.map_toArray, List.map_cons, List.map_nil]); first | done | rfl | (simp only [List.length_drop, List.length_take]; rfl)) ?_; (with_reducible refine (impl_set_has.calls x5_2 x15_2 false _ A8.out).mono ?_); rintro e w' ⟨rfl, ⟨nd, rfl⟩⟩; refine ⟨_, rfl, ?_⟩) | ((with_reducible refine gate_builtin (b := .append) (xs := #[.tmp 30, .tmp 32]) rfl ?_); at_builtin; refine Kd.R_append (Kd.int .i64) (w0 := w) w.heap.size rfl (.tmp 30) (.tmp 32) 23 3 (.int .i64 0) 8 rfl Tryd.underlying23 info3 rfl (by decide) (by omega) u4 x4_2 x15_2 [.int .i64 x15_2] (fun _ => True) (fun _ => False) rfl rfl ?aP (fun _ hk => hk.elim) ?aF ?aO ?aB ?aS ?aL ?_; (case aP => exact rfl); (case aB => exact (by repeat (with_reducible first | exact HB.out | apply below_alloc | apply pw_below_drewN | apply below_drew1))); (case aF => exact (fun _ _ => trivial)); (case aO => exact (by (with_reducible repeat (first | apply Kd.R_alloc | apply Kd.R_drewN | apply Kd.R_drew)); exact HO_4.out)); (case aS => exact (below_size (by repeat (with_reducible first | exact HB.out | apply below_alloc | apply pw_below_drewN | apply below_drew1)))); (case aL => have := LMc11.out; omega); intro v231 w13 ho hb hg hat; rw [← Ny230.out] at ho; have n0_ := Aside0.mk (hb); have n1_ := Aside0.mk (ho); clear HB; clear HO_4; have HB := n0_; have HO232 := n1_; clear n0_ n1_; clear ho hb hg hat) | ((with_reducible refine gate_callee (f := 51) rfl ?_); refine goesL_ (some 36) rfl rfl Tryd.func51 (by kernel_rfl) rfl #[.int .u16 x5_2, .int .i64 x15_2] rfl (by (try simp only [List.map_toArray, List.map_cons, List.map_nil]); first | done | rfl | (simp only [List.length_drop, List.length_take]; rfl)) ?_; (with_reducible refine (impl_set_with.calls x5_2 x15_2 t233 _ A12.out).mono ?_); rintro e w' ⟨rfl, ⟨nd, rfl⟩⟩; refine ⟨_, rfl, ?_⟩))
            go_roundg k2
            case measure => have := HK1.out; have := HK2.out; omega
            case rel => exact ⟨(y230), (t233), (wrap64 (x11_1 + 1)), (by first | rfl | (simp; done) | (simp [*]; done)), (by first | rfl | (simp; done) | (simp [*]; done)), H', ⟨by have := HK1.out; have := HK2.out; omega⟩, ⟨by (with_reducible repeat (first | apply Kd.R_alloc | apply Kd.R_drewN | apply Kd.R_drew)); exact HO232.out⟩, ⟨by repeat (with_reducible first | exact HB.out | apply below_alloc | apply pw_below_drewN | apply below_drew1)⟩⟩
           ·rw [if_neg c11] at H
            exact absurd H (by simp)
          ·rw [if_neg c10] at H
           have c10b0 : ((Go.bits .andNot .u16 (rd l0 x15_2) x5_2) == 0) = false := beq_eq_false_iff_ne.mpr c10
           have c10b1 : ((Go.bits .andNot .u16 (rd l0 x15_2) x5_2) != 0) = true := bne_iff_ne.mpr c10
           have H' := Aside0.mk H
           clear H
           have p228 : 0 ≤ (x15_2 : Int) := of_decide_eq_true (by with_reducible assumption)
           have q228 : x15_2 < (l0.length : Int) := of_decide_eq_true (by with_reducible assumption)
           obtain ⟨ad228, e228, hx228_0⟩ := Kd.at_int HR0.out x15_2 p228 q228
           cases e228
           replace hx228_0 := (HB.out.cell (World.block_lt_of_cell? w _ hx228_0)).trans hx228_0
           replace p228 := eq_true p228
           replace q228 := eq_true q228
           go_wp2_with (first | ((with_reducible refine gate_callee (f := 50) rfl ?_); refine goesL_ (some 22) rfl rfl Tryd.func50 (by kernel_rfl) rfl #[.int .u16 x5_2, .int .i64 x15_2] rfl (by (try simp only [List.map_toArray, List.map_cons, List.map_nil]); first | done | rfl | (simp only [List.length_drop, List.length_take]; rfl)) ?_; (with_reducible refine (impl_set_has.calls x5_2 x15_2 false _ A8.out).mono ?_); rintro e w' ⟨rfl, ⟨nd, rfl⟩⟩; refine ⟨_, rfl, ?_⟩))
           go_roundg k2
           case measure => have := HK1.out; have := HK2.out; omega
           case rel => exact ⟨(x4_2), (x5_2), (wrap64 (x15_2 + 1)), (by first | rfl | (simp; done) | (simp [*]; done)), (by first | rfl | (simp; done) | (simp [*]; done)), H', ⟨by have := HK1.out; have := HK2.out; omega⟩, ⟨by (with_reducible repeat (first | apply Kd.R_alloc | apply Kd.R_drewN | apply Kd.R_drew)); exact HO_4.out⟩, ⟨by repeat (with_reducible first | exact HB.out | apply below_alloc | apply pw_below_drewN | apply below_drew1)⟩⟩
        ·rw [if_neg c7] at H
         exact absurd H (by simp)
       ·rw [if_neg c6] at H
        exact absurd H (by simp)
      ·rw [if_neg c5] at H
       have c5b0 : decide (x15_2 < (l0.length : Int)) = false := decide_eq_false c5
       clear c5
       have H' := Aside0.mk H
       clear H
       go_wp2
       go_roundg k2
       case measure => have := HK1.out; have := HK2.out; omega
       case rel => exact ⟨(x4_2), (x5_2), (wrap64 (x11_1 + 1)), (by first | rfl | (simp; done) | (simp [*]; done)), (by first | rfl | (simp; done) | (simp [*]; done)), H', ⟨by have := HK1.out; have := HK2.out; omega⟩, ⟨by (with_reducible repeat (first | apply Kd.R_alloc | apply Kd.R_drewN | apply Kd.R_drew)); exact HO_4.out⟩, ⟨by repeat (with_reducible first | exact HB.out | apply below_alloc | apply pw_below_drewN | apply below_drew1)⟩⟩
   ·rw [if_neg c4] at H
    have c4b0 : decide (x11_1 < (l0.length : Int)) = false := decide_eq_false c4
    clear c4
    simp only [Option.some.injEq, Prod.mk.injEq] at H
    obtain ⟨rfl, rfl⟩ := H
    go_wp2
    go_ret2
    exact ⟨_, by first | rfl | (simp [errW_none, errW_some] <;> rfl) | (simp [*, errW_none, errW_some] <;> rfl), by (with_reducible repeat (first | apply Kd.R_alloc | apply Kd.R_drewN | apply Kd.R_drew)); exact HO_4.out, by repeat (with_reducible first | exact HB.out | apply below_alloc | apply pw_below_drewN | apply below_drew1)⟩
end Go.Proofs.YtdmeiiedbhfniaaDoor.P
end
section
namespace Go.Proofs.YtdmeiiedbhfniaaDoor.P
open Go.RowKit YtdmeiiedbhfniaaDoorW.PrintWords YtdmeiiedbhfniaaDoorW.PrintLast YtdmeiiedbhfniaaDoorW.PrintMore
def impl_everything.f (a0 : Int) : Option (Int) := if 0 ≤ a0 then (some (IntKind.u16.wrap ((shl .u16 1 a0) - 1))) else (none)
set_option maxHeartbeats 8000000 in
set_option maxRecDepth 100000 in
theorem impl_everything.calls (a0 : Int) (r : Int) (w : World) (h : impl_everything.f a0 = some r) :
  Calls Tryd.prog 103 #[.int .i64 a0] w fun e w' => e = .returned (.int .u16 r) ∧ Drawn0 w w' := by
 have H : (if 0 ≤ a0 then (some (IntKind.u16.wrap ((shl .u16 1 a0) - 1))) else (none)) = some r := h
 clear h
 by_cases c2 : 0 ≤ a0
 ·rw [if_pos c2] at H
  have c2b0 := eq_true c2
  have c2b1 : decide (0 ≤ a0) = true := decide_eq_true c2
  clear c2
  obtain ⟨ji3, hji3⟩ : ∃ j_ : Int, (shl .u16 1 a0) = j_ := ⟨_, rfl⟩
  replace H : (some (IntKind.u16.wrap ((ji3) - 1))) = some r := by first | (rw [hji3] at H; exact H) | (simp only [hji3] at H ⊢; exact H)
  have hji3_ : (IntKind.u16.wrap (1 * 2 ^ min a0.toNat 16)) = ji3 := hji3
  have hji3z : a0 ≤ 16 → (IntKind.u16.wrap (1 * 2 ^ a0.toNat)) = ji3 := shl_small hji3
  have hji3u : (IntKind.u16.wrap (2 ^ min a0.toNat 16)) = ji3 := by have h_ := hji3_; rw [Int.one_mul] at h_; exact h_
  have hji3v : a0 ≤ 16 → (IntKind.u16.wrap (2 ^ a0.toNat)) = ji3 := fun hle_ => by have h_ := hji3z hle_; rw [Int.one_mul] at h_; exact h_
  obtain rfl := Option.some.inj H
  go_enter Tryd.func103, Tryd.ntmps103
  go_wp2
  go_ret
  exact ⟨by first | rfl | (simp; done) | (simp only [← hji3] <;> (first | rfl | simp)) | (simp [*]; done), by repeat (first | exact Drawn0.refl _ | apply Drawn0.step)⟩
 ·rw [if_neg c2] at H
  exact absurd H (by simp)
end Go.Proofs.YtdmeiiedbhfniaaDoor.P
end
section
namespace Go.Proofs.YtdmeiiedbhfniaaDoor.P
open Go.RowKit Go.Shelf YtdmeiiedbhfniaaDoorW.PrintWords YtdmeiiedbhfniaaDoorW.PrintLast YtdmeiiedbhfniaaDoorW.PrintMore
attribute [local go_sem] Oper.semAt_some
def everyI (n : Nat) : Int := IntKind.u16.wrap ((shl .u16 1 (n : Int)) - 1)
theorem everyI_calls (n : Nat) (w : World) : Calls Tryd.prog 103 #[.int .i64 (n : Int)] w fun e w' => e = .returned (.int .u16 (everyI n)) ∧ Drawn0 w w' :=
 impl_everything.calls (n : Int) _ w (by unfold impl_everything.f; rw [if_pos (by omega)]; rfl)
set_option maxRecDepth 100000 in
set_option maxHeartbeats 4000000 in
theorem graphOf_no1 (k : Nat) (A0 : Option Addr) (c0 : Nat) (l0 : List TT) (nd : List Int) (w : World) (hr0 : Kd.C k38 w A0 l0.length l0) (hc0 : l0.length ≤ c0) (hN : impl_needsOf.f k l0 = some (nd, false)) :
  Calls Tryd.prog 73 #[.slice A0 l0.length c0] w fun e w' => e = .returned (.tuple #[.pointer none, .bool false]) ∧ Below w.heap.size w w' := by
 have nc := Aside0.mk (impl_needsOf.calls k A0 c0 l0 nd false w hr0 hc0 hN)
 clear hr0 hN
 refine calls_of_wpM Tryd.func73 rfl ?_
 simp only [Tryd.ntmps73, List.size_toArray, List.length_cons, List.length_nil, Nat.reduceAdd, Nat.reduceSub, Array.replicate_succ, Array.replicate_zero, List.push_toArray, List.append_toArray, List.nil_append, List.cons_append]
 go_wp2_with (go_at_call 101; refine nc.out.mono ?_; rintro e w1 ⟨v, rfl, hR, hB⟩; have hB' := Aside0.mk hB; clear hB hR)
 refine retM (B := w.heap.size) (fun W => Below w.heap.size w W) (ownFrom_below (Nat.le_refl _) (Nat.le_refl _)) trivial hB'.out ?_
 intro W' hbb
 exact ⟨.tuple #[.pointer none, .bool false], (results_tmp2 (t := 2) (u := 3) rfl _ _ _).trans rfl, rfl, hbb⟩
set_option maxRecDepth 100000 in
set_option maxHeartbeats 4000000 in
theorem graphOf_no2 (k : Nat) (A0 : Option Addr) (c0 : Nat) (l0 : List TT) (nd od : List Int) (dn : Int) (w : World) (hr0 : Kd.C k38 w A0 l0.length l0) (hc0 : l0.length ≤ c0) (hN : impl_needsOf.f k l0 = some (nd, true)) (hO : impl_order.f k nd = some (od, dn))
  (hd : (dn == everyI l0.length) = false) :
  Calls Tryd.prog 73 #[.slice A0 l0.length c0] w fun e w' => e = .returned (.tuple #[.pointer none, .bool false]) ∧ Below w.heap.size w w' := by
 have nc := Aside0.mk (impl_needsOf.calls k A0 c0 l0 nd true w hr0 hc0 hN)
 have hO' := Aside0.mk hO
 clear hr0 hN hO
 have hd2 : (dn != everyI l0.length) = true := by simpa [bne] using hd
 refine calls_of_wpM Tryd.func73 rfl ?_
 simp only [Tryd.ntmps73, List.size_toArray, List.length_cons, List.length_nil, Nat.reduceAdd, Nat.reduceSub, Array.replicate_succ, Array.replicate_zero, List.push_toArray, List.append_toArray, List.nil_append, List.cons_append]
 go_wp2_with (first | (go_at_call 101; refine nc.out.mono ?_; rintro e w1 ⟨v, rfl, hR, hB⟩; have hB' := Aside0.mk hB; obtain ⟨A1, c1, rfl, hl1, hC1⟩ := Kd.R_reads hR; have hC1' := Aside0.mk hC1; have oc := Aside0.mk (impl_order.calls k A1 c1 nd od dn w1 hC1 hl1 hO'.out); clear hB hR hC1) | (go_at_call 102; refine oc.out.mono ?_; rintro e w2 ⟨v2, rfl, hR2, hB2⟩; have hB2' := Aside0.mk (below_step hB'.out hB2); clear hR2 hB2) | (go_at_call 103; refine (everyI_calls l0.length _).mono ?_; rintro e w3 ⟨rfl, ⟨m3, rfl⟩⟩))
 refine retM (B := w.heap.size) (fun W => Below w.heap.size w W) (ownFrom_below (Nat.le_refl _) (Nat.le_refl _)) trivial (pw_below_drewN hB2'.out _) ?_
 intro W' hbb
 exact ⟨.tuple #[.pointer none, .bool false], (results_tmp2 (t := 2) (u := 3) rfl _ _ _).trans rfl, rfl, hbb⟩
def bStep (i : Nat) (bl : List Nat) (k : Nat) : List Nat := bl.set i (bl.getD i 0 ||| (bl.getD k 0 ||| 2 ^ k))
def aStep (i : Nat) (ab : List Nat) (k : Nat) : List Nat := ab.set k (ab.getD k 0 ||| 2 ^ i)
def relStep (nd : List Nat) (s : List Nat × List Nat) (i : Nat) : List Nat × List Nat :=
 ((bitsN (nd.getD i 0)).foldl (bStep i) s.1, (bitsN (((bitsN (nd.getD i 0)).foldl (bStep i) s.1).getD i 0)).foldl (aStep i) s.2)
def relP (nd : List Nat) (od : List Nat) (n : Nat) : List Nat × List Nat := od.foldl (relStep nd) (List.replicate n 0, List.replicate n 0)
def OkU (n : Nat) (l : List Nat) : Prop := l.length = n ∧ ∀ x ∈ l, x < 2 ^ n
theorem OkU.get {n : Nat} {l : List Nat} (h : OkU n l) (i : Nat) : l.getD i 0 < 2 ^ n := by
 rw [List.getD_eq_getElem?_getD]
 cases hi : l[i]? with
 | none => simp [Nat.two_pow_pos]
 | some v => exact h.2 v (List.mem_of_getElem? hi)
theorem OkU.set {n : Nat} {l : List Nat} (h : OkU n l) (i x : Nat) (hx : x < 2 ^ n) : OkU n (l.set i x) :=
 ⟨by simp [h.1], fun y hy => by rcases List.mem_or_eq_of_mem_set hy with h' | rfl; exact h.2 y h'; exact hx⟩
theorem OkU.bStep {n : Nat} {l : List Nat} (h : OkU n l) (i k : Nat) (hk : k < n) : OkU n (bStep i l k) := h.set _ _ (or_lt8 (h.get i) (with_lt (h.get k) hk))
theorem OkU.aStep {n : Nat} {l : List Nat} (h : OkU n l) (i k : Nat) (hi : i < n) : OkU n (aStep i l k) := h.set _ _ (with_lt (h.get k) hi)
theorem OkU.bFold {n : Nat} (i : Nat) : ∀ (ks : List Nat) {l : List Nat}, OkU n l → (∀ k ∈ ks, k < n) → OkU n (ks.foldl (P.bStep i) l)
 | [], _, h, _ => h
 | k :: ks, _, h, hk => OkU.bFold i ks (h.bStep i k (hk k List.mem_cons_self)) (fun k' h' => hk k' (List.mem_cons_of_mem _ h'))
theorem OkU.aFold {n : Nat} (i : Nat) (hi : i < n) : ∀ (ks : List Nat) {l : List Nat}, OkU n l → OkU n (ks.foldl (P.aStep i) l)
 | [], _, h => h
 | k :: ks, _, h => OkU.aFold i hi ks (h.aStep i k hi)
theorem bitsN_lt {s n : Nat} (hs : s < 2 ^ n) : ∀ k ∈ bitsN s, k < n := fun k hk => bit_lt hs (mem_bitsN.1 hk).2
theorem OkU.rel {n : Nat} {nd : List Nat} {s : List Nat × List Nat} (hnd : ∀ i, nd.getD i 0 < 2 ^ n) (h1 : OkU n s.1) (h2 : OkU n s.2) (i : Nat) (hi : i < n) : OkU n (relStep nd s i).1 ∧ OkU n (relStep nd s i).2 :=
 ⟨h1.bFold i _ (bitsN_lt (hnd i)), h2.aFold i hi _⟩
theorem OkU.zero (n : Nat) : OkU n (List.replicate n 0) := ⟨by simp, fun x hx => by rw [(List.mem_replicate.1 hx).2]; exact Nat.two_pow_pos n⟩
theorem OkU.relF {n : Nat} {nd : List Nat} (hnd : ∀ i, nd.getD i 0 < 2 ^ n) : ∀ (od : List Nat) (s : List Nat × List Nat), OkU n s.1 → OkU n s.2 → (∀ i ∈ od, i < n) → OkU n (od.foldl (relStep nd) s).1 ∧ OkU n (od.foldl (relStep nd) s).2
 | [], _, h1, h2, _ => ⟨h1, h2⟩
 | i :: od, s, h1, h2, ho => OkU.relF hnd od (relStep nd s i) (OkU.rel hnd h1 h2 i (ho i List.mem_cons_self)).1 (OkU.rel hnd h1 h2 i (ho i List.mem_cons_self)).2 (fun k hk => ho k (List.mem_cons_of_mem _ hk))
theorem relP_ok {n : Nat} {nd od : List Nat} (hnd : ∀ i, nd.getD i 0 < 2 ^ n) (ho : ∀ i ∈ od, i < n) : OkU n (relP nd od n).1 ∧ OkU n (relP nd od n).2 := OkU.relF hnd od _ (OkU.zero n) (OkU.zero n) ho
structure F8 (n : Nat) (V0 V1 V2 : Value) (w3 : World) (b1 b2 b3 b4 : Nat) (bl ab : List Nat) (W : World) : Prop where
 bel : Below w3.heap.size w3 W
 h1 : W.heap[b1]? = some (rowU bl)
 h2 : W.heap[b2]? = some (rowU ab)
 h3 : W.heap[b3]? = some (.cells #[V0, V1, V2, slv b1 n, slv b2 n] 69 (0, 0))
 h4 : W.heap[b4]? = some (.cells #[.pointer (some ⟨b3, 0, none⟩)] 59 (0, 0))
theorem own_F8 {β : Type} (n : Nat) (V0 V1 V2 : Value) (w3 : World) (b1 b2 b3 b4 : Nat) (bl ab : β → List Nat) (B : Nat) (hB : w3.heap.size ≤ B) : OwnFrom B (fun s W => F8 n V0 V1 V2 w3 b1 b2 b3 b4 (bl s) (ab s) W) := by
 intro s W W' row h hg hr
 exact ⟨(ownFrom_below (Nat.le_refl _) hB) s W W' row h.bel hg hr, own_blk B b1 (fun s => ((nI (bl s)).map (Value.int .u16)).toArray) _ s W W' row h.h1 hg hr, own_blk B b2 (fun s => ((nI (ab s)).map (Value.int .u16)).toArray) _ s W W' row h.h2 hg hr,
  own_blk B b3 (fun _ => _) _ s W W' row h.h3 hg hr, own_blk B b4 (fun _ => _) _ s W W' row h.h4 hg hr⟩
theorem F8.alloc {n : Nat} {V0 V1 V2 : Value} {w3 W : World} {b1 b2 b3 b4 : Nat} {bl ab : List Nat} (h : F8 n V0 V1 V2 w3 b1 b2 b3 b4 bl ab W) (o : Obj) : F8 n V0 V1 V2 w3 b1 b2 b3 b4 bl ab (W.alloc o) :=
 ⟨h.bel.alloc h.bel.size o, blk_alloc h.h1 o, blk_alloc h.h2 o, blk_alloc h.h3 o, blk_alloc h.h4 o⟩
theorem F8.drew {n : Nat} {V0 V1 V2 : Value} {w3 W : World} {b1 b2 b3 b4 : Nat} {bl ab : List Nat} (h : F8 n V0 V1 V2 w3 b1 b2 b3 b4 bl ab W) : F8 n V0 V1 V2 w3 b1 b2 b3 b4 bl ab W.drew :=
 ⟨below_drew h.bel, h.h1, h.h2, h.h3, h.h4⟩
theorem grown_set (W : World) (m b i : Nat) (v : Value) : W.grownBy ((W.drewN m).setCell ⟨b, i, none⟩ v) (some b) :=
 ⟨rfl, rfl, rfl, by simp [World.setCell], fun k _ hne => Below.heap_setCell (W.drewN m) ⟨b, i, none⟩ v k (fun e => hne (by rw [e]))⟩
theorem keeps_set (B : Nat) (W : World) (m : Nat) (a : Addr) (v : Value) : KeepsFrom B W ((W.drewN m).setCell a v) :=
 ⟨((KeepsOthers.setCell (W.drewN m) a v).from B).size, ((KeepsOthers.setCell (W.drewN m) a v).from B).same⟩
theorem F8.setB {n : Nat} {V0 V1 V2 : Value} {w3 W : World} {b1 b2 b3 b4 : Nat} {bl ab : List Nat} (h : F8 n V0 V1 V2 w3 b1 b2 b3 b4 bl ab W) (hge : w3.heap.size ≤ b1) (hne : b1 ≠ b2) (m i x : Nat) :
  F8 n V0 V1 V2 w3 b1 b2 b3 b4 (bl.set i x) ab ((W.drewN m).setCell ⟨b1, i, none⟩ (.int .u16 (x : Int))) := by
 have hg := grown_set W m b1 i (.int .u16 (x : Int))
 exact ⟨(pw_below_drewN h.bel m).setCell hge _, rowU_set (W := W.drewN m) h.h1 i x, blk_grown h.h2 hg (fun e => hne (by injection e with e; exact e.symm)), blk_grown h.h3 hg (fun e => blk_ne h.h1 h.h3 (by decide) (by injection e with e; exact e.symm)), blk_grown h.h4 hg (fun e => blk_ne h.h1 h.h4 (by decide) (by injection e with e; exact e.symm))⟩
theorem F8.setA {n : Nat} {V0 V1 V2 : Value} {w3 W : World} {b1 b2 b3 b4 : Nat} {bl ab : List Nat} (h : F8 n V0 V1 V2 w3 b1 b2 b3 b4 bl ab W) (hge : w3.heap.size ≤ b2) (hne : b1 ≠ b2) (m i x : Nat) :
  F8 n V0 V1 V2 w3 b1 b2 b3 b4 bl (ab.set i x) ((W.drewN m).setCell ⟨b2, i, none⟩ (.int .u16 (x : Int))) := by
 have hg := grown_set W m b2 i (.int .u16 (x : Int))
 exact ⟨(pw_below_drewN h.bel m).setCell hge _, blk_grown h.h1 hg (fun e => hne (by injection e)), rowU_set (W := W.drewN m) h.h2 i x, blk_grown h.h3 hg (fun e => blk_ne h.h2 h.h3 (by decide) (by injection e with e; exact e.symm)), blk_grown h.h4 hg (fun e => blk_ne h.h2 h.h4 (by decide) (by injection e with e; exact e.symm))⟩
theorem own_move {w U : World} {base : Nat} {e : TypeId} {size n : Nat} {v : Value} {xs : List Value} (h : w.ownsRow base e size v n xs) (hk : ∀ k, base ≤ k → k < w.heap.size → U.heap[k]? = w.heap[k]?) : U.ownsRow base e size v n xs := by
 obtain ⟨h1, h2 | ⟨g, cap, cur, e1, e2, e3, h3⟩⟩ := h
 ·exact ⟨h1, .inl h2⟩
 ·exact ⟨h1, .inr ⟨g, cap, cur, e1, e2, (hk g e2 (Array.getElem?_eq_some_iff.1 e3).1).trans e3, h3⟩⟩
theorem C_move {k : IntKind} {e : TypeId} {w U : World} {base n c : Nat} {A : Option Addr} {xs : List Int} (h : w.ownsRow base e 1 (.slice A n c) n (encs (Value.int k) xs)) (hn : n = xs.length) (hk : ∀ k, base ≤ k → k < w.heap.size → U.heap[k]? = w.heap[k]?) : Kd.C (Kd.int k) U A xs.length xs := by
 subst hn
 exact Kd.C_of_reads (d := (0 : Int)) (own_reads_of' (own_move h hk))
set_option maxRecDepth 100000 in
set_option maxHeartbeats 4000000 in
theorem graphOf_yes (k : Nat) (A0 : Option Addr) (c0 : Nat) (l0 : List TT) (nd od : List Int) (dn : Int) (w : World) (hr0 : Kd.C k38 w A0 l0.length l0) (hc0 : l0.length ≤ c0) (hN : impl_needsOf.f k l0 = some (nd, true)) (hO : impl_order.f k nd = some (od, dn))
  (hd : (dn == everyI l0.length) = true) (hlen : l0.length ≤ 8) (nN oN : List Nat) (hnd : nd = nI nN) (hod : od = nI oN) (hnl : nN.length = l0.length) (hns : ∀ x ∈ nN, x < 2 ^ l0.length) (hos : ∀ x ∈ oN, x < l0.length) (hT : TabOK w) :
  Calls Tryd.prog 73 #[.slice A0 l0.length c0] w fun e w' => ∃ g, e = .returned (.tuple #[.pointer (some ⟨g, 0, none⟩), .bool true]) ∧ (∀ U : World, Kd.C k38 U A0 l0.length l0 → (∀ k, w.heap.size ≤ k → k < w'.heap.size → U.heap[k]? = w'.heap[k]?) → IsG U g ⟨l0, nd, od, nI (relP nN oN l0.length).1, nI (relP nN oN l0.length).2⟩) ∧ Below w.heap.size w w' := by
 have nc := Aside0.mk (impl_needsOf.calls k A0 c0 l0 nd true w hr0 hc0 hN)
 have hO' := Aside0.mk hO
 have hr0' := Aside0.mk hr0
 have hc0' := Aside0.mk hc0
 have hT' := Aside0.mk hT
 have hlen' := Aside0.mk hlen
 have hnd' := Aside0.mk hnd
 have hod' := Aside0.mk hod
 have hnl' := Aside0.mk hnl
 have hns' := Aside0.mk hns
 have hos' := Aside0.mk hos
 clear hr0 hN hO hT hlen hnd hod hns hos hc0 hnl
 have hd2 : (dn != everyI l0.length) = false := by simpa [bne] using hd
 refine calls_of_wpM Tryd.func73 rfl ?_
 simp only [Tryd.ntmps73, List.size_toArray, List.length_cons, List.length_nil, Nat.reduceAdd, Nat.reduceSub, Array.replicate_succ, Array.replicate_zero, List.push_toArray, List.append_toArray, List.nil_append, List.cons_append]
 go_wp2_with (first | (go_at_call 101; refine nc.out.mono ?_; rintro e w1 ⟨v, rfl, hR, hB⟩; have hB' := Aside0.mk hB; obtain ⟨A1, c1, rfl, hl1, hC1⟩ := Kd.R_reads hR; have hO1 := Aside0.mk (Kd.own_of_R (enc := Value.int .u16) (h1 := fun _ => rfl) hR); have hC1' := Aside0.mk hC1; have hl1' := Aside0.mk hl1; have oc := Aside0.mk (impl_order.calls k A1 c1 nd od dn w1 hC1 hl1 hO'.out); clear hB hR hC1 hl1) | (go_at_call 102; refine oc.out.mono ?_; rintro e w2 ⟨v2, rfl, hR2, hB2⟩; obtain ⟨A2, c2, rfl, hl2, hC2⟩ := Kd.R_reads hR2; have hO2 := Aside0.mk (Kd.own_of_R (enc := Value.int .i64) (h1 := fun _ => rfl) hR2); have hC2' := Aside0.mk hC2; have hl2' := Aside0.mk hl2; have hB2' := Aside0.mk hB2; clear hR2 hB2 hC2 hl2) | (go_at_call 103; refine (everyI_calls l0.length _).mono ?_; rintro e w3 ⟨rfl, ⟨m3, rfl⟩⟩))
 have hB3' := Aside0.mk (pw_below_drewN (below_step hB'.out hB2'.out) m3)
 have hM1 := Aside0.mk (show ∀ k, k < w1.heap.size → (w2.drewN m3).heap[k]? = w1.heap[k]? from fun k hk => hB2'.out.block k hk)
 have hM2 := Aside0.mk (show ∀ k, k < w2.heap.size → (w2.drewN m3).heap[k]? = w2.heap[k]? from fun k hk => rfl)
 have hM3 := Aside0.mk (show w1.heap.size ≤ (w2.drewN m3).heap.size ∧ w2.heap.size ≤ (w2.drewN m3).heap.size ∧ w.heap.size ≤ w1.heap.size from ⟨hB2'.out.size, Nat.le_refl _, hB'.out.size⟩)
 have hA0 := Aside0.mk (Kd.C_drewN (Kd.C_below (Kd.C_below hr0'.out hB'.out) hB2'.out) m3)
 have hA1 := Aside0.mk (Kd.C_drewN (Kd.C_below hC1'.out hB2'.out) m3)
 have hA2 := Aside0.mk (Kd.C_drewN hC2'.out m3)
 generalize w2.drewN m3 = w3 at *
 have hT3 := Aside0.mk (hT'.out.below hB3'.out)
 clear nc oc hB' hB2' hC1' hC2' hr0' hO'
 obtain ⟨n, hn⟩ : ∃ n, n = l0.length := ⟨_, rfl⟩
 have hn' := Aside0.mk hn
 simp only [← hn]
 clear hn
 show (Code.region 7 (opsOf Tryd.f73 7) true).wp _ _ _ _
 refine region7 A0 A1 A2 n _ _ c0 c1 c2 _ (by simp) (by rfl) (by rfl) (by rfl) (by rw [hn'.out]; exact hlen'.out) w3 w3 (Below.refl _ _) _ ?_
 rintro a' w4 ⟨b1, b2, b3, b4, v9, rfl, hF⟩
 simp only [L7, putSel, if_true, Act.put, List.setIfInBounds_toArray, List.set_cons_zero, List.set_cons_succ]
 have hF8 : F8 n (.slice A0 n c0) (.slice A1 nd.length c1) (.slice A2 od.length c2) w3 b1 b2 b3 b4 (List.replicate n 0) (List.replicate n 0) w4 :=
  ⟨hF.bel, (hF.h1 rfl).trans (by rw [zrow, rowU_zero]), (hF.h2 rfl).trans (by rw [zrow, rowU_zero]), hF.h3 rfl, hF.h5 rfl⟩
 have hge := Aside0.mk (show w3.heap.size ≤ b1 ∧ w3.heap.size ≤ b2 ∧ w3.heap.size ≤ b3 ∧ w3.heap.size ≤ b4 from ⟨hF.g1 rfl, hF.g2 rfl, hF.g3 rfl, hF.g4 rfl⟩)
 have hne := Aside0.mk (show b1 ≠ b2 from hF.ne rfl rfl)
 have hF8' := Aside0.mk hF8
 have hv9 := hF.h9 rfl
 clear hF hF8
 subst hv9
 go_wp2
 refine wp_loop_slots [10, 43, 44, 45, 46, 47, 48, 49, 50, 51, 71, 72, 73, 74, 75, 76, 77, 78, 95] [undef, .int .i64 0, undef, undef, undef, undef, undef, undef, undef, undef, undef, undef, undef, undef, undef, undef, undef, undef, undef] (fun kq vs ds W => ∃ j : Nat, ∃ u10 u44 u45 u46 u47 u48 u49 u50 u51 u71 u72 u73 u74 u75 u76 u77 u78 u95, vs = [u10, .int .i64 (j : Int), u44, u45, u46, u47, u48, u49, u50, u51, u71, u72, u73, u74, u75, u76, u77, u78, u95] ∧ Aside0 (kq + j = od.length) ∧ Aside0 (F8 n (.slice A0 n c0) (.slice A1 nd.length c1) (.slice A2 od.length c2) w3 b1 b2 b3 b4 (relP nN (oN.take j) n).1 (relP nN (oN.take j) n).2 W) ∧ Aside0 (Marks w3.heap.size ds W)) od.length (by simp only [setAll, List.setIfInBounds_toArray, List.set_cons_zero, List.set_cons_succ]) ⟨0, undef, undef, undef, undef, undef, undef, undef, undef, undef, undef, undef, undef, undef, undef, undef, undef, undef, undef, rfl, ⟨by omega⟩, hF8', ⟨Marks.nil _ _⟩⟩ ?_
 rintro gk vs ds W ⟨j, u10, u44, u45, u46, u47, u48, u49, u50, u51, u71, u72, u73, u74, u75, u76, u77, u78, u95, rfl, hk, hG, hM⟩ K hK
 simp only [setAll, List.setIfInBounds_toArray, List.set_cons_zero, List.set_cons_succ]
 have hG' := hG
 by_cases hj : j < od.length
 case neg =>
  obtain rfl : j = od.length := by have := hk.out; omega
  have c4 : W.cell? ⟨b4, 0, none⟩ = some (.pointer (some ⟨b3, 0, none⟩)) := (blk_cell hG.out.h4 0).trans rfl
  clear hK
  go_wp2
  have hnb : ∀ i, nN.getD i 0 < 2 ^ n := fun i => OkU.get ⟨by rw [hnl'.out, hn'.out], fun x hx => by rw [hn'.out]; exact hns'.out x hx⟩ i
  have hall : oN.take od.length = oN := by rw [hod'.out, nI_length, List.take_length]
  have hG2 := hG.out
  rw [hall] at hG2
  obtain ⟨hok1, hok2⟩ := relP_ok hnb (od := oN) (fun i hi => by rw [hn'.out]; exact hos'.out i hi)
  have hbelow : Below w.heap.size w W := below_step hB3'.out hG2.bel
  have hn8 : n ≤ 8 := by rw [hn'.out]; exact hlen'.out
  refine retM (B := w3.heap.size) (fun W => F8 n (.slice A0 n c0) (.slice A1 nd.length c1) (.slice A2 od.length c2) w3 b1 b2 b3 b4 (relP nN oN n).1 (relP nN oN n).2 W) (own_F8 _ _ _ _ _ _ _ _ _ _ _ _ (Nat.le_refl _)) hM.out hG2 ?_
  intro W' hE
  refine ⟨.tuple #[.pointer (some ⟨b3, 0, none⟩), .bool true], (results_tmp2 (t := 2) (u := 3) rfl _ _ _).trans rfl, b3, rfl, ?_, below_step hB3'.out hE.bel⟩
  intro U hU0 hUk
  have g1 : w.heap.size ≤ w3.heap.size := hB3'.out.size
  have keep : ∀ {x o}, w3.heap.size ≤ x → W'.heap[x]? = some o → U.heap[x]? = some o := fun h1 h2 => (hUk _ (by omega) (Array.getElem?_eq_some_iff.1 h2).1).trans h2
  have k1 := keep hge.out.1 hE.h1
  have k2 := keep hge.out.2.1 hE.h2
  have k3 := keep hge.out.2.2.1 hE.h3
  have s3 := hE.bel.size
  refine ⟨A0, c0, A1, c1, A2, c2, some ⟨b1, 0, none⟩, n, some ⟨b2, 0, none⟩, n, ?_, ⟨hU0, hc0'.out⟩, ⟨C_move hO1.out rfl (fun k h1 h2 => ?_), hl1'.out⟩, ⟨C_move hO2.out rfl (fun k h1 h2 => ?_), hl2'.out⟩, ⟨?_, ?_⟩, ⟨?_, ?_⟩⟩
  ·rw [k3]
   simp only [nI_length, hok1.1, hok2.1, ← hn'.out]
  ·rw [hUk k h1 (by have := hM3.out; omega), hE.bel.block k (by have := hM3.out; omega)]
   exact hM1.out k h2
  ·rw [hUk k (by have := hM3.out; omega) (by have := hM3.out; omega), hE.bel.block k (by have := hM3.out; omega)]
   exact hM2.out k h2
  ·simp only [nI_length, ← hn'.out]
   exact Kd.C_of_reads (rowU_reads k1 (by rw [hok1.1]; exact hn8))
  ·simp only [nI_length, ← hn'.out, hok1.1]; exact Nat.le_refl _
  ·simp only [nI_length, ← hn'.out]
   exact Kd.C_of_reads (rowU_reads k2 (by rw [hok2.1]; exact hn8))
  ·simp only [nI_length, ← hn'.out, hok2.1]; exact Nat.le_refl _
 case pos =>
  obtain ⟨o, ho⟩ : ∃ o : Nat, oN[j]? = some o := by
   have hl : j < oN.length := by rw [hod'.out, nI_length] at hj; exact hj
   exact ⟨_, List.getElem?_eq_getElem hl⟩
  have hk1 := Aside0.mk (show gk - 1 < gk by have := hk.out; omega)
  have hk2 := Aside0.mk (show gk - 1 + (j + 1) = od.length by have := hk.out; omega)
  have hmax := Kd.C_max hA2.out
  have hcast' := Aside0.mk (show wrap64 ((j : Int) + 1) = ((j + 1 : Nat) : Int) by rw [IntWalk.wrap64_in _ (by omega)]; omega)
  clear hmax
  have hoo := Aside0.mk (hos'.out o (List.mem_of_getElem? ho))
  obtain ⟨adn, rfl, hxn⟩ := Kd.at_int (Kd.C_below hA2.out hG.out.bel) (j : Int) (by omega) (by omega)
  have ho2 : rd od (j : Int) = (o : Int) := by rw [hod'.out, rd_nI, List.getD_eq_getElem?_getD, ho]; rfl
  simp only [Int.toNat_natCast, ho2] at hxn
  obtain ⟨ad1, hA1e, hx1⟩ := Kd.at_int (Kd.C_below hA1.out hG.out.bel) (o : Int) (by omega) (by rw [hnd'.out, nI_length, hnl'.out]; exact_mod_cast hoo.out)
  subst hA1e
  have hn2 : rd nd (o : Int) = ((nN.getD o 0 : Nat) : Int) := by rw [hnd'.out, rd_nI]
  obtain ⟨sn, hsn⟩ : ∃ sn, nN.getD o 0 = sn := ⟨_, rfl⟩
  simp only [Int.toNat_natCast, hn2, hsn] at hx1
  clear hn2
  have hsn' := Aside0.mk hsn
  clear hsn
  have hol : o < nd.length := by rw [hnd'.out, nI_length, hnl'.out]; exact hoo.out
  have hx1' := cell_alloc hx1 (.cells #[.int .i64 (o : Int)] 3)
  have hK' := Aside0.mk hK
  clear hK hx1
  go_wp2_with (go_at_call 83; refine (all_calls _ _).mono ?_; rintro e w' ⟨rfl, rfl⟩)
  have hnb : ∀ i, nN.getD i 0 < 2 ^ n := fun i => OkU.get ⟨by rw [hnl'.out, hn'.out], fun x hx => by rw [hn'.out]; exact hns'.out x hx⟩ i
  have hsb : sn < 2 ^ n := by rw [← hsn'.out]; exact hnb o
  have hon : o < n := by rw [hn'.out]; exact hoo.out
  have hn8 : n ≤ 8 := by rw [hn'.out]; exact hlen'.out
  obtain ⟨hok1, hok2⟩ := relP_ok hnb (od := oN.take j) (fun i hi => by rw [hn'.out]; exact hos'.out i (List.mem_of_mem_take hi))
  have hstep : relP nN (oN.take (j + 1)) n = relStep nN (relP nN (oN.take j) n) o := by
   unfold relP
   rw [List.take_add_one, ho, Option.toList_some, List.foldl_append]
   rfl
  have hstep' := Aside0.mk hstep
  clear hstep
  have hTW := hT3.out.below hG.out.bel
  generalize hbl : (relP nN (oN.take j) n).1 = bl at *
  generalize hab : (relP nN (oN.take j) n).2 = ab at *
  have hG1 := hG.out.alloc (.cells #[.int .i64 (o : Int)] 3)
  have hq1 := Boxed.new W 3 (.int .i64 (o : Int))
  have hM1 : Marks w3.heap.size ds (W.alloc (.cells #[.int .i64 (o : Int)] 3)) := hM.out.block hM.out.ltOf (fun k hk => Below.heap_alloc W _ k hk)
  have hT1 : TabOK (W.alloc (.cells #[.int .i64 (o : Int)] 3)) := hTW.below ((Below.refl _ W).alloc (Nat.le_refl _) _)
  have hs1 : (W.alloc (.cells #[.int .i64 (o : Int)] 3)).heap.size = W.heap.size + 1 := by simp
  have hlt1 := hM.out.ltOf
  have hqs : w3.heap.size ≤ W.heap.size := hG.out.bel.size
  generalize W.alloc (.cells #[.int .i64 (o : Int)] 3) = W1 at *
  generalize W.heap.size = q at *
  have hG2 := hG1.alloc (.cells #[.int .u16 (sn : Int)] 64)
  have hq2 := hq1.alloc (.cells #[.int .u16 (sn : Int)] 64)
  have hM2 : Marks w3.heap.size ds (W1.alloc (.cells #[.int .u16 (sn : Int)] 64)) := hM1.block (hlt1.le (show q ≤ W1.heap.size by omega)) (fun k hk => Below.heap_alloc W1 _ k hk)
  have hT2 : TabOK (W1.alloc (.cells #[.int .u16 (sn : Int)] 64)) := hT1.below ((Below.refl _ W1).alloc (Nat.le_refl _) _)
  have hk2 := (box_at W1 64 (.int .u16 (sn : Int)) (q + 1) hs1).cell
  have hs2 : (W1.alloc (.cells #[.int .u16 (sn : Int)] 64)).heap.size = q + 1 + 1 := by simp [hs1]
  try simp only [hs1]
  generalize W1.alloc (.cells #[.int .u16 (sn : Int)] 64) = W2 at *
  have hkeep := Aside0.mk hK'
  clear hG1 hq1 hM1 hT1 hs1 hF8' hG' hTW hM hG hx1' hxn hA0 hd hd2
  refine wp_all1 (q + 1) sn (lt256 hsb hn8) rfl (by omega) hk2 hT2 rfl rfl rfl (by simp)
   (fun pre W => ((Boxed W q 3 (.int .i64 (o : Int)) ∧ F8 n (.slice A0 n c0) (.slice (some ad1) nd.length c1) (.slice (some adn) od.length c2) w3 b1 b2 b3 b4 (pre.foldl (bStep o) bl) ab W) ∧ Marks w3.heap.size ds W) ∧ OkU n (pre.foldl (bStep o) bl)) (fun _ _ _ => False)
   (OwnFrom.and (OwnFrom.and (OwnFrom.and (own_box _ _ _ _) (own_F8 _ _ _ _ _ _ _ _ _ _ _ _ (by omega))) (own_marks _ _ _ (hlt1.le (by omega)))) (fun _ _ _ _ h _ _ => h)) (fun _ _ _ _ _ hs _ _ => hs) ⟨⟨⟨hq2, hG2⟩, hM2⟩, hok1⟩ (fun pre W h => hT3.out.below h.1.1.2.bel) ?body ?done ?stop
  case stop => intro D c pre W _ _ h _; exact h.elim
  case body =>
   rintro l pre x W hx8 hxs ⟨⟨⟨hb, hF⟩, hMk⟩, hok⟩ hlen
   simp only [List.setIfInBounds_toArray, List.set_cons_zero, List.set_cons_succ]
   generalize hblp : pre.foldl (bStep o) bl = blp at *
   have hxn2 : x < n := bit_lt hsb hxs
   have c4 : W.cell? ⟨b4, 0, none⟩ = some (.pointer (some ⟨b3, 0, none⟩)) := (blk_cell hF.h4 0).trans rfl
   have c33 : W.cell? ⟨b3, 3, none⟩ = some (slv b1 n) := (blk_cell hF.h3 3).trans rfl
   have cq := hb.cell
   have ci := rowU_cell hF.h1 o (by rw [hok.1]; exact hon)
   have ck := rowU_cell hF.h1 x (by rw [hok.1]; exact hxn2)
   obtain ⟨vi, hvi⟩ : ∃ v, blp.getD o 0 = v := ⟨_, rfl⟩
   obtain ⟨vk, hvk⟩ : ∃ v, blp.getD x 0 = v := ⟨_, rfl⟩
   rw [hvi] at ci
   rw [hvk] at ck
   have hvi' := Aside0.mk hvi
   have hvk' := Aside0.mk hvk
   have hF' := Aside0.mk hF
   have hb' := Aside0.mk hb
   have hMk' := Aside0.mk hMk
   have hok' := Aside0.mk hok
   have hfr : W.frozen? ⟨b1, o, none⟩ = false := blk_frozen hF.h1 o
   clear hvi hvk hF hb hMk hok hK' hkeep hM2 hT2 hk2 hq2 hG2 hs2 hlt1
   try gi_wp2
   refine wpIn_region_qtail 17 (by rintro ⟨_, _, h⟩; exact h) (by kernel_rfl) (by kernel_rfl) (by kernel_rfl) (by kernel_rfl) ?_
   simp only [List.take_succ_cons, List.take_zero, List.drop_succ_cons, List.drop_zero]
   repeat (go_big_quiet_step (exact withI_quiet _ _ (by omega) _ _))
   refine wpQuiet_nil ?_
   rintro _ ⟨nq, rfl⟩
   go_wp2
   have hval : Go.bits .or .u16 (vi : Int) (withI (vk : Int) (x : Int)) = ((vi ||| (vk ||| 2 ^ x) : Nat) : Int) := by
    have l1 := lt256 (hok'.out.get o) hn8
    have l2 := lt256 (hok'.out.get x) hn8
    rw [hvi'.out] at l1
    rw [hvk'.out] at l2
    rw [withI_nat vk x l2 hx8, orI_nat _ _ l1 (lt256 (with_lt (by rw [← hvk'.out]; exact hok'.out.get x) hxn2) hn8)]
   have hfold : (pre ++ [x]).foldl (bStep o) bl = blp.set o (vi ||| (vk ||| 2 ^ x)) := by
    rw [List.foldl_append, hblp, List.foldl_cons, List.foldl_nil, bStep, hvi'.out, hvk'.out]
   rw [hval]
   refine ⟨keeps_set _ _ _ _ _, ⟨⟨hb'.out.kept (grown_set W nq b1 o _) (fun e => ?_), by rw [hfold]; exact hF'.out.setB hge.out.1 hne.out nq o _⟩, hMk'.out.keeps (keeps_set _ _ _ _ _)⟩, by rw [hfold, ← hvi'.out, ← hvk'.out]; exact hok'.out.bStep o x hxn2⟩
   injection e with e
   exact blk_ne hF'.out.h1 hb'.out (by decide) e.symm
  case done =>
   rintro D W hD ⟨⟨⟨hb, hF⟩, hMk⟩, hok⟩ hKD
   clear hG2 hq2 hM2 hT2 hk2
   generalize hblp : (bitsN sn).foldl (bStep o) bl = blp at *
   have c4 : W.cell? ⟨b4, 0, none⟩ = some (.pointer (some ⟨b3, 0, none⟩)) := (blk_cell hF.h4 0).trans rfl
   have c33 : W.cell? ⟨b3, 3, none⟩ = some (slv b1 n) := (blk_cell hF.h3 3).trans rfl
   have cq := hb.cell
   have ci := rowU_cell hF.h1 o (by rw [hok.1]; exact hon)
   obtain ⟨vi, hvi⟩ : ∃ v, blp.getD o 0 = v := ⟨_, rfl⟩
   rw [hvi] at ci
   have hvi' := Aside0.mk hvi
   have hblp' := Aside0.mk hblp
   have hF' := Aside0.mk hF
   have hb' := Aside0.mk hb
   have hMk' := Aside0.mk hMk
   have hok' := Aside0.mk hok
   have hKD' := Aside0.mk hKD
   clear hvi hF hb hMk hok hblp hKD
   go_wp2
   go_still_tail 7, (by kernel_rfl)
   go_wp2_with (go_at_call 83; refine (all_calls _ _).mono ?_; rintro e w' ⟨rfl, rfl⟩)
   have hsb2 : vi < 2 ^ n := by rw [← hvi'.out]; exact hok'.out.get o
   have hMD : Marks w3.heap.size (markOf D :: ds) W := hMk'.out.cons (by omega) hKD'.out (hlt1.le (by omega))
   have hG5 := (hF'.out.alloc (.cells #[.int .u16 (vi : Int)] 64)).drew
   have hq5 : Boxed (W.alloc (.cells #[.int .u16 (vi : Int)] 64)).drew q 3 (.int .i64 (o : Int)) := hb'.out.alloc _
   have hM5 : Marks w3.heap.size (markOf D :: ds) (W.alloc (.cells #[.int .u16 (vi : Int)] 64)).drew := hMD.block hMD.ltOf (fun k hk => Below.heap_alloc W _ k hk)
   have hk5 : (W.alloc (.cells #[.int .u16 (vi : Int)] 64)).drew.cell? ⟨W.heap.size, 0, none⟩ = some (.int .u16 (vi : Int)) := (Boxed.new W 64 (.int .u16 (vi : Int))).cell
   have hs5 : (W.alloc (.cells #[.int .u16 (vi : Int)] 64)).drew.heap.size = W.heap.size + 1 := by simp [World.drew]
   have hlt5 := hMD.ltOf
   have hqs5 : w3.heap.size ≤ W.heap.size := hF'.out.bel.size
   clear c4 c33 cq ci hKD' hb' hMk' hMD hs2 hD
   generalize (W.alloc (.cells #[.int .u16 (vi : Int)] 64)).drew = W5 at *
   generalize W.heap.size = q5 at *
   refine wp_all1 q5 vi (lt256 hsb2 hn8) rfl (by omega) hk5 (hT3.out.below hG5.bel) rfl rfl rfl (by simp)
    (fun pre W => ((Boxed W q 3 (.int .i64 (o : Int)) ∧ F8 n (.slice A0 n c0) (.slice (some ad1) nd.length c1) (.slice (some adn) od.length c2) w3 b1 b2 b3 b4 blp (pre.foldl (aStep o) ab) W) ∧ Marks w3.heap.size (markOf D :: ds) W) ∧ OkU n (pre.foldl (aStep o) ab)) (fun _ _ _ => False)
    (OwnFrom.and (OwnFrom.and (OwnFrom.and (own_box _ _ _ _) (own_F8 _ _ _ _ _ _ _ _ _ _ _ _ (by omega))) (own_marks _ _ _ (hlt5.le (by omega)))) (fun _ _ _ _ h _ _ => h)) (fun _ _ _ _ _ hs _ _ => hs) ⟨⟨⟨hq5, hG5⟩, hM5⟩, hok2⟩ (fun pre W h => hT3.out.below h.1.1.2.bel) ?body2 ?done2 ?stop2
   case stop2 => intro D c pre W _ _ h _; exact h.elim
   case body2 =>
    rintro l pre x W hx8 hxs ⟨⟨⟨hb, hF⟩, hMk⟩, hok⟩ hlen
    simp only [List.setIfInBounds_toArray, List.set_cons_zero, List.set_cons_succ]
    generalize habp : pre.foldl (aStep o) ab = abp at *
    have hxn2 : x < n := bit_lt hsb2 hxs
    have c4 : W.cell? ⟨b4, 0, none⟩ = some (.pointer (some ⟨b3, 0, none⟩)) := (blk_cell hF.h4 0).trans rfl
    have c34 : W.cell? ⟨b3, 4, none⟩ = some (slv b2 n) := (blk_cell hF.h3 4).trans rfl
    have cq := hb.cell
    have ck := rowU_cell hF.h2 x (by rw [hok.1]; exact hxn2)
    obtain ⟨vk, hvk⟩ : ∃ v, abp.getD x 0 = v := ⟨_, rfl⟩
    rw [hvk] at ck
    have hvk' := Aside0.mk hvk
    have hF2' := Aside0.mk hF
    have hb' := Aside0.mk hb
    have hMk' := Aside0.mk hMk
    have hok3' := Aside0.mk hok
    have hfr : W.frozen? ⟨b2, x, none⟩ = false := blk_frozen hF.h2 x
    clear hvk hF hb hMk hok hK' hkeep hG5 hq5 hM5 hk5 hs5 hlt5 hF' hok' hblp' hvi'
    try gi_wp2
    refine wpIn_region_qtail 14 (by rintro ⟨_, _, h⟩; exact h) (by kernel_rfl) (by kernel_rfl) (by kernel_rfl) (by kernel_rfl) ?_
    simp only [List.take_succ_cons, List.take_zero, List.drop_succ_cons, List.drop_zero]
    repeat (go_big_quiet_step (exact withI_quiet _ _ (by omega) _ _))
    refine wpQuiet_nil ?_
    rintro _ ⟨nq, rfl⟩
    go_wp2
    have hval : withI (vk : Int) (o : Int) = ((vk ||| 2 ^ o : Nat) : Int) := by
     have l2 := lt256 (hok3'.out.get x) hn8
     rw [hvk'.out] at l2
     rw [withI_nat vk o l2 (by omega)]
    have hfold : (pre ++ [x]).foldl (aStep o) ab = abp.set x (vk ||| 2 ^ o) := by
     rw [List.foldl_append, habp, List.foldl_cons, List.foldl_nil, aStep, hvk'.out]
    rw [hval]
    refine ⟨keeps_set _ _ _ _ _, ⟨⟨hb'.out.kept (grown_set W nq b2 x _) (fun e => ?_), by rw [hfold]; exact hF2'.out.setA hge.out.2.1 hne.out nq x _⟩, hMk'.out.keeps (keeps_set _ _ _ _ _)⟩, by rw [hfold, ← hvk'.out]; exact hok3'.out.aStep o x hon⟩
    injection e with e
    exact blk_ne hF2'.out.h2 hb'.out (by decide) e.symm
   case done2 =>
    rintro D2 W hD2 ⟨⟨⟨hb, hF⟩, hMk⟩, hok⟩ hKD
    have hF2' := Aside0.mk hF
    have hM6 := Aside0.mk (hMk.cons (D := D2) (by omega) hKD (hlt5.le (by omega)))
    clear hF hb hMk hok hKD hG5 hq5 hM5 hk5 hs5 hlt5 hF' hok'
    go_wp2
    have hcast := hcast'.out
    have hR : Aside0 (F8 n (.slice A0 n c0) (.slice (some ad1) nd.length c1) (.slice (some adn) od.length c2) w3 b1 b2 b3 b4 (relP nN (oN.take (j + 1)) n).1 (relP nN (oN.take (j + 1)) n).2 W) := by
     rw [hstep'.out, relStep, hbl, hab, hsn'.out, hblp'.out, hvi'.out]
     exact hF2'
    have h := fun (u10 u44 u45 u46 u47 u48 u49 u50 u51 u71 u72 u73 u74 u75 u76 u77 u78 u95 : Value) => hK'.out (gk - 1) [u10, .int .i64 ((j + 1 : Nat) : Int), u44, u45, u46, u47, u48, u49, u50, u51, u71, u72, u73, u74, u75, u76, u77, u78, u95] (markOf D2 :: markOf D :: ds) W hk1.out ⟨j + 1, u10, u44, u45, u46, u47, u48, u49, u50, u51, u71, u72, u73, u74, u75, u76, u77, u78, u95, rfl, hk2, hR, hM6⟩
    simp only [setAll, List.setIfInBounds_toArray, List.set_cons_zero, List.set_cons_succ] at h
    rw [hcast]
    exact h _ _ _ _ _ _ _ _ _ _ _ _ _ _ _ _ _ _
end Go.Proofs.YtdmeiiedbhfniaaDoor.P
end
section
namespace Go.Proofs.YtdmeiiedbhfniaaDoor.P
open Go.RowKit Go.Shelf YtdmeiiedbhfniaaDoorW.PrintWords YtdmeiiedbhfniaaDoorW.PrintLast YtdmeiiedbhfniaaDoorW.PrintMore
def setGo (n : Nat) : List Int → Int → Nat → Option Nat
 | [], _, s => some s
 | i :: r, last, s => if last + 1 ≤ i ∧ i < n then setGo n r i (s ||| 2 ^ i.toNat) else none
def setP (l : List Int) (n : Nat) : Option Nat := setGo n l (-1) 0
theorem within_eq (a b c : Int) : impl_within.f a b c = some (decide (b ≤ a ∧ a ≤ c)) := by
 unfold impl_within.f
 by_cases h : a ≥ b
 ·simp [h]
 ·simp [h]
theorem with_eq (s i : Nat) (hs : s < 256) (hi : i < 8) : impl_set_with.f (s : Int) (i : Int) = some ((s ||| 2 ^ i : Nat) : Int) := by
 rw [← withI_nat s i hs hi]
 unfold impl_set_with.f withI
 rw [if_pos (by omega)]
theorem setGo_lt {n : Nat} : ∀ (l : List Int) (last : Int) (s s' : Nat), -1 ≤ last → s < 2 ^ n → setGo n l last s = some s' → s' < 2 ^ n
 | [], _, s, s', _, hs, h => by simp [setGo] at h; omega
 | i :: r, last, s, s', hl, hs, h => by
  unfold setGo at h
  split at h
  ·rename_i hi
   exact setGo_lt r i _ s' (by omega) (with_lt hs (by omega)) h
  ·cases h
theorem setP_lt {l : List Int} {n s : Nat} (h : setP l n = some s) : s < 2 ^ n := setGo_lt l _ _ _ (by omega) (Nat.two_pow_pos n) h
def setR (o : Option Nat) : Int × Bool := match o with | some s => ((s : Int), true) | none => (0, false)
theorem rd_mid (pre : List Int) (x : Int) (r : List Int) : rd (pre ++ x :: r) (pre.length : Int) = x := by simp [rd]
theorem setOf_go {n : Nat} (hn : n ≤ 8) : ∀ (r pre : List Int) (last : Int) (s k : Nat), -1 ≤ last → last < n → (pre.length : Int) ≤ last + 1 → s < 2 ^ n → (n : Int) - last + 1 ≤ k →
  impl_setOf.l0 k (n : Int) (s : Int) last (pre ++ r) ((pre ++ r).length : Int) (pre.length : Int) = some (setR (setGo n r last s))
 | [], pre, last, s, k, h1, h2, h3, hs, hk => by
  obtain ⟨k, rfl⟩ : ∃ j, k = j + 1 := ⟨k - 1, by omega⟩
  simp [impl_setOf.l0, setGo, setR]
 | x :: r, pre, last, s, k, h1, h2, h3, hs, hk => by
  obtain ⟨k, rfl⟩ : ∃ j, k = j + 1 := ⟨k - 1, by omega⟩
  have l1 : (pre.length : Int) < ((pre ++ x :: r).length : Int) := by simp; omega
  have w1 : wrap64 (last + 1) = last + 1 := IntWalk.wrap64_in _ (by omega)
  have w2 : wrap64 ((n : Int) - 1) = (n : Int) - 1 := IntWalk.wrap64_in _ (by omega)
  have w3 : wrap64 ((pre.length : Int) + 1) = ((pre ++ [x]).length : Int) := by rw [IntWalk.wrap64_in _ (by omega)]; simp
  simp only [impl_setOf.l0, if_pos l1, if_pos (show (0 : Int) ≤ (pre.length : Int) by omega), rd_mid, w1, w2, within_eq, Option.bind_some, setGo]
  by_cases hi : last + 1 ≤ x ∧ x < n
  ·have hd : decide (last + 1 ≤ x ∧ x ≤ (n : Int) - 1) = true := decide_eq_true ⟨hi.1, by omega⟩
   obtain ⟨m, rfl⟩ : ∃ m : Nat, x = (m : Int) := ⟨x.toNat, by omega⟩
   rw [if_pos hd, with_eq s m (lt256 hs hn) (by omega), Option.bind_some, w3, if_pos hi]
   have := setOf_go hn r (pre ++ [(m : Int)]) (m : Int) (s ||| 2 ^ m) k (by omega) hi.2 (by simp; omega) (with_lt hs (by omega)) (by omega)
   rw [List.append_assoc] at this
   simpa using this
  ·have hd : decide (last + 1 ≤ x ∧ x ≤ (n : Int) - 1) = false := decide_eq_false (fun h => hi ⟨h.1, by omega⟩)
   rw [if_neg (by rw [hd]; exact Bool.false_ne_true), if_neg hi]
   rfl
theorem setOf_eq (l : List Int) (n k : Nat) (hn : n ≤ 8) (hk : n + 2 ≤ k) : impl_setOf.f k l (n : Int) = some (setR (setP l n)) := by
 have := setOf_go hn l [] (-1) 0 k (by omega) (by omega) (by simp) (Nat.two_pow_pos n) (by omega)
 simpa [impl_setOf.f, setP] using this
def taskP (n : Nat) (t : TT) : Option Nat := match setP t.f1 n with
 | none => none
 | some s => if (1 ≤ t.f0 ∧ t.f0 ≤ 20) ∧ (0 ≤ t.f2 ∧ t.f2 ≤ 2) ∧ (1 ≤ t.f3 ∧ t.f3 ≤ 4) then some s else none
def needsGo (n : Nat) : List TT → List Nat → Option (List Nat)
 | [], acc => some acc
 | t :: r, acc => match taskP n t with
  | none => none
  | some s => needsGo n r (acc ++ [s])
def needsP (ts : List TT) : Option (List Nat) := if ts.length > 8 then none else needsGo ts.length ts []
def needsR (o : Option (List Nat)) : List Int × Bool := match o with | some l => (nI l, true) | none => ([], false)
theorem rdT_mid (pre : List TT) (x : TT) (r : List TT) : rd_T38 (pre ++ x :: r) (pre.length : Int) = x := by simp [rd_T38]
theorem needs_go (ts : List TT) (hn : ts.length ≤ 8) : ∀ (r pre : List TT) (acc : List Nat) (k : Nat), pre ++ r = ts → acc.length = pre.length → r.length + 12 ≤ k →
  impl_needsOf.l0 k ts (nI acc) (pre ++ r) ((pre ++ r).length : Int) (pre.length : Int) = some (needsR (needsGo ts.length r acc))
 | [], pre, acc, k, he, ha, hk => by
  obtain ⟨k, rfl⟩ : ∃ j, k = j + 1 := ⟨k - 1, by omega⟩
  simp [impl_needsOf.l0, needsGo, needsR]
 | x :: r, pre, acc, k, he, ha, hk => by
  obtain ⟨k, rfl⟩ : ∃ j, k = j + 1 := ⟨k - 1, by omega⟩
  simp only [List.length_cons] at hk
  have l1 : (pre.length : Int) < ((pre ++ x :: r).length : Int) := by simp; omega
  have hp : pre.length < ts.length := by rw [← he]; simp
  have w3 : wrap64 ((pre.length : Int) + 1) = ((pre ++ [x]).length : Int) := by rw [IntWalk.wrap64_in _ (by omega)]; simp
  simp only [impl_needsOf.l0, if_pos l1, if_pos (show (0 : Int) ≤ (pre.length : Int) by omega), rdT_mid, setOf_eq x.f1 ts.length k hn (by omega), Option.bind_some, needsGo, taskP]
  cases hs : setP x.f1 ts.length with
  | none => simp [setR, needsR]
  | some s =>
   simp only [setR, if_true, within_eq, Option.bind_some, w3]
   by_cases h1 : 1 ≤ x.f0 ∧ x.f0 ≤ 20
   ·by_cases h2 : 0 ≤ x.f2 ∧ x.f2 ≤ 2
    ·by_cases h3 : 1 ≤ x.f3 ∧ x.f3 ≤ 4
     ·have hl : (nI acc).length < 70368744177664 := by rw [nI_length]; omega
      have hx : (1 ≤ x.f0 ∧ x.f0 ≤ 20) ∧ (0 ≤ x.f2 ∧ x.f2 ≤ 2) ∧ (1 ≤ x.f3 ∧ x.f3 ≤ 4) := ⟨h1, h2, h3⟩
      simp only [decide_eq_true h1, decide_eq_true h2, decide_eq_true h3, if_true, if_pos hl, if_pos hx]
      have := needs_go ts hn r (pre ++ [x]) (acc ++ [s]) k (by rw [List.append_assoc]; exact he) (by simp [ha]) (by omega)
      rw [List.append_assoc, nI_append] at this
      exact this
     ·have hx : ¬ ((1 ≤ x.f0 ∧ x.f0 ≤ 20) ∧ (0 ≤ x.f2 ∧ x.f2 ≤ 2) ∧ (1 ≤ x.f3 ∧ x.f3 ≤ 4)) := fun h => h3 h.2.2
      simp only [decide_eq_true h1, decide_eq_true h2, decide_eq_false h3, if_true, if_neg hx, Bool.false_eq_true, if_false, needsR]
    ·have hx : ¬ ((1 ≤ x.f0 ∧ x.f0 ≤ 20) ∧ (0 ≤ x.f2 ∧ x.f2 ≤ 2) ∧ (1 ≤ x.f3 ∧ x.f3 ≤ 4)) := fun h => h2 h.2.1
     simp only [decide_eq_true h1, decide_eq_false h2, if_true, if_neg hx, Bool.false_eq_true, if_false, needsR]
   ·have hx : ¬ ((1 ≤ x.f0 ∧ x.f0 ≤ 20) ∧ (0 ≤ x.f2 ∧ x.f2 ≤ 2) ∧ (1 ≤ x.f3 ∧ x.f3 ≤ 4)) := fun h => h1 h.1
    simp only [decide_eq_false h1, if_neg hx, Bool.false_eq_true, if_false, needsR]
theorem needs_eq (ts : List TT) (k : Nat) (hk : 100 ≤ k) : impl_needsOf.f k ts = some (needsR (needsP ts)) := by
 unfold impl_needsOf.f needsP
 by_cases h : ts.length > 8
 ·rw [if_pos (by omega), if_pos h]; rfl
 ·rw [if_neg (by omega), if_neg h]
  have := needs_go ts (by omega) ts [] [] k (by simp) rfl (by omega)
  simpa [nI] using this
def canP (nd : List Nat) (done : Nat) (i : Nat) : Bool := !done.testBit i && (nd.getD i 0 &&& done == nd.getD i 0)
def firstP (nd : List Nat) (done : Nat) : Option Nat := (List.range nd.length).find? (canP nd done)
def orderStep (nd : List Nat) (s : List Nat × Nat) : List Nat × Nat := match firstP nd s.2 with
 | none => s
 | some i => (s.1 ++ [i], s.2 ||| 2 ^ i)
def orderGo (nd : List Nat) : Nat → List Nat × Nat → List Nat × Nat
 | 0, s => s
 | m + 1, s => orderGo nd m (orderStep nd s)
def orderP (nd : List Nat) : List Nat × Nat := orderGo nd nd.length ([], 0)
theorem andNot_zero : ∀ a, a < 256 → ∀ b, b < 256 → (Go.bits .andNot .u16 ((a : Nat) : Int) ((b : Nat) : Int) = 0 ↔ a &&& b = a) := by
 intro a ha b hb
 have e1 : (BitVec.ofInt 16 (a : Int)) = BitVec.ofNat 16 a := by simp
 have e2 : (BitVec.ofInt 16 (b : Int)) = BitVec.ofNat 16 b := by simp
 have key : (BitVec.ofNat 16 a &&& ~~~(BitVec.ofNat 16 b)).toNat = 0 ↔ a &&& b = a := by
  rw [BitVec.toNat_and, BitVec.toNat_not, BitVec.toNat_ofNat, BitVec.toNat_ofNat, Nat.mod_eq_of_lt (show a < 2 ^ 16 by omega), Nat.mod_eq_of_lt (show b < 2 ^ 16 by omega)]
  constructor
  ·intro h
   apply Nat.eq_of_testBit_eq
   intro i
   have hi : (a &&& (2 ^ 16 - 1 - b)).testBit i = false := by rw [h]; simp
   rw [Nat.testBit_and] at hi ⊢
   rcases Nat.lt_or_ge i 16 with h16 | h16
   ·rw [show 2 ^ 16 - 1 - b = 2 ^ 16 - (b + 1) by omega, Nat.testBit_two_pow_sub_succ (by omega)] at hi
    cases hA : a.testBit i <;> cases hB : b.testBit i <;> simp [hA, hB, h16] at hi ⊢
   ·rw [Nat.testBit_lt_two_pow (Nat.lt_of_lt_of_le (show a < 2 ^ 16 by omega) (Nat.pow_le_pow_right (by omega) h16))]; rfl
  ·intro h
   apply Nat.eq_of_testBit_eq
   intro i
   rw [Nat.testBit_and, Nat.zero_testBit]
   have hi : (a &&& b).testBit i = a.testBit i := by rw [h]
   rw [Nat.testBit_and] at hi
   rw [show 2 ^ 16 - 1 - b = 2 ^ 16 - (b + 1) by omega, Nat.testBit_two_pow_sub_succ (by omega)]
   cases hA : a.testBit i <;> cases hB : b.testBit i <;> simp [hA, hB] at hi ⊢
 simp only [Go.bits, IntKind.bits, e1, e2]
 have hlt : (BitVec.ofNat 16 a &&& ~~~(BitVec.ofNat 16 b)).toNat < 65536 := (BitVec.ofNat 16 a &&& ~~~(BitVec.ofNat 16 b)).isLt
 rw [wrap_u16', Int.emod_eq_of_lt (by omega) (by omega)]
 exact Iff.trans Int.natCast_eq_zero key
theorem has_eq (s i : Nat) (hs : s < 256) (hi : i < 8) : impl_set_has.f (s : Int) (i : Int) = some (s.testBit i) := by
 rw [← hasB_nat s hs i hi]
 unfold impl_set_has.f hasB
 rw [if_pos (by omega)]
def ordR (s : List Nat × Nat) : List Int × Int := (nI s.1, (s.2 : Int))
def firstFrom (nd : List Nat) (done j : Nat) : Option Nat := ((List.range nd.length).drop j).find? (canP nd done)
theorem firstFrom_step (nd : List Nat) (done j : Nat) (h : j < nd.length) : firstFrom nd done j = if canP nd done j then some j else firstFrom nd done (j + 1) := by
 unfold firstFrom
 rw [List.drop_eq_getElem_cons (by simpa using h), List.find?_cons]
 simp only [List.getElem_range]
 cases canP nd done j <;> rfl
theorem firstFrom_end (nd : List Nat) (done : Nat) : firstFrom nd done nd.length = none := by
 unfold firstFrom
 rw [List.drop_eq_nil_of_le (by simp)]
 rfl
theorem firstP_lt {nd : List Nat} {done i : Nat} (h : firstP nd done = some i) : i < nd.length := by simpa using List.mem_of_find?_eq_some h
theorem order_l1 {n : Nat} (nd : List Nat) (hn : n ≤ 8) (hl : nd.length = n) (hnd : ∀ i, nd.getD i 0 < 2 ^ n) (list : List Nat) (done c : Nat) (hd : done < 2 ^ n) (hll : list.length ≤ 8) : ∀ (m j k : Nat), m + j = n → m + 2 ≤ k →
  impl_order.l1 k (nI nd) (nI list) (done : Int) (n : Int) (c : Int) (nI nd) (n : Int) (j : Int) = match firstFrom nd done j with
   | none => impl_order.l0 (k - m - 1) (nI nd) (nI list) (done : Int) (n : Int) (wrap64 ((c : Int) + 1))
   | some i => impl_order.l0 (k - (i - j) - 1) (nI nd) (nI (list ++ [i])) ((done ||| 2 ^ i : Nat) : Int) (n : Int) (wrap64 ((c : Int) + 1))
 | 0, j, k, hj, hk => by
  obtain ⟨k, rfl⟩ : ∃ k', k = k' + 1 := ⟨k - 1, by omega⟩
  obtain rfl : j = n := by omega
  rw [show firstFrom nd done j = none from by rw [← hl]; exact firstFrom_end nd done]
  simp [impl_order.l1]
 | m + 1, j, k, hj, hk => by
  obtain ⟨k, rfl⟩ : ∃ k', k = k' + 1 := ⟨k - 1, by omega⟩
  have hjl : j < nd.length := by omega
  have ih := order_l1 nd hn hl hnd list done c hd hll m (j + 1) k (by omega) (by omega)
  have w3 : wrap64 ((j : Int) + 1) = ((j + 1 : Nat) : Int) := by rw [IntWalk.wrap64_in _ (by omega)]; omega
  have hll2 : (nI list).length < 17592186044416 := by rw [nI_length]; omega
  have hlen : (j : Int) < ((nI nd).length : Int) := by rw [nI_length]; omega
  simp only [impl_order.l1, if_pos (show (j : Int) < (n : Int) by omega), if_pos (show (0 : Int) ≤ (j : Int) by omega), if_pos hlen, has_eq done j (lt256 hd hn) (by omega), Option.bind_some, rd_nI, with_eq done j (lt256 hd hn) (by omega), if_pos hll2, w3, ih]
  rw [firstFrom_step nd done j hjl]
  have hz := andNot_zero (nd.getD j 0) (lt256 (hnd j) hn) done (lt256 hd hn)
  cases hb : done.testBit j with
  | true =>
   have hc : canP nd done j = false := by simp [canP, hb]
   simp only [if_true, hc, Bool.false_eq_true, if_false]
   cases hf : firstFrom nd done (j + 1) with
   | none => simp only []; congr 1; omega
   | some i =>
    have : j + 1 ≤ i := by
     have := List.mem_of_find?_eq_some hf
     obtain ⟨q, hq, he⟩ := List.mem_iff_getElem.1 this
     simp at he
     omega
    simp only []; congr 1; omega
  | false =>
   by_cases hs : nd.getD j 0 &&& done = nd.getD j 0
   ·have hc : canP nd done j = true := by simp only [canP, hb, hs]; simp
    simp only [Bool.false_eq_true, if_false, if_pos (hz.2 hs), hc, if_true, nI_append]
    rw [show k + 1 - (j - j) - 1 = k by omega]
    rfl
   ·have hc : canP nd done j = false := by simp only [canP, hb, beq_eq_false_iff_ne.2 hs]; rfl
    simp only [Bool.false_eq_true, if_false, if_neg (fun h => hs (hz.1 h)), hc]
    cases hf : firstFrom nd done (j + 1) with
    | none => simp only []; congr 1; omega
    | some i =>
     have : j + 1 ≤ i := by
      have := List.mem_of_find?_eq_some hf
      obtain ⟨q, hq, he⟩ := List.mem_iff_getElem.1 this
      simp at he
      omega
     simp only []; congr 1; omega
theorem orderStep_ok {n : Nat} (nd : List Nat) (hl : nd.length = n) (s : List Nat × Nat) (hd : s.2 < 2 ^ n) : (orderStep nd s).2 < 2 ^ n ∧ (orderStep nd s).1.length ≤ s.1.length + 1 := by
 unfold orderStep
 cases hf : firstP nd s.2 with
 | none => exact ⟨hd, by simp⟩
 | some i => exact ⟨with_lt hd (by have := firstP_lt hf; omega), by simp⟩
theorem order_l0 {n : Nat} (nd : List Nat) (hn : n ≤ 8) (hl : nd.length = n) (hnd : ∀ i, nd.getD i 0 < 2 ^ n) : ∀ (m c k : Nat) (s : List Nat × Nat), m + c = n → s.1.length ≤ c → s.2 < 2 ^ n → m * 11 + 1 ≤ k →
  impl_order.l0 k (nI nd) (nI s.1) (s.2 : Int) (n : Int) (c : Int) = some (ordR (orderGo nd m s))
 | 0, c, k, s, hm, hs, hd, hk => by
  obtain ⟨k, rfl⟩ : ∃ k', k = k' + 1 := ⟨k - 1, by omega⟩
  obtain rfl : c = n := by omega
  simp [impl_order.l0, orderGo, ordR]
 | m + 1, c, k, s, hm, hs, hd, hk => by
  obtain ⟨k, rfl⟩ : ∃ k', k = k' + 1 := ⟨k - 1, by omega⟩
  have w3 : wrap64 ((c : Int) + 1) = ((c + 1 : Nat) : Int) := by rw [IntWalk.wrap64_in _ (by omega)]; omega
  have h1 := order_l1 nd hn hl hnd s.1 s.2 c hd (by omega) n 0 k (by omega) (by omega)
  have e0 : firstFrom nd s.2 0 = firstP nd s.2 := rfl
  have eL : ((nI nd).length : Int) = (n : Int) := by rw [nI_length, hl]
  simp only [impl_order.l0, if_pos (show (c : Int) < (n : Int) by omega), eL]
  have h1' : impl_order.l1 k (nI nd) (nI s.1) (s.2 : Int) (n : Int) (c : Int) (nI nd) (n : Int) 0 = _ := h1
  rw [h1', e0, w3]
  have hok := orderStep_ok nd hl s hd
  simp only [orderGo]
  cases hf : firstP nd s.2 with
  | none =>
   have es : orderStep nd s = s := by unfold orderStep; rw [hf]
   rw [es]
   exact order_l0 nd hn hl hnd m (c + 1) _ s (by omega) (by omega) hd (by omega)
  | some i =>
   have es : orderStep nd s = (s.1 ++ [i], s.2 ||| 2 ^ i) := by unfold orderStep; rw [hf]
   rw [es] at hok ⊢
   have hi := firstP_lt hf
   exact order_l0 nd hn hl hnd m (c + 1) _ (s.1 ++ [i], s.2 ||| 2 ^ i) (by omega) (by simp; omega) hok.1 (by omega)
theorem order_eq {n : Nat} (nd : List Nat) (hn : n ≤ 8) (hl : nd.length = n) (hnd : ∀ i, nd.getD i 0 < 2 ^ n) (k : Nat) (hk : 100 ≤ k) : impl_order.f k (nI nd) = some (ordR (orderP nd)) := by
 unfold impl_order.f orderP
 have := order_l0 nd hn hl hnd n 0 k ([], 0) (by omega) (by simp) (Nat.two_pow_pos n) (by omega)
 rw [nI_length, hl]
 simpa [nI] using this
end Go.Proofs.YtdmeiiedbhfniaaDoor.P
end
section
namespace Go.Proofs.YtdmeiiedbhfniaaDoor.P
open Go.RowKit Go.Shelf YtdmeiiedbhfniaaDoorW.PrintWords YtdmeiiedbhfniaaDoorW.PrintLast YtdmeiiedbhfniaaDoorW.PrintMore
structure GrN where
 ts : List TT
 nd : List Nat
 od : List Nat
 bl : List Nat
 ab : List Nat
def GrN.gr (G : GrN) : Gr := ⟨G.ts, nI G.nd, nI G.od, nI G.bl, nI G.ab⟩
def graphP (ts : List TT) : Option GrN := match needsP ts with
 | none => none
 | some nd => if (orderP nd).2 = 2 ^ ts.length - 1 then some ⟨ts, nd, (orderP nd).1, (relP nd (orderP nd).1 ts.length).1, (relP nd (orderP nd).1 ts.length).2⟩ else none
theorem needsGo_spec (n : Nat) : ∀ (r : List TT) (acc out : List Nat), needsGo n r acc = some out → ∃ l : List Nat, out = acc ++ l ∧ l.length = r.length ∧ ∀ (i : Nat) (t : TT), r[i]? = some t → taskP n t = some (l.getD i 0)
 | [], acc, out, h => by
  simp only [needsGo, Option.some.injEq] at h
  exact ⟨[], by simp [h], rfl, fun i t h => by simp at h⟩
 | x :: r, acc, out, h => by
  simp only [needsGo] at h
  cases ht : taskP n x with
  | none => rw [ht] at h; cases h
  | some s =>
   rw [ht] at h
   obtain ⟨l, h1, h2, h3⟩ := needsGo_spec n r (acc ++ [s]) out h
   refine ⟨s :: l, by simp [h1], by simp [h2], fun i t hi => ?_⟩
   cases i with
   | zero => simp at hi; subst hi; simpa using ht
   | succ i => simpa using h3 i t (by simpa using hi)
theorem needsP_spec {ts : List TT} {nd : List Nat} (h : needsP ts = some nd) : ts.length ≤ 8 ∧ nd.length = ts.length ∧ ∀ (i : Nat) (t : TT), ts[i]? = some t → taskP ts.length t = some (nd.getD i 0) := by
 unfold needsP at h
 split at h
 ·cases h
 ·rename_i hn
  obtain ⟨l, h1, h2, h3⟩ := needsGo_spec _ _ _ _ h
  rw [List.nil_append] at h1
  subst h1
  exact ⟨by omega, h2, h3⟩
theorem taskP_lt {n s : Nat} {t : TT} (h : taskP n t = some s) : s < 2 ^ n ∧ setP t.f1 n = some s ∧ (1 ≤ t.f0 ∧ t.f0 ≤ 20) ∧ (0 ≤ t.f2 ∧ t.f2 ≤ 2) ∧ (1 ≤ t.f3 ∧ t.f3 ≤ 4) := by
 unfold taskP at h
 cases hs : setP t.f1 n with
 | none => rw [hs] at h; cases h
 | some s' =>
  rw [hs] at h
  simp only at h
  split at h
  ·rename_i hc
   injection h with h
   subst h
   exact ⟨setP_lt hs, rfl, hc⟩
  ·cases h
theorem needs_lt {ts : List TT} {nd : List Nat} (h : needsP ts = some nd) (i : Nat) : nd.getD i 0 < 2 ^ ts.length := by
 obtain ⟨h1, h2, h3⟩ := needsP_spec h
 rcases Nat.lt_or_ge i ts.length with hi | hi
 ·exact (taskP_lt (h3 i _ (List.getElem?_eq_getElem hi))).1
 ·rw [List.getD_eq_getElem?_getD, List.getElem?_eq_none (by omega)]; exact Nat.two_pow_pos _
theorem orderGo_mem {nd : List Nat} : ∀ (m : Nat) (s : List Nat × Nat), (∀ i ∈ s.1, i < nd.length) → ∀ i ∈ (orderGo nd m s).1, i < nd.length
 | 0, s, h => h
 | m + 1, s, h => by
  refine orderGo_mem m (orderStep nd s) ?_
  unfold orderStep
  cases hf : firstP nd s.2 with
  | none => exact h
  | some j =>
   intro i hi
   rcases List.mem_append.1 hi with hi | hi
   ·exact h i hi
   ·rw [List.mem_singleton] at hi; subst hi; exact firstP_lt hf
theorem orderP_mem (nd : List Nat) : ∀ i ∈ (orderP nd).1, i < nd.length := orderGo_mem _ _ (fun i hi => by cases hi)
theorem everyI_eq : ∀ n, n ≤ 8 → everyI n = ((2 ^ n - 1 : Nat) : Int) := by decide +kernel
structure GOk (G : GrN) : Prop where
 n8 : G.ts.length ≤ 8
 nl : G.nd.length = G.ts.length
 task : ∀ (i : Nat) (t : TT), G.ts[i]? = some t → taskP G.ts.length t = some (G.nd.getD i 0)
 nlt : ∀ i, G.nd.getD i 0 < 2 ^ G.ts.length
 ord : G.od = (orderP G.nd).1
 full : (orderP G.nd).2 = 2 ^ G.ts.length - 1
 omem : ∀ i ∈ G.od, i < G.ts.length
 blE : G.bl = (relP G.nd G.od G.ts.length).1
 abE : G.ab = (relP G.nd G.od G.ts.length).2
 bl : OkU G.ts.length G.bl
 ab : OkU G.ts.length G.ab
theorem graphP_ok {ts : List TT} {G : GrN} (h : graphP ts = some G) : G.ts = ts ∧ needsP ts = some G.nd ∧ GOk G := by
 unfold graphP at h
 cases hn : needsP ts with
 | none => rw [hn] at h; cases h
 | some nd =>
  rw [hn] at h
  simp only at h
  split at h
  ·rename_i hd
   injection h with h
   obtain ⟨h1, h2, h3⟩ := needsP_spec hn
   have hm : ∀ i ∈ (orderP nd).1, i < ts.length := fun i hi => by rw [← h2]; exact orderP_mem nd i hi
   have hr := relP_ok (n := ts.length) (nd := nd) (od := (orderP nd).1) (needs_lt hn) hm
   subst h
   exact ⟨rfl, rfl, ⟨h1, h2, h3, needs_lt hn, rfl, hd, hm, rfl, rfl, hr.1, hr.2⟩⟩
  ·cases h
theorem GOk.pool {G : GrN} (h : GOk G) (i : Nat) (hi : i < G.ts.length) : 0 ≤ (rd_T38 G.ts (i : Int)).f2 ∧ (rd_T38 G.ts (i : Int)).f2 < 3 := by
 have := taskP_lt (h.task i _ (List.getElem?_eq_getElem hi))
 have e : rd_T38 G.ts (i : Int) = G.ts[i] := by simp [rd_T38, hi]
 rw [e]
 omega
theorem graphOf_all (A0 : Option Addr) (c0 : Nat) (l0 : List TT) (w : World) (hr0 : Kd.C k38 w A0 l0.length l0) (hc0 : l0.length ≤ c0) (hT : TabOK w) :
  Calls Tryd.prog 73 #[.slice A0 l0.length c0] w fun e w' => ∃ g b, e = .returned (.tuple #[.pointer g, .bool b]) ∧ Below w.heap.size w w' ∧ (graphP l0 = none → g = none ∧ b = false) ∧ (∀ G, graphP l0 = some G → b = true ∧ ∃ a, g = some ⟨a, 0, none⟩ ∧ ∀ U : World, Kd.C k38 U A0 l0.length l0 → (∀ k, w.heap.size ≤ k → k < w'.heap.size → U.heap[k]? = w'.heap[k]?) → IsG U a G.gr) := by
 have hN := needs_eq l0 100 (Nat.le_refl _)
 cases hn : needsP l0 with
 | none =>
  rw [hn] at hN
  have hg : graphP l0 = none := by unfold graphP; rw [hn]
  refine (graphOf_no1 100 A0 c0 l0 [] w hr0 hc0 hN).mono ?_
  rintro e w' ⟨rfl, hb⟩
  exact ⟨none, false, rfl, hb, fun _ => ⟨rfl, rfl⟩, fun G h => by rw [hg] at h; cases h⟩
 | some nd =>
  rw [hn] at hN
  obtain ⟨h1, h2, h3⟩ := needsP_spec hn
  have hO := order_eq nd h1 h2 (needs_lt hn) 100 (Nat.le_refl _)
  by_cases hd : (orderP nd).2 = 2 ^ l0.length - 1
  ·have hg : graphP l0 = some ⟨l0, nd, (orderP nd).1, (relP nd (orderP nd).1 l0.length).1, (relP nd (orderP nd).1 l0.length).2⟩ := by unfold graphP; rw [hn]; simp only [if_pos hd]
   refine (graphOf_yes 100 A0 c0 l0 (nI nd) (nI (orderP nd).1) ((orderP nd).2 : Int) w hr0 hc0 hN hO (by rw [everyI_eq _ h1, hd]; simp) h1 nd (orderP nd).1 rfl rfl h2 (fun x hx => by
    obtain ⟨i, hi, rfl⟩ := List.getElem_of_mem hx
    have := needs_lt hn i
    rwa [List.getD_eq_getElem?_getD, List.getElem?_eq_getElem hi] at this) (fun x hx => by rw [← h2]; exact orderP_mem nd x hx) hT).mono ?_
   rintro e w' ⟨g, rfl, hG, hb⟩
   exact ⟨_, _, rfl, hb, fun h => (by rw [hg] at h; cases h), fun G h => by rw [hg] at h; injection h with h; subst h; exact ⟨rfl, g, rfl, hG⟩⟩
  ·have hg : graphP l0 = none := by unfold graphP; rw [hn]; simp only [if_neg hd]
   refine (graphOf_no2 100 A0 c0 l0 (nI nd) (nI (orderP nd).1) ((orderP nd).2 : Int) w hr0 hc0 hN hO (by
    rw [everyI_eq _ h1]
    exact beq_eq_false_iff_ne.2 (fun h => hd (by exact_mod_cast h)))).mono ?_
   rintro e w' ⟨rfl, hb⟩
   exact ⟨none, false, rfl, hb, fun _ => ⟨rfl, rfl⟩, fun G h => by rw [hg] at h; cases h⟩
theorem graphOf_at {A0 : Option Addr} {l0 : List TT} {w w' : World} {a : Nat} {G : GrN} (hr0 : Kd.C k38 w A0 l0.length l0) (hb : Below w.heap.size w w')
  (h : ∀ U : World, Kd.C k38 U A0 l0.length l0 → (∀ k, w.heap.size ≤ k → k < w'.heap.size → U.heap[k]? = w'.heap[k]?) → IsG U a G.gr) : IsG w' a G.gr := h w' (Kd.C_below hr0 hb) (fun _ _ _ => rfl)
end Go.Proofs.YtdmeiiedbhfniaaDoor.P
end
section
namespace Go.Proofs.YtdmeiiedbhfniaaDoor.P
open Go.RowKit Go.Shelf YtdmeiiedbhfniaaDoorW.PrintWords YtdmeiiedbhfniaaDoorW.PrintLast YtdmeiiedbhfniaaDoorW.PrintMore
attribute [local go_sem] Oper.semAt_some
def closedP (nd : List Nat) (s : Nat) : Bool := (bitsN s).all fun i => nd.getD i 0 &&& s == nd.getD i 0
def doneP (ts : List TT) (done : List Int) : Option (GrN × Nat) := match graphP ts with
 | none => none
 | some G => match setP done ts.length with
  | none => none
  | some s => if closedP G.nd s then some (G, s) else none
theorem size_calls (g : Nat) (G : Gr) (w : World) (hG : IsG w g G) : Calls Tryd.prog 48 #[.pointer (some ⟨g, 0, none⟩)] w fun e w' => e = .returned (.int .i64 (G.ts.length : Int)) ∧ Drawn0 w w' := by
 obtain ⟨A0, c0, A1, c1, A2, c2, A3, c3, A4, c4, hblk, _⟩ := hG
 have hg0 : w.cell? ⟨g, 0, none⟩ = some (.slice A0 G.ts.length c0) := (blk_cell hblk 0).trans rfl
 clear hblk
 go_enter Tryd.func48, Tryd.ntmps48
 go_wp2
 go_ret
 exact ⟨rfl, ⟨0, rfl⟩⟩
structure Rs (w : World) (q : Nat) (v0 v1 v2 : Value) (W : World) : Prop where
 h0 : Boxed W q 59 v0
 h1 : Boxed W (q + 1) 64 v1
 h2 : Boxed W (q + 1 + 1) 4 v2
 bel : Below w.heap.size w W
end Go.Proofs.YtdmeiiedbhfniaaDoor.P
end
section
namespace Go.Proofs.YtdmeiiedbhfniaaDoor.P
open Go.RowKit Go.Shelf YtdmeiiedbhfniaaDoorW.PrintWords YtdmeiiedbhfniaaDoorW.PrintLast YtdmeiiedbhfniaaDoorW.PrintMore
attribute [local go_sem] Oper.semAt_some
def rowL (l : List Int) : Obj := .cells ((l.map (Value.int .i64)).toArray) 3 (0, 0)
def fnL (n : Nat) (f : Nat → Int) : List Int := (List.range n).map f
theorem fnL_len (n : Nat) (f : Nat → Int) : (fnL n f).length = n := by simp [fnL]
theorem fnL_set (n : Nat) (f : Nat → Int) (i : Nat) (v : Int) : (fnL n f).set i v = fnL n (fun k => if k = i then v else f k) := by
 unfold fnL
 refine List.ext_getElem (by simp) (fun j h1 h2 => ?_)
 simp only [List.length_set, List.length_map, List.length_range] at h1
 rw [List.getElem_set]
 simp only [List.getElem_map, List.getElem_range]
 by_cases h : i = j
 ·rw [if_pos h, if_pos h.symm]
 ·rw [if_neg h, if_neg (fun e => h e.symm)]
theorem rowF_cell {W : World} {b n : Nat} {f : Nat → Int} (h : W.heap[b]? = some (rowL (fnL n f))) (i : Nat) (hi : i < n) : W.cell? ⟨b, i, none⟩ = some (.int .i64 (f i)) :=
 (blk_cell h i).trans (by simp [fnL, hi])
theorem rowF_set {W : World} {b n : Nat} {f : Nat → Int} (h : W.heap[b]? = some (rowL (fnL n f))) (i : Nat) (v : Int) : (W.setCell ⟨b, i, none⟩ (.int .i64 v)).heap[b]? = some (rowL (fnL n (fun k => if k = i then v else f k))) := by
 rw [blk_set h i, ← fnL_set]
 simp [rowL]
theorem infoI0 : (Tryd.prog.info? 3).map (fun i => (i.zero, i.size, i.bytes)) = some (some (.int .i64 0), 1, 8) := by kernel_rfl
theorem mk_ints {ops : Array Oper} {o : Oper} {a : Act} {Q : Exit → Act → World → Prop} {rest : List Oper} {W : World} (hgd : o.guard = none) (x y : Operand) (ho : o.op = .makeSlice 23 x y) (n : Nat) (hx : a.eval x = .int .i64 (n : Int)) (hy : a.eval y = .int .i64 (n : Int)) (hn : n ≤ 8)
  (h : wpList Tryd.prog ops Q rest (a.put o.dst (slv W.heap.size n)) (W.alloc (rowL (fnL n (fun _ => 0))))) : wpList Tryd.prog ops Q (o :: rest) a W := by
 obtain ⟨i0, hi, hz0, hz1, hz2⟩ := info_parts infoI0
 have hr := run_make (P := Tryd.prog) W 23 3 i0 (.int .i64 0) Tryd.underlying23 hi hz0 .i64 .i64 (n : Int) (n : Int) (by omega) (by omega) (by rw [hz2]; omega) (by omega)
 rw [hz1] at hr
 simp only [Int.toNat_natCast] at hr
 have e1 : madeCells (Value.int IntKind.i64 0).cells (n * 1) = Array.replicate n (.int .i64 0) := by
  have e := toList_madeCells_one (.int .i64 0) n
  apply Array.toList_inj.1
  rw [Nat.mul_one, Array.toList_replicate]
  exact e
 have e2 : rowL (fnL n (fun _ => 0)) = .cells (Array.replicate n (.int .i64 0)) 3 (0, 0) := by
  have e : ((fnL n (fun _ => 0)).map (Value.int .i64)).toArray = Array.replicate n (.int .i64 0) := by
   apply Array.toList_inj.1
   rw [Array.toList_replicate]
   unfold fnL
   exact List.ext_getElem (by simp) (fun i h1 h2 => by simp)
  exact congrArg (fun a => Obj.cells a 3 (0, 0)) e
 rw [e1] at hr
 rw [e2] at h
 exact Kd.event_run hgd (by simp [execOp, ho, hx, hy, hr]) h
def pushW (g : Nat → Int) (at_ : Nat) (l : List Nat) : Nat → Int := l.foldl (fun g k => fun i => if i = k then mx (g k) (g at_) else g i) g
def addW (ts : List TT) (g : Nat → Int) (at_ : Nat) : Nat → Int := fun i => if i = at_ then wrap64 (g at_ + (rd_T38 ts (at_ : Int)).f0) else g i
def stepW (ts : List TT) (nd : List Nat) (g : Nat → Int) (at_ : Nat) : Nat → Int := pushW (addW ts g at_) at_ (bitsN (nd.getD at_ 0))
def tailsW (ts : List TT) (nd : List Nat) (l : List Nat) : Nat → Int := l.foldl (stepW ts nd) (fun _ => 0)
structure Ft (w : World) (g q0 b q2 q3 : Nat) (V : Value) (n : Nat) (f : Nat → Int) (W : World) : Prop where
 bel : Below w.heap.size w W
 hx : Boxed W q0 59 (.pointer (some ⟨g, 0, none⟩))
 hb : W.heap[b]? = some (rowL (fnL n f))
 ho : Boxed W q2 23 (slv b n)
 hk : Boxed W q3 23 V
end Go.Proofs.YtdmeiiedbhfniaaDoor.P
end
section
namespace Go.Proofs.YtdmeiiedbhfniaaDoor.P
open Go.RowKit Go.Shelf YtdmeiiedbhfniaaDoorW.PrintWords YtdmeiiedbhfniaaDoorW.PrintLast YtdmeiiedbhfniaaDoorW.PrintMore
attribute [local go_sem] Oper.semAt_some
attribute [local go_sem] max2_int min2_int max_two min_two max_three min_three max_four min_four
def headK (wt : Nat → Int) (i : Nat) (f : Nat → Int) (k : Nat) : Nat → Int := fun j => if j = i then mx (f i) (wrap64 (f k + wt k)) else f j
def headI (wt : Nat → Int) (nd : List Nat) (f : Nat → Int) (i : Nat) : Nat → Int := (bitsN (nd.getD i 0)).foldl (headK wt i) f
def headsW (wt : Nat → Int) (nd : List Nat) (od : List Nat) : Nat → Int := od.foldl (headI wt nd) (fun _ => 0)
def timeW (ts : List TT) (k : Nat) : Int := (rd_T38 ts (k : Int)).f0
abbrev Fh (w : World) (g b n : Nat) (f : Nat → Int) (W : World) : Prop := Ft w g w.heap.size b (w.heap.size + 1 + 1) (w.heap.size + 1 + 1) (slv b n) n f W
end Go.Proofs.YtdmeiiedbhfniaaDoor.P
end
section
namespace Go.Proofs.YtdmeiiedbhfniaaDoor.P
open Go.RowKit Go.Shelf YtdmeiiedbhfniaaDoorW.PrintWords YtdmeiiedbhfniaaDoorW.PrintLast YtdmeiiedbhfniaaDoorW.PrintMore
attribute [local go_sem] Oper.semAt_some
def IsC (W : World) (b : Nat) (n : Int) (us : List Int) : Prop := us.length = 3 ∧ W.heap[b]? = some (.cells (Value.int .i64 n :: us.map (Value.int .i64)).toArray 101 (0, 0))
def addN (n sign : Int) : Int := wrap64 (n + sign)
def addU (us : List Int) (pool units sign : Int) : List Int := us.set pool.toNat (wrap64 (rd us pool + wrap64 (sign * units)))
theorem IsC.three {W : World} {b : Nat} {n : Int} {us : List Int} (h : IsC W b n us) : ∃ u0 u1 u2, us = [u0, u1, u2] ∧ W.heap[b]? = some (.cells #[.int .i64 n, .int .i64 u0, .int .i64 u1, .int .i64 u2] 101 (0, 0)) := by
 obtain ⟨hl, hh⟩ := h
 match us, hl with
 | [u0, u1, u2], _ => exact ⟨u0, u1, u2, rfl, hh⟩
theorem IsC.grown {W W' : World} {b : Nat} {n : Int} {us : List Int} (h : IsC W b n us) {row : Option Nat} (hg : W.grownBy W' row) (hne : some b ≠ row) : IsC W' b n us := ⟨h.1, blk_grown h.2 hg hne⟩
theorem IsC.alloc {W : World} {b : Nat} {n : Int} {us : List Int} (h : IsC W b n us) (o : Obj) : IsC (W.alloc o) b n us := ⟨h.1, blk_alloc h.2 o⟩
theorem IsC.drewN {W : World} {b : Nat} {n : Int} {us : List Int} (h : IsC W b n us) (k : Nat) : IsC (W.drewN k) b n us := h
theorem grown_drewN {w W : World} {row : Option Nat} (h : w.grownBy W row) (k : Nat) : w.grownBy (W.drewN k) row := ⟨h.os, h.tape, h.output, h.size, h.block⟩
theorem Kd.C_alloc_cell {w : World} {a : Addr} {v : Value} (h : w.cell? a = some v) (o : Obj) : (w.alloc o).cell? a = some v :=
 (Below.cell ((Below.refl _ w).alloc (Nat.le_refl _) o) (World.block_lt_of_cell? w a h)).trans h
set_option maxRecDepth 100000 in
set_option maxHeartbeats 2000000 in
theorem add_calls (b : Nat) (n : Int) (us : List Int) (time pool units sign : Int) (A : Option Addr) (m c : Nat) (h0 : 0 ≤ pool) (h3 : pool < 3) (w : World) (hC : IsC w b n us) :
  Calls Tryd.prog 88 #[.pointer (some ⟨b, 0, none⟩), .agg #[.int .i64 time, .slice A m c, .int .i64 pool, .int .i64 units], .int .i64 sign] w fun e w' =>
   e = .returned (.tuple #[]) ∧ IsC w' b (addN n sign) (addU us pool units sign) ∧ w.grownBy w' (some b) := by
 obtain ⟨u0, u1, u2, rfl, hb⟩ := hC.three
 have hlt := (Array.getElem?_eq_some_iff.1 hb).1
 have c0 : w.cell? ⟨b, 0, none⟩ = some (.int .i64 n) := (blk_cell hb 0).trans rfl
 have cp : w.cell? ⟨b, 1 + pool.toNat, none⟩ = some (.int .i64 (rd [u0, u1, u2] pool)) := by
  have : pool = 0 ∨ pool = 1 ∨ pool = 2 := by omega
  rcases this with rfl | rfl | rfl
  ·exact (blk_cell hb 1).trans rfl
  ·exact (blk_cell hb 2).trans rfl
  ·exact (blk_cell hb 3).trans rfl
 have f0 : w.frozen? ⟨b, 0, none⟩ = false := by simp [World.frozen?, hb]
 have fp : w.frozen? ⟨b, 1 + pool.toNat, none⟩ = false := by simp [World.frozen?, hb]
 have hb' := Aside0.mk hb
 clear hb hC
 go_enter Tryd.func88, Tryd.ntmps88
 go_wp2
 generalize hW1 : (w.setCell _ _).alloc _ = W1
 have hs1 : (w.setCell ⟨b, 0, none⟩ (.int .i64 (wrap64 (n + sign)))).heap.size = w.heap.size := by simp
 have t0 : W1.heap[w.heap.size]? = some (.cells #[.int .i64 time, .slice A m c, .int .i64 pool, .int .i64 units] 38 (0, 0)) := by
  rw [← hW1, ← hs1]; exact World.alloc_heap_new _ _
 have b1 : W1.heap[b]? = some (.cells #[.int .i64 (wrap64 (n + sign)), .int .i64 u0, .int .i64 u1, .int .i64 u2] 101 (0, 0)) := by
  rw [← hW1, Below.heap_alloc _ _ _ (by simpa using hlt)]
  simpa using blk_set hb'.out 0 (.int .i64 (wrap64 (n + sign)))
 have hg1 : w.grownBy W1 (some b) := by
  rw [← hW1]
  exact World.grownBy.trans (grownBy_setCell' w b _) (World.grownBy_alloc _ _ _)
 clear hW1 cp fp c0 f0 hs1
 have t2 : W1.cell? ⟨w.heap.size, 2, none⟩ = some (.int .i64 pool) := (blk_cell t0 2).trans rfl
 have t3 : W1.cell? ⟨w.heap.size, 3, none⟩ = some (.int .i64 units) := (blk_cell t0 3).trans rfl
 have cp : W1.cell? ⟨b, 1 + pool.toNat, none⟩ = some (.int .i64 (rd [u0, u1, u2] pool)) := by
  have : pool = 0 ∨ pool = 1 ∨ pool = 2 := by omega
  rcases this with rfl | rfl | rfl
  ·exact (blk_cell b1 1).trans rfl
  ·exact (blk_cell b1 2).trans rfl
  ·exact (blk_cell b1 3).trans rfl
 have fp : W1.frozen? ⟨b, 1 + pool.toNat, none⟩ = false := by simp [World.frozen?, b1]
 have hb1 := Aside0.mk b1
 clear b1 t0
 go_still_tail 15, (by kernel_rfl)
 go_wp2
 go_end0
 refine ⟨rfl, ⟨by simp [addU], ?_⟩, World.grownBy.trans hg1 ⟨rfl, rfl, rfl, (KeepsWalks.setCell W1 _ _).size, fun k _ hk => Below.heap_setCell _ _ _ k (fun e => hk (by rw [e]))⟩⟩
 have := blk_set hb1.out (1 + pool.toNat) (Value.int IntKind.i64 (wrap64 (rd [u0, u1, u2] pool + wrap64 (sign * units))))
 refine (blk_drew this).trans ?_
 have hp : pool = 0 ∨ pool = 1 ∨ pool = 2 := by omega
 rcases hp with rfl | rfl | rfl <;> rfl
def takesB (n : Int) (us : List Int) (pool units : Int) (room : List Int) (workers : Int) : Bool := !(decide (n ≥ workers) || decide (wrap64 (rd us pool + units) > rd room pool))
set_option maxRecDepth 100000 in
set_option maxHeartbeats 2000000 in
theorem takes_calls (b : Nat) (n : Int) (us : List Int) (time pool units workers : Int) (A : Option Addr) (m c : Nat) (R : Option Addr) (cr : Nat) (room : List Int) (h0 : 0 ≤ pool) (h3 : pool < 3) (w : World) (hC : IsC w b n us)
  (hr : Kd.C (Kd.int .i64) w R room.length room) (hl : room.length = 3) :
  Calls Tryd.prog 89 #[.pointer (some ⟨b, 0, none⟩), .agg #[.int .i64 time, .slice A m c, .int .i64 pool, .int .i64 units], .slice R room.length cr, .int .i64 workers] w fun e w' =>
   e = .returned (.bool (takesB n us pool units room workers)) ∧ (takesB n us pool units room workers = true → IsC w' b (addN n 1) (addU us pool units 1)) ∧ (takesB n us pool units room workers = false → IsC w' b n us) ∧ w.grownBy w' (some b) := by
 obtain ⟨u0, u1, u2, rfl, hb⟩ := hC.three
 have hlt := (Array.getElem?_eq_some_iff.1 hb).1
 have c0 : w.cell? ⟨b, 0, none⟩ = some (.int .i64 n) := (blk_cell hb 0).trans rfl
 have cp : w.cell? ⟨b, 1 + pool.toNat, none⟩ = some (.int .i64 (rd [u0, u1, u2] pool)) := by
  have : pool = 0 ∨ pool = 1 ∨ pool = 2 := by omega
  rcases this with rfl | rfl | rfl
  ·exact (blk_cell hb 1).trans rfl
  ·exact (blk_cell hb 2).trans rfl
  ·exact (blk_cell hb 3).trans rfl
 obtain ⟨ad, rfl, hx⟩ := Kd.at_int hr pool h0 (by omega)
 have hC' := Aside0.mk hC
 clear hC hb hr
 have hl' : pool < (room.length : Int) := by omega
 have hx' := Kd.C_alloc_cell hx (.cells #[.int .i64 time, .slice A m c, .int .i64 pool, .int .i64 units] 38)
 by_cases q1 : n ≥ workers
 ·have hd : decide (workers ≤ n) = true := decide_eq_true q1
  have et : takesB n [u0, u1, u2] pool units room workers = false := by simp [takesB, q1]
  rw [et]
  clear et
  go_enter Tryd.func89, Tryd.ntmps89
  go_wp2
  go_quiet (fail)
  go_wp2
  go_ret
  exact ⟨rfl, fun h => (by cases h), fun _ => (hC'.out.alloc _).drewN _, grown_drewN (World.grownBy_alloc w _ _) _⟩
 ·have hd : decide (workers ≤ n) = false := decide_eq_false q1
  by_cases q2 : wrap64 (rd [u0, u1, u2] pool + units) > rd room pool
  ·have hd2 : decide (rd room pool < wrap64 (rd [u0, u1, u2] pool + units)) = true := decide_eq_true q2
   have et : takesB n [u0, u1, u2] pool units room workers = false := by simp [takesB, q2]
   rw [et]
   clear et q2
   go_enter Tryd.func89, Tryd.ntmps89
   go_wp2
   go_quiet (fail)
   go_wp2
   go_ret
   exact ⟨rfl, fun h => (by cases h), fun _ => (hC'.out.alloc _).drewN _, grown_drewN (World.grownBy_alloc w _ _) _⟩
  ·have hd2 : decide (rd room pool < wrap64 (rd [u0, u1, u2] pool + units)) = false := decide_eq_false q2
   have et : takesB n [u0, u1, u2] pool units room workers = true := by simp [takesB, q2]; omega
   rw [et]
   clear et q2
   go_enter Tryd.func89, Tryd.ntmps89
   go_wp2
   go_quiet (fail)
   have ac := fun W h => add_calls b n [u0, u1, u2] time pool units 1 A m c h0 h3 W h
   go_wp2_with (go_at_call 88; refine (ac _ ((hC'.out.alloc _).drewN _)).mono ?_; rintro e w1 ⟨rfl, hC1, hg1⟩)
   go_ret
   exact ⟨rfl, fun _ => hC1, fun h => (by cases h), World.grownBy.trans (grown_drewN (World.grownBy_alloc w _ _) _) hg1⟩
end Go.Proofs.YtdmeiiedbhfniaaDoor.P
end
section
namespace Go.Proofs.YtdmeiiedbhfniaaDoor.P
open Go.RowKit Go.Shelf YtdmeiiedbhfniaaDoorW.PrintWords YtdmeiiedbhfniaaDoorW.PrintLast YtdmeiiedbhfniaaDoorW.PrintMore
attribute [local go_sem] Oper.semAt_some
def countN (xs : List Nat) : Int := xs.foldl (fun (a : Int) (_ : Nat) => addN a 1) 0
def countU (ts : List TT) (xs : List Nat) : List Int := xs.foldl (fun (a : List Int) (i : Nat) => addU a (rd_T38 ts (i : Int)).f2 (rd_T38 ts (i : Int)).f3 1) [0, 0, 0]
theorem own_C {β : Type} (B b : Nat) (n : β → Int) (us : β → List Int) : OwnFrom B (fun s W => IsC W b (n s) (us s)) := by
 intro s W W' row h hg hr
 refine h.grown hg (fun e => ?_)
 obtain ⟨_, o, ho, hc⟩ := hr b e.symm
 rw [h.2] at ho
 cases ho
 cases hc
def cntV (n : Int) (us : List Int) : Value := .agg (Value.int .i64 n :: us.map (Value.int .i64)).toArray
end Go.Proofs.YtdmeiiedbhfniaaDoor.P
end
