/- Merged texts of one claim: part 25 of what the statement's proof stands on. No condition. -/
import Derived.Test.YtajapkjplgaigaaDoorD20
import Derived.Test.YtajapkjplgaigaaDoorD21
import Derived.Laws.OwnMore
import Derived.RegionTactic
import Derived.ChangeAlike
import Derived.RangeFuncNested
section
namespace Go.Proofs.YtajapkjplgaigaaDoor.P
open Go.RowKit Go.Proofs.YtajapkjplgaigaaDoorW.PrintWords Go.Proofs.YtajapkjplgaigaaDoorW.PrintLast Go.Proofs.YtajapkjplgaigaaDoorW.PrintMore
attribute [local go_sem] max2_int min2_int max_two min_two max_three min_three max_four min_four   -- for this text's walks alone
set_option linter.unusedVariables false
set_option linter.unusedSimpArgs false
mutual
def impl_order.l0 : Nat → List Int → List Int → Int → Int → Int → Option (List Int × Int)
 | 0, _, _, _, _, _ => none
 | k + 1, x0, x4, x5, x10, x11 => if x11 < x10 then (impl_order.l1 k x0 x4 x5 x10 x11 x0 (x0.length : Int) 0) else (some (x4, x5))
def impl_order.l1 : Nat → List Int → List Int → Int → Int → Int → List Int → Int → Int → Option (List Int × Int)
 | 0, _, _, _, _, _, _, _, _ => none
 | k + 1, x0, x4, x5, x10, x11, x13, x14, x15 => if x15 < x14 then (if 0 ≤ x15 then (if x15 < (x13.length : Int) then ((impl_set_has.f x5 x15).bind fun t352 => (if t352 = true then (impl_order.l1 k x0 x4 x5 x10 x11 x13 x14 (wrap64 (x15 + 1))) else (if (Go.bits .andNot .u16 (rd x13 x15) x5) = 0 then (if x4.length < 17592186044416 then ((impl_set_with.f x5 x15).bind fun t356 => (impl_order.l0 k x0 (x4 ++ [x15]) t356 x10 (wrap64 (x11 + 1)))) else (none)) else (impl_order.l1 k x0 x4 x5 x10 x11 x13 x14 (wrap64 (x15 + 1)))))) else (none)) else (none)) else (impl_order.l0 k x0 x4 x5 x10 (wrap64 (x11 + 1)))
end
def impl_order.f (k : Nat) (l0 : List Int) : Option (List Int × Int) := impl_order.l0 k l0 (([] : List Int)) 0 (l0.length : Int) 0
set_option maxHeartbeats 8000000 in
set_option maxRecDepth 100000 in
theorem impl_order.calls (k : Nat) (A0 : Option Addr) (c0 : Nat) (l0 : List Int) (r1 : List Int) (r2 : Int) (w : World) (hr0 : Kd.C (Kd.int .u16) w A0 l0.length l0) (hc0 : l0.length ≤ c0) (h : impl_order.f k l0 = some (r1, r2)) :
  Calls Tryd.prog 90 #[.slice A0 l0.length c0] w fun e w' => ∃ v0_ : Value, e = .returned (.tuple #[v0_, .int .u16 r2]) ∧ Kd.R (Kd.int .i64) 3 w' w.heap.size (fun _ => True) v0_ r1 ∧ Below w.heap.size w w' := by
 have HR0 := Aside0.mk hr0
 have HC0 := Aside0.mk hc0
 clear hr0 hc0
 have HB := Aside0.mk (Below.refl w.heap.size w)
 have H : (impl_order.l0 k l0 (([] : List Int)) 0 (l0.length : Int) 0) = some (r1, r2) := h
 clear h
 obtain ⟨y348, hy348⟩ : ∃ y_ : List Int, y_ = (([] : List Int)) := ⟨_, rfl⟩
 replace H : (impl_order.l0 k l0 y348 0 (l0.length : Int) 0) = some (r1, r2) := by first | (rw [hy348]; with_reducible exact H) | (have H2_ := (Option.bind_some _ _).symm.trans H; rw [hy348]; with_reducible exact H2_) | (have H2_ := (Option.bind_some _ _).symm.trans H; with_reducible exact H2_) | with_reducible exact H | (rw [hy348]; exact H) | exact H
 have Ny348 := Aside0.mk hy348
 clear hy348
 have H' := Aside0.mk H
 clear H
 go_enter Tryd.func90, Tryd.ntmps90
 go_wp2_with (first | ((with_reducible refine gate_dst (N := 8) rfl ?_); refine Kd.R_lit (Kd.int .i64) _ 3 ?hg (N := 8) ?hd (xs := ([] : List Int)) (inner := []) (ok := fun _ => True) (okp := fun _ => True) ?hr ?hp (fun _ hk => hk) trivial (Below.refl _ _) (Nat.le_refl _) (by simp) ?_; (case hd => rfl); (case hg => rfl); (case hr => first | (go_simp; done) | (go_simp; rfl)); (case hp => exact (Reps.none _ _)); intro v349 w2 ho3 hb hg_ hnew_; clear hg_ hnew_; (first | rw [← Ny348.out] at ho3 | (simp only [Int.reduceToNat] at ho3; rw [← Ny348.out] at ho3)); have n0_ := Aside0.mk (Kd.R_lower ho3 (below_size (by repeat (first | (with_reducible first | exact HB.out | apply below_alloc | apply pw_below_drewN | apply below_drew1) | exact HB.out)))); have n1_ := Aside0.mk (below_step (by repeat (first | (with_reducible first | exact HB.out | apply below_alloc | apply pw_below_drewN | apply below_drew1) | exact HB.out)) hb); clear HB; have HO350 := n0_; have HB := n1_; clear n0_ n1_; clear hb ho3))
 go_loopg [4, 5, 11] k (fun kq v4 v5 v11 w' => ∃ (x4_1 : List Int) (x5_1 : Int) (x11_1 : Int), v5 = .int .u16 x5_1 ∧ v11 = .int .i64 x11_1 ∧ Aside0 (impl_order.l0 kq l0 x4_1 x5_1 (l0.length : Int) x11_1 = some (r1, r2)) ∧ Aside0 (kq ≤ k) ∧ Aside0 (Kd.R (Kd.int .i64) 3 w' w.heap.size (fun _ => True) v4 x4_1) ∧ Aside0 (Below w.heap.size w w'))
 case atStart => exact ⟨(y348), (0), (0), (by first | rfl | (simp; done) | (simp [*]; done)), (by first | rfl | (simp; done) | (simp [*]; done)), H', ⟨Nat.le_refl _⟩, ⟨by (with_reducible repeat (first | apply Kd.R_alloc | apply Kd.R_drewN | apply Kd.R_drew)); exact HO350.out⟩, ⟨by repeat (first | (with_reducible first | exact HB.out | apply below_alloc | apply pw_below_drewN | apply below_drew1) | exact HB.out)⟩⟩
 case round =>
  clear H'
  try clear p2
  obtain ⟨x4_1, x5_1, x11_1, rfl, rfl, HA, HK1, HO_4, HB⟩ := hrel
  cases gk with
  | zero => exact absurd HA.out (by simp [impl_order.l0])
  | succ k1 =>
   have H := HA.out
   clear HA
   simp only [impl_order.l0] at H
   by_cases c4 : x11_1 < (l0.length : Int)
   ·rw [if_pos c4] at H
    have c4b0 : decide (x11_1 < (l0.length : Int)) = true := decide_eq_true c4
    clear c4
    have H' := Aside0.mk H
    clear H
    go_wp2
    go_loopg [4, 5, 15] k1 (fun kq v4 v5 v15 w' => ∃ (x4_2 : List Int) (x5_2 : Int) (x15_2 : Int), v5 = .int .u16 x5_2 ∧ v15 = .int .i64 x15_2 ∧ Aside0 (impl_order.l1 kq l0 x4_2 x5_2 (l0.length : Int) x11_1 l0 (l0.length : Int) x15_2 = some (r1, r2)) ∧ Aside0 (kq ≤ k1) ∧ Aside0 (Kd.R (Kd.int .i64) 3 w' w.heap.size (fun _ => True) v4 x4_2) ∧ Aside0 (Below w.heap.size w w'))
    case atStart => exact ⟨(x4_1), (x5_1), (0), (by first | rfl | (simp; done) | (simp [*]; done)), (by first | rfl | (simp; done) | (simp [*]; done)), H', ⟨Nat.le_refl _⟩, ⟨by (with_reducible repeat (first | apply Kd.R_alloc | apply Kd.R_drewN | apply Kd.R_drew)); exact HO_4.out⟩, ⟨by repeat (first | (with_reducible first | exact HB.out | apply below_alloc | apply pw_below_drewN | apply below_drew1) | exact HB.out)⟩⟩
    case round =>
     clear H'
     try clear p2
     try clear c4
     try clear c4b0
     try clear p2
     obtain ⟨x4_2, x5_2, x15_2, rfl, rfl, HA, HK2, HO_4, HB⟩ := hrel
     cases gk with
     | zero => exact absurd HA.out (by simp [impl_order.l1])
     | succ k2 =>
      have H := HA.out
      clear HA
      simp only [impl_order.l1] at H
      by_cases c5 : x15_2 < (l0.length : Int)
      ·rw [if_pos c5] at H
       have c5b0 : decide (x15_2 < (l0.length : Int)) = true := decide_eq_true c5
       clear c5
       by_cases c6 : 0 ≤ x15_2
       ·rw [if_pos c6] at H
        have c6b0 : decide (0 ≤ x15_2) = true := decide_eq_true c6
        clear c6
        by_cases c7 : x15_2 < (l0.length : Int)
        ·rw [if_pos c7] at H
         have c7b0 : decide (x15_2 < (l0.length : Int)) = true := decide_eq_true c7
         clear c7
         replace H := Option.bind_eq_some_iff.mp H
         obtain ⟨t352, A80, H⟩ := H
         replace H : (if t352 = true then (impl_order.l1 k2 l0 x4_2 x5_2 (l0.length : Int) x11_1 l0 (l0.length : Int) (wrap64 (x15_2 + 1))) else (if (Go.bits .andNot .u16 (rd l0 x15_2) x5_2) = 0 then (if x4_2.length < 17592186044416 then ((impl_set_with.f x5_2 x15_2).bind fun t356 => (impl_order.l0 k2 l0 (x4_2 ++ [x15_2]) t356 (l0.length : Int) (wrap64 (x11_1 + 1)))) else (none)) else (impl_order.l1 k2 l0 x4_2 x5_2 (l0.length : Int) x11_1 l0 (l0.length : Int) (wrap64 (x15_2 + 1))))) = some (r1, r2) := H
         have A8 := Aside0.mk A80
         clear A80
         by_cases c9 : t352 = true
         ·subst c9
          have H1 : (impl_order.l1 k2 l0 x4_2 x5_2 (l0.length : Int) x11_1 l0 (l0.length : Int) (wrap64 (x15_2 + 1))) = some (r1, r2) := by rw [if_pos rfl] at H; exact H
          clear H
          have H := H1
          clear H1
          have H' := Aside0.mk H
          clear H
          have p351 : 0 ≤ (x15_2 : Int) := of_decide_eq_true (by first | (with_reducible assumption) | assumption)
          have q351 : x15_2 < (l0.length : Int) := of_decide_eq_true (by first | (with_reducible assumption) | assumption)
          obtain ⟨ad351, e351, hx351_0⟩ := Kd.at_int HR0.out x15_2 p351 q351
          cases e351
          replace hx351_0 := (HB.out.cell (World.block_lt_of_cell? w _ hx351_0)).trans hx351_0
          replace p351 := eq_true p351
          replace q351 := eq_true q351
          go_wp2_with (first | ((with_reducible refine gate_callee (f := 49) rfl ?_); refine goesL_ (some 22) rfl rfl Tryd.func49 (by kernel_rfl) rfl #[.int .u16 x5_2, .int .i64 x15_2] rfl (by (try simp only [List.map_toArray, List.map_cons, List.map_nil]); first | done | rfl | (simp only [List.length_drop, List.length_take]; rfl)) ?_; (with_reducible refine (impl_set_has.calls x5_2 x15_2 true _ A8.out).mono ?_); rintro e w' ⟨rfl, ⟨nd, rfl⟩⟩; refine ⟨_, rfl, ?_⟩))
          go_roundg k2
          case measure => have := HK1.out; have := HK2.out; omega
          case rel => exact ⟨(x4_2), (x5_2), (wrap64 (x15_2 + 1)), (by first | rfl | (simp; done) | (simp [*]; done)), (by first | rfl | (simp; done) | (simp [*]; done)), H', ⟨by have := HK1.out; have := HK2.out; omega⟩, ⟨by (with_reducible repeat (first | apply Kd.R_alloc | apply Kd.R_drewN | apply Kd.R_drew)); exact HO_4.out⟩, ⟨by repeat (first | (with_reducible first | exact HB.out | apply below_alloc | apply pw_below_drewN | apply below_drew1) | exact HB.out)⟩⟩
         ·replace c9 := Bool.eq_false_iff.mpr c9
          subst c9
          have H1 : (if (Go.bits .andNot .u16 (rd l0 x15_2) x5_2) = 0 then (if x4_2.length < 17592186044416 then ((impl_set_with.f x5_2 x15_2).bind fun t356 => (impl_order.l0 k2 l0 (x4_2 ++ [x15_2]) t356 (l0.length : Int) (wrap64 (x11_1 + 1)))) else (none)) else (impl_order.l1 k2 l0 x4_2 x5_2 (l0.length : Int) x11_1 l0 (l0.length : Int) (wrap64 (x15_2 + 1)))) = some (r1, r2) := by rw [if_neg (show ¬ (false = true) by decide)] at H; exact H
          clear H
          have H := H1
          clear H1
          by_cases c10 : (Go.bits .andNot .u16 (rd l0 x15_2) x5_2) = 0
          ·rw [if_pos c10] at H
           have c10b0 : ((Go.bits .andNot .u16 (rd l0 x15_2) x5_2) == 0) = true := beq_iff_eq.mpr c10
           have c10b1 : ((Go.bits .andNot .u16 (rd l0 x15_2) x5_2) != 0) = false := bne_eq_false_iff_eq.mpr c10
           clear c10
           by_cases c11 : x4_2.length < 17592186044416
           ·rw [if_pos c11] at H
            have LMc11 := Aside0.mk c11
            clear c11
            obtain ⟨y353, hy353⟩ : ∃ y_ : List Int, y_ = (x4_2 ++ [x15_2]) := ⟨_, rfl⟩
            replace H : ((impl_set_with.f x5_2 x15_2).bind fun t356 => (impl_order.l0 k2 l0 y353 t356 (l0.length : Int) (wrap64 (x11_1 + 1)))) = some (r1, r2) := by first | (rw [hy353]; with_reducible exact H) | (have H2_ := (Option.bind_some _ _).symm.trans H; rw [hy353]; with_reducible exact H2_) | (have H2_ := (Option.bind_some _ _).symm.trans H; with_reducible exact H2_) | with_reducible exact H | (rw [hy353]; exact H) | exact H
            have Ny353 := Aside0.mk hy353
            clear hy353
            replace H := Option.bind_eq_some_iff.mp H
            obtain ⟨t356, A120, H⟩ := H
            replace H : (impl_order.l0 k2 l0 y353 t356 (l0.length : Int) (wrap64 (x11_1 + 1))) = some (r1, r2) := H
            have A12 := Aside0.mk A120
            clear A120
            have H' := Aside0.mk H
            clear H
            have p351 : 0 ≤ (x15_2 : Int) := of_decide_eq_true (by first | (with_reducible assumption) | assumption)
            have q351 : x15_2 < (l0.length : Int) := of_decide_eq_true (by first | (with_reducible assumption) | assumption)
            obtain ⟨ad351, e351, hx351_0⟩ := Kd.at_int HR0.out x15_2 p351 q351
            cases e351
            replace hx351_0 := (HB.out.cell (World.block_lt_of_cell? w _ hx351_0)).trans hx351_0
            replace p351 := eq_true p351
            replace q351 := eq_true q351
            go_wp2_with (first | ((with_reducible refine gate_callee (f := 49) rfl ?_); refine goesL_ (some 22) rfl rfl Tryd.func49 (by kernel_rfl) rfl #[.int .u16 x5_2, .int .i64 x15_2] rfl (by (try simp only [List.map_toArray, List.map_cons, List.map_nil]); first | done | rfl | (simp only [List.length_drop, List.length_take]; rfl)) ?_; (with_reducible refine (impl_set_has.calls x5_2 x15_2 false _ A8.out).mono ?_); rintro e w' ⟨rfl, ⟨nd, rfl⟩⟩; refine ⟨_, rfl, ?_⟩) | ((with_reducible refine gate_builtin (b := .append) (xs := #[.tmp 30, .tmp 32]) rfl ?_); at_builtin; refine Kd.R_append (Kd.int .i64) (w0 := w) w.heap.size rfl (.tmp 30) (.tmp 32) 24 3 (.int .i64 0) 8 rfl Tryd.underlying24 info3 rfl (by decide) (by omega) u4 x4_2 x15_2 [.int .i64 x15_2] (fun _ => True) (fun _ => False) rfl rfl ?aP (fun _ hk => hk.elim) ?aF ?aO ?aB ?aS ?aL ?_; (case aP => exact rfl); (case aB => exact (by repeat (first | (with_reducible first | exact HB.out | apply below_alloc | apply pw_below_drewN | apply below_drew1) | exact HB.out))); (case aF => exact (fun _ _ => trivial)); (case aO => exact (by (with_reducible repeat (first | apply Kd.R_alloc | apply Kd.R_drewN | apply Kd.R_drew)); exact HO_4.out)); (case aS => exact (below_size (by repeat (first | (with_reducible first | exact HB.out | apply below_alloc | apply pw_below_drewN | apply below_drew1) | exact HB.out)))); (case aL => have := LMc11.out; omega); intro v354 w13 ho hb hg hat; rw [← Ny353.out] at ho; have n0_ := Aside0.mk (hb); have n1_ := Aside0.mk (ho); clear HB; clear HO_4; have HB := n0_; have HO355 := n1_; clear n0_ n1_; clear ho hb hg hat) | ((with_reducible refine gate_callee (f := 50) rfl ?_); refine goesL_ (some 36) rfl rfl Tryd.func50 (by kernel_rfl) rfl #[.int .u16 x5_2, .int .i64 x15_2] rfl (by (try simp only [List.map_toArray, List.map_cons, List.map_nil]); first | done | rfl | (simp only [List.length_drop, List.length_take]; rfl)) ?_; (with_reducible refine (impl_set_with.calls x5_2 x15_2 t356 _ A12.out).mono ?_); rintro e w' ⟨rfl, ⟨nd, rfl⟩⟩; refine ⟨_, rfl, ?_⟩))
            go_roundg k2
            case measure => have := HK1.out; have := HK2.out; omega
            case rel => exact ⟨(y353), (t356), (wrap64 (x11_1 + 1)), (by first | rfl | (simp; done) | (simp [*]; done)), (by first | rfl | (simp; done) | (simp [*]; done)), H', ⟨by have := HK1.out; have := HK2.out; omega⟩, ⟨by (with_reducible repeat (first | apply Kd.R_alloc | apply Kd.R_drewN | apply Kd.R_drew)); exact HO355.out⟩, ⟨by repeat (first | (with_reducible first | exact HB.out | apply below_alloc | apply pw_below_drewN | apply below_drew1) | exact HB.out)⟩⟩
           ·rw [if_neg c11] at H
            exact absurd H (by simp)
          ·rw [if_neg c10] at H
           have c10b0 : ((Go.bits .andNot .u16 (rd l0 x15_2) x5_2) == 0) = false := beq_eq_false_iff_ne.mpr c10
           have c10b1 : ((Go.bits .andNot .u16 (rd l0 x15_2) x5_2) != 0) = true := bne_iff_ne.mpr c10
           have H' := Aside0.mk H
           clear H
           have p351 : 0 ≤ (x15_2 : Int) := of_decide_eq_true (by first | (with_reducible assumption) | assumption)
           have q351 : x15_2 < (l0.length : Int) := of_decide_eq_true (by first | (with_reducible assumption) | assumption)
           obtain ⟨ad351, e351, hx351_0⟩ := Kd.at_int HR0.out x15_2 p351 q351
           cases e351
           replace hx351_0 := (HB.out.cell (World.block_lt_of_cell? w _ hx351_0)).trans hx351_0
           replace p351 := eq_true p351
           replace q351 := eq_true q351
           go_wp2_with (first | ((with_reducible refine gate_callee (f := 49) rfl ?_); refine goesL_ (some 22) rfl rfl Tryd.func49 (by kernel_rfl) rfl #[.int .u16 x5_2, .int .i64 x15_2] rfl (by (try simp only [List.map_toArray, List.map_cons, List.map_nil]); first | done | rfl | (simp only [List.length_drop, List.length_take]; rfl)) ?_; (with_reducible refine (impl_set_has.calls x5_2 x15_2 false _ A8.out).mono ?_); rintro e w' ⟨rfl, ⟨nd, rfl⟩⟩; refine ⟨_, rfl, ?_⟩))
           go_roundg k2
           case measure => have := HK1.out; have := HK2.out; omega
           case rel => exact ⟨(x4_2), (x5_2), (wrap64 (x15_2 + 1)), (by first | rfl | (simp; done) | (simp [*]; done)), (by first | rfl | (simp; done) | (simp [*]; done)), H', ⟨by have := HK1.out; have := HK2.out; omega⟩, ⟨by (with_reducible repeat (first | apply Kd.R_alloc | apply Kd.R_drewN | apply Kd.R_drew)); exact HO_4.out⟩, ⟨by repeat (first | (with_reducible first | exact HB.out | apply below_alloc | apply pw_below_drewN | apply below_drew1) | exact HB.out)⟩⟩
        ·rw [if_neg c7] at H
         exact absurd H (by simp)
       ·rw [if_neg c6] at H
        exact absurd H (by simp)
      ·rw [if_neg c5] at H
       have c5b0 : decide (x15_2 < (l0.length : Int)) = false := decide_eq_false c5
       clear c5
       have H' := Aside0.mk H
       clear H
       go_wp2
       go_roundg k2
       case measure => have := HK1.out; have := HK2.out; omega
       case rel => exact ⟨(x4_2), (x5_2), (wrap64 (x11_1 + 1)), (by first | rfl | (simp; done) | (simp [*]; done)), (by first | rfl | (simp; done) | (simp [*]; done)), H', ⟨by have := HK1.out; have := HK2.out; omega⟩, ⟨by (with_reducible repeat (first | apply Kd.R_alloc | apply Kd.R_drewN | apply Kd.R_drew)); exact HO_4.out⟩, ⟨by repeat (first | (with_reducible first | exact HB.out | apply below_alloc | apply pw_below_drewN | apply below_drew1) | exact HB.out)⟩⟩
   ·rw [if_neg c4] at H
    have c4b0 : decide (x11_1 < (l0.length : Int)) = false := decide_eq_false c4
    clear c4
    simp only [Option.some.injEq, Prod.mk.injEq] at H
    obtain ⟨rfl, rfl⟩ := H
    go_wp2
    go_ret2
    exact ⟨_, by first | rfl | (simp [errW_none, errW_some] <;> rfl) | (simp [*, errW_none, errW_some] <;> rfl), by (with_reducible repeat (first | apply Kd.R_alloc | apply Kd.R_drewN | apply Kd.R_drew)); exact HO_4.out, by repeat (first | (with_reducible first | exact HB.out | apply below_alloc | apply pw_below_drewN | apply below_drew1) | exact HB.out)⟩
end Go.Proofs.YtajapkjplgaigaaDoor.P
end
section
namespace Go.Proofs.YtajapkjplgaigaaDoor.P
open Go.RowKit Go.Proofs.YtajapkjplgaigaaDoorW.PrintWords Go.Proofs.YtajapkjplgaigaaDoorW.PrintLast Go.Proofs.YtajapkjplgaigaaDoorW.PrintMore
attribute [local go_sem] max2_int min2_int max_two min_two max_three min_three max_four min_four   -- for this text's walks alone
set_option linter.unusedVariables false
set_option linter.unusedSimpArgs false
def impl_everything.f (a0 : Int) : Option (Int) := if 0 ≤ a0 then (some (IntKind.u16.wrap ((shl .u16 1 a0) - 1))) else (none)
set_option maxHeartbeats 8000000 in
set_option maxRecDepth 100000 in
theorem impl_everything.calls (a0 : Int) (r : Int) (w : World) (h : impl_everything.f a0 = some r) :
  Calls Tryd.prog 42 #[.int .i64 a0] w fun e w' => e = .returned (.int .u16 r) ∧ Drawn0 w w' := by
 have H : (if 0 ≤ a0 then (some (IntKind.u16.wrap ((shl .u16 1 a0) - 1))) else (none)) = some r := h
 clear h
 by_cases c2 : 0 ≤ a0
 ·rw [if_pos c2] at H
  have c2b0 := eq_true c2
  have c2b1 : decide (0 ≤ a0) = true := decide_eq_true c2
  clear c2
  obtain ⟨ji3, hji3⟩ : ∃ j_ : Int, (shl .u16 1 a0) = j_ := ⟨_, rfl⟩
  replace H : (some (IntKind.u16.wrap ((ji3) - 1))) = some r := by first | (rw [hji3] at H; exact H) | (simp only [hji3] at H ⊢; exact H)
  have hji3_ : (IntKind.u16.wrap (1 * 2 ^ min a0.toNat 16)) = ji3 := hji3
  have hji3z : a0 ≤ 16 → (IntKind.u16.wrap (1 * 2 ^ a0.toNat)) = ji3 := shl_small hji3
  have hji3u : (IntKind.u16.wrap (2 ^ min a0.toNat 16)) = ji3 := by have h_ := hji3_; rw [Int.one_mul] at h_; exact h_
  have hji3v : a0 ≤ 16 → (IntKind.u16.wrap (2 ^ a0.toNat)) = ji3 := fun hle_ => by have h_ := hji3z hle_; rw [Int.one_mul] at h_; exact h_
  obtain rfl := Option.some.inj H
  go_enter Tryd.func42, Tryd.ntmps42
  go_wp2
  go_ret
  exact ⟨by first | rfl | (simp; done) | (simp only [← hji3] <;> (first | rfl | simp)) | (simp [*]; done), by repeat (first | exact Drawn0.refl _ | apply Drawn0.step)⟩
 ·rw [if_neg c2] at H
  exact absurd H (by simp)
end Go.Proofs.YtajapkjplgaigaaDoor.P
end
section
namespace Go.Proofs.YtajapkjplgaigaaDoor.P
open Go.RowKit Go.Shelf Go.Proofs.YtajapkjplgaigaaDoorW.PrintWords Go.Proofs.YtajapkjplgaigaaDoorW.PrintLast Go.Proofs.YtajapkjplgaigaaDoorW.PrintMore
attribute [local go_sem] Oper.semAt_some
set_option linter.unusedVariables false
set_option linter.unusedSimpArgs false
def everyI (n : Nat) : Int := IntKind.u16.wrap ((shl .u16 1 (n : Int)) - 1)
theorem everyI_calls (n : Nat) (w : World) : Calls Tryd.prog 42 #[.int .i64 (n : Int)] w fun e w' => e = .returned (.int .u16 (everyI n)) ∧ Drawn0 w w' :=
 impl_everything.calls (n : Int) _ w (by unfold impl_everything.f; rw [if_pos (by omega)]; rfl)
set_option maxRecDepth 100000 in
set_option maxHeartbeats 4000000 in
theorem graphOf_no1 (k : Nat) (A0 : Option Addr) (c0 : Nat) (l0 : List TT) (nd : List Int) (w : World) (hr0 : Kd.C k39 w A0 l0.length l0) (hc0 : l0.length ≤ c0) (hN : impl_needsOf.f k l0 = some (nd, false)) :
  Calls Tryd.prog 58 #[.slice A0 l0.length c0] w fun e w' => e = .returned (.tuple #[.pointer none, .bool false]) ∧ Below w.heap.size w w' := by
 have nc := Aside0.mk (impl_needsOf.calls k A0 c0 l0 nd false w hr0 hc0 hN)
 clear hr0 hN
 refine calls_of_wpM Tryd.func58 rfl ?_
 simp only [Tryd.ntmps58, List.size_toArray, List.length_cons, List.length_nil, Nat.reduceAdd, Nat.reduceSub, Array.replicate_succ, Array.replicate_zero, List.push_toArray, List.append_toArray, List.nil_append, List.cons_append]
 go_wp2_with (go_at_call 89; refine nc.out.mono ?_; rintro e w1 ⟨v, rfl, hR, hB⟩; have hB' := Aside0.mk hB; clear hB hR)
 refine retM (B := w.heap.size) (fun W => Below w.heap.size w W) (ownFrom_below (Nat.le_refl _) (Nat.le_refl _)) trivial hB'.out ?_
 intro W' hbb
 exact ⟨.tuple #[.pointer none, .bool false], (results_tmp2 (t := 2) (u := 3) rfl _ _ _).trans rfl, rfl, hbb⟩
set_option maxRecDepth 100000 in
set_option maxHeartbeats 4000000 in
theorem graphOf_no2 (k : Nat) (A0 : Option Addr) (c0 : Nat) (l0 : List TT) (nd od : List Int) (dn : Int) (w : World) (hr0 : Kd.C k39 w A0 l0.length l0) (hc0 : l0.length ≤ c0) (hN : impl_needsOf.f k l0 = some (nd, true)) (hO : impl_order.f k nd = some (od, dn))
  (hd : (dn == everyI l0.length) = false) :
  Calls Tryd.prog 58 #[.slice A0 l0.length c0] w fun e w' => e = .returned (.tuple #[.pointer none, .bool false]) ∧ Below w.heap.size w w' := by
 have nc := Aside0.mk (impl_needsOf.calls k A0 c0 l0 nd true w hr0 hc0 hN)
 have hO' := Aside0.mk hO
 clear hr0 hN hO
 have hd2 : (dn != everyI l0.length) = true := by simpa [bne] using hd
 refine calls_of_wpM Tryd.func58 rfl ?_
 simp only [Tryd.ntmps58, List.size_toArray, List.length_cons, List.length_nil, Nat.reduceAdd, Nat.reduceSub, Array.replicate_succ, Array.replicate_zero, List.push_toArray, List.append_toArray, List.nil_append, List.cons_append]
 go_wp2_with (first | (go_at_call 89; refine nc.out.mono ?_; rintro e w1 ⟨v, rfl, hR, hB⟩; have hB' := Aside0.mk hB; obtain ⟨A1, c1, rfl, hl1, hC1⟩ := Kd.R_reads hR; have hC1' := Aside0.mk hC1; have oc := Aside0.mk (impl_order.calls k A1 c1 nd od dn w1 hC1 hl1 hO'.out); clear hB hR hC1) | (go_at_call 90; refine oc.out.mono ?_; rintro e w2 ⟨v2, rfl, hR2, hB2⟩; have hB2' := Aside0.mk (below_step hB'.out hB2); clear hR2 hB2) | (go_at_call 42; refine (everyI_calls l0.length _).mono ?_; rintro e w3 ⟨rfl, ⟨m3, rfl⟩⟩))
 refine retM (B := w.heap.size) (fun W => Below w.heap.size w W) (ownFrom_below (Nat.le_refl _) (Nat.le_refl _)) trivial (pw_below_drewN hB2'.out _) ?_
 intro W' hbb
 exact ⟨.tuple #[.pointer none, .bool false], (results_tmp2 (t := 2) (u := 3) rfl _ _ _).trans rfl, rfl, hbb⟩
def bStep (i : Nat) (bl : List Nat) (k : Nat) : List Nat := bl.set i (bl.getD i 0 ||| (bl.getD k 0 ||| 2 ^ k))
def aStep (i : Nat) (ab : List Nat) (k : Nat) : List Nat := ab.set k (ab.getD k 0 ||| 2 ^ i)
def relStep (nd : List Nat) (s : List Nat × List Nat) (i : Nat) : List Nat × List Nat :=
 ((bitsN (nd.getD i 0)).foldl (bStep i) s.1, (bitsN (((bitsN (nd.getD i 0)).foldl (bStep i) s.1).getD i 0)).foldl (aStep i) s.2)
def relP (nd : List Nat) (od : List Nat) (n : Nat) : List Nat × List Nat := od.foldl (relStep nd) (List.replicate n 0, List.replicate n 0)
def OkU (n : Nat) (l : List Nat) : Prop := l.length = n ∧ ∀ x ∈ l, x < 2 ^ n
theorem OkU.get {n : Nat} {l : List Nat} (h : OkU n l) (i : Nat) : l.getD i 0 < 2 ^ n := by
 rw [List.getD_eq_getElem?_getD]
 cases hi : l[i]? with
 | none => simp [Nat.two_pow_pos]
 | some v => exact h.2 v (List.mem_of_getElem? hi)
theorem OkU.set {n : Nat} {l : List Nat} (h : OkU n l) (i x : Nat) (hx : x < 2 ^ n) : OkU n (l.set i x) :=
 ⟨by simp [h.1], fun y hy => by rcases List.mem_or_eq_of_mem_set hy with h' | rfl; exact h.2 y h'; exact hx⟩
theorem OkU.bStep {n : Nat} {l : List Nat} (h : OkU n l) (i k : Nat) (hk : k < n) : OkU n (bStep i l k) := h.set _ _ (or_lt8 (h.get i) (with_lt (h.get k) hk))
theorem OkU.aStep {n : Nat} {l : List Nat} (h : OkU n l) (i k : Nat) (hi : i < n) : OkU n (aStep i l k) := h.set _ _ (with_lt (h.get k) hi)
theorem OkU.bFold {n : Nat} (i : Nat) : ∀ (ks : List Nat) {l : List Nat}, OkU n l → (∀ k ∈ ks, k < n) → OkU n (ks.foldl (P.bStep i) l)
 | [], _, h, _ => h
 | k :: ks, _, h, hk => OkU.bFold i ks (h.bStep i k (hk k List.mem_cons_self)) (fun k' h' => hk k' (List.mem_cons_of_mem _ h'))
theorem OkU.aFold {n : Nat} (i : Nat) (hi : i < n) : ∀ (ks : List Nat) {l : List Nat}, OkU n l → OkU n (ks.foldl (P.aStep i) l)
 | [], _, h => h
 | k :: ks, _, h => OkU.aFold i hi ks (h.aStep i k hi)
theorem bitsN_lt {s n : Nat} (hs : s < 2 ^ n) : ∀ k ∈ bitsN s, k < n := fun k hk => bit_lt hs (mem_bitsN.1 hk).2
theorem OkU.rel {n : Nat} {nd : List Nat} {s : List Nat × List Nat} (hnd : ∀ i, nd.getD i 0 < 2 ^ n) (h1 : OkU n s.1) (h2 : OkU n s.2) (i : Nat) (hi : i < n) : OkU n (relStep nd s i).1 ∧ OkU n (relStep nd s i).2 :=
 ⟨h1.bFold i _ (bitsN_lt (hnd i)), h2.aFold i hi _⟩
theorem OkU.zero (n : Nat) : OkU n (List.replicate n 0) := ⟨by simp, fun x hx => by rw [(List.mem_replicate.1 hx).2]; exact Nat.two_pow_pos n⟩
theorem OkU.relF {n : Nat} {nd : List Nat} (hnd : ∀ i, nd.getD i 0 < 2 ^ n) : ∀ (od : List Nat) (s : List Nat × List Nat), OkU n s.1 → OkU n s.2 → (∀ i ∈ od, i < n) → OkU n (od.foldl (relStep nd) s).1 ∧ OkU n (od.foldl (relStep nd) s).2
 | [], _, h1, h2, _ => ⟨h1, h2⟩
 | i :: od, s, h1, h2, ho => OkU.relF hnd od (relStep nd s i) (OkU.rel hnd h1 h2 i (ho i List.mem_cons_self)).1 (OkU.rel hnd h1 h2 i (ho i List.mem_cons_self)).2 (fun k hk => ho k (List.mem_cons_of_mem _ hk))
theorem relP_ok {n : Nat} {nd od : List Nat} (hnd : ∀ i, nd.getD i 0 < 2 ^ n) (ho : ∀ i ∈ od, i < n) : OkU n (relP nd od n).1 ∧ OkU n (relP nd od n).2 := OkU.relF hnd od _ (OkU.zero n) (OkU.zero n) ho
structure F8 (n : Nat) (V0 V1 V2 : Value) (w3 : World) (b1 b2 b3 b4 : Nat) (bl ab : List Nat) (W : World) : Prop where
 bel : Below w3.heap.size w3 W
 h1 : W.heap[b1]? = some (rowU bl)
 h2 : W.heap[b2]? = some (rowU ab)
 h3 : W.heap[b3]? = some (.cells #[V0, V1, V2, slv b1 n, slv b2 n] 64 (0, 0))
 h4 : W.heap[b4]? = some (.cells #[.pointer (some ⟨b3, 0, none⟩)] 49 (0, 0))
theorem own_F8 {β : Type} (n : Nat) (V0 V1 V2 : Value) (w3 : World) (b1 b2 b3 b4 : Nat) (bl ab : β → List Nat) (B : Nat) (hB : w3.heap.size ≤ B) : OwnFrom B (fun s W => F8 n V0 V1 V2 w3 b1 b2 b3 b4 (bl s) (ab s) W) := by
 intro s W W' row h hg hr
 exact ⟨(ownFrom_below (Nat.le_refl _) hB) s W W' row h.bel hg hr, own_blk B b1 (fun s => ((nI (bl s)).map (Value.int .u16)).toArray) _ s W W' row h.h1 hg hr, own_blk B b2 (fun s => ((nI (ab s)).map (Value.int .u16)).toArray) _ s W W' row h.h2 hg hr,
  own_blk B b3 (fun _ => _) _ s W W' row h.h3 hg hr, own_blk B b4 (fun _ => _) _ s W W' row h.h4 hg hr⟩
theorem F8.alloc {n : Nat} {V0 V1 V2 : Value} {w3 W : World} {b1 b2 b3 b4 : Nat} {bl ab : List Nat} (h : F8 n V0 V1 V2 w3 b1 b2 b3 b4 bl ab W) (o : Obj) : F8 n V0 V1 V2 w3 b1 b2 b3 b4 bl ab (W.alloc o) :=
 ⟨h.bel.alloc h.bel.size o, blk_alloc h.h1 o, blk_alloc h.h2 o, blk_alloc h.h3 o, blk_alloc h.h4 o⟩
theorem F8.drew {n : Nat} {V0 V1 V2 : Value} {w3 W : World} {b1 b2 b3 b4 : Nat} {bl ab : List Nat} (h : F8 n V0 V1 V2 w3 b1 b2 b3 b4 bl ab W) : F8 n V0 V1 V2 w3 b1 b2 b3 b4 bl ab W.drew :=
 ⟨below_drew h.bel, h.h1, h.h2, h.h3, h.h4⟩
theorem grown_set (W : World) (m b i : Nat) (v : Value) : W.grownBy ((W.drewN m).setCell ⟨b, i, none⟩ v) (some b) :=
 ⟨rfl, rfl, rfl, by simp [World.setCell], fun k _ hne => Below.heap_setCell (W.drewN m) ⟨b, i, none⟩ v k (fun e => hne (by rw [e]))⟩
theorem keeps_set (B : Nat) (W : World) (m : Nat) (a : Addr) (v : Value) : KeepsFrom B W ((W.drewN m).setCell a v) :=
 ⟨((KeepsOthers.setCell (W.drewN m) a v).from B).size, ((KeepsOthers.setCell (W.drewN m) a v).from B).same⟩
theorem F8.setB {n : Nat} {V0 V1 V2 : Value} {w3 W : World} {b1 b2 b3 b4 : Nat} {bl ab : List Nat} (h : F8 n V0 V1 V2 w3 b1 b2 b3 b4 bl ab W) (hge : w3.heap.size ≤ b1) (hne : b1 ≠ b2) (m i x : Nat) :
  F8 n V0 V1 V2 w3 b1 b2 b3 b4 (bl.set i x) ab ((W.drewN m).setCell ⟨b1, i, none⟩ (.int .u16 (x : Int))) := by
 have hg := grown_set W m b1 i (.int .u16 (x : Int))
 exact ⟨(pw_below_drewN h.bel m).setCell hge _, rowU_set (W := W.drewN m) h.h1 i x, blk_grown h.h2 hg (fun e => hne (by injection e with e; exact e.symm)), blk_grown h.h3 hg (fun e => blk_ne h.h1 h.h3 (by decide) (by injection e with e; exact e.symm)), blk_grown h.h4 hg (fun e => blk_ne h.h1 h.h4 (by decide) (by injection e with e; exact e.symm))⟩
theorem F8.setA {n : Nat} {V0 V1 V2 : Value} {w3 W : World} {b1 b2 b3 b4 : Nat} {bl ab : List Nat} (h : F8 n V0 V1 V2 w3 b1 b2 b3 b4 bl ab W) (hge : w3.heap.size ≤ b2) (hne : b1 ≠ b2) (m i x : Nat) :
  F8 n V0 V1 V2 w3 b1 b2 b3 b4 bl (ab.set i x) ((W.drewN m).setCell ⟨b2, i, none⟩ (.int .u16 (x : Int))) := by
 have hg := grown_set W m b2 i (.int .u16 (x : Int))
 exact ⟨(pw_below_drewN h.bel m).setCell hge _, blk_grown h.h1 hg (fun e => hne (by injection e)), rowU_set (W := W.drewN m) h.h2 i x, blk_grown h.h3 hg (fun e => blk_ne h.h2 h.h3 (by decide) (by injection e with e; exact e.symm)), blk_grown h.h4 hg (fun e => blk_ne h.h2 h.h4 (by decide) (by injection e with e; exact e.symm))⟩
theorem own_move {w U : World} {base : Nat} {e : TypeId} {size n : Nat} {v : Value} {xs : List Value} (h : w.ownsRow base e size v n xs) (hk : ∀ k, base ≤ k → k < w.heap.size → U.heap[k]? = w.heap[k]?) : U.ownsRow base e size v n xs := by
 obtain ⟨h1, h2 | ⟨g, cap, cur, e1, e2, e3, h3⟩⟩ := h
 ·exact ⟨h1, .inl h2⟩
 ·exact ⟨h1, .inr ⟨g, cap, cur, e1, e2, (hk g e2 (Array.getElem?_eq_some_iff.1 e3).1).trans e3, h3⟩⟩
theorem C_move {k : IntKind} {e : TypeId} {w U : World} {base n c : Nat} {A : Option Addr} {xs : List Int} (h : w.ownsRow base e 1 (.slice A n c) n (encs (Value.int k) xs)) (hn : n = xs.length) (hk : ∀ k, base ≤ k → k < w.heap.size → U.heap[k]? = w.heap[k]?) : Kd.C (Kd.int k) U A xs.length xs := by
 subst hn
 exact Kd.C_of_reads (d := (0 : Int)) (own_reads_of' (own_move h hk))
set_option maxRecDepth 100000 in
set_option maxHeartbeats 4000000 in
theorem graphOf_yes (k : Nat) (A0 : Option Addr) (c0 : Nat) (l0 : List TT) (nd od : List Int) (dn : Int) (w : World) (hr0 : Kd.C k39 w A0 l0.length l0) (hc0 : l0.length ≤ c0) (hN : impl_needsOf.f k l0 = some (nd, true)) (hO : impl_order.f k nd = some (od, dn))
  (hd : (dn == everyI l0.length) = true) (hlen : l0.length ≤ 8) (nN oN : List Nat) (hnd : nd = nI nN) (hod : od = nI oN) (hnl : nN.length = l0.length) (hns : ∀ x ∈ nN, x < 2 ^ l0.length) (hos : ∀ x ∈ oN, x < l0.length) (hT : TabOK w) :
  Calls Tryd.prog 58 #[.slice A0 l0.length c0] w fun e w' => ∃ g, e = .returned (.tuple #[.pointer (some ⟨g, 0, none⟩), .bool true]) ∧ (∀ U : World, Kd.C k39 U A0 l0.length l0 → (∀ k, w.heap.size ≤ k → k < w'.heap.size → U.heap[k]? = w'.heap[k]?) → IsG U g ⟨l0, nd, od, nI (relP nN oN l0.length).1, nI (relP nN oN l0.length).2⟩) ∧ Below w.heap.size w w' := by
 have nc := Aside0.mk (impl_needsOf.calls k A0 c0 l0 nd true w hr0 hc0 hN)
 have hO' := Aside0.mk hO
 have hr0' := Aside0.mk hr0
 have hc0' := Aside0.mk hc0
 have hT' := Aside0.mk hT
 have hlen' := Aside0.mk hlen
 have hnd' := Aside0.mk hnd
 have hod' := Aside0.mk hod
 have hnl' := Aside0.mk hnl
 have hns' := Aside0.mk hns
 have hos' := Aside0.mk hos
 clear hr0 hN hO hT hlen hnd hod hns hos hc0 hnl
 have hd2 : (dn != everyI l0.length) = false := by simpa [bne] using hd
 refine calls_of_wpM Tryd.func58 rfl ?_
 simp only [Tryd.ntmps58, List.size_toArray, List.length_cons, List.length_nil, Nat.reduceAdd, Nat.reduceSub, Array.replicate_succ, Array.replicate_zero, List.push_toArray, List.append_toArray, List.nil_append, List.cons_append]
 go_wp2_with (first | (go_at_call 89; refine nc.out.mono ?_; rintro e w1 ⟨v, rfl, hR, hB⟩; have hB' := Aside0.mk hB; obtain ⟨A1, c1, rfl, hl1, hC1⟩ := Kd.R_reads hR; have hO1 := Aside0.mk (Kd.own_of_R (enc := Value.int .u16) (h1 := fun _ => rfl) hR); have hC1' := Aside0.mk hC1; have hl1' := Aside0.mk hl1; have oc := Aside0.mk (impl_order.calls k A1 c1 nd od dn w1 hC1 hl1 hO'.out); clear hB hR hC1 hl1) | (go_at_call 90; refine oc.out.mono ?_; rintro e w2 ⟨v2, rfl, hR2, hB2⟩; obtain ⟨A2, c2, rfl, hl2, hC2⟩ := Kd.R_reads hR2; have hO2 := Aside0.mk (Kd.own_of_R (enc := Value.int .i64) (h1 := fun _ => rfl) hR2); have hC2' := Aside0.mk hC2; have hl2' := Aside0.mk hl2; have hB2' := Aside0.mk hB2; clear hR2 hB2 hC2 hl2) | (go_at_call 42; refine (everyI_calls l0.length _).mono ?_; rintro e w3 ⟨rfl, ⟨m3, rfl⟩⟩))
 have hB3' := Aside0.mk (pw_below_drewN (below_step hB'.out hB2'.out) m3)
 have hM1 := Aside0.mk (show ∀ k, k < w1.heap.size → (w2.drewN m3).heap[k]? = w1.heap[k]? from fun k hk => hB2'.out.block k hk)
 have hM2 := Aside0.mk (show ∀ k, k < w2.heap.size → (w2.drewN m3).heap[k]? = w2.heap[k]? from fun k hk => rfl)
 have hM3 := Aside0.mk (show w1.heap.size ≤ (w2.drewN m3).heap.size ∧ w2.heap.size ≤ (w2.drewN m3).heap.size ∧ w.heap.size ≤ w1.heap.size from ⟨hB2'.out.size, Nat.le_refl _, hB'.out.size⟩)
 have hA0 := Aside0.mk (Kd.C_drewN (Kd.C_below (Kd.C_below hr0'.out hB'.out) hB2'.out) m3)
 have hA1 := Aside0.mk (Kd.C_drewN (Kd.C_below hC1'.out hB2'.out) m3)
 have hA2 := Aside0.mk (Kd.C_drewN hC2'.out m3)
 generalize w2.drewN m3 = w3 at *
 have hT3 := Aside0.mk (hT'.out.below hB3'.out)
 clear nc oc hB' hB2' hC1' hC2' hr0' hO'
 obtain ⟨n, hn⟩ : ∃ n, n = l0.length := ⟨_, rfl⟩
 have hn' := Aside0.mk hn
 simp only [← hn]
 clear hn
 show (Code.region 7 (opsOf Tryd.f58 7) true).wp _ _ _ _
 refine region7 A0 A1 A2 n _ _ c0 c1 c2 _ (by simp) (by rfl) (by rfl) (by rfl) (by rw [hn'.out]; exact hlen'.out) w3 w3 (Below.refl _ _) _ ?_
 rintro a' w4 ⟨b1, b2, b3, b4, v9, rfl, hF⟩
 simp only [L7, putSel, if_true, Act.put, List.setIfInBounds_toArray, List.set_cons_zero, List.set_cons_succ]
 have hF8 : F8 n (.slice A0 n c0) (.slice A1 nd.length c1) (.slice A2 od.length c2) w3 b1 b2 b3 b4 (List.replicate n 0) (List.replicate n 0) w4 :=
  ⟨hF.bel, (hF.h1 rfl).trans (by rw [zrow, rowU_zero]), (hF.h2 rfl).trans (by rw [zrow, rowU_zero]), hF.h3 rfl, hF.h5 rfl⟩
 have hge := Aside0.mk (show w3.heap.size ≤ b1 ∧ w3.heap.size ≤ b2 ∧ w3.heap.size ≤ b3 ∧ w3.heap.size ≤ b4 from ⟨hF.g1 rfl, hF.g2 rfl, hF.g3 rfl, hF.g4 rfl⟩)
 have hne := Aside0.mk (show b1 ≠ b2 from hF.ne rfl rfl)
 have hF8' := Aside0.mk hF8
 have hv9 := hF.h9 rfl
 clear hF hF8
 subst hv9
 go_wp2
 refine wp_loop_slots [10, 43, 44, 45, 46, 47, 48, 49, 50, 51, 71, 72, 73, 74, 75, 76, 77, 78, 95] [undef, .int .i64 0, undef, undef, undef, undef, undef, undef, undef, undef, undef, undef, undef, undef, undef, undef, undef, undef, undef] (fun kq vs ds W => ∃ j : Nat, ∃ u10 u44 u45 u46 u47 u48 u49 u50 u51 u71 u72 u73 u74 u75 u76 u77 u78 u95, vs = [u10, .int .i64 (j : Int), u44, u45, u46, u47, u48, u49, u50, u51, u71, u72, u73, u74, u75, u76, u77, u78, u95] ∧ Aside0 (kq + j = od.length) ∧ Aside0 (F8 n (.slice A0 n c0) (.slice A1 nd.length c1) (.slice A2 od.length c2) w3 b1 b2 b3 b4 (relP nN (oN.take j) n).1 (relP nN (oN.take j) n).2 W) ∧ Aside0 (Marks w3.heap.size ds W)) od.length (by simp only [setAll, List.setIfInBounds_toArray, List.set_cons_zero, List.set_cons_succ]) ⟨0, undef, undef, undef, undef, undef, undef, undef, undef, undef, undef, undef, undef, undef, undef, undef, undef, undef, undef, rfl, ⟨by omega⟩, hF8', ⟨Marks.nil _ _⟩⟩ ?_
 rintro gk vs ds W ⟨j, u10, u44, u45, u46, u47, u48, u49, u50, u51, u71, u72, u73, u74, u75, u76, u77, u78, u95, rfl, hk, hG, hM⟩ K hK
 simp only [setAll, List.setIfInBounds_toArray, List.set_cons_zero, List.set_cons_succ]
 have hG' := hG
 by_cases hj : j < od.length
 case neg =>
  obtain rfl : j = od.length := by have := hk.out; omega
  have c4 : W.cell? ⟨b4, 0, none⟩ = some (.pointer (some ⟨b3, 0, none⟩)) := (blk_cell hG.out.h4 0).trans rfl
  clear hK
  go_wp2
  have hnb : ∀ i, nN.getD i 0 < 2 ^ n := fun i => OkU.get ⟨by rw [hnl'.out, hn'.out], fun x hx => by rw [hn'.out]; exact hns'.out x hx⟩ i
  have hall : oN.take od.length = oN := by rw [hod'.out, nI_length, List.take_length]
  have hG2 := hG.out
  rw [hall] at hG2
  obtain ⟨hok1, hok2⟩ := relP_ok hnb (od := oN) (fun i hi => by rw [hn'.out]; exact hos'.out i hi)
  have hbelow : Below w.heap.size w W := below_step hB3'.out hG2.bel
  have hn8 : n ≤ 8 := by rw [hn'.out]; exact hlen'.out
  refine retM (B := w3.heap.size) (fun W => F8 n (.slice A0 n c0) (.slice A1 nd.length c1) (.slice A2 od.length c2) w3 b1 b2 b3 b4 (relP nN oN n).1 (relP nN oN n).2 W) (own_F8 _ _ _ _ _ _ _ _ _ _ _ _ (Nat.le_refl _)) hM.out hG2 ?_
  intro W' hE
  refine ⟨.tuple #[.pointer (some ⟨b3, 0, none⟩), .bool true], (results_tmp2 (t := 2) (u := 3) rfl _ _ _).trans rfl, b3, rfl, ?_, below_step hB3'.out hE.bel⟩
  intro U hU0 hUk
  have g1 : w.heap.size ≤ w3.heap.size := hB3'.out.size
  have keep : ∀ {x o}, w3.heap.size ≤ x → W'.heap[x]? = some o → U.heap[x]? = some o := fun h1 h2 => (hUk _ (by omega) (Array.getElem?_eq_some_iff.1 h2).1).trans h2
  have k1 := keep hge.out.1 hE.h1
  have k2 := keep hge.out.2.1 hE.h2
  have k3 := keep hge.out.2.2.1 hE.h3
  have s3 := hE.bel.size
  refine ⟨A0, c0, A1, c1, A2, c2, some ⟨b1, 0, none⟩, n, some ⟨b2, 0, none⟩, n, ?_, ⟨hU0, hc0'.out⟩, ⟨C_move hO1.out rfl (fun k h1 h2 => ?_), hl1'.out⟩, ⟨C_move hO2.out rfl (fun k h1 h2 => ?_), hl2'.out⟩, ⟨?_, ?_⟩, ⟨?_, ?_⟩⟩
  ·rw [k3]
   simp only [nI_length, hok1.1, hok2.1, ← hn'.out]
  ·rw [hUk k h1 (by have := hM3.out; omega), hE.bel.block k (by have := hM3.out; omega)]
   exact hM1.out k h2
  ·rw [hUk k (by have := hM3.out; omega) (by have := hM3.out; omega), hE.bel.block k (by have := hM3.out; omega)]
   exact hM2.out k h2
  ·simp only [nI_length, ← hn'.out]
   exact Kd.C_of_reads (rowU_reads k1 (by rw [hok1.1]; exact hn8))
  ·simp only [nI_length, ← hn'.out, hok1.1]; exact Nat.le_refl _
  ·simp only [nI_length, ← hn'.out]
   exact Kd.C_of_reads (rowU_reads k2 (by rw [hok2.1]; exact hn8))
  ·simp only [nI_length, ← hn'.out, hok2.1]; exact Nat.le_refl _
 case pos =>
  obtain ⟨o, ho⟩ : ∃ o : Nat, oN[j]? = some o := by
   have hl : j < oN.length := by rw [hod'.out, nI_length] at hj; exact hj
   exact ⟨_, List.getElem?_eq_getElem hl⟩
  have hk1 := Aside0.mk (show gk - 1 < gk by have := hk.out; omega)
  have hk2 := Aside0.mk (show gk - 1 + (j + 1) = od.length by have := hk.out; omega)
  have hmax := Kd.C_max hA2.out
  have hcast' := Aside0.mk (show wrap64 ((j : Int) + 1) = ((j + 1 : Nat) : Int) by rw [IntWalk.wrap64_in _ (by omega)]; omega)
  clear hmax
  have hoo := Aside0.mk (hos'.out o (List.mem_of_getElem? ho))
  obtain ⟨adn, rfl, hxn⟩ := Kd.at_int (Kd.C_below hA2.out hG.out.bel) (j : Int) (by omega) (by omega)
  have ho2 : rd od (j : Int) = (o : Int) := by rw [hod'.out, rd_nI, List.getD_eq_getElem?_getD, ho]; rfl
  simp only [Int.toNat_natCast, ho2] at hxn
  obtain ⟨ad1, hA1e, hx1⟩ := Kd.at_int (Kd.C_below hA1.out hG.out.bel) (o : Int) (by omega) (by rw [hnd'.out, nI_length, hnl'.out]; exact_mod_cast hoo.out)
  subst hA1e
  have hn2 : rd nd (o : Int) = ((nN.getD o 0 : Nat) : Int) := by rw [hnd'.out, rd_nI]
  obtain ⟨sn, hsn⟩ : ∃ sn, nN.getD o 0 = sn := ⟨_, rfl⟩
  simp only [Int.toNat_natCast, hn2, hsn] at hx1
  clear hn2
  have hsn' := Aside0.mk hsn
  clear hsn
  have hol : o < nd.length := by rw [hnd'.out, nI_length, hnl'.out]; exact hoo.out
  have hx1' := cell_alloc hx1 (.cells #[.int .i64 (o : Int)] 3)
  have hK' := Aside0.mk hK
  clear hK hx1
  go_wp2_with (go_at_call 54; refine (all_calls _ _).mono ?_; rintro e w' ⟨rfl, rfl⟩)
  have hnb : ∀ i, nN.getD i 0 < 2 ^ n := fun i => OkU.get ⟨by rw [hnl'.out, hn'.out], fun x hx => by rw [hn'.out]; exact hns'.out x hx⟩ i
  have hsb : sn < 2 ^ n := by rw [← hsn'.out]; exact hnb o
  have hon : o < n := by rw [hn'.out]; exact hoo.out
  have hn8 : n ≤ 8 := by rw [hn'.out]; exact hlen'.out
  obtain ⟨hok1, hok2⟩ := relP_ok hnb (od := oN.take j) (fun i hi => by rw [hn'.out]; exact hos'.out i (List.mem_of_mem_take hi))
  have hstep : relP nN (oN.take (j + 1)) n = relStep nN (relP nN (oN.take j) n) o := by
   unfold relP
   rw [List.take_add_one, ho, Option.toList_some, List.foldl_append]
   rfl
  have hstep' := Aside0.mk hstep
  clear hstep
  have hTW := hT3.out.below hG.out.bel
  generalize hbl : (relP nN (oN.take j) n).1 = bl at *
  generalize hab : (relP nN (oN.take j) n).2 = ab at *
  have hG1 := hG.out.alloc (.cells #[.int .i64 (o : Int)] 3)
  have hq1 := Boxed.new W 3 (.int .i64 (o : Int))
  have hM1 : Marks w3.heap.size ds (W.alloc (.cells #[.int .i64 (o : Int)] 3)) := hM.out.block hM.out.ltOf (fun k hk => Below.heap_alloc W _ k hk)
  have hT1 : TabOK (W.alloc (.cells #[.int .i64 (o : Int)] 3)) := hTW.below ((Below.refl _ W).alloc (Nat.le_refl _) _)
  have hs1 : (W.alloc (.cells #[.int .i64 (o : Int)] 3)).heap.size = W.heap.size + 1 := by simp
  have hlt1 := hM.out.ltOf
  have hqs : w3.heap.size ≤ W.heap.size := hG.out.bel.size
  generalize W.alloc (.cells #[.int .i64 (o : Int)] 3) = W1 at *
  generalize W.heap.size = q at *
  have hG2 := hG1.alloc (.cells #[.int .u16 (sn : Int)] 51)
  have hq2 := hq1.alloc (.cells #[.int .u16 (sn : Int)] 51)
  have hM2 : Marks w3.heap.size ds (W1.alloc (.cells #[.int .u16 (sn : Int)] 51)) := hM1.block (hlt1.le (show q ≤ W1.heap.size by omega)) (fun k hk => Below.heap_alloc W1 _ k hk)
  have hT2 : TabOK (W1.alloc (.cells #[.int .u16 (sn : Int)] 51)) := hT1.below ((Below.refl _ W1).alloc (Nat.le_refl _) _)
  have hk2 := (box_at W1 51 (.int .u16 (sn : Int)) (q + 1) hs1).cell
  have hs2 : (W1.alloc (.cells #[.int .u16 (sn : Int)] 51)).heap.size = q + 1 + 1 := by simp [hs1]
  try simp only [hs1]
  generalize W1.alloc (.cells #[.int .u16 (sn : Int)] 51) = W2 at *
  have hkeep := Aside0.mk hK'
  clear hG1 hq1 hM1 hT1 hs1 hF8' hG' hTW hM hG hx1' hxn hA0 hd hd2
  refine wp_all1 (q + 1) sn (lt256 hsb hn8) rfl (by omega) hk2 hT2 rfl rfl rfl (by simp)
   (fun pre W => ((Boxed W q 3 (.int .i64 (o : Int)) ∧ F8 n (.slice A0 n c0) (.slice (some ad1) nd.length c1) (.slice (some adn) od.length c2) w3 b1 b2 b3 b4 (pre.foldl (bStep o) bl) ab W) ∧ Marks w3.heap.size ds W) ∧ OkU n (pre.foldl (bStep o) bl)) (fun _ _ _ => False)
   (OwnFrom.and (OwnFrom.and (OwnFrom.and (own_box _ _ _ _) (own_F8 _ _ _ _ _ _ _ _ _ _ _ _ (by omega))) (own_marks _ _ _ (hlt1.le (by omega)))) (fun _ _ _ _ h _ _ => h)) (fun _ _ _ _ _ hs _ _ => hs) ⟨⟨⟨hq2, hG2⟩, hM2⟩, hok1⟩ (fun pre W h => hT3.out.below h.1.1.2.bel) ?body ?done ?stop
  case stop => intro D c pre W _ _ h _; exact h.elim
  case body =>
   rintro l pre x W hx8 hxs ⟨⟨⟨hb, hF⟩, hMk⟩, hok⟩ hlen
   simp only [List.setIfInBounds_toArray, List.set_cons_zero, List.set_cons_succ]
   generalize hblp : pre.foldl (bStep o) bl = blp at *
   have hxn2 : x < n := bit_lt hsb hxs
   have c4 : W.cell? ⟨b4, 0, none⟩ = some (.pointer (some ⟨b3, 0, none⟩)) := (blk_cell hF.h4 0).trans rfl
   have c33 : W.cell? ⟨b3, 3, none⟩ = some (slv b1 n) := (blk_cell hF.h3 3).trans rfl
   have cq := hb.cell
   have ci := rowU_cell hF.h1 o (by rw [hok.1]; exact hon)
   have ck := rowU_cell hF.h1 x (by rw [hok.1]; exact hxn2)
   obtain ⟨vi, hvi⟩ : ∃ v, blp.getD o 0 = v := ⟨_, rfl⟩
   obtain ⟨vk, hvk⟩ : ∃ v, blp.getD x 0 = v := ⟨_, rfl⟩
   rw [hvi] at ci
   rw [hvk] at ck
   have hvi' := Aside0.mk hvi
   have hvk' := Aside0.mk hvk
   have hF' := Aside0.mk hF
   have hb' := Aside0.mk hb
   have hMk' := Aside0.mk hMk
   have hok' := Aside0.mk hok
   have hfr : W.frozen? ⟨b1, o, none⟩ = false := blk_frozen hF.h1 o
   clear hvi hvk hF hb hMk hok hK' hkeep hM2 hT2 hk2 hq2 hG2 hs2 hlt1
   try gi_wp2
   refine wpIn_region_qtail 17 (by rintro ⟨_, _, h⟩; exact h) (by kernel_rfl) (by kernel_rfl) (by kernel_rfl) (by kernel_rfl) ?_
   simp only [List.take_succ_cons, List.take_zero, List.drop_succ_cons, List.drop_zero]
   repeat (go_big_quiet_step (exact withI_quiet _ _ (by omega) _ _))
   refine wpQuiet_nil ?_
   rintro _ ⟨nq, rfl⟩
   go_wp2
   have hval : Go.bits .or .u16 (vi : Int) (withI (vk : Int) (x : Int)) = ((vi ||| (vk ||| 2 ^ x) : Nat) : Int) := by
    have l1 := lt256 (hok'.out.get o) hn8
    have l2 := lt256 (hok'.out.get x) hn8
    rw [hvi'.out] at l1
    rw [hvk'.out] at l2
    rw [withI_nat vk x l2 hx8, orI_nat _ _ l1 (lt256 (with_lt (by rw [← hvk'.out]; exact hok'.out.get x) hxn2) hn8)]
   have hfold : (pre ++ [x]).foldl (bStep o) bl = blp.set o (vi ||| (vk ||| 2 ^ x)) := by
    rw [List.foldl_append, hblp, List.foldl_cons, List.foldl_nil, bStep, hvi'.out, hvk'.out]
   rw [hval]
   refine ⟨keeps_set _ _ _ _ _, ⟨⟨hb'.out.kept (grown_set W nq b1 o _) (fun e => ?_), by rw [hfold]; exact hF'.out.setB hge.out.1 hne.out nq o _⟩, hMk'.out.keeps (keeps_set _ _ _ _ _)⟩, by rw [hfold, ← hvi'.out, ← hvk'.out]; exact hok'.out.bStep o x hxn2⟩
   injection e with e
   exact blk_ne hF'.out.h1 hb'.out (by decide) e.symm
  case done =>
   rintro D W hD ⟨⟨⟨hb, hF⟩, hMk⟩, hok⟩ hKD
   clear hG2 hq2 hM2 hT2 hk2
   generalize hblp : (bitsN sn).foldl (bStep o) bl = blp at *
   have c4 : W.cell? ⟨b4, 0, none⟩ = some (.pointer (some ⟨b3, 0, none⟩)) := (blk_cell hF.h4 0).trans rfl
   have c33 : W.cell? ⟨b3, 3, none⟩ = some (slv b1 n) := (blk_cell hF.h3 3).trans rfl
   have cq := hb.cell
   have ci := rowU_cell hF.h1 o (by rw [hok.1]; exact hon)
   obtain ⟨vi, hvi⟩ : ∃ v, blp.getD o 0 = v := ⟨_, rfl⟩
   rw [hvi] at ci
   have hvi' := Aside0.mk hvi
   have hblp' := Aside0.mk hblp
   have hF' := Aside0.mk hF
   have hb' := Aside0.mk hb
   have hMk' := Aside0.mk hMk
   have hok' := Aside0.mk hok
   have hKD' := Aside0.mk hKD
   clear hvi hF hb hMk hok hblp hKD
   go_wp2
   go_still_tail 7, (by kernel_rfl)
   go_wp2_with (go_at_call 54; refine (all_calls _ _).mono ?_; rintro e w' ⟨rfl, rfl⟩)
   have hsb2 : vi < 2 ^ n := by rw [← hvi'.out]; exact hok'.out.get o
   have hMD : Marks w3.heap.size (markOf D :: ds) W := hMk'.out.cons (by omega) hKD'.out (hlt1.le (by omega))
   have hG5 := (hF'.out.alloc (.cells #[.int .u16 (vi : Int)] 51)).drew
   have hq5 : Boxed (W.alloc (.cells #[.int .u16 (vi : Int)] 51)).drew q 3 (.int .i64 (o : Int)) := hb'.out.alloc _
   have hM5 : Marks w3.heap.size (markOf D :: ds) (W.alloc (.cells #[.int .u16 (vi : Int)] 51)).drew := hMD.block hMD.ltOf (fun k hk => Below.heap_alloc W _ k hk)
   have hk5 : (W.alloc (.cells #[.int .u16 (vi : Int)] 51)).drew.cell? ⟨W.heap.size, 0, none⟩ = some (.int .u16 (vi : Int)) := (Boxed.new W 51 (.int .u16 (vi : Int))).cell
   have hs5 : (W.alloc (.cells #[.int .u16 (vi : Int)] 51)).drew.heap.size = W.heap.size + 1 := by simp [World.drew]
   have hlt5 := hMD.ltOf
   have hqs5 : w3.heap.size ≤ W.heap.size := hF'.out.bel.size
   clear c4 c33 cq ci hKD' hb' hMk' hMD hs2 hD
   generalize (W.alloc (.cells #[.int .u16 (vi : Int)] 51)).drew = W5 at *
   generalize W.heap.size = q5 at *
   refine wp_all1 q5 vi (lt256 hsb2 hn8) rfl (by omega) hk5 (hT3.out.below hG5.bel) rfl rfl rfl (by simp)
    (fun pre W => ((Boxed W q 3 (.int .i64 (o : Int)) ∧ F8 n (.slice A0 n c0) (.slice (some ad1) nd.length c1) (.slice (some adn) od.length c2) w3 b1 b2 b3 b4 blp (pre.foldl (aStep o) ab) W) ∧ Marks w3.heap.size (markOf D :: ds) W) ∧ OkU n (pre.foldl (aStep o) ab)) (fun _ _ _ => False)
    (OwnFrom.and (OwnFrom.and (OwnFrom.and (own_box _ _ _ _) (own_F8 _ _ _ _ _ _ _ _ _ _ _ _ (by omega))) (own_marks _ _ _ (hlt5.le (by omega)))) (fun _ _ _ _ h _ _ => h)) (fun _ _ _ _ _ hs _ _ => hs) ⟨⟨⟨hq5, hG5⟩, hM5⟩, hok2⟩ (fun pre W h => hT3.out.below h.1.1.2.bel) ?body2 ?done2 ?stop2
   case stop2 => intro D c pre W _ _ h _; exact h.elim
   case body2 =>
    rintro l pre x W hx8 hxs ⟨⟨⟨hb, hF⟩, hMk⟩, hok⟩ hlen
    simp only [List.setIfInBounds_toArray, List.set_cons_zero, List.set_cons_succ]
    generalize habp : pre.foldl (aStep o) ab = abp at *
    have hxn2 : x < n := bit_lt hsb2 hxs
    have c4 : W.cell? ⟨b4, 0, none⟩ = some (.pointer (some ⟨b3, 0, none⟩)) := (blk_cell hF.h4 0).trans rfl
    have c34 : W.cell? ⟨b3, 4, none⟩ = some (slv b2 n) := (blk_cell hF.h3 4).trans rfl
    have cq := hb.cell
    have ck := rowU_cell hF.h2 x (by rw [hok.1]; exact hxn2)
    obtain ⟨vk, hvk⟩ : ∃ v, abp.getD x 0 = v := ⟨_, rfl⟩
    rw [hvk] at ck
    have hvk' := Aside0.mk hvk
    have hF2' := Aside0.mk hF
    have hb' := Aside0.mk hb
    have hMk' := Aside0.mk hMk
    have hok3' := Aside0.mk hok
    have hfr : W.frozen? ⟨b2, x, none⟩ = false := blk_frozen hF.h2 x
    clear hvk hF hb hMk hok hK' hkeep hG5 hq5 hM5 hk5 hs5 hlt5 hF' hok' hblp' hvi'
    try gi_wp2
    refine wpIn_region_qtail 14 (by rintro ⟨_, _, h⟩; exact h) (by kernel_rfl) (by kernel_rfl) (by kernel_rfl) (by kernel_rfl) ?_
    simp only [List.take_succ_cons, List.take_zero, List.drop_succ_cons, List.drop_zero]
    repeat (go_big_quiet_step (exact withI_quiet _ _ (by omega) _ _))
    refine wpQuiet_nil ?_
    rintro _ ⟨nq, rfl⟩
    go_wp2
    have hval : withI (vk : Int) (o : Int) = ((vk ||| 2 ^ o : Nat) : Int) := by
     have l2 := lt256 (hok3'.out.get x) hn8
     rw [hvk'.out] at l2
     rw [withI_nat vk o l2 (by omega)]
    have hfold : (pre ++ [x]).foldl (aStep o) ab = abp.set x (vk ||| 2 ^ o) := by
     rw [List.foldl_append, habp, List.foldl_cons, List.foldl_nil, aStep, hvk'.out]
    rw [hval]
    refine ⟨keeps_set _ _ _ _ _, ⟨⟨hb'.out.kept (grown_set W nq b2 x _) (fun e => ?_), by rw [hfold]; exact hF2'.out.setA hge.out.2.1 hne.out nq x _⟩, hMk'.out.keeps (keeps_set _ _ _ _ _)⟩, by rw [hfold, ← hvk'.out]; exact hok3'.out.aStep o x hon⟩
    injection e with e
    exact blk_ne hF2'.out.h2 hb'.out (by decide) e.symm
   case done2 =>
    rintro D2 W hD2 ⟨⟨⟨hb, hF⟩, hMk⟩, hok⟩ hKD
    have hF2' := Aside0.mk hF
    have hM6 := Aside0.mk (hMk.cons (D := D2) (by omega) hKD (hlt5.le (by omega)))
    clear hF hb hMk hok hKD hG5 hq5 hM5 hk5 hs5 hlt5 hF' hok'
    go_wp2
    have hcast := hcast'.out
    have hR : Aside0 (F8 n (.slice A0 n c0) (.slice (some ad1) nd.length c1) (.slice (some adn) od.length c2) w3 b1 b2 b3 b4 (relP nN (oN.take (j + 1)) n).1 (relP nN (oN.take (j + 1)) n).2 W) := by
     rw [hstep'.out, relStep, hbl, hab, hsn'.out, hblp'.out, hvi'.out]
     exact hF2'
    have h := fun (u10 u44 u45 u46 u47 u48 u49 u50 u51 u71 u72 u73 u74 u75 u76 u77 u78 u95 : Value) => hK'.out (gk - 1) [u10, .int .i64 ((j + 1 : Nat) : Int), u44, u45, u46, u47, u48, u49, u50, u51, u71, u72, u73, u74, u75, u76, u77, u78, u95] (markOf D2 :: markOf D :: ds) W hk1.out ⟨j + 1, u10, u44, u45, u46, u47, u48, u49, u50, u51, u71, u72, u73, u74, u75, u76, u77, u78, u95, rfl, hk2, hR, hM6⟩
    simp only [setAll, List.setIfInBounds_toArray, List.set_cons_zero, List.set_cons_succ] at h
    rw [hcast]
    exact h _ _ _ _ _ _ _ _ _ _ _ _ _ _ _ _ _ _
end Go.Proofs.YtajapkjplgaigaaDoor.P
end
section
namespace Go.Proofs.YtajapkjplgaigaaDoor.P
open Go.RowKit Go.Shelf Go.Proofs.YtajapkjplgaigaaDoorW.PrintWords Go.Proofs.YtajapkjplgaigaaDoorW.PrintLast Go.Proofs.YtajapkjplgaigaaDoorW.PrintMore
set_option linter.unusedVariables false
set_option linter.unusedSimpArgs false
def setGo (n : Nat) : List Int → Int → Nat → Option Nat
 | [], _, s => some s
 | i :: r, last, s => if last + 1 ≤ i ∧ i < n then setGo n r i (s ||| 2 ^ i.toNat) else none
def setP (l : List Int) (n : Nat) : Option Nat := setGo n l (-1) 0
theorem within_eq (a b c : Int) : impl_within.f a b c = some (decide (b ≤ a ∧ a ≤ c)) := by
 unfold impl_within.f
 by_cases h : a ≥ b
 ·simp [h]
 ·simp [h]
theorem with_eq (s i : Nat) (hs : s < 256) (hi : i < 8) : impl_set_with.f (s : Int) (i : Int) = some ((s ||| 2 ^ i : Nat) : Int) := by
 rw [← withI_nat s i hs hi]
 unfold impl_set_with.f withI
 rw [if_pos (by omega)]
theorem setGo_lt {n : Nat} : ∀ (l : List Int) (last : Int) (s s' : Nat), -1 ≤ last → s < 2 ^ n → setGo n l last s = some s' → s' < 2 ^ n
 | [], _, s, s', _, hs, h => by simp [setGo] at h; omega
 | i :: r, last, s, s', hl, hs, h => by
  unfold setGo at h
  split at h
  ·rename_i hi
   exact setGo_lt r i _ s' (by omega) (with_lt hs (by omega)) h
  ·cases h
theorem setP_lt {l : List Int} {n s : Nat} (h : setP l n = some s) : s < 2 ^ n := setGo_lt l _ _ _ (by omega) (Nat.two_pow_pos n) h
def setR (o : Option Nat) : Int × Bool := match o with | some s => ((s : Int), true) | none => (0, false)
theorem rd_mid (pre : List Int) (x : Int) (r : List Int) : rd (pre ++ x :: r) (pre.length : Int) = x := by simp [rd]
theorem setOf_go {n : Nat} (hn : n ≤ 8) : ∀ (r pre : List Int) (last : Int) (s k : Nat), -1 ≤ last → last < n → (pre.length : Int) ≤ last + 1 → s < 2 ^ n → (n : Int) - last + 1 ≤ k →
  impl_setOf.l0 k (n : Int) (s : Int) last (pre ++ r) ((pre ++ r).length : Int) (pre.length : Int) = some (setR (setGo n r last s))
 | [], pre, last, s, k, h1, h2, h3, hs, hk => by
  obtain ⟨k, rfl⟩ : ∃ j, k = j + 1 := ⟨k - 1, by omega⟩
  simp [impl_setOf.l0, setGo, setR]
 | x :: r, pre, last, s, k, h1, h2, h3, hs, hk => by
  obtain ⟨k, rfl⟩ : ∃ j, k = j + 1 := ⟨k - 1, by omega⟩
  have l1 : (pre.length : Int) < ((pre ++ x :: r).length : Int) := by simp; omega
  have w1 : wrap64 (last + 1) = last + 1 := IntWalk.wrap64_in _ (by omega)
  have w2 : wrap64 ((n : Int) - 1) = (n : Int) - 1 := IntWalk.wrap64_in _ (by omega)
  have w3 : wrap64 ((pre.length : Int) + 1) = ((pre ++ [x]).length : Int) := by rw [IntWalk.wrap64_in _ (by omega)]; simp
  simp only [impl_setOf.l0, if_pos l1, if_pos (show (0 : Int) ≤ (pre.length : Int) by omega), rd_mid, w1, w2, within_eq, Option.bind_some, setGo]
  by_cases hi : last + 1 ≤ x ∧ x < n
  ·have hd : decide (last + 1 ≤ x ∧ x ≤ (n : Int) - 1) = true := decide_eq_true ⟨hi.1, by omega⟩
   obtain ⟨m, rfl⟩ : ∃ m : Nat, x = (m : Int) := ⟨x.toNat, by omega⟩
   rw [if_pos hd, with_eq s m (lt256 hs hn) (by omega), Option.bind_some, w3, if_pos hi]
   have := setOf_go hn r (pre ++ [(m : Int)]) (m : Int) (s ||| 2 ^ m) k (by omega) hi.2 (by simp; omega) (with_lt hs (by omega)) (by omega)
   rw [List.append_assoc] at this
   simpa using this
  ·have hd : decide (last + 1 ≤ x ∧ x ≤ (n : Int) - 1) = false := decide_eq_false (fun h => hi ⟨h.1, by omega⟩)
   rw [if_neg (by rw [hd]; exact Bool.false_ne_true), if_neg hi]
   rfl
theorem setOf_eq (l : List Int) (n k : Nat) (hn : n ≤ 8) (hk : n + 2 ≤ k) : impl_setOf.f k l (n : Int) = some (setR (setP l n)) := by
 have := setOf_go hn l [] (-1) 0 k (by omega) (by omega) (by simp) (Nat.two_pow_pos n) (by omega)
 simpa [impl_setOf.f, setP] using this
def taskP (n : Nat) (t : TT) : Option Nat := match setP t.f1 n with
 | none => none
 | some s => if (1 ≤ t.f0 ∧ t.f0 ≤ 20) ∧ (0 ≤ t.f2 ∧ t.f2 ≤ 2) ∧ (1 ≤ t.f3 ∧ t.f3 ≤ 4) then some s else none
def needsGo (n : Nat) : List TT → List Nat → Option (List Nat)
 | [], acc => some acc
 | t :: r, acc => match taskP n t with
  | none => none
  | some s => needsGo n r (acc ++ [s])
def needsP (ts : List TT) : Option (List Nat) := if ts.length > 8 then none else needsGo ts.length ts []
def needsR (o : Option (List Nat)) : List Int × Bool := match o with | some l => (nI l, true) | none => ([], false)
theorem rdT_mid (pre : List TT) (x : TT) (r : List TT) : rd_T39 (pre ++ x :: r) (pre.length : Int) = x := by simp [rd_T39]
theorem needs_go (ts : List TT) (hn : ts.length ≤ 8) : ∀ (r pre : List TT) (acc : List Nat) (k : Nat), pre ++ r = ts → acc.length = pre.length → r.length + 12 ≤ k →
  impl_needsOf.l0 k ts (nI acc) (pre ++ r) ((pre ++ r).length : Int) (pre.length : Int) = some (needsR (needsGo ts.length r acc))
 | [], pre, acc, k, he, ha, hk => by
  obtain ⟨k, rfl⟩ : ∃ j, k = j + 1 := ⟨k - 1, by omega⟩
  simp [impl_needsOf.l0, needsGo, needsR]
 | x :: r, pre, acc, k, he, ha, hk => by
  obtain ⟨k, rfl⟩ : ∃ j, k = j + 1 := ⟨k - 1, by omega⟩
  simp only [List.length_cons] at hk
  have l1 : (pre.length : Int) < ((pre ++ x :: r).length : Int) := by simp; omega
  have hp : pre.length < ts.length := by rw [← he]; simp
  have w3 : wrap64 ((pre.length : Int) + 1) = ((pre ++ [x]).length : Int) := by rw [IntWalk.wrap64_in _ (by omega)]; simp
  simp only [impl_needsOf.l0, if_pos l1, if_pos (show (0 : Int) ≤ (pre.length : Int) by omega), rdT_mid, setOf_eq x.f1 ts.length k hn (by omega), Option.bind_some, needsGo, taskP]
  cases hs : setP x.f1 ts.length with
  | none => simp [setR, needsR]
  | some s =>
   simp only [setR, if_true, within_eq, Option.bind_some, w3]
   by_cases h1 : 1 ≤ x.f0 ∧ x.f0 ≤ 20
   ·by_cases h2 : 0 ≤ x.f2 ∧ x.f2 ≤ 2
    ·by_cases h3 : 1 ≤ x.f3 ∧ x.f3 ≤ 4
     ·have hl : (nI acc).length < 70368744177664 := by rw [nI_length]; omega
      have hx : (1 ≤ x.f0 ∧ x.f0 ≤ 20) ∧ (0 ≤ x.f2 ∧ x.f2 ≤ 2) ∧ (1 ≤ x.f3 ∧ x.f3 ≤ 4) := ⟨h1, h2, h3⟩
      simp only [decide_eq_true h1, decide_eq_true h2, decide_eq_true h3, if_true, if_pos hl, if_pos hx]
      have := needs_go ts hn r (pre ++ [x]) (acc ++ [s]) k (by rw [List.append_assoc]; exact he) (by simp [ha]) (by omega)
      rw [List.append_assoc, nI_append] at this
      exact this
     ·have hx : ¬ ((1 ≤ x.f0 ∧ x.f0 ≤ 20) ∧ (0 ≤ x.f2 ∧ x.f2 ≤ 2) ∧ (1 ≤ x.f3 ∧ x.f3 ≤ 4)) := fun h => h3 h.2.2
      simp only [decide_eq_true h1, decide_eq_true h2, decide_eq_false h3, if_true, if_neg hx, Bool.false_eq_true, if_false, needsR]
    ·have hx : ¬ ((1 ≤ x.f0 ∧ x.f0 ≤ 20) ∧ (0 ≤ x.f2 ∧ x.f2 ≤ 2) ∧ (1 ≤ x.f3 ∧ x.f3 ≤ 4)) := fun h => h2 h.2.1
     simp only [decide_eq_true h1, decide_eq_false h2, if_true, if_neg hx, Bool.false_eq_true, if_false, needsR]
   ·have hx : ¬ ((1 ≤ x.f0 ∧ x.f0 ≤ 20) ∧ (0 ≤ x.f2 ∧ x.f2 ≤ 2) ∧ (1 ≤ x.f3 ∧ x.f3 ≤ 4)) := fun h => h1 h.1
    simp only [decide_eq_false h1, if_neg hx, Bool.false_eq_true, if_false, needsR]
theorem needs_eq (ts : List TT) (k : Nat) (hk : 100 ≤ k) : impl_needsOf.f k ts = some (needsR (needsP ts)) := by
 unfold impl_needsOf.f needsP
 by_cases h : ts.length > 8
 ·rw [if_pos (by omega), if_pos h]; rfl
 ·rw [if_neg (by omega), if_neg h]
  have := needs_go ts (by omega) ts [] [] k (by simp) rfl (by omega)
  simpa [nI] using this
def canP (nd : List Nat) (done : Nat) (i : Nat) : Bool := !done.testBit i && (nd.getD i 0 &&& done == nd.getD i 0)
def firstP (nd : List Nat) (done : Nat) : Option Nat := (List.range nd.length).find? (canP nd done)
def orderStep (nd : List Nat) (s : List Nat × Nat) : List Nat × Nat := match firstP nd s.2 with
 | none => s
 | some i => (s.1 ++ [i], s.2 ||| 2 ^ i)
def orderGo (nd : List Nat) : Nat → List Nat × Nat → List Nat × Nat
 | 0, s => s
 | m + 1, s => orderGo nd m (orderStep nd s)
def orderP (nd : List Nat) : List Nat × Nat := orderGo nd nd.length ([], 0)
theorem andNot_zero : ∀ a, a < 256 → ∀ b, b < 256 → (Go.bits .andNot .u16 ((a : Nat) : Int) ((b : Nat) : Int) = 0 ↔ a &&& b = a) := by
 intro a ha b hb
 have e1 : (BitVec.ofInt 16 (a : Int)) = BitVec.ofNat 16 a := by simp
 have e2 : (BitVec.ofInt 16 (b : Int)) = BitVec.ofNat 16 b := by simp
 have key : (BitVec.ofNat 16 a &&& ~~~(BitVec.ofNat 16 b)).toNat = 0 ↔ a &&& b = a := by
  rw [BitVec.toNat_and, BitVec.toNat_not, BitVec.toNat_ofNat, BitVec.toNat_ofNat, Nat.mod_eq_of_lt (show a < 2 ^ 16 by omega), Nat.mod_eq_of_lt (show b < 2 ^ 16 by omega)]
  constructor
  ·intro h
   apply Nat.eq_of_testBit_eq
   intro i
   have hi : (a &&& (2 ^ 16 - 1 - b)).testBit i = false := by rw [h]; simp
   rw [Nat.testBit_and] at hi ⊢
   rcases Nat.lt_or_ge i 16 with h16 | h16
   ·rw [show 2 ^ 16 - 1 - b = 2 ^ 16 - (b + 1) by omega, Nat.testBit_two_pow_sub_succ (by omega)] at hi
    cases hA : a.testBit i <;> cases hB : b.testBit i <;> simp [hA, hB, h16] at hi ⊢
   ·rw [Nat.testBit_lt_two_pow (Nat.lt_of_lt_of_le (show a < 2 ^ 16 by omega) (Nat.pow_le_pow_right (by omega) h16))]; rfl
  ·intro h
   apply Nat.eq_of_testBit_eq
   intro i
   rw [Nat.testBit_and, Nat.zero_testBit]
   have hi : (a &&& b).testBit i = a.testBit i := by rw [h]
   rw [Nat.testBit_and] at hi
   rw [show 2 ^ 16 - 1 - b = 2 ^ 16 - (b + 1) by omega, Nat.testBit_two_pow_sub_succ (by omega)]
   cases hA : a.testBit i <;> cases hB : b.testBit i <;> simp [hA, hB] at hi ⊢
 simp only [Go.bits, IntKind.bits, e1, e2]
 have hlt : (BitVec.ofNat 16 a &&& ~~~(BitVec.ofNat 16 b)).toNat < 65536 := (BitVec.ofNat 16 a &&& ~~~(BitVec.ofNat 16 b)).isLt
 rw [wrap_u16', Int.emod_eq_of_lt (by omega) (by omega)]
 exact Iff.trans Int.natCast_eq_zero key
theorem has_eq (s i : Nat) (hs : s < 256) (hi : i < 8) : impl_set_has.f (s : Int) (i : Int) = some (s.testBit i) := by
 rw [← hasB_nat s hs i hi]
 unfold impl_set_has.f hasB
 rw [if_pos (by omega)]
def ordR (s : List Nat × Nat) : List Int × Int := (nI s.1, (s.2 : Int))
def firstFrom (nd : List Nat) (done j : Nat) : Option Nat := ((List.range nd.length).drop j).find? (canP nd done)
theorem firstFrom_step (nd : List Nat) (done j : Nat) (h : j < nd.length) : firstFrom nd done j = if canP nd done j then some j else firstFrom nd done (j + 1) := by
 unfold firstFrom
 rw [List.drop_eq_getElem_cons (by simpa using h), List.find?_cons]
 simp only [List.getElem_range]
 cases canP nd done j <;> rfl
theorem firstFrom_end (nd : List Nat) (done : Nat) : firstFrom nd done nd.length = none := by
 unfold firstFrom
 rw [List.drop_eq_nil_of_le (by simp)]
 rfl
theorem firstP_lt {nd : List Nat} {done i : Nat} (h : firstP nd done = some i) : i < nd.length := by simpa using List.mem_of_find?_eq_some h
theorem order_l1 {n : Nat} (nd : List Nat) (hn : n ≤ 8) (hl : nd.length = n) (hnd : ∀ i, nd.getD i 0 < 2 ^ n) (list : List Nat) (done c : Nat) (hd : done < 2 ^ n) (hll : list.length ≤ 8) : ∀ (m j k : Nat), m + j = n → m + 2 ≤ k →
  impl_order.l1 k (nI nd) (nI list) (done : Int) (n : Int) (c : Int) (nI nd) (n : Int) (j : Int) = match firstFrom nd done j with
   | none => impl_order.l0 (k - m - 1) (nI nd) (nI list) (done : Int) (n : Int) (wrap64 ((c : Int) + 1))
   | some i => impl_order.l0 (k - (i - j) - 1) (nI nd) (nI (list ++ [i])) ((done ||| 2 ^ i : Nat) : Int) (n : Int) (wrap64 ((c : Int) + 1))
 | 0, j, k, hj, hk => by
  obtain ⟨k, rfl⟩ : ∃ k', k = k' + 1 := ⟨k - 1, by omega⟩
  obtain rfl : j = n := by omega
  rw [show firstFrom nd done j = none from by rw [← hl]; exact firstFrom_end nd done]
  simp [impl_order.l1]
 | m + 1, j, k, hj, hk => by
  obtain ⟨k, rfl⟩ : ∃ k', k = k' + 1 := ⟨k - 1, by omega⟩
  have hjl : j < nd.length := by omega
  have ih := order_l1 nd hn hl hnd list done c hd hll m (j + 1) k (by omega) (by omega)
  have w3 : wrap64 ((j : Int) + 1) = ((j + 1 : Nat) : Int) := by rw [IntWalk.wrap64_in _ (by omega)]; omega
  have hll2 : (nI list).length < 17592186044416 := by rw [nI_length]; omega
  have hlen : (j : Int) < ((nI nd).length : Int) := by rw [nI_length]; omega
  simp only [impl_order.l1, if_pos (show (j : Int) < (n : Int) by omega), if_pos (show (0 : Int) ≤ (j : Int) by omega), if_pos hlen, has_eq done j (lt256 hd hn) (by omega), Option.bind_some, rd_nI, with_eq done j (lt256 hd hn) (by omega), if_pos hll2, w3, ih]
  rw [firstFrom_step nd done j hjl]
  have hz := andNot_zero (nd.getD j 0) (lt256 (hnd j) hn) done (lt256 hd hn)
  cases hb : done.testBit j with
  | true =>
   have hc : canP nd done j = false := by simp [canP, hb]
   simp only [if_true, hc, Bool.false_eq_true, if_false]
   cases hf : firstFrom nd done (j + 1) with
   | none => simp only []; congr 1; omega
   | some i =>
    have : j + 1 ≤ i := by
     have := List.mem_of_find?_eq_some hf
     obtain ⟨q, hq, he⟩ := List.mem_iff_getElem.1 this
     simp at he
     omega
    simp only []; congr 1; omega
  | false =>
   by_cases hs : nd.getD j 0 &&& done = nd.getD j 0
   ·have hc : canP nd done j = true := by simp only [canP, hb, hs]; simp
    simp only [Bool.false_eq_true, if_false, if_pos (hz.2 hs), hc, if_true, nI_append]
    rw [show k + 1 - (j - j) - 1 = k by omega]
    rfl
   ·have hc : canP nd done j = false := by simp only [canP, hb, beq_eq_false_iff_ne.2 hs]; rfl
    simp only [Bool.false_eq_true, if_false, if_neg (fun h => hs (hz.1 h)), hc]
    cases hf : firstFrom nd done (j + 1) with
    | none => simp only []; congr 1; omega
    | some i =>
     have : j + 1 ≤ i := by
      have := List.mem_of_find?_eq_some hf
      obtain ⟨q, hq, he⟩ := List.mem_iff_getElem.1 this
      simp at he
      omega
     simp only []; congr 1; omega
theorem orderStep_ok {n : Nat} (nd : List Nat) (hl : nd.length = n) (s : List Nat × Nat) (hd : s.2 < 2 ^ n) : (orderStep nd s).2 < 2 ^ n ∧ (orderStep nd s).1.length ≤ s.1.length + 1 := by
 unfold orderStep
 cases hf : firstP nd s.2 with
 | none => exact ⟨hd, by simp⟩
 | some i => exact ⟨with_lt hd (by have := firstP_lt hf; omega), by simp⟩
theorem order_l0 {n : Nat} (nd : List Nat) (hn : n ≤ 8) (hl : nd.length = n) (hnd : ∀ i, nd.getD i 0 < 2 ^ n) : ∀ (m c k : Nat) (s : List Nat × Nat), m + c = n → s.1.length ≤ c → s.2 < 2 ^ n → m * 11 + 1 ≤ k →
  impl_order.l0 k (nI nd) (nI s.1) (s.2 : Int) (n : Int) (c : Int) = some (ordR (orderGo nd m s))
 | 0, c, k, s, hm, hs, hd, hk => by
  obtain ⟨k, rfl⟩ : ∃ k', k = k' + 1 := ⟨k - 1, by omega⟩
  obtain rfl : c = n := by omega
  simp [impl_order.l0, orderGo, ordR]
 | m + 1, c, k, s, hm, hs, hd, hk => by
  obtain ⟨k, rfl⟩ : ∃ k', k = k' + 1 := ⟨k - 1, by omega⟩
  have w3 : wrap64 ((c : Int) + 1) = ((c + 1 : Nat) : Int) := by rw [IntWalk.wrap64_in _ (by omega)]; omega
  have h1 := order_l1 nd hn hl hnd s.1 s.2 c hd (by omega) n 0 k (by omega) (by omega)
  have e0 : firstFrom nd s.2 0 = firstP nd s.2 := rfl
  have eL : ((nI nd).length : Int) = (n : Int) := by rw [nI_length, hl]
  simp only [impl_order.l0, if_pos (show (c : Int) < (n : Int) by omega), eL]
  have h1' : impl_order.l1 k (nI nd) (nI s.1) (s.2 : Int) (n : Int) (c : Int) (nI nd) (n : Int) 0 = _ := h1
  rw [h1', e0, w3]
  have hok := orderStep_ok nd hl s hd
  simp only [orderGo]
  cases hf : firstP nd s.2 with
  | none =>
   have es : orderStep nd s = s := by unfold orderStep; rw [hf]
   rw [es]
   exact order_l0 nd hn hl hnd m (c + 1) _ s (by omega) (by omega) hd (by omega)
  | some i =>
   have es : orderStep nd s = (s.1 ++ [i], s.2 ||| 2 ^ i) := by unfold orderStep; rw [hf]
   rw [es] at hok ⊢
   have hi := firstP_lt hf
   exact order_l0 nd hn hl hnd m (c + 1) _ (s.1 ++ [i], s.2 ||| 2 ^ i) (by omega) (by simp; omega) hok.1 (by omega)
theorem order_eq {n : Nat} (nd : List Nat) (hn : n ≤ 8) (hl : nd.length = n) (hnd : ∀ i, nd.getD i 0 < 2 ^ n) (k : Nat) (hk : 100 ≤ k) : impl_order.f k (nI nd) = some (ordR (orderP nd)) := by
 unfold impl_order.f orderP
 have := order_l0 nd hn hl hnd n 0 k ([], 0) (by omega) (by simp) (Nat.two_pow_pos n) (by omega)
 rw [nI_length, hl]
 simpa [nI] using this
end Go.Proofs.YtajapkjplgaigaaDoor.P
end
section
namespace Go.Proofs.YtajapkjplgaigaaDoor.P
open Go.RowKit Go.Shelf Go.Proofs.YtajapkjplgaigaaDoorW.PrintWords Go.Proofs.YtajapkjplgaigaaDoorW.PrintLast Go.Proofs.YtajapkjplgaigaaDoorW.PrintMore
set_option linter.unusedVariables false
set_option linter.unusedSimpArgs false
structure GrN where
 ts : List TT
 nd : List Nat
 od : List Nat
 bl : List Nat
 ab : List Nat
def GrN.gr (G : GrN) : Gr := ⟨G.ts, nI G.nd, nI G.od, nI G.bl, nI G.ab⟩
def graphP (ts : List TT) : Option GrN := match needsP ts with
 | none => none
 | some nd => if (orderP nd).2 = 2 ^ ts.length - 1 then some ⟨ts, nd, (orderP nd).1, (relP nd (orderP nd).1 ts.length).1, (relP nd (orderP nd).1 ts.length).2⟩ else none
theorem needsGo_spec (n : Nat) : ∀ (r : List TT) (acc out : List Nat), needsGo n r acc = some out → ∃ l : List Nat, out = acc ++ l ∧ l.length = r.length ∧ ∀ (i : Nat) (t : TT), r[i]? = some t → taskP n t = some (l.getD i 0)
 | [], acc, out, h => by
  simp only [needsGo, Option.some.injEq] at h
  exact ⟨[], by simp [h], rfl, fun i t h => by simp at h⟩
 | x :: r, acc, out, h => by
  simp only [needsGo] at h
  cases ht : taskP n x with
  | none => rw [ht] at h; cases h
  | some s =>
   rw [ht] at h
   obtain ⟨l, h1, h2, h3⟩ := needsGo_spec n r (acc ++ [s]) out h
   refine ⟨s :: l, by simp [h1], by simp [h2], fun i t hi => ?_⟩
   cases i with
   | zero => simp at hi; subst hi; simpa using ht
   | succ i => simpa using h3 i t (by simpa using hi)
theorem needsP_spec {ts : List TT} {nd : List Nat} (h : needsP ts = some nd) : ts.length ≤ 8 ∧ nd.length = ts.length ∧ ∀ (i : Nat) (t : TT), ts[i]? = some t → taskP ts.length t = some (nd.getD i 0) := by
 unfold needsP at h
 split at h
 ·cases h
 ·rename_i hn
  obtain ⟨l, h1, h2, h3⟩ := needsGo_spec _ _ _ _ h
  rw [List.nil_append] at h1
  subst h1
  exact ⟨by omega, h2, h3⟩
theorem taskP_lt {n s : Nat} {t : TT} (h : taskP n t = some s) : s < 2 ^ n ∧ setP t.f1 n = some s ∧ (1 ≤ t.f0 ∧ t.f0 ≤ 20) ∧ (0 ≤ t.f2 ∧ t.f2 ≤ 2) ∧ (1 ≤ t.f3 ∧ t.f3 ≤ 4) := by
 unfold taskP at h
 cases hs : setP t.f1 n with
 | none => rw [hs] at h; cases h
 | some s' =>
  rw [hs] at h
  simp only at h
  split at h
  ·rename_i hc
   injection h with h
   subst h
   exact ⟨setP_lt hs, rfl, hc⟩
  ·cases h
theorem needs_lt {ts : List TT} {nd : List Nat} (h : needsP ts = some nd) (i : Nat) : nd.getD i 0 < 2 ^ ts.length := by
 obtain ⟨h1, h2, h3⟩ := needsP_spec h
 rcases Nat.lt_or_ge i ts.length with hi | hi
 ·exact (taskP_lt (h3 i _ (List.getElem?_eq_getElem hi))).1
 ·rw [List.getD_eq_getElem?_getD, List.getElem?_eq_none (by omega)]; exact Nat.two_pow_pos _
theorem orderGo_mem {nd : List Nat} : ∀ (m : Nat) (s : List Nat × Nat), (∀ i ∈ s.1, i < nd.length) → ∀ i ∈ (orderGo nd m s).1, i < nd.length
 | 0, s, h => h
 | m + 1, s, h => by
  refine orderGo_mem m (orderStep nd s) ?_
  unfold orderStep
  cases hf : firstP nd s.2 with
  | none => exact h
  | some j =>
   intro i hi
   rcases List.mem_append.1 hi with hi | hi
   ·exact h i hi
   ·rw [List.mem_singleton] at hi; subst hi; exact firstP_lt hf
theorem orderP_mem (nd : List Nat) : ∀ i ∈ (orderP nd).1, i < nd.length := orderGo_mem _ _ (fun i hi => by cases hi)
theorem everyI_eq : ∀ n, n ≤ 8 → everyI n = ((2 ^ n - 1 : Nat) : Int) := by decide +kernel
structure GOk (G : GrN) : Prop where
 n8 : G.ts.length ≤ 8
 nl : G.nd.length = G.ts.length
 task : ∀ (i : Nat) (t : TT), G.ts[i]? = some t → taskP G.ts.length t = some (G.nd.getD i 0)
 nlt : ∀ i, G.nd.getD i 0 < 2 ^ G.ts.length
 ord : G.od = (orderP G.nd).1
 full : (orderP G.nd).2 = 2 ^ G.ts.length - 1
 omem : ∀ i ∈ G.od, i < G.ts.length
 blE : G.bl = (relP G.nd G.od G.ts.length).1
 abE : G.ab = (relP G.nd G.od G.ts.length).2
 bl : OkU G.ts.length G.bl
 ab : OkU G.ts.length G.ab
theorem graphP_ok {ts : List TT} {G : GrN} (h : graphP ts = some G) : G.ts = ts ∧ needsP ts = some G.nd ∧ GOk G := by
 unfold graphP at h
 cases hn : needsP ts with
 | none => rw [hn] at h; cases h
 | some nd =>
  rw [hn] at h
  simp only at h
  split at h
  ·rename_i hd
   injection h with h
   obtain ⟨h1, h2, h3⟩ := needsP_spec hn
   have hm : ∀ i ∈ (orderP nd).1, i < ts.length := fun i hi => by rw [← h2]; exact orderP_mem nd i hi
   have hr := relP_ok (n := ts.length) (nd := nd) (od := (orderP nd).1) (needs_lt hn) hm
   subst h
   exact ⟨rfl, rfl, ⟨h1, h2, h3, needs_lt hn, rfl, hd, hm, rfl, rfl, hr.1, hr.2⟩⟩
  ·cases h
theorem graphOf_all (A0 : Option Addr) (c0 : Nat) (l0 : List TT) (w : World) (hr0 : Kd.C k39 w A0 l0.length l0) (hc0 : l0.length ≤ c0) (hT : TabOK w) :
  Calls Tryd.prog 58 #[.slice A0 l0.length c0] w fun e w' => ∃ g b, e = .returned (.tuple #[.pointer g, .bool b]) ∧ Below w.heap.size w w' ∧ (graphP l0 = none → g = none ∧ b = false) ∧ (∀ G, graphP l0 = some G → b = true ∧ ∃ a, g = some ⟨a, 0, none⟩ ∧ ∀ U : World, Kd.C k39 U A0 l0.length l0 → (∀ k, w.heap.size ≤ k → k < w'.heap.size → U.heap[k]? = w'.heap[k]?) → IsG U a G.gr) := by
 have hN := needs_eq l0 100 (Nat.le_refl _)
 cases hn : needsP l0 with
 | none =>
  rw [hn] at hN
  have hg : graphP l0 = none := by unfold graphP; rw [hn]
  refine (graphOf_no1 100 A0 c0 l0 [] w hr0 hc0 hN).mono ?_
  rintro e w' ⟨rfl, hb⟩
  exact ⟨none, false, rfl, hb, fun _ => ⟨rfl, rfl⟩, fun G h => by rw [hg] at h; cases h⟩
 | some nd =>
  rw [hn] at hN
  obtain ⟨h1, h2, h3⟩ := needsP_spec hn
  have hO := order_eq nd h1 h2 (needs_lt hn) 100 (Nat.le_refl _)
  by_cases hd : (orderP nd).2 = 2 ^ l0.length - 1
  ·have hg : graphP l0 = some ⟨l0, nd, (orderP nd).1, (relP nd (orderP nd).1 l0.length).1, (relP nd (orderP nd).1 l0.length).2⟩ := by unfold graphP; rw [hn]; simp only [if_pos hd]
   refine (graphOf_yes 100 A0 c0 l0 (nI nd) (nI (orderP nd).1) ((orderP nd).2 : Int) w hr0 hc0 hN hO (by rw [everyI_eq _ h1, hd]; simp) h1 nd (orderP nd).1 rfl rfl h2 (fun x hx => by
    obtain ⟨i, hi, rfl⟩ := List.getElem_of_mem hx
    have := needs_lt hn i
    rwa [List.getD_eq_getElem?_getD, List.getElem?_eq_getElem hi] at this) (fun x hx => by rw [← h2]; exact orderP_mem nd x hx) hT).mono ?_
   rintro e w' ⟨g, rfl, hG, hb⟩
   exact ⟨_, _, rfl, hb, fun h => (by rw [hg] at h; cases h), fun G h => by rw [hg] at h; injection h with h; subst h; exact ⟨rfl, g, rfl, hG⟩⟩
  ·have hg : graphP l0 = none := by unfold graphP; rw [hn]; simp only [if_neg hd]
   refine (graphOf_no2 100 A0 c0 l0 (nI nd) (nI (orderP nd).1) ((orderP nd).2 : Int) w hr0 hc0 hN hO (by
    rw [everyI_eq _ h1]
    exact beq_eq_false_iff_ne.2 (fun h => hd (by exact_mod_cast h)))).mono ?_
   rintro e w' ⟨rfl, hb⟩
   exact ⟨none, false, rfl, hb, fun _ => ⟨rfl, rfl⟩, fun G h => by rw [hg] at h; cases h⟩
theorem graphOf_at {A0 : Option Addr} {l0 : List TT} {w w' : World} {a : Nat} {G : GrN} (hr0 : Kd.C k39 w A0 l0.length l0) (hb : Below w.heap.size w w')
  (h : ∀ U : World, Kd.C k39 U A0 l0.length l0 → (∀ k, w.heap.size ≤ k → k < w'.heap.size → U.heap[k]? = w'.heap[k]?) → IsG U a G.gr) : IsG w' a G.gr := h w' (Kd.C_below hr0 hb) (fun _ _ _ => rfl)
end Go.Proofs.YtajapkjplgaigaaDoor.P
end
section
namespace Go.Proofs.YtajapkjplgaigaaDoor.P
open Go.RowKit Go.Shelf Go.Proofs.YtajapkjplgaigaaDoorW.PrintWords Go.Proofs.YtajapkjplgaigaaDoorW.PrintLast Go.Proofs.YtajapkjplgaigaaDoorW.PrintMore
attribute [local go_sem] Oper.semAt_some
set_option linter.unusedVariables false
set_option linter.unusedSimpArgs false
def closedP (nd : List Nat) (s : Nat) : Bool := (bitsN s).all fun i => nd.getD i 0 &&& s == nd.getD i 0
def doneP (ts : List TT) (done : List Int) : Option (GrN × Nat) := match graphP ts with
 | none => none
 | some G => match setP done ts.length with
  | none => none
  | some s => if closedP G.nd s then some (G, s) else none
theorem size_calls (g : Nat) (G : Gr) (w : World) (hG : IsG w g G) : Calls Tryd.prog 40 #[.pointer (some ⟨g, 0, none⟩)] w fun e w' => e = .returned (.int .i64 (G.ts.length : Int)) ∧ Drawn0 w w' := by
 obtain ⟨A0, c0, A1, c1, A2, c2, A3, c3, A4, c4, hblk, _⟩ := hG
 have hg0 : w.cell? ⟨g, 0, none⟩ = some (.slice A0 G.ts.length c0) := (blk_cell hblk 0).trans rfl
 clear hblk
 go_enter Tryd.func40, Tryd.ntmps40
 go_wp2
 go_ret
 exact ⟨rfl, ⟨0, rfl⟩⟩
structure Rs (w : World) (q : Nat) (v0 v1 v2 : Value) (W : World) : Prop where
 h0 : Boxed W q 49 v0
 h1 : Boxed W (q + 1) 51 v1
 h2 : Boxed W (q + 1 + 1) 4 v2
 bel : Below w.heap.size w W
end Go.Proofs.YtajapkjplgaigaaDoor.P
end
section
namespace Go.Proofs.YtajapkjplgaigaaDoor
open Go.RowKit Go.Shelf Go.Proofs.YtajapkjplgaigaaDoorW.PrintWords Go.Proofs.YtajapkjplgaigaaDoorW.PrintLast Go.Proofs.YtajapkjplgaigaaDoorW.PrintMore
set_option linter.unusedVariables false
set_option linter.unusedSimpArgs false
theorem wpIn_all1 {g : Operand} {rid n : Nat} {o : Oper} {p d : Tmp} {body : Code} {Q : Exit → Act → World → Prop} {tmps : Array Value} {ds : List Deferred} {w : World} {l₀ : Nat} {r₀ : Loop} (hl₀ : w.heap[l₀]? = some (.loop r₀)) (hn : 2 ≤ n) (Bs s : Nat) (hs : s < 256)
  (hg : ({ tmps := tmps, defers := ds } : Act).eval g = .func (.func 84) #[] #[.pointer (some ⟨Bs, 0, none⟩)]) (hBs : Bs < w.heap.size) (hc : w.cell? ⟨Bs, 0, none⟩ = some (.int .u16 s)) (hT : TabOK w)
  (ho : o.op = .assign (.tmp p)) (hd : o.dst = some d) (hgd : o.guard = none) (hp : p < tmps.size)
  (I : List Nat → World → Prop) (hI : OwnFrom w.heap.size I) (h0 : I [] w) (hIT : ∀ pre W, I pre W → TabOK W)
  (hbody : ∀ (l : Nat) (pre : List Nat) (x : Nat) (W : World), x < 8 → s.testBit x = true → I pre W → pre.length < 8 →
   body.wpIn (Fence.wide.inRound l) (n - 1 - 1) Tryd.prog (RPost w.heap.size I (fun _ _ _ => False) (pre ++ [x]) W) { tmps := (tmps.setIfInBounds p (.int .i64 (x : Int))).setIfInBounds d (.int .i64 (x : Int)), defers := [] } W)
  (hdone : ∀ (W : World), I (bitsN s) W → Q .normal { tmps := tmps, defers := ds } W) :
  (Code.rangeFunc g #[p] (.region rid #[o] false) body).wpIn (Fence.wide.inRound l₀) n Tryd.prog Q { tmps := tmps, defers := ds } w := by
 refine wpIn_rangeFunc_ownN (l₀ := l₀) (r₀ := r₀) rfl hl₀ (by omega) hg trivial (enters_of Tryd.func84 (by kernel_rfl) rfl)
  ((all_stops (n - 1) (by omega) Bs s hs w hBs hc hT).inRound l₀) (fun h k hA => k (h hA)) (fun W l o o' hl ho hcells _ hTW => ?_) (Below.refl _ _) (fun x => rfl) (fun pre W => I (pre.map (·.1)) W) (fun _ _ _ => False) (fun s W W' row h => hI (s.map (·.1)) W W' row h) (fun _ _ _ _ _ hs _ _ => hs) h0
  (fun x a' _ => a' = { tmps := (tmps.setIfInBounds p (.int .i64 (x.1 : Int))).setIfInBounds d (.int .i64 (x.1 : Int)), defers := [] }) (fun _ _ _ _ _ _ hs _ _ => hs) ?_ ?_ ?_ ?_
 ·intro j hj
  exact cell_kept (hTW j hj) (grownBy_putObj' W l o') (fun r e => by cases e; exact ⟨_, ho, hcells⟩)
 ·intro l pre x W K hi hK
  refine wpIn_region_list (ops := #[o]) ?_
  show wpListIn _ _ _ _ _ [o] _ _
  refine wpListIn_plain hgd fun K' hK' => ⟨fun _ _ => trivial, ?_⟩
  have he : ({ tmps := (tmps.setIfInBounds p (.int .i64 (x.1 : Int))), defers := [] } : Act).eval (.tmp p) = .int .i64 (x.1 : Int) := by
   simp [Act.eval, hp]
  have hz : ((#[p] : Array Tmp).zip (encI x)).foldl (fun t (p, v) => t.setIfInBounds p v) tmps = tmps.setIfInBounds p (.int .i64 (x.1 : Int)) := by simp [encI]
  simp only [hz]
  rw [show ((Fence.wide.inRound l₀).inRound l).round = some l from rfl, Oper.semAt_some l _ o (fun c hcc => by rw [ho] at hcc; cases hcc)]
  simp only [execOp, ho, he]
  simp only [Sem.run_pure, Sem.run, Sem.run_bind, Result.andThen, Oper.uponIn]
  refine hK' _ _ ?_
  simp only [wpListIn, Act.put, hd]
  exact hK _ _ (KeepsFrom.refl _ _) (fun h => h) hi rfl
 ·rintro l pre x a' W hl hr hi rfl hlen
  refine wpIn_mono (hbody l (pre.map (·.1)) x.1 W x.2.1 x.2.2 hi (by simpa using hlen)) ?_
  rintro e a' W' h
  have em : (pre ++ [x]).map (·.1) = pre.map (·.1) ++ [x.1] := by simp
  cases e <;> simp only [ownPostG, RPost, em] at h ⊢ <;> first | exact h | skip
  exact ⟨h.1, fun _ => hIT _ _ h.2, h.2⟩
 ·rintro xs W hxs hi
  exact hdone W (by rw [hxs] at hi; exact hi)
 ·rintro c pre W hp hi
  exact hi.elim
end Go.Proofs.YtajapkjplgaigaaDoor
end
section
namespace Go.Proofs.YtajapkjplgaigaaDoor.P
open Go.RowKit Go.Shelf Go.Proofs.YtajapkjplgaigaaDoorW.PrintWords Go.Proofs.YtajapkjplgaigaaDoorW.PrintLast Go.Proofs.YtajapkjplgaigaaDoorW.PrintMore
attribute [local go_sem] Oper.semAt_some
set_option linter.unusedVariables false
set_option linter.unusedSimpArgs false
def rowL (l : List Int) : Obj := .cells ((l.map (Value.int .i64)).toArray) 3 (0, 0)
def fnL (n : Nat) (f : Nat → Int) : List Int := (List.range n).map f
theorem fnL_len (n : Nat) (f : Nat → Int) : (fnL n f).length = n := by simp [fnL]
theorem fnL_set (n : Nat) (f : Nat → Int) (i : Nat) (v : Int) : (fnL n f).set i v = fnL n (fun k => if k = i then v else f k) := by
 unfold fnL
 refine List.ext_getElem (by simp) (fun j h1 h2 => ?_)
 simp only [List.length_set, List.length_map, List.length_range] at h1
 rw [List.getElem_set]
 simp only [List.getElem_map, List.getElem_range]
 by_cases h : i = j
 ·rw [if_pos h, if_pos h.symm]
 ·rw [if_neg h, if_neg (fun e => h e.symm)]
theorem rowF_cell {W : World} {b n : Nat} {f : Nat → Int} (h : W.heap[b]? = some (rowL (fnL n f))) (i : Nat) (hi : i < n) : W.cell? ⟨b, i, none⟩ = some (.int .i64 (f i)) :=
 (blk_cell h i).trans (by simp [fnL, hi])
theorem rowF_set {W : World} {b n : Nat} {f : Nat → Int} (h : W.heap[b]? = some (rowL (fnL n f))) (i : Nat) (v : Int) : (W.setCell ⟨b, i, none⟩ (.int .i64 v)).heap[b]? = some (rowL (fnL n (fun k => if k = i then v else f k))) := by
 rw [blk_set h i, ← fnL_set]
 simp [rowL]
theorem infoI0 : (Tryd.prog.info? 3).map (fun i => (i.zero, i.size, i.bytes)) = some (some (.int .i64 0), 1, 8) := by kernel_rfl
theorem mk_ints {ops : Array Oper} {o : Oper} {a : Act} {Q : Exit → Act → World → Prop} {rest : List Oper} {W : World} (hgd : o.guard = none) (x y : Operand) (ho : o.op = .makeSlice 24 x y) (n : Nat) (hx : a.eval x = .int .i64 (n : Int)) (hy : a.eval y = .int .i64 (n : Int)) (hn : n ≤ 8)
  (h : wpList Tryd.prog ops Q rest (a.put o.dst (slv W.heap.size n)) (W.alloc (rowL (fnL n (fun _ => 0))))) : wpList Tryd.prog ops Q (o :: rest) a W := by
 obtain ⟨i0, hi, hz0, hz1, hz2⟩ := info_parts infoI0
 have hr := run_make (P := Tryd.prog) W 24 3 i0 (.int .i64 0) Tryd.underlying24 hi hz0 .i64 .i64 (n : Int) (n : Int) (by omega) (by omega) (by rw [hz2]; omega) (by omega)
 rw [hz1] at hr
 simp only [Int.toNat_natCast] at hr
 have e1 : madeCells (Value.int IntKind.i64 0).cells (n * 1) = Array.replicate n (.int .i64 0) := by
  have e := toList_madeCells_one (.int .i64 0) n
  apply Array.toList_inj.1
  rw [Nat.mul_one, Array.toList_replicate]
  exact e
 have e2 : rowL (fnL n (fun _ => 0)) = .cells (Array.replicate n (.int .i64 0)) 3 (0, 0) := by
  have e : ((fnL n (fun _ => 0)).map (Value.int .i64)).toArray = Array.replicate n (.int .i64 0) := by
   apply Array.toList_inj.1
   rw [Array.toList_replicate]
   unfold fnL
   exact List.ext_getElem (by simp) (fun i h1 h2 => by simp)
  exact congrArg (fun a => Obj.cells a 3 (0, 0)) e
 rw [e1] at hr
 rw [e2] at h
 exact Kd.event_run hgd (by simp [execOp, ho, hx, hy, hr]) h
def pushW (g : Nat → Int) (at_ : Nat) (l : List Nat) : Nat → Int := l.foldl (fun g k => fun i => if i = k then mx (g k) (g at_) else g i) g
def addW (ts : List TT) (g : Nat → Int) (at_ : Nat) : Nat → Int := fun i => if i = at_ then wrap64 (g at_ + (rd_T39 ts (at_ : Int)).f0) else g i
def stepW (ts : List TT) (nd : List Nat) (g : Nat → Int) (at_ : Nat) : Nat → Int := pushW (addW ts g at_) at_ (bitsN (nd.getD at_ 0))
def tailsW (ts : List TT) (nd : List Nat) (l : List Nat) : Nat → Int := l.foldl (stepW ts nd) (fun _ => 0)
theorem tailsW_snoc (ts : List TT) (nd : List Nat) (l : List Nat) (x : Nat) : tailsW ts nd (l ++ [x]) = stepW ts nd (tailsW ts nd l) x := by simp [tailsW]
theorem pushW_snoc (g : Nat → Int) (at_ : Nat) (l : List Nat) (x : Nat) : pushW g at_ (l ++ [x]) = fun i => if i = x then mx (pushW g at_ l x) (pushW g at_ l at_) else pushW g at_ l i := by simp [pushW]
structure Ft (w : World) (g q0 b q2 q3 : Nat) (V : Value) (n : Nat) (f : Nat → Int) (W : World) : Prop where
 bel : Below w.heap.size w W
 hx : Boxed W q0 49 (.pointer (some ⟨g, 0, none⟩))
 hb : W.heap[b]? = some (rowL (fnL n f))
 ho : Boxed W q2 24 (slv b n)
 hk : Boxed W q3 24 V
theorem own_Ft {β : Type} (w : World) (g q0 b q2 q3 : Nat) (V : Value) (n : Nat) (f : β → Nat → Int) (B : Nat) (hB : w.heap.size ≤ B) : OwnFrom B (fun s W => Ft w g q0 b q2 q3 V n (f s) W) := by
 intro s W W' row h hg hr
 exact ⟨(ownFrom_below (Nat.le_refl _) hB) s W W' row h.bel hg hr, own_box B q0 _ (fun _ => _) s W W' row h.hx hg hr, own_blk B b (fun s => ((fnL n (f s)).map (Value.int .i64)).toArray) _ s W W' row h.hb hg hr, own_box B q2 _ (fun _ => _) s W W' row h.ho hg hr, own_box B q3 _ (fun _ => _) s W W' row h.hk hg hr⟩
theorem Ft.alloc {w W : World} {g q0 b q2 q3 n : Nat} {V : Value} {f : Nat → Int} (h : Ft w g q0 b q2 q3 V n f W) (o : Obj) : Ft w g q0 b q2 q3 V n f (W.alloc o) :=
 ⟨h.bel.alloc h.bel.size o, h.hx.alloc o, blk_alloc h.hb o, h.ho.alloc o, h.hk.alloc o⟩
theorem Ft.drewN {w W : World} {g q0 b q2 q3 n : Nat} {V : Value} {f : Nat → Int} (h : Ft w g q0 b q2 q3 V n f W) (m : Nat) : Ft w g q0 b q2 q3 V n f (W.drewN m) := ⟨pw_below_drewN h.bel m, h.hx, h.hb, h.ho, h.hk⟩
theorem Ft.put {w W : World} {g q0 b q2 q3 n : Nat} {V : Value} {f : Nat → Int} (h : Ft w g q0 b q2 q3 V n f W) (hge : w.heap.size ≤ b) (h3 : b ≠ q3) (m i : Nat) (v : Int) : Ft w g q0 b q2 q3 V n (fun k => if k = i then v else f k) ((W.drewN m).setCell ⟨b, i, none⟩ (.int .i64 v)) := by
 have hg := grown_set W m b i (.int .i64 v)
 exact ⟨(pw_below_drewN h.bel m).setCell hge _, blk_grown h.hx hg (fun e => blk_ne h.hb h.hx (by decide) (by injection e with e; exact e.symm)), rowF_set (W := W.drewN m) h.hb i v, blk_grown h.ho hg (fun e => blk_ne h.hb h.ho (by decide) (by injection e with e; exact e.symm)), blk_grown h.hk hg (fun e => h3 (by injection e with e; exact e.symm))⟩
theorem orderGo_len (nd : List Nat) : ∀ (m : Nat) (s : List Nat × Nat), (orderGo nd m s).1.length ≤ s.1.length + m
 | 0, s => Nat.le_refl _
 | m + 1, s => by
  have h := orderGo_len nd m (orderStep nd s)
  have h2 : (orderStep nd s).1.length ≤ s.1.length + 1 := by
   unfold orderStep
   split <;> simp
  rw [orderGo]
  omega
theorem orderP_len (nd : List Nat) : (orderP nd).1.length ≤ nd.length := by
 have := orderGo_len nd nd.length ([], 0)
 simpa [orderP] using this
set_option maxRecDepth 100000 in
set_option maxHeartbeats 4000000 in
theorem tails_calls (g : Nat) (G : GrN) (hOk : GOk G) (w : World) (hG : IsG w g G.gr) (hT : TabOK w) :
  Calls Tryd.prog 53 #[.pointer (some ⟨g, 0, none⟩)] w fun e w' => ∃ b, e = .returned (slv b G.ts.length) ∧ w.heap.size ≤ b ∧ w'.heap[b]? = some (rowL (fnL G.ts.length (tailsW G.ts G.nd G.od.reverse))) ∧ Below w.heap.size w w' := by
 refine calls_of_wpM Tryd.func53 rfl ?_
 simp only [Tryd.ntmps53, List.size_toArray, List.length_cons, List.length_nil, Nat.reduceAdd, Nat.reduceSub, Array.replicate_succ, Array.replicate_zero, List.push_toArray, List.append_toArray, List.nil_append, List.cons_append]
 have hT' := Aside0.mk hT
 have hG' := Aside0.mk hG
 have hOk' := Aside0.mk hOk
 clear hT hG hOk
 have hn8 := Aside0.mk hOk'.out.n8
 obtain ⟨n, hn⟩ : ∃ n, n = G.ts.length := ⟨_, rfl⟩
 have hn' := Aside0.mk hn
 simp only [← hn]
 clear hn
 obtain ⟨A0, c0, A1, c1, A2, c2, A3, c3, A4, c4, hblk, _, _, ⟨hC2, _⟩, _⟩ := hG'.out
 have hblk' := Aside0.mk hblk
 have hC2' := Aside0.mk hC2
 clear hblk hC2
 go_wp2_with (first | (go_at_call 40; go_loud (refine (size_calls g G.gr _ (hG'.out.below ((Below.refl _ w).alloc (Nat.le_refl _) _))).mono ?_; rintro e w1 ⟨rfl, ⟨m1, rfl⟩⟩; simp only [show ((G.gr.ts.length : Nat) : Int) = (n : Int) from by rw [hn'.out]; rfl])) | ((with_reducible refine gate_dst (N := 9) rfl ?_); go_loud (refine mk_ints rfl _ _ rfl n rfl rfl (by rw [hn'.out]; exact hn8.out) ?_; have hc2 : ((((w.alloc (Obj.cells #[Value.pointer (some { block := g, off := 0 })] 49)).drewN m1).alloc (rowL (fnL n fun x => 0))).alloc (Obj.cells #[Value.slice (some { block := w.heap.size + 1, off := 0 }) n n] 24)).cell? ⟨g, 2, none⟩ = some (.slice A2 G.gr.od.length c2) := (blk_cell (blk_alloc (blk_alloc (show ((w.alloc (Obj.cells #[Value.pointer (some { block := g, off := 0 })] 49)).drewN m1).heap[g]? = _ from blk_alloc hblk'.out _) _) _) 2).trans rfl)) | (go_at_call 83; go_loud (refine (back_calls _ _ _ _).mono ?_; rintro e w' ⟨rfl, rfl⟩)))
 have hF4 : Ft w g w.heap.size (w.heap.size + 1) (w.heap.size + 1 + 1) (w.heap.size + 1 + 1 + 1) (.slice A2 G.gr.od.length c2) n (tailsW G.ts G.nd []) (((((w.alloc (Obj.cells #[Value.pointer (some { block := g, off := 0 })] 49)).drewN m1).alloc (rowL (fnL n fun x => 0))).alloc (Obj.cells #[Value.slice (some { block := w.heap.size + 1, off := 0 }) n n] 24)).alloc (Obj.cells #[Value.slice A2 G.gr.od.length c2] 24)) := by
  have h1 := (Boxed.new w 49 (.pointer (some ⟨g, 0, none⟩)))
  have hB1 := pw_below_drewN ((Below.refl _ w).alloc (Nat.le_refl _) (Obj.cells #[Value.pointer (some { block := g, off := 0 })] 49)) m1
  have h1' : Boxed ((w.alloc (Obj.cells #[Value.pointer (some { block := g, off := 0 })] 49)).drewN m1) w.heap.size 49 (.pointer (some ⟨g, 0, none⟩)) := h1
  have hs1 : ((w.alloc (Obj.cells #[Value.pointer (some { block := g, off := 0 })] 49)).drewN m1).heap.size = w.heap.size + 1 := by simp [World.drewN]
  clear hc2 h1
  generalize (w.alloc (Obj.cells #[Value.pointer (some { block := g, off := 0 })] 49)).drewN m1 = W1 at *
  have h2 : (W1.alloc (rowL (fnL n fun x => 0))).heap[w.heap.size + 1]? = some (rowL (fnL n fun x => 0)) := by rw [← hs1]; exact World.alloc_heap_new W1 _
  have hs2 : (W1.alloc (rowL (fnL n fun x => 0))).heap.size = w.heap.size + 1 + 1 := by simp [hs1]
  have h3 := box_at (W1.alloc (rowL (fnL n fun x => 0))) 24 (slv (w.heap.size + 1) n) (w.heap.size + 1 + 1) hs2
  have hB2 := (hB1.alloc hB1.size (rowL (fnL n fun x => 0))).alloc (by omega) (Obj.cells #[Value.slice (some { block := w.heap.size + 1, off := 0 }) n n] 24)
  exact ⟨hB2.alloc hB2.size _, ((h1'.alloc _).alloc _).alloc _, blk_alloc (blk_alloc h2 _) _, h3.alloc _, box_at _ _ _ _ (by simp [hs2])⟩
 have hs4 : (((((w.alloc (Obj.cells #[Value.pointer (some { block := g, off := 0 })] 49)).drewN m1).alloc (rowL (fnL n fun x => 0))).alloc (Obj.cells #[Value.slice (some { block := w.heap.size + 1, off := 0 }) n n] 24)).alloc (Obj.cells #[Value.slice A2 G.gr.od.length c2] 24)).heap.size = w.heap.size + 1 + 1 + 1 + 1 := by simp [World.drewN]
 have e4 : (((((w.alloc (Obj.cells #[Value.pointer (some { block := g, off := 0 })] 49)).drewN m1).alloc (rowL (fnL n fun x => 0))).alloc (Obj.cells #[Value.slice (some { block := w.heap.size + 1, off := 0 }) n n] 24))).heap.size = w.heap.size + 1 + 1 + 1 := by simp [World.drewN]
 try rw [e4]
 clear hc2 e4
 generalize ((((w.alloc (Obj.cells #[Value.pointer (some { block := g, off := 0 })] 49)).drewN m1).alloc (rowL (fnL n fun x => 0))).alloc (Obj.cells #[Value.slice (some { block := w.heap.size + 1, off := 0 }) n n] 24)).alloc (Obj.cells #[Value.slice A2 G.gr.od.length c2] 24) = W4 at *
 have hodl : G.gr.od.length < 1000 := by
  show (nI G.od).length < 1000
  rw [nI_length]
  have h1 := hOk'.out.n8
  have h2 := orderP_len G.nd
  rw [← hOk'.out.ord, hOk'.out.nl] at h2
  omega
 refine (wpIn_wide (n := 9)).1 (wpIn_rangeFunc_ownH (F := Fence.wide) (n := 9) rfl (by omega) (gf := 100) (lb := #[.pointer (some ⟨w.heap.size + 1 + 1 + 1, 0, none⟩)]) rfl trivial (enters_of Tryd.func100 (by kernel_rfl) rfl)
  (back_stops (9 - 1) (by omega) (w.heap.size + 1 + 1 + 1) G.gr.od hodl A2 c2 w W4 hC2'.out hF4.bel (by omega) hF4.hk.cell) (fun h k => h.trans k) (fun W l o o' hl ho hcells hwk => ⟨fun hb => ?_, fun hc => ?_⟩) (Below.refl _ _) (fun x => rfl)
  (fun pre W => Ft w g w.heap.size (w.heap.size + 1) (w.heap.size + 1 + 1) (w.heap.size + 1 + 1 + 1) (.slice A2 G.gr.od.length c2) n (tailsW G.ts G.nd (pre.map (fun p => p.1.2.toNat))) W) (fun _ _ _ => False) (own_Ft _ _ _ _ _ _ _ _ _ _ (by omega)) (fun _ _ _ _ _ hs _ _ => hs) hF4
  (fun x a' W => ∃ Bx, w.heap.size + 1 + 1 + 1 < Bx ∧ Boxed W Bx 3 (.int .i64 x.1.2) ∧ a' = { tmps := #[.pointer (some ⟨g, 0, none⟩), .pointer (some ⟨w.heap.size, 0, none⟩), .slice none 0 0, .pointer (some ⟨w.heap.size + 1 + 1, 0, none⟩), undef, .pointer (some ⟨Bx, 0, none⟩), undef, .pointer (some ⟨g, 0, none⟩), .int .i64 (n : Int), slv (w.heap.size + 1) n, .pointer (some ⟨g, 0, none⟩), .pointer (some ⟨g, 0, none⟩), .pointer (some ⟨g, 2, none⟩), .slice A2 G.gr.od.length c2, .func (.func 100) #[] #[.pointer (some ⟨w.heap.size + 1 + 1 + 1, 0, none⟩)], .int .i64 x.1.1, .int .i64 x.1.2, undef, undef, undef, undef, undef, undef, undef, undef, undef, undef, undef, undef, undef, undef, undef, undef, undef, undef, undef, undef, undef, undef, undef, undef, undef, undef, undef, undef, undef, undef, undef, undef, undef, undef, undef, undef], defers := [] })
  (fun x a' _ X Y row hs hg hr => by obtain ⟨Bx, h1, h2, h3⟩ := hs; exact ⟨Bx, h1, own_box _ Bx 3 (fun (_ : Unit) => Value.int .i64 x.1.2) () X Y row h2 hg hr, h3⟩)
  ?assign ?body ?done ?stop)
 case stop => intro D c pre W _ _ h _; exact h.elim
 case assign =>
  rintro l pre x W K hF hK
  dsimp only [encB]
  gi_wp2
  exact hK _ _ ((KeepsOthers.alloc _ _).from _) ⟨fun _ => (hF.alloc _).bel, fun _ => (hF.alloc _).hk.cell⟩ (hF.alloc _) ⟨W.heap.size, hF.hk.lt, Boxed.new W _ _, rfl⟩
 case body =>
  rintro l pre x a' W hl ⟨r, hr⟩ hF ⟨Bx, hBx, bX, rfl⟩ hlt
  obtain ⟨o, ho, hxo⟩ : ∃ o : Nat, o ∈ G.od ∧ x.1.2 = (o : Int) := by
   obtain ⟨o, h1, h2⟩ := List.mem_map.1 (show x.1.2 ∈ nI G.od from x.2)
   exact ⟨o, h1, h2.symm⟩
  obtain ⟨xi, hxi⟩ : ∃ i, x.1.1 = i := ⟨_, rfl⟩
  simp only [hxo, hxi] at bX ⊢
  have hxo' := Aside0.mk hxo
  clear hxo hxi
  generalize hf : tailsW G.ts G.nd (pre.map (fun p => p.1.2.toNat)) = f at *
  have hon := hOk'.out.omem o ho
  obtain ⟨A0, c0, A1, c1, A2', c2', A3, c3, A4, c4, hblk, ⟨hC0, _⟩, ⟨hC1, _⟩, _⟩ := hG'.out.below hF.bel
  obtain ⟨ad, B1, d1, rfl, hx0, _⟩ := at_T39 hC0 (o : Int) (by omega) (by show (o : Int) < (G.ts.length : Int); omega)
  simp only [Int.toNat_natCast] at hx0
  have hg0 : W.cell? ⟨g, 0, none⟩ = some (.slice (some ad) G.gr.ts.length c0) := (blk_cell hblk 0).trans rfl
  have k0 := hF.hx.cell
  have k2 := hF.ho.cell
  have kx := bX.cell
  have ko := rowF_cell hF.hb o (by rw [hn'.out]; exact hon)
  have hnl : o < G.gr.nd.length := by show o < (nI G.nd).length; rw [nI_length, hOk'.out.nl]; exact hon
  obtain ⟨ad1, rfl, hx1⟩ := Kd.at_int hC1 (o : Int) (by omega) (by omega)
  have hn2 : rd G.gr.nd (o : Int) = ((G.nd.getD o 0 : Nat) : Int) := rd_nI _ _
  obtain ⟨sn, hsn⟩ : ∃ sn, G.nd.getD o 0 = sn := ⟨_, rfl⟩
  simp only [Int.toNat_natCast, hn2, hsn] at hx1
  clear hn2
  have hsb := hOk'.out.nlt o
  rw [hsn] at hsb
  have hsb' := Aside0.mk hsb
  have hsn' := Aside0.mk hsn
  have hF' := Aside0.mk hF
  have bX' := Aside0.mk bX
  have hr' := Aside0.mk hr
  have hon' := Aside0.mk (show o < n by rw [hn'.out]; exact hon)
  have hblk2 := Aside0.mk hblk
  have hx1' := Aside0.mk hx1
  have hf' := Aside0.mk hf
  have hl' := Aside0.mk hl
  have hz := Aside0.mk (show w.heap.size + 1 ≠ Bx by omega)
  clear hC0 hC1 hsb hsn hF bX hr hf hblk hl
  have hgn : (o : Int) < (G.gr.ts.length : Int) := by show (o : Int) < (G.ts.length : Int); omega
  have honn : (o : Int) < (n : Int) := by have := hon'.out; omega
  gi_wp2
  refine wpIn_region_tail 13 (by rintro ⟨_, _, h⟩; exact h) (by kernel_rfl) (by kernel_rfl) (by kernel_rfl) ?_
  simp only [List.take_succ_cons, List.take_zero, List.drop_succ_cons, List.drop_zero]
  repeat still_step
  refine wpStill_nil ?_
  have fo : W.frozen? ⟨w.heap.size + 1, o, none⟩ = false := blk_frozen hF'.out.hb o
  go_wp2
  have hv := Aside0.mk (show IntKind.i64.wrap (f o + (rd_T39 G.gr.ts (o : Int)).f0) = wrap64 (f o + (rd_T39 G.gr.ts (o : Int)).f0) by simp only [i64_w])
  have hF5 : Ft w g w.heap.size (w.heap.size + 1) (w.heap.size + 1 + 1) (w.heap.size + 1 + 1 + 1) (.slice A2 G.gr.od.length c2) n (addW G.ts f o) (W.setCell { block := w.heap.size + 1, off := o } (Value.int IntKind.i64 (wrap64 (f o + (rd_T39 G.gr.ts (o : Int)).f0)))).drew := hF'.out.put (by omega) (by omega) 1 o _
  have hgr := grown_set W 1 (w.heap.size + 1) o (Value.int IntKind.i64 (wrap64 (f o + (rd_T39 G.gr.ts (o : Int)).f0)))
  have bX5 : Boxed (W.setCell { block := w.heap.size + 1, off := o } (Value.int IntKind.i64 (wrap64 (f o + (rd_T39 G.gr.ts (o : Int)).f0)))).drew Bx 3 (.int .i64 (o : Int)) := bX'.out.kept hgr (fun e => hz.out (by injection e with e; exact e.symm))
  have hK5 : KeepsFrom W4.heap.size W (W.setCell { block := w.heap.size + 1, off := o } (Value.int IntKind.i64 (wrap64 (f o + (rd_T39 G.gr.ts (o : Int)).f0)))).drew := ((KeepsOthers.setCell _ _ _).trans (KeepsOthers.drew _)).from _
  have hr5 := Aside0.mk (hK5.same l _ hl'.out hr'.out rfl)
  clear k0 k2 kx ko fo hg0 hx0 hgr hx1 hnl
  generalize (W.setCell { block := w.heap.size + 1, off := o } (Value.int IntKind.i64 (wrap64 (f o + (rd_T39 G.gr.ts (o : Int)).f0)))).drew = W5 at *
  clear hblk2 hx1'
  obtain ⟨A0', c0', A1', c1', A2'', c2'', A3', c3', A4', c4', hblk, _, ⟨hC1, _⟩, _⟩ := hG'.out.below hF5.bel
  have hnl : o < G.gr.nd.length := by show o < (nI G.nd).length; rw [nI_length, hOk'.out.nl]; exact hon
  obtain ⟨ad2, rfl, hx1⟩ := Kd.at_int hC1 (o : Int) (by omega) (by omega)
  have hn2 : rd G.gr.nd (o : Int) = ((G.nd.getD o 0 : Nat) : Int) := rd_nI _ _
  simp only [Int.toNat_natCast, hn2, hsn'.out] at hx1
  clear hn2
  have hnlI : (o : Int) < (G.gr.nd.length : Int) := by omega
  have hg1 : W5.cell? ⟨g, 1, none⟩ = some (.slice (some ad2) G.gr.nd.length c1') := (blk_cell hblk 1).trans rfl
  have k0 := hF5.hx.cell
  have kx := bX5.cell
  have hF5' := Aside0.mk hF5
  have bX5' := Aside0.mk bX5
  have hK5' := Aside0.mk hK5
  clear hF5 bX5 hK5 hblk hC1 hnl
  gi_wp2
  refine wpIn_region_tail 7 (by rintro ⟨_, _, h⟩; exact h) (by kernel_rfl) (by kernel_rfl) (by kernel_rfl) ?_
  simp only [List.take_succ_cons, List.take_zero, List.drop_succ_cons, List.drop_zero]
  repeat still_step
  refine wpStill_nil ?_
  go_wp2_with (go_at_call 54; refine (all_calls _ _).mono ?_; rintro e w' ⟨rfl, rfl⟩)
  gi_wp2
  have hF6 := (hF5'.out.alloc (.cells #[.int .u16 (sn : Int)] 51)).drewN 1
  have bX6 : Boxed ((W5.alloc (.cells #[.int .u16 (sn : Int)] 51)).drewN 1) Bx 3 (.int .i64 (o : Int)) := bX5'.out.alloc _
  have hk6 : ((W5.alloc (.cells #[.int .u16 (sn : Int)] 51)).drewN 1).cell? ⟨W5.heap.size, 0, none⟩ = some (.int .u16 (sn : Int)) := (Boxed.new W5 51 (.int .u16 (sn : Int))).cell
  have hs6 : ((W5.alloc (.cells #[.int .u16 (sn : Int)] 51)).drewN 1).heap.size = W5.heap.size + 1 := by simp [World.drewN]
  have hr6 : ((W5.alloc (.cells #[.int .u16 (sn : Int)] 51)).drewN 1).heap[l]? = some (.loop r) := (Below.heap_alloc W5 _ l (Array.getElem?_eq_some_iff.1 hr5.out).1).trans hr5.out
  have hK6 : KeepsFrom W4.heap.size W ((W5.alloc (.cells #[.int .u16 (sn : Int)] 51)).drewN 1) := hK5'.out.trans (((KeepsOthers.alloc W5 (.cells #[.int .u16 (sn : Int)] 51)).trans (KeepsOthers.drew _)).from _)
  change Code.wpIn _ _ _ _ _ _ ((W5.alloc (.cells #[.int .u16 (sn : Int)] 51)).drewN 1)
  have hWW := Aside0.mk hK5'.out.size
  clear hg1 k0 kx hx1 hF5' bX5' hK5'
  have hWs := Aside0.mk (hF'.out.bel.size)
  generalize hq5 : W5.heap.size = q5 at *
  have hWq : W.heap.size ≤ q5 := hWW.out
  have hW4s : W4.heap.size ≤ q5 := Nat.le_trans (Nat.le_of_lt (Nat.lt_of_le_of_lt hl'.out (Array.getElem?_eq_some_iff.1 hr'.out).1)) hWq
  clear hq5
  generalize (W5.alloc (.cells #[.int .u16 (sn : Int)] 51)).drewN 1 = W6 at *
  refine wpIn_all1 hr6 (by omega) q5 sn (lt256 hsb'.out hn8.out) rfl (by omega) hk6 (hT'.out.below hF6.bel) rfl rfl rfl (by simp)
   (fun pre' W' => (Ft w g w.heap.size (w.heap.size + 1) (w.heap.size + 1 + 1) (w.heap.size + 1 + 1 + 1) (.slice A2 G.gr.od.length c2) n (pushW (addW G.ts f o) o pre') W' ∧ Boxed W' Bx 3 (.int .i64 (o : Int))) ∧ KeepsFrom W4.heap.size W W')
   (OwnFrom.and (OwnFrom.and (own_Ft _ _ _ _ _ _ _ _ _ _ (by omega)) (own_box _ _ _ _)) (ownFrom_keepsFrom (by omega))) ⟨⟨hF6, bX6⟩, hK6⟩ (fun pre W h => hT'.out.below h.1.1.bel) ?body2 ?done2
  case body2 =>
   rintro l2 pre' x W' hx8 hxs ⟨⟨hF7, bX7⟩, hK7⟩ hlen
   simp only [List.setIfInBounds_toArray, List.set_cons_zero, List.set_cons_succ]
   have hxn : x < n := by rw [hn'.out]; exact bit_lt hsb'.out hxs
   generalize hfp : pushW (addW G.ts f o) o pre' = fp at *
   have k2 := hF7.ho.cell
   have kx := bX7.cell
   have ko := rowF_cell hF7.hb o hon'.out
   have kk := rowF_cell hF7.hb x hxn
   have fk : W'.frozen? ⟨w.heap.size + 1, x, none⟩ = false := blk_frozen hF7.hb x
   have hxI : (x : Int) < (n : Int) := by omega
   have hF7' := Aside0.mk hF7
   have bX7' := Aside0.mk bX7
   have hK7' := Aside0.mk hK7
   have hfp' := Aside0.mk hfp
   clear hF7 bX7 hK7 hfp hF6 bX6 hk6 hs6 hr6 hK6
   gi_wp2
   refine wpIn_region_tail 11 (by rintro ⟨_, _, h⟩; exact h) (by kernel_rfl) (by kernel_rfl) (by kernel_rfl) ?_
   simp only [List.take_succ_cons, List.take_zero, List.drop_succ_cons, List.drop_zero]
   repeat still_step
   refine wpStill_nil ?_
   rw [show (if fp o > fp x then fp o else fp x) = mx (fp x) (fp o) from rfl]
   go_wp2
   have hgr := grown_set W' 1 (w.heap.size + 1) x (Value.int IntKind.i64 (mx (fp x) (fp o)))
   refine ⟨((KeepsOthers.setCell _ _ _).trans (KeepsOthers.drew _)).from _, ⟨?_, ?_⟩, hK7'.out.trans (((KeepsOthers.setCell _ _ _).trans (KeepsOthers.drew _)).from _)⟩
   ·rw [pushW_snoc, hfp'.out]
    exact hF7'.out.put (by omega) (by omega) 1 x _
   ·exact bX7'.out.kept hgr (fun e => hz.out (by injection e with e; exact e.symm))
  case done2 =>
   rintro W' ⟨⟨hF7, bX7⟩, hK7⟩
   gi_wp2
   have e : tailsW G.ts G.nd ((pre ++ [x]).map (fun p => p.1.2.toNat)) = pushW (addW G.ts f o) o (bitsN sn) := by
    rw [List.map_append]
    show tailsW G.ts G.nd (pre.map (fun p => p.1.2.toNat) ++ [x.1.2.toNat]) = _
    rw [tailsW_snoc, hf'.out, hxo'.out, Int.toNat_natCast, stepW, hsn'.out]
   rw [← e] at hF7
   exact ⟨hK7, ⟨fun _ => hF7.bel, fun _ => hF7.hk.cell⟩, hF7⟩
 case done =>
  rintro D zs W hD hzs hF hK
  have k2 := hF.ho.cell
  have hF' := Aside0.mk hF
  have hK' := Aside0.mk hK
  clear hF hK
  gi_wp2
  have e : tailsW G.ts G.nd (zs.map (fun p : Bk G.gr.od => p.1.2.toNat)) = tailsW G.ts G.nd G.od.reverse := by
   have h1 : zs.map (fun p : Bk G.gr.od => p.1.2.toNat) = (zs.map (·.1.2)).map Int.toNat := by simp
   rw [h1, hzs]
   show tailsW G.ts G.nd ((nI G.od).reverse.map Int.toNat) = _
   rw [List.map_reverse]
   simp [nI, Function.comp_def]
  have hF2 := hF'.out
  rw [e] at hF2
  go_wp2
  refine retM (B := w.heap.size) (fun W => Ft w g w.heap.size (w.heap.size + 1) (w.heap.size + 1 + 1) (w.heap.size + 1 + 1 + 1) (.slice A2 G.gr.od.length c2) n (tailsW G.ts G.nd G.od.reverse) W) (own_Ft _ _ _ _ _ _ _ _ _ _ (Nat.le_refl _)) ⟨⟨D, rfl, by omega, hK'.out, by simp⟩, trivial⟩ hF2 ?_
  intro W' h
  exact ⟨_, (results_tmp (t := 2) rfl _ _ _).trans rfl, _, rfl, by omega, h.hb, h.bel⟩
 ·exact hb.trans (belowK_b (w := w) (Nat.le_refl _) W l o o' (by omega) ho hcells hwk)
 ·exact cell_kept hc (grownBy_putObj' W l o') (fun r e => by cases e; exact ⟨_, ho, hcells⟩)
end Go.Proofs.YtajapkjplgaigaaDoor.P
end
section
namespace Go.Proofs.YtajapkjplgaigaaDoor.P
open Go.RowKit Go.Shelf Go.Proofs.YtajapkjplgaigaaDoorW.PrintWords Go.Proofs.YtajapkjplgaigaaDoorW.PrintLast Go.Proofs.YtajapkjplgaigaaDoorW.PrintMore
attribute [local go_sem] Oper.semAt_some
attribute [local go_sem] max2_int min2_int max_two min_two max_three min_three max_four min_four
set_option linter.unusedVariables false
set_option linter.unusedSimpArgs false
def headK (wt : Nat → Int) (i : Nat) (f : Nat → Int) (k : Nat) : Nat → Int := fun j => if j = i then mx (f i) (wrap64 (f k + wt k)) else f j
def headI (wt : Nat → Int) (nd : List Nat) (f : Nat → Int) (i : Nat) : Nat → Int := (bitsN (nd.getD i 0)).foldl (headK wt i) f
def headsW (wt : Nat → Int) (nd : List Nat) (od : List Nat) : Nat → Int := od.foldl (headI wt nd) (fun _ => 0)
def timeW (ts : List TT) (k : Nat) : Int := (rd_T39 ts (k : Int)).f0
abbrev Fh (w : World) (g b n : Nat) (f : Nat → Int) (W : World) : Prop := Ft w g w.heap.size b (w.heap.size + 1 + 1) (w.heap.size + 1 + 1) (slv b n) n f W
set_option maxRecDepth 100000 in
set_option maxHeartbeats 4000000 in
theorem heads_calls (g : Nat) (G : GrN) (hOk : GOk G) (w : World) (hG : IsG w g G.gr) (hT : TabOK w) :
  Calls Tryd.prog 62 #[.pointer (some ⟨g, 0, none⟩)] w fun e w' => ∃ b, e = .returned (slv b G.ts.length) ∧ w.heap.size ≤ b ∧ w'.heap[b]? = some (rowL (fnL G.ts.length (headsW (timeW G.ts) G.nd G.od))) ∧ Below w.heap.size w w' := by
 refine calls_of_wpM Tryd.func62 rfl ?_
 simp only [Tryd.ntmps62, List.size_toArray, List.length_cons, List.length_nil, Nat.reduceAdd, Nat.reduceSub, Array.replicate_succ, Array.replicate_zero, List.push_toArray, List.append_toArray, List.nil_append, List.cons_append]
 have hT' := Aside0.mk hT
 have hG' := Aside0.mk hG
 have hOk' := Aside0.mk hOk
 clear hT hG hOk
 have hn8 := Aside0.mk hOk'.out.n8
 obtain ⟨n, hn⟩ : ∃ n, n = G.ts.length := ⟨_, rfl⟩
 have hn' := Aside0.mk hn
 simp only [← hn]
 clear hn
 obtain ⟨A0, c0, A1, c1, A2, c2, A3, c3, A4, c4, hblk, _, _, ⟨hC2, _⟩, _⟩ := hG'.out
 have hblk' := Aside0.mk hblk
 have hC2' := Aside0.mk hC2
 clear hblk hC2
 go_wp2_with (first | (go_at_call 40; go_loud (refine (size_calls g G.gr _ (hG'.out.below ((Below.refl _ w).alloc (Nat.le_refl _) _))).mono ?_; rintro e w1 ⟨rfl, ⟨m1, rfl⟩⟩; simp only [show ((G.gr.ts.length : Nat) : Int) = (n : Int) from by rw [hn'.out]; rfl])) | ((with_reducible refine gate_dst (N := 9) rfl ?_); go_loud (refine mk_ints rfl _ _ rfl n rfl rfl (by rw [hn'.out]; exact hn8.out) ?_; have hc2 : ((((w.alloc (Obj.cells #[Value.pointer (some { block := g, off := 0 })] 49)).drewN m1).alloc (rowL (fnL n fun x => 0))).alloc (Obj.cells #[Value.slice (some { block := w.heap.size + 1, off := 0 }) n n] 24)).cell? ⟨g, 2, none⟩ = some (.slice A2 G.gr.od.length c2) := (blk_cell (blk_alloc (blk_alloc (show ((w.alloc (Obj.cells #[Value.pointer (some { block := g, off := 0 })] 49)).drewN m1).heap[g]? = _ from blk_alloc hblk'.out _) _) _) 2).trans rfl)))
 have hF4 : Fh w g (w.heap.size + 1) n (headsW (timeW G.ts) G.nd (G.od.take 0)) ((((w.alloc (Obj.cells #[Value.pointer (some { block := g, off := 0 })] 49)).drewN m1).alloc (rowL (fnL n fun x => 0))).alloc (Obj.cells #[Value.slice (some { block := w.heap.size + 1, off := 0 }) n n] 24)) := by
  have h1 := (Boxed.new w 49 (.pointer (some ⟨g, 0, none⟩)))
  have hB1 := pw_below_drewN ((Below.refl _ w).alloc (Nat.le_refl _) (Obj.cells #[Value.pointer (some { block := g, off := 0 })] 49)) m1
  have h1' : Boxed ((w.alloc (Obj.cells #[Value.pointer (some { block := g, off := 0 })] 49)).drewN m1) w.heap.size 49 (.pointer (some ⟨g, 0, none⟩)) := h1
  have hs1 : ((w.alloc (Obj.cells #[Value.pointer (some { block := g, off := 0 })] 49)).drewN m1).heap.size = w.heap.size + 1 := by simp [World.drewN]
  clear hc2 h1
  generalize (w.alloc (Obj.cells #[Value.pointer (some { block := g, off := 0 })] 49)).drewN m1 = W1 at *
  have h2 : (W1.alloc (rowL (fnL n fun x => 0))).heap[w.heap.size + 1]? = some (rowL (fnL n fun x => 0)) := by rw [← hs1]; exact World.alloc_heap_new W1 _
  have hs2 : (W1.alloc (rowL (fnL n fun x => 0))).heap.size = w.heap.size + 1 + 1 := by simp [hs1]
  have h3 := box_at (W1.alloc (rowL (fnL n fun x => 0))) 24 (slv (w.heap.size + 1) n) (w.heap.size + 1 + 1) hs2
  have hB2 := (hB1.alloc hB1.size (rowL (fnL n fun x => 0))).alloc (by omega) (Obj.cells #[Value.slice (some { block := w.heap.size + 1, off := 0 }) n n] 24)
  exact ⟨hB2, (h1'.alloc _).alloc _, blk_alloc h2 _, h3, h3⟩
 clear hc2
 generalize (((w.alloc (Obj.cells #[Value.pointer (some { block := g, off := 0 })] 49)).drewN m1).alloc (rowL (fnL n fun x => 0))).alloc (Obj.cells #[Value.slice (some { block := w.heap.size + 1, off := 0 }) n n] 24) = W4 at *
 have hF4' := Aside0.mk hF4
 clear hF4
 refine wp_loop_slots [5, 15, 16, 17, 18, 19, 20, 21, 22, 23, 24, 25, 26, 49] [undef, .int .i64 0, undef, undef, undef, undef, undef, undef, undef, undef, undef, undef, undef, undef] (fun kq vs ds W => ∃ j : Nat, ∃ u5 u16 u17 u18 u19 u20 u21 u22 u23 u24 u25 u26 u49, vs = [u5, .int .i64 (j : Int), u16, u17, u18, u19, u20, u21, u22, u23, u24, u25, u26, u49] ∧ Aside0 (kq + j = G.gr.od.length) ∧ Aside0 (Fh w g (w.heap.size + 1) n (headsW (timeW G.ts) G.nd (G.od.take j)) W) ∧ Aside0 (Marks w.heap.size ds W)) G.gr.od.length (by simp only [setAll, List.setIfInBounds_toArray, List.set_cons_zero, List.set_cons_succ]) ⟨0, undef, undef, undef, undef, undef, undef, undef, undef, undef, undef, undef, undef, undef, rfl, ⟨by omega⟩, hF4', ⟨Marks.nil _ _⟩⟩ ?_
 rintro gk vs ds W ⟨j, u5, u16, u17, u18, u19, u20, u21, u22, u23, u24, u25, u26, u49, rfl, hk, hF, hM⟩ K hK
 simp only [setAll, List.setIfInBounds_toArray, List.set_cons_zero, List.set_cons_succ]
 have hodl := Aside0.mk (show G.gr.od.length = G.od.length from nI_length _)
 have hol := Aside0.mk (show G.od.length ≤ 8 by
  have h1 := hOk'.out.n8
  have h2 := orderP_len G.nd
  rw [← hOk'.out.ord, hOk'.out.nl] at h2
  omega)
 by_cases hj : j < G.gr.od.length
 case neg =>
  obtain rfl : j = G.gr.od.length := by have := hk.out; omega
  have k2 := hF.out.ho.cell
  clear hK
  go_wp2
  have hall : G.od.take G.gr.od.length = G.od := by rw [hodl.out]; exact List.take_length
  have hF2 := hF.out
  rw [hall] at hF2
  refine retM (B := w.heap.size) (fun W => Fh w g (w.heap.size + 1) n (headsW (timeW G.ts) G.nd G.od) W) (own_Ft _ _ _ _ _ _ _ _ _ _ (Nat.le_refl _)) hM.out hF2 ?_
  intro W' h
  exact ⟨_, (results_tmp (t := 2) rfl _ _ _).trans rfl, _, rfl, by omega, h.hb, h.bel⟩
 case pos =>
  obtain ⟨o, ho⟩ : ∃ o : Nat, G.od[j]? = some o := ⟨_, List.getElem?_eq_getElem (by rw [← hodl.out]; exact hj)⟩
  have hk1 := Aside0.mk (show gk - 1 < gk by have := hk.out; omega)
  have hk2 := Aside0.mk (show gk - 1 + (j + 1) = G.gr.od.length by have := hk.out; omega)
  have hcast' := Aside0.mk (show wrap64 ((j : Int) + 1) = ((j + 1 : Nat) : Int) by have h1 := hol.out; have h2 := hodl.out; rw [IntWalk.wrap64_in _ (by omega)]; omega)
  have hon := Aside0.mk (show o < n by rw [hn'.out]; exact hOk'.out.omem o (List.mem_of_getElem? ho))
  have hjI : (j : Int) < (G.gr.od.length : Int) := by omega
  have hjb : decide ((j : Int) < (G.gr.od.length : Int)) = true := decide_eq_true hjI
  obtain ⟨adn, rfl, hxn⟩ := Kd.at_int (Kd.C_below hC2'.out hF.out.bel) (j : Int) (by omega) hjI
  have ho2 : rd G.gr.od (j : Int) = (o : Int) := by show rd (nI G.od) _ = _; rw [rd_nI, List.getD_eq_getElem?_getD, ho]; rfl
  simp only [Int.toNat_natCast, ho2] at hxn
  obtain ⟨sn, hsn⟩ : ∃ sn, G.nd.getD o 0 = sn := ⟨_, rfl⟩
  have hsn' := Aside0.mk hsn
  have hsb := Aside0.mk (show sn < 2 ^ G.ts.length by rw [← hsn]; exact hOk'.out.nlt o)
  clear hsn
  obtain ⟨f, hf⟩ : ∃ f, headsW (timeW G.ts) G.nd (G.od.take j) = f := ⟨_, rfl⟩
  have hstep := Aside0.mk (show headsW (timeW G.ts) G.nd (G.od.take (j + 1)) = (bitsN sn).foldl (headK (timeW G.ts) o) f by
   rw [← hf, ← hsn'.out]
   unfold headsW
   rw [List.take_add_one, ho, Option.toList_some, List.foldl_append]
   rfl)
  rw [hf] at hF
  clear hf
  obtain ⟨A0', c0', A1', c1', A2', c2', A3', c3', A4', c4', hblk2, _, ⟨hC1, _⟩, _⟩ := (hG'.out.below hF.out.bel)
  have hnl : o < G.gr.nd.length := by show o < (nI G.nd).length; rw [nI_length, hOk'.out.nl, ← hn'.out]; exact hon.out
  obtain ⟨ad2, rfl, hx1⟩ := Kd.at_int hC1 (o : Int) (by omega) (by omega)
  have hn2 : rd G.gr.nd (o : Int) = ((G.nd.getD o 0 : Nat) : Int) := rd_nI _ _
  simp only [Int.toNat_natCast, hn2, hsn'.out] at hx1
  clear hn2
  have hnlI : (o : Int) < (G.gr.nd.length : Int) := by omega
  have hx1' := cell_alloc hx1 (.cells #[.int .i64 (o : Int)] 3)
  have hg1 : (W.alloc (.cells #[.int .i64 (o : Int)] 3)).cell? ⟨g, 1, none⟩ = some (.slice (some ad2) G.gr.nd.length c1') := (blk_cell (blk_alloc hblk2 _) 1).trans rfl
  have k0 := (hF.out.hx.alloc (.cells #[.int .i64 (o : Int)] 3)).cell
  have hK' := Aside0.mk hK
  clear hK hx1 hblk2 hC1 hnl
  go_wp2_with (fail)
  have hF1 := Aside0.mk (hF.out.alloc (.cells #[.int .i64 (o : Int)] 3))
  have bX1 := Boxed.new W 3 (.int .i64 (o : Int))
  have hM1 := Aside0.mk (hM.out.block hM.out.ltOf (fun k hk => Below.heap_alloc W (.cells #[.int .i64 (o : Int)] 3) k hk))
  have hs1 : (W.alloc (.cells #[.int .i64 (o : Int)] 3)).heap.size = W.heap.size + 1 := by simp
  have hlt1 := Aside0.mk hM.out.ltOf
  have hqs : w.heap.size + 1 + 1 < W.heap.size := hF.out.ho.lt
  have kx := bX1.cell
  have bX1' := Aside0.mk bX1
  clear hF hM bX1
  generalize W.alloc (.cells #[.int .i64 (o : Int)] 3) = W1 at *
  generalize W.heap.size = q at *
  go_still_tail 7, (by kernel_rfl)
  go_wp2_with (go_at_call 54; refine (all_calls _ _).mono ?_; rintro e w' ⟨rfl, rfl⟩)
  have hF2 := (hF1.out.alloc (.cells #[.int .u16 (sn : Int)] 51)).drewN 1
  have bX2 : Boxed ((W1.alloc (.cells #[.int .u16 (sn : Int)] 51)).drewN 1) q 3 (.int .i64 (o : Int)) := bX1'.out.alloc _
  have hM2 : Marks w.heap.size ds ((W1.alloc (.cells #[.int .u16 (sn : Int)] 51)).drewN 1) := hM1.out.block (hlt1.out.le (show q ≤ W1.heap.size by omega)) (fun k hk => Below.heap_alloc W1 _ k hk)
  have hk2' : ((W1.alloc (.cells #[.int .u16 (sn : Int)] 51)).drewN 1).cell? ⟨q + 1, 0, none⟩ = some (.int .u16 (sn : Int)) := (box_at W1 51 (.int .u16 (sn : Int)) (q + 1) hs1).cell
  have hs2 : ((W1.alloc (.cells #[.int .u16 (sn : Int)] 51)).drewN 1).heap.size = q + 1 + 1 := by simp [World.drewN, hs1]
  change Code.wp _ _ _ _ ((W1.alloc (.cells #[.int .u16 (sn : Int)] 51)).drewN 1)
  clear hg1 k0 kx hx1' hxn hs1
  generalize (W1.alloc (.cells #[.int .u16 (sn : Int)] 51)).drewN 1 = W2 at *
  refine wp_all1 (q + 1) sn (lt256 hsb.out hn8.out) rfl (by omega) hk2' (hT'.out.below hF2.bel) rfl rfl rfl (by simp)
   (fun pre W => (Fh w g (w.heap.size + 1) n (pre.foldl (headK (timeW G.ts) o) f) W ∧ Boxed W q 3 (.int .i64 (o : Int))) ∧ Marks w.heap.size ds W) (fun _ _ _ => False)
   (OwnFrom.and (OwnFrom.and (own_Ft _ _ _ _ _ _ _ _ _ _ (by omega)) (own_box _ _ _ _)) (own_marks _ _ _ (hlt1.out.le (by omega)))) (fun _ _ _ _ _ hs _ _ => hs) ⟨⟨hF2, bX2⟩, hM2⟩ (fun pre W h => hT'.out.below h.1.1.bel) ?body ?done ?stop
  case stop => intro D c pre W _ _ h _; exact h.elim
  case body =>
   rintro l pre x W' hx8 hxs ⟨⟨hF3, bX3⟩, hM3⟩ hlen
   simp only [List.setIfInBounds_toArray, List.set_cons_zero, List.set_cons_succ]
   have hxn : x < n := by rw [hn'.out]; exact bit_lt hsb.out hxs
   generalize hfp : pre.foldl (headK (timeW G.ts) o) f = fp at *
   obtain ⟨A0', c0', A1', c1', A2', c2', A3', c3', A4', c4', hblk2, ⟨hC0, _⟩, _⟩ := (hG'.out.below hF3.bel)
   have hxI : (x : Int) < (n : Int) := by omega
   have hgn : (x : Int) < (G.gr.ts.length : Int) := by have := hn'.out; show (x : Int) < (G.ts.length : Int); omega
   obtain ⟨ad, B1, d1, rfl, hx0, _⟩ := at_T39 hC0 (x : Int) (by omega) hgn
   simp only [Int.toNat_natCast] at hx0
   have hg0 : W'.cell? ⟨g, 0, none⟩ = some (.slice (some ad) G.gr.ts.length c0') := (blk_cell hblk2 0).trans rfl
   have hoI : (o : Int) < (n : Int) := by have := hon.out; omega
   have k0 := hF3.hx.cell
   have k2 := hF3.ho.cell
   have kx := bX3.cell
   have ko := rowF_cell hF3.hb o hon.out
   have kk := rowF_cell hF3.hb x hxn
   have fk : W'.frozen? ⟨w.heap.size + 1, o, none⟩ = false := blk_frozen hF3.hb o
   have hF3' := Aside0.mk hF3
   have bX3' := Aside0.mk bX3
   have hM3' := Aside0.mk hM3
   have hfp' := Aside0.mk hfp
   have hz := Aside0.mk (show w.heap.size + 1 ≠ q by omega)
   clear hF3 bX3 hM3 hfp hF2 bX2 hM2 hk2' hs2 hK' hblk2 hC0
   gi_wp2
   refine wpIn_region_tail 20 (by rintro ⟨_, _, h⟩; exact h) (by kernel_rfl) (by kernel_rfl) (by kernel_rfl) ?_
   simp only [List.take_succ_cons, List.take_zero, List.drop_succ_cons, List.drop_zero]
   repeat still_step
   refine wpStill_nil ?_
   rw [show (if IntKind.i64.wrap (fp x + (rd_T39 G.gr.ts (x : Int)).f0) > fp o then IntKind.i64.wrap (fp x + (rd_T39 G.gr.ts (x : Int)).f0) else fp o) = mx (fp o) (wrap64 (fp x + (rd_T39 G.gr.ts (x : Int)).f0)) from by simp only [i64_w]; rfl]
   go_wp2
   have hgr := grown_set W' 1 (w.heap.size + 1) o (Value.int IntKind.i64 (mx (fp o) (wrap64 (fp x + (rd_T39 G.gr.ts (x : Int)).f0))))
   refine ⟨((KeepsOthers.setCell _ _ _).trans (KeepsOthers.drew _)).from _, ⟨?_, ?_⟩, hM3'.out.keeps (((KeepsOthers.setCell _ _ _).trans (KeepsOthers.drew _)).from _)⟩
   ·rw [List.foldl_append, hfp'.out]
    exact hF3'.out.put (by omega) (by omega) 1 o _
   ·exact bX3'.out.kept hgr (fun e => hz.out (by injection e with e; exact e.symm))
  case done =>
   rintro D W' hD ⟨⟨hF3, bX3⟩, hM3⟩ hK3
   have hM6 := Aside0.mk (hM3.cons (D := D) (by omega) hK3 (hlt1.out.le (by omega)))
   have hF3' := Aside0.mk hF3
   clear hF3 bX3 hM3 hF2 bX2 hM2 hk2' hs2 hK3
   go_wp2
   rw [← hstep.out] at hF3'
   have h := fun (v5 v16 v17 v18 v19 v20 v21 v22 v23 v24 v25 v26 v49 : Value) => hK'.out (gk - 1) [v5, .int .i64 ((j + 1 : Nat) : Int), v16, v17, v18, v19, v20, v21, v22, v23, v24, v25, v26, v49] (markOf D :: ds) W' hk1.out ⟨j + 1, v5, v16, v17, v18, v19, v20, v21, v22, v23, v24, v25, v26, v49, rfl, hk2, hF3', hM6⟩
   simp only [setAll, List.setIfInBounds_toArray, List.set_cons_zero, List.set_cons_succ] at h
   have hcast := hcast'.out
   rw [hcast]
   exact h _ _ _ _ _ _ _ _ _ _ _ _ _
end Go.Proofs.YtajapkjplgaigaaDoor.P
end
section
namespace Go.Proofs.YtajapkjplgaigaaDoor.P
open Go.RowKit Go.Shelf Go.Proofs.YtajapkjplgaigaaDoorW.PrintWords Go.Proofs.YtajapkjplgaigaaDoorW.PrintLast Go.Proofs.YtajapkjplgaigaaDoorW.PrintMore
attribute [local go_sem] Oper.semAt_some
attribute [local go_sem] max2_int min2_int max_two min_two max_three min_three max_four min_four
set_option linter.unusedVariables false
set_option linter.unusedSimpArgs false
structure Fs (w : World) (b q2 n : Nat) (f : Nat → Int) (W : World) : Prop where
 bel : Below w.heap.size w W
 hb : W.heap[b]? = some (rowL (fnL n f))
 ho : Boxed W q2 24 (slv b n)
theorem own_Fs {β : Type} (w : World) (b q2 n : Nat) (f : β → Nat → Int) (B : Nat) (hB : w.heap.size ≤ B) : OwnFrom B (fun s W => Fs w b q2 n (f s) W) := by
 intro s W W' row h hg hr
 exact ⟨(ownFrom_below (Nat.le_refl _) hB) s W W' row h.bel hg hr, own_blk B b (fun s => ((fnL n (f s)).map (Value.int .i64)).toArray) _ s W W' row h.hb hg hr, own_box B q2 _ (fun _ => _) s W W' row h.ho hg hr⟩
theorem Fs.alloc {w W : World} {b q2 n : Nat} {f : Nat → Int} (h : Fs w b q2 n f W) (o : Obj) : Fs w b q2 n f (W.alloc o) :=
 ⟨h.bel.alloc h.bel.size o, blk_alloc h.hb o, h.ho.alloc o⟩
theorem Fs.drewN {w W : World} {b q2 n : Nat} {f : Nat → Int} (h : Fs w b q2 n f W) (m : Nat) : Fs w b q2 n f (W.drewN m) := ⟨pw_below_drewN h.bel m, h.hb, h.ho⟩
theorem Fs.put {w W : World} {b q2 n : Nat} {f : Nat → Int} (h : Fs w b q2 n f W) (hge : w.heap.size ≤ b) (m i : Nat) (v : Int) : Fs w b q2 n (fun k => if k = i then v else f k) ((W.drewN m).setCell ⟨b, i, none⟩ (.int .i64 v)) := by
 have hg := grown_set W m b i (.int .i64 v)
 exact ⟨(pw_below_drewN h.bel m).setCell hge _, rowF_set (W := W.drewN m) h.hb i v, blk_grown h.ho hg (fun e => blk_ne h.hb h.ho (by decide) (by injection e with e; exact e.symm))⟩
set_option maxRecDepth 100000 in
set_option maxHeartbeats 4000000 in
theorem stages_calls (g : Nat) (G : GrN) (hOk : GOk G) (w : World) (hG : IsG w g G.gr) (hT : TabOK w) :
  Calls Tryd.prog 63 #[.pointer (some ⟨g, 0, none⟩)] w fun e w' => ∃ b, e = .returned (slv b G.ts.length) ∧ w.heap.size ≤ b ∧ w'.heap[b]? = some (rowL (fnL G.ts.length (headsW (fun _ => 1) G.nd G.od))) ∧ Below w.heap.size w w' := by
 refine calls_of_wpM Tryd.func63 rfl ?_
 simp only [Tryd.ntmps63, List.size_toArray, List.length_cons, List.length_nil, Nat.reduceAdd, Nat.reduceSub, Array.replicate_succ, Array.replicate_zero, List.push_toArray, List.append_toArray, List.nil_append, List.cons_append]
 have hT' := Aside0.mk hT
 have hG' := Aside0.mk hG
 have hOk' := Aside0.mk hOk
 clear hT hG hOk
 have hn8 := Aside0.mk hOk'.out.n8
 obtain ⟨n, hn⟩ : ∃ n, n = G.ts.length := ⟨_, rfl⟩
 have hn' := Aside0.mk hn
 simp only [← hn]
 clear hn
 obtain ⟨A0, c0, A1, c1, A2, c2, A3, c3, A4, c4, hblk, _, _, ⟨hC2, _⟩, _⟩ := hG'.out
 have hblk' := Aside0.mk hblk
 have hC2' := Aside0.mk hC2
 clear hblk hC2
 go_wp2_with (first | (go_at_call 40; go_loud (refine (size_calls g G.gr _ hG'.out).mono ?_; rintro e w1 ⟨rfl, ⟨m1, rfl⟩⟩; simp only [show ((G.gr.ts.length : Nat) : Int) = (n : Int) from by rw [hn'.out]; rfl])) | ((with_reducible refine gate_dst (N := 9) rfl ?_); go_loud (refine mk_ints rfl _ _ rfl n rfl rfl (by rw [hn'.out]; exact hn8.out) ?_; have hc2 : (((w.drewN m1).alloc (rowL (fnL n fun x => 0))).alloc (Obj.cells #[Value.slice (some { block := w.heap.size, off := 0 }) n n] 24)).cell? ⟨g, 2, none⟩ = some (.slice A2 G.gr.od.length c2) := (blk_cell (blk_alloc (blk_alloc (show (w.drewN m1).heap[g]? = _ from hblk'.out) _) _) 2).trans rfl)))
 have hF4 : Fs w w.heap.size (w.heap.size + 1) n (headsW (fun _ => 1) G.nd (G.od.take 0)) (((w.drewN m1).alloc (rowL (fnL n fun x => 0))).alloc (Obj.cells #[Value.slice (some { block := w.heap.size, off := 0 }) n n] 24)) := by
  have h2 : ((w.drewN m1).alloc (rowL (fnL n fun x => 0))).heap[w.heap.size]? = some (rowL (fnL n fun x => 0)) := World.alloc_heap_new (w.drewN m1) _
  have h3 := box_at ((w.drewN m1).alloc (rowL (fnL n fun x => 0))) 24 (slv w.heap.size n) (w.heap.size + 1) (by simp [World.drewN])
  have hB1 := pw_below_drewN (Below.refl w.heap.size w) m1
  have hB2 := (hB1.alloc hB1.size (rowL (fnL n fun x => 0)))
  exact ⟨hB2.alloc hB2.size _, blk_alloc h2 _, h3⟩
 clear hc2
 generalize ((w.drewN m1).alloc (rowL (fnL n fun x => 0))).alloc (Obj.cells #[Value.slice (some { block := w.heap.size, off := 0 }) n n] 24) = W4 at *
 have hF4' := Aside0.mk hF4
 clear hF4
 refine wp_loop_slots [5, 15, 16, 17, 18, 19, 20, 21, 22, 23, 24, 25, 26, 41] [undef, .int .i64 0, undef, undef, undef, undef, undef, undef, undef, undef, undef, undef, undef, undef] (fun kq vs ds W => ∃ j : Nat, ∃ u5 u16 u17 u18 u19 u20 u21 u22 u23 u24 u25 u26 u41, vs = [u5, .int .i64 (j : Int), u16, u17, u18, u19, u20, u21, u22, u23, u24, u25, u26, u41] ∧ Aside0 (kq + j = G.gr.od.length) ∧ Aside0 (Fs w w.heap.size (w.heap.size + 1) n (headsW (fun _ => 1) G.nd (G.od.take j)) W) ∧ Aside0 (Marks w.heap.size ds W)) G.gr.od.length (by simp only [setAll, List.setIfInBounds_toArray, List.set_cons_zero, List.set_cons_succ]) ⟨0, undef, undef, undef, undef, undef, undef, undef, undef, undef, undef, undef, undef, undef, rfl, ⟨by omega⟩, hF4', ⟨Marks.nil _ _⟩⟩ ?_
 rintro gk vs ds W ⟨j, u5, u16, u17, u18, u19, u20, u21, u22, u23, u24, u25, u26, u41, rfl, hk, hF, hM⟩ K hK
 simp only [setAll, List.setIfInBounds_toArray, List.set_cons_zero, List.set_cons_succ]
 have hodl := Aside0.mk (show G.gr.od.length = G.od.length from nI_length _)
 have hol := Aside0.mk (show G.od.length ≤ 8 by
  have h1 := hOk'.out.n8
  have h2 := orderP_len G.nd
  rw [← hOk'.out.ord, hOk'.out.nl] at h2
  omega)
 by_cases hj : j < G.gr.od.length
 case neg =>
  obtain rfl : j = G.gr.od.length := by have := hk.out; omega
  have k2 := hF.out.ho.cell
  clear hK
  go_wp2
  have hall : G.od.take G.gr.od.length = G.od := by rw [hodl.out]; exact List.take_length
  have hF2 := hF.out
  rw [hall] at hF2
  refine retM (B := w.heap.size) (fun W => Fs w w.heap.size (w.heap.size + 1) n (headsW (fun _ => 1) G.nd G.od) W) (own_Fs _ _ _ _ _ _ (Nat.le_refl _)) hM.out hF2 ?_
  intro W' h
  exact ⟨_, (results_tmp (t := 2) rfl _ _ _).trans rfl, _, rfl, by omega, h.hb, h.bel⟩
 case pos =>
  obtain ⟨o, ho⟩ : ∃ o : Nat, G.od[j]? = some o := ⟨_, List.getElem?_eq_getElem (by rw [← hodl.out]; exact hj)⟩
  have hk1 := Aside0.mk (show gk - 1 < gk by have := hk.out; omega)
  have hk2 := Aside0.mk (show gk - 1 + (j + 1) = G.gr.od.length by have := hk.out; omega)
  have hcast' := Aside0.mk (show wrap64 ((j : Int) + 1) = ((j + 1 : Nat) : Int) by have h1 := hol.out; have h2 := hodl.out; rw [IntWalk.wrap64_in _ (by omega)]; omega)
  have hon := Aside0.mk (show o < n by rw [hn'.out]; exact hOk'.out.omem o (List.mem_of_getElem? ho))
  have hjI : (j : Int) < (G.gr.od.length : Int) := by omega
  have hjb : decide ((j : Int) < (G.gr.od.length : Int)) = true := decide_eq_true hjI
  obtain ⟨adn, rfl, hxn⟩ := Kd.at_int (Kd.C_below hC2'.out hF.out.bel) (j : Int) (by omega) hjI
  have ho2 : rd G.gr.od (j : Int) = (o : Int) := by show rd (nI G.od) _ = _; rw [rd_nI, List.getD_eq_getElem?_getD, ho]; rfl
  simp only [Int.toNat_natCast, ho2] at hxn
  obtain ⟨sn, hsn⟩ : ∃ sn, G.nd.getD o 0 = sn := ⟨_, rfl⟩
  have hsn' := Aside0.mk hsn
  have hsb := Aside0.mk (show sn < 2 ^ G.ts.length by rw [← hsn]; exact hOk'.out.nlt o)
  clear hsn
  obtain ⟨f, hf⟩ : ∃ f, headsW (fun _ => 1) G.nd (G.od.take j) = f := ⟨_, rfl⟩
  have hstep := Aside0.mk (show headsW (fun _ => 1) G.nd (G.od.take (j + 1)) = (bitsN sn).foldl (headK (fun _ => 1) o) f by
   rw [← hf, ← hsn'.out]
   unfold headsW
   rw [List.take_add_one, ho, Option.toList_some, List.foldl_append]
   rfl)
  rw [hf] at hF
  clear hf
  obtain ⟨A0', c0', A1', c1', A2', c2', A3', c3', A4', c4', hblk2, _, ⟨hC1, _⟩, _⟩ := (hG'.out.below hF.out.bel)
  have hnl : o < G.gr.nd.length := by show o < (nI G.nd).length; rw [nI_length, hOk'.out.nl, ← hn'.out]; exact hon.out
  obtain ⟨ad2, rfl, hx1⟩ := Kd.at_int hC1 (o : Int) (by omega) (by omega)
  have hn2 : rd G.gr.nd (o : Int) = ((G.nd.getD o 0 : Nat) : Int) := rd_nI _ _
  simp only [Int.toNat_natCast, hn2, hsn'.out] at hx1
  clear hn2
  have hnlI : (o : Int) < (G.gr.nd.length : Int) := by omega
  have hx1' := cell_alloc hx1 (.cells #[.int .i64 (o : Int)] 3)
  have hg1 : (W.alloc (.cells #[.int .i64 (o : Int)] 3)).cell? ⟨g, 1, none⟩ = some (.slice (some ad2) G.gr.nd.length c1') := (blk_cell (blk_alloc hblk2 _) 1).trans rfl
  have hK' := Aside0.mk hK
  clear hK hx1 hblk2 hC1 hnl
  go_wp2_with (fail)
  have hF1 := Aside0.mk (hF.out.alloc (.cells #[.int .i64 (o : Int)] 3))
  have bX1 := Boxed.new W 3 (.int .i64 (o : Int))
  have hM1 := Aside0.mk (hM.out.block hM.out.ltOf (fun k hk => Below.heap_alloc W (.cells #[.int .i64 (o : Int)] 3) k hk))
  have hs1 : (W.alloc (.cells #[.int .i64 (o : Int)] 3)).heap.size = W.heap.size + 1 := by simp
  have hlt1 := Aside0.mk hM.out.ltOf
  have hqs : w.heap.size + 1 < W.heap.size := hF.out.ho.lt
  have kx := bX1.cell
  have bX1' := Aside0.mk bX1
  clear hF hM bX1
  generalize W.alloc (.cells #[.int .i64 (o : Int)] 3) = W1 at *
  generalize W.heap.size = q at *
  go_still_tail 7, (by kernel_rfl)
  go_wp2_with (go_at_call 54; refine (all_calls _ _).mono ?_; rintro e w' ⟨rfl, rfl⟩)
  have hF2 := (hF1.out.alloc (.cells #[.int .u16 (sn : Int)] 51)).drewN 1
  have bX2 : Boxed ((W1.alloc (.cells #[.int .u16 (sn : Int)] 51)).drewN 1) q 3 (.int .i64 (o : Int)) := bX1'.out.alloc _
  have hM2 : Marks w.heap.size ds ((W1.alloc (.cells #[.int .u16 (sn : Int)] 51)).drewN 1) := hM1.out.block (hlt1.out.le (show q ≤ W1.heap.size by omega)) (fun k hk => Below.heap_alloc W1 _ k hk)
  have hk2' : ((W1.alloc (.cells #[.int .u16 (sn : Int)] 51)).drewN 1).cell? ⟨q + 1, 0, none⟩ = some (.int .u16 (sn : Int)) := (box_at W1 51 (.int .u16 (sn : Int)) (q + 1) hs1).cell
  have hs2 : ((W1.alloc (.cells #[.int .u16 (sn : Int)] 51)).drewN 1).heap.size = q + 1 + 1 := by simp [World.drewN, hs1]
  change Code.wp _ _ _ _ ((W1.alloc (.cells #[.int .u16 (sn : Int)] 51)).drewN 1)
  clear hg1 kx hx1' hxn hs1
  generalize (W1.alloc (.cells #[.int .u16 (sn : Int)] 51)).drewN 1 = W2 at *
  refine wp_all1 (q + 1) sn (lt256 hsb.out hn8.out) rfl (by omega) hk2' (hT'.out.below hF2.bel) rfl rfl rfl (by simp)
   (fun pre W => (Fs w w.heap.size (w.heap.size + 1) n (pre.foldl (headK (fun _ => 1) o) f) W ∧ Boxed W q 3 (.int .i64 (o : Int))) ∧ Marks w.heap.size ds W) (fun _ _ _ => False)
   (OwnFrom.and (OwnFrom.and (own_Fs _ _ _ _ _ _ (by omega)) (own_box _ _ _ _)) (own_marks _ _ _ (hlt1.out.le (by omega)))) (fun _ _ _ _ _ hs _ _ => hs) ⟨⟨hF2, bX2⟩, hM2⟩ (fun pre W h => hT'.out.below h.1.1.bel) ?body ?done ?stop
  case stop => intro D c pre W _ _ h _; exact h.elim
  case body =>
   rintro l pre x W' hx8 hxs ⟨⟨hF3, bX3⟩, hM3⟩ hlen
   simp only [List.setIfInBounds_toArray, List.set_cons_zero, List.set_cons_succ]
   have hxn : x < n := by rw [hn'.out]; exact bit_lt hsb.out hxs
   generalize hfp : pre.foldl (headK (fun _ => 1) o) f = fp at *
   have hxI : (x : Int) < (n : Int) := by omega
   have hoI : (o : Int) < (n : Int) := by have := hon.out; omega
   have k2 := hF3.ho.cell
   have kx := bX3.cell
   have ko := rowF_cell hF3.hb o hon.out
   have kk := rowF_cell hF3.hb x hxn
   have fk : W'.frozen? ⟨w.heap.size, o, none⟩ = false := blk_frozen hF3.hb o
   have hF3' := Aside0.mk hF3
   have bX3' := Aside0.mk bX3
   have hM3' := Aside0.mk hM3
   have hfp' := Aside0.mk hfp
   have hz := Aside0.mk (show w.heap.size ≠ q by omega)
   clear hF3 bX3 hM3 hfp hF2 bX2 hM2 hk2' hs2 hK'
   gi_wp2
   refine wpIn_region_tail 12 (by rintro ⟨_, _, h⟩; exact h) (by kernel_rfl) (by kernel_rfl) (by kernel_rfl) ?_
   simp only [List.take_succ_cons, List.take_zero, List.drop_succ_cons, List.drop_zero]
   repeat still_step
   refine wpStill_nil ?_
   rw [show (if IntKind.i64.wrap (fp x + 1) > fp o then IntKind.i64.wrap (fp x + 1) else fp o) = mx (fp o) (wrap64 (fp x + 1)) from by simp only [i64_w]; rfl]
   go_wp2
   have hgr := grown_set W' 1 w.heap.size o (Value.int IntKind.i64 (mx (fp o) (wrap64 (fp x + 1))))
   refine ⟨((KeepsOthers.setCell _ _ _).trans (KeepsOthers.drew _)).from _, ⟨?_, ?_⟩, hM3'.out.keeps (((KeepsOthers.setCell _ _ _).trans (KeepsOthers.drew _)).from _)⟩
   ·rw [List.foldl_append, hfp'.out]
    exact hF3'.out.put (by omega) 1 o _
   ·exact bX3'.out.kept hgr (fun e => hz.out (by injection e with e; exact e.symm))
  case done =>
   rintro D W' hD ⟨⟨hF3, bX3⟩, hM3⟩ hK3
   have hM6 := Aside0.mk (hM3.cons (D := D) (by omega) hK3 (hlt1.out.le (by omega)))
   have hF3' := Aside0.mk hF3
   clear hF3 bX3 hM3 hF2 bX2 hM2 hk2' hs2 hK3
   go_wp2
   rw [← hstep.out] at hF3'
   have h := fun (v5 v16 v17 v18 v19 v20 v21 v22 v23 v24 v25 v26 v41 : Value) => hK'.out (gk - 1) [v5, .int .i64 ((j + 1 : Nat) : Int), v16, v17, v18, v19, v20, v21, v22, v23, v24, v25, v26, v41] (markOf D :: ds) W' hk1.out ⟨j + 1, v5, v16, v17, v18, v19, v20, v21, v22, v23, v24, v25, v26, v41, rfl, hk2, hF3', hM6⟩
   simp only [setAll, List.setIfInBounds_toArray, List.set_cons_zero, List.set_cons_succ] at h
   have hcast := hcast'.out
   rw [hcast]
   exact h _ _ _ _ _ _ _ _ _ _ _ _ _
end Go.Proofs.YtajapkjplgaigaaDoor.P
end
section
namespace Go.Proofs.YtajapkjplgaigaaDoor.P
open Go.RowKit Go.Shelf Go.Proofs.YtajapkjplgaigaaDoorW.PrintWords Go.Proofs.YtajapkjplgaigaaDoorW.PrintLast Go.Proofs.YtajapkjplgaigaaDoorW.PrintMore
attribute [local go_sem] Oper.semAt_some
set_option linter.unusedVariables false
set_option linter.unusedSimpArgs false
def uselessK (nd bl : List Nat) (i : Nat) (o k : Nat) : Nat := o ||| (nd.getD i 0 &&& bl.getD k 0)
def uselessN (nd bl : List Nat) (i : Nat) : Nat := (bitsN (nd.getD i 0)).foldl (uselessK nd bl i) 0
theorem useless_lt {nd bl : List Nat} {i n : Nat} (h : nd.getD i 0 < 2 ^ n) : ∀ (l : List Nat) (o : Nat), o < 2 ^ n → l.foldl (uselessK nd bl i) o < 2 ^ n
 | [], o, ho => ho
 | k :: l, o, ho => by
  rw [List.foldl_cons]
  exact useless_lt h l _ (or_lt8 ho (Nat.lt_of_le_of_lt Nat.and_le_left h))
structure Fu (w : World) (g q : Nat) (i s : Nat) (W : World) : Prop where
 bel : Below w.heap.size w W
 hx : Boxed W q 49 (.pointer (some ⟨g, 0, none⟩))
 hi : Boxed W (q + 1) 3 (.int .i64 (i : Int))
 ho : Boxed W (q + 1 + 1) 51 (.int .u16 (s : Int))
theorem own_Fu {β : Type} (w : World) (g q i : Nat) (s : β → Nat) (B : Nat) (hB : w.heap.size ≤ B) : OwnFrom B (fun x W => Fu w g q i (s x) W) := by
 intro x W W' row h hg hr
 exact ⟨(ownFrom_below (Nat.le_refl _) hB) x W W' row h.bel hg hr, own_box B q _ (fun _ => _) x W W' row h.hx hg hr, own_box B (q + 1) _ (fun _ => _) x W W' row h.hi hg hr, own_box B (q + 1 + 1) _ (fun x => .int .u16 ((s x : Nat) : Int)) x W W' row h.ho hg hr⟩
theorem Fu.alloc {w W : World} {g q i s : Nat} (h : Fu w g q i s W) (o : Obj) : Fu w g q i s (W.alloc o) := ⟨h.bel.alloc h.bel.size o, h.hx.alloc o, h.hi.alloc o, h.ho.alloc o⟩
theorem Fu.drewN {w W : World} {g q i s : Nat} (h : Fu w g q i s W) (m : Nat) : Fu w g q i s (W.drewN m) := ⟨pw_below_drewN h.bel m, h.hx, h.hi, h.ho⟩
theorem Fu.put {w W : World} {g q i s : Nat} (h : Fu w g q i s W) (hge : w.heap.size ≤ q) (m s' : Nat) : Fu w g q i s' ((W.drewN m).setCell ⟨q + 1 + 1, 0, none⟩ (.int .u16 (s' : Int))) := by
 have hg := grown_set W m (q + 1 + 1) 0 (.int .u16 (s' : Int))
 exact ⟨(pw_below_drewN h.bel m).setCell (show w.heap.size ≤ q + 1 + 1 by omega) _, blk_grown h.hx hg (fun e => by injection e; omega), blk_grown h.hi hg (fun e => by injection e; omega), (blk_set (w := W.drewN m) h.ho 0 _).trans rfl⟩
set_option maxRecDepth 100000 in
set_option maxHeartbeats 4000000 in
theorem useless_calls (g : Nat) (G : GrN) (hOk : GOk G) (i : Nat) (hi : i < G.ts.length) (w : World) (hG : IsG w g G.gr) (hT : TabOK w) :
  Calls Tryd.prog 59 #[.pointer (some ⟨g, 0, none⟩), .int .i64 (i : Int)] w fun e w' => e = .returned (.int .u16 ((uselessN G.nd G.bl i : Nat) : Int)) ∧ Below w.heap.size w w' := by
 refine calls_of_wpM Tryd.func59 rfl ?_
 simp only [Tryd.ntmps59, List.size_toArray, List.length_cons, List.length_nil, Nat.reduceAdd, Nat.reduceSub, Array.replicate_succ, Array.replicate_zero, List.push_toArray, List.append_toArray, List.nil_append, List.cons_append]
 have hT' := Aside0.mk hT
 have hG' := Aside0.mk hG
 have hOk' := Aside0.mk hOk
 have hi' := Aside0.mk hi
 clear hT hG hOk hi
 have hn8 := Aside0.mk hOk'.out.n8
 go_wp2_with (fail)
 obtain ⟨q, hq⟩ : ∃ q, q = w.heap.size := ⟨_, rfl⟩
 have hF0 : Fu w g q i 0 (((w.alloc (.cells #[.pointer (some ⟨g, 0, none⟩)] 49)).alloc (.cells #[.int .i64 (i : Int)] 3)).alloc (.cells #[.int .u16 0] 51)) := by
  subst hq
  exact ⟨(((Below.refl _ w).alloc (Nat.le_refl _) _).alloc (by simp) _).alloc (by simp; omega) _, ((Boxed.new w _ _).alloc _).alloc _, (box_at _ _ _ _ (by simp)).alloc _, box_at _ _ _ _ (by simp)⟩
 have hs0 : (((w.alloc (.cells #[.pointer (some ⟨g, 0, none⟩)] 49)).alloc (.cells #[.int .i64 (i : Int)] 3)).alloc (.cells #[.int .u16 0] 51)).heap.size = q + 1 + 1 + 1 := by simp [hq]
 simp only [← hq]
 have hq' := Aside0.mk hq
 clear hq
 generalize ((w.alloc (.cells #[.pointer (some ⟨g, 0, none⟩)] 49)).alloc (.cells #[.int .i64 (i : Int)] 3)).alloc (.cells #[.int .u16 0] 51) = W1 at *
 obtain ⟨A0', c0', A1', c1', A2', c2', A3', c3', A4', c4', hblk, _, ⟨hC1, _⟩, _⟩ := (hG'.out.below hF0.bel)
 have hnl : i < G.gr.nd.length := by show i < (nI G.nd).length; rw [nI_length, hOk'.out.nl]; exact hi'.out
 obtain ⟨ad2, rfl, hx1⟩ := Kd.at_int hC1 (i : Int) (by omega) (by omega)
 obtain ⟨sn, hsn⟩ : ∃ sn, G.nd.getD i 0 = sn := ⟨_, rfl⟩
 have hsn' := Aside0.mk hsn
 have hsb := Aside0.mk (show sn < 2 ^ G.ts.length by rw [← hsn]; exact hOk'.out.nlt i)
 have hn2 : rd G.gr.nd (i : Int) = ((G.nd.getD i 0 : Nat) : Int) := rd_nI _ _
 simp only [Int.toNat_natCast, hn2, hsn] at hx1
 clear hn2 hsn
 have hnlI : (i : Int) < (G.gr.nd.length : Int) := by omega
 have hg1 : W1.cell? ⟨g, 1, none⟩ = some (.slice (some ad2) G.gr.nd.length c1') := (blk_cell hblk 1).trans rfl
 have k0 := hF0.hx.cell
 have k1 := hF0.hi.cell
 have hF0' := Aside0.mk hF0
 clear hF0 hblk hC1 hnl
 go_still_tail 7, (by kernel_rfl)
 go_wp2_with (go_at_call 54; refine (all_calls _ _).mono ?_; rintro e w' ⟨rfl, rfl⟩)
 have hF2 := (hF0'.out.alloc (.cells #[.int .u16 (sn : Int)] 51)).drewN 1
 have hk2 : ((W1.alloc (.cells #[.int .u16 (sn : Int)] 51)).drewN 1).cell? ⟨W1.heap.size, 0, none⟩ = some (.int .u16 (sn : Int)) := (Boxed.new W1 51 (.int .u16 (sn : Int))).cell
 have hs2 : ((W1.alloc (.cells #[.int .u16 (sn : Int)] 51)).drewN 1).heap.size = W1.heap.size + 1 := by simp [World.drewN]
 change Code.wp _ _ _ _ ((W1.alloc (.cells #[.int .u16 (sn : Int)] 51)).drewN 1)
 clear hg1 k0 k1 hx1
 generalize (W1.alloc (.cells #[.int .u16 (sn : Int)] 51)).drewN 1 = W2 at *
 rw [hs0] at hs2 hk2
 try rw [hs0]
 clear hs0
 have hqw := Aside0.mk (show w.heap.size ≤ q by have := hq'.out; omega)
 refine wp_all1 (q + 1 + 1 + 1) sn (lt256 hsb.out hn8.out) rfl (by omega) hk2 (hT'.out.below hF2.bel) rfl rfl rfl (by simp)
  (fun pre W => Fu w g q i (pre.foldl (uselessK G.nd G.bl i) 0) W) (fun _ _ _ => False)
  (own_Fu _ _ _ _ _ _ (by have := hqw.out; omega)) (fun _ _ _ _ _ hs _ _ => hs) hF2 (fun pre W h => hT'.out.below h.bel) ?body ?done ?stop
 case stop => intro D c pre W _ _ h _; exact h.elim
 case body =>
  rintro l pre x W' hx8 hxs hF3 hlen
  simp only [List.setIfInBounds_toArray, List.set_cons_zero, List.set_cons_succ]
  have hxn : x < G.ts.length := bit_lt hsb.out hxs
  generalize hfp : pre.foldl (uselessK G.nd G.bl i) 0 = fp at *
  have hfl := Aside0.mk (show fp < 2 ^ G.ts.length by rw [← hfp]; exact useless_lt (hOk'.out.nlt i) pre 0 (Nat.two_pow_pos _))
  obtain ⟨A0', c0', A1', c1', A2', c2', A3', c3', A4', c4', hblk2, _, ⟨hC1, _⟩, _, ⟨hC3, _⟩, _⟩ := (hG'.out.below hF3.bel)
  have hnl : i < G.gr.nd.length := by show i < (nI G.nd).length; rw [nI_length, hOk'.out.nl]; exact hi'.out
  have hbl : x < G.gr.bl.length := by show x < (nI G.bl).length; rw [nI_length, hOk'.out.bl.1]; exact hxn
  obtain ⟨ad2, rfl, hx1⟩ := Kd.at_int hC1 (i : Int) (by omega) (by omega)
  obtain ⟨ad3, rfl, hx3⟩ := Kd.at_int hC3 (x : Int) (by omega) (by omega)
  obtain ⟨sb, hsb2⟩ : ∃ sb, G.bl.getD x 0 = sb := ⟨_, rfl⟩
  have hsb2' := Aside0.mk hsb2
  have hsbl := Aside0.mk (show sb < 2 ^ G.ts.length by rw [← hsb2]; exact hOk'.out.bl.get x)
  have hn2 : rd G.gr.nd (i : Int) = ((G.nd.getD i 0 : Nat) : Int) := rd_nI _ _
  have hb2 : rd G.gr.bl (x : Int) = ((G.bl.getD x 0 : Nat) : Int) := rd_nI _ _
  simp only [Int.toNat_natCast, hn2, hb2, hsn'.out, hsb2] at hx1 hx3
  clear hn2 hb2 hsb2
  have hnlI : (i : Int) < (G.gr.nd.length : Int) := by omega
  have hblI : (x : Int) < (G.gr.bl.length : Int) := by omega
  have hg1 : W'.cell? ⟨g, 1, none⟩ = some (.slice (some ad2) G.gr.nd.length c1') := (blk_cell hblk2 1).trans rfl
  have hg3 : W'.cell? ⟨g, 3, none⟩ = some (.slice (some ad3) G.gr.bl.length c3') := (blk_cell hblk2 3).trans rfl
  have k0 := hF3.hx.cell
  have k1 := hF3.hi.cell
  have k2 := hF3.ho.cell
  have f2 := hF3.ho.frozen
  have hF3' := Aside0.mk hF3
  have hfp' := Aside0.mk hfp
  clear hF3 hfp hF2 hk2 hs2 hblk2 hC1 hC3 hnl hbl
  gi_wp2
  refine wpIn_region_tail 17 (by rintro ⟨_, _, h⟩; exact h) (by kernel_rfl) (by kernel_rfl) (by kernel_rfl) ?_
  simp only [List.take_succ_cons, List.take_zero, List.drop_succ_cons, List.drop_zero]
  repeat still_step
  refine wpStill_nil ?_
  have hval : Go.bits .or .u16 (fp : Int) (Go.bits .and .u16 (sn : Int) (sb : Int)) = ((fp ||| (sn &&& sb) : Nat) : Int) := by
   have l1 := lt256 hsb.out hn8.out
   have l2 := lt256 hsbl.out hn8.out
   have l3 := lt256 hfl.out hn8.out
   rw [andI_nat sn sb l1 l2, orI_nat _ _ l3 (Nat.lt_of_le_of_lt Nat.and_le_left l1)]
  rw [hval]
  go_wp2
  refine ⟨((KeepsOthers.setCell _ _ _).trans (KeepsOthers.drew _)).from _, ?_⟩
  show Fu w g q i ((pre ++ [x]).foldl (uselessK G.nd G.bl i) 0) _
  rw [List.foldl_append, hfp'.out]
  show Fu w g q i (fp ||| (G.nd.getD i 0 &&& G.bl.getD x 0)) _
  rw [hsn'.out, hsb2'.out]
  exact hF3'.out.put hqw.out 1 _
 case done =>
  rintro D W' hD hF3 hK
  have k2 := hF3.ho.cell
  have hF3' := Aside0.mk hF3
  have hK' := Aside0.mk hK
  clear hF3 hK hF2 hk2
  go_wp2
  refine retM (B := w.heap.size) (fun W => Below w.heap.size w W) (ownFrom_below (Nat.le_refl _) (Nat.le_refl _)) ⟨⟨D, rfl, by have := hqw.out; omega, hK'.out, by simp⟩, trivial⟩ hF3'.out.bel ?_
  intro W' hbb
  refine ⟨_, (results_tmp (t := 4) rfl _ _ _).trans rfl, ?_, hbb⟩
  rw [uselessN, hsn'.out]
  rfl
end Go.Proofs.YtajapkjplgaigaaDoor.P
end
section
namespace Go.Proofs.YtajapkjplgaigaaDoor.P
open Go.RowKit Go.Shelf Go.Proofs.YtajapkjplgaigaaDoorW.PrintWords Go.Proofs.YtajapkjplgaigaaDoorW.PrintLast Go.Proofs.YtajapkjplgaigaaDoorW.PrintMore
attribute [local go_sem] Oper.semAt_some
set_option linter.unusedVariables false
set_option linter.unusedSimpArgs false
def readyStepN (nd : List Nat) (s : Nat) (o i : Nat) : Nat := if canP nd s i then o ||| 2 ^ i else o
def readyN (nd : List Nat) (s : Nat) : Nat := (List.range nd.length).foldl (readyStepN nd s) 0
def impl_ValidDone.f (l0 : List TT) (l1 : List Int) : Option (Bool) := some (doneP l0 l1).isSome
def impl_ReadyTasks.f (l0 : List TT) (l1 : List Int) : Option (List Int) := some (match doneP l0 l1 with | none => [] | some (G, s) => ivs (bitsN (readyN G.nd s)))
end Go.Proofs.YtajapkjplgaigaaDoor.P
end
section
namespace Go.Proofs.YtajapkjplgaigaaDoor.P
open Go.RowKit Go.Shelf Go.Proofs.YtajapkjplgaigaaDoorW.PrintWords Go.Proofs.YtajapkjplgaigaaDoorW.PrintLast Go.Proofs.YtajapkjplgaigaaDoorW.PrintMore
attribute [local go_sem] Oper.semAt_some
set_option linter.unusedVariables false
set_option linter.unusedSimpArgs false
def diffN (a b : Nat) : Nat := a ^^^ (a &&& b)
theorem diffN_bit (a b i : Nat) : (diffN a b).testBit i = (a.testBit i && !b.testBit i) := by
 simp only [diffN, Nat.testBit_xor, Nat.testBit_and]
 cases a.testBit i <;> cases b.testBit i <;> rfl
theorem diffN_lt {a b n : Nat} (ha : a < 2 ^ n) : diffN a b < 2 ^ n := Nat.xor_lt_two_pow ha (by rw [Nat.and_comm]; exact Nat.and_lt_two_pow _ ha)
theorem andNotI_nat (a b : Nat) (ha : a < 256) (hb : b < 256) : Go.bits .andNot .u16 (a : Int) (b : Int) = ((diffN a b : Nat) : Int) := by
 have e1 : (BitVec.ofInt 16 (a : Int)) = BitVec.ofNat 16 a := by simp
 have e2 : (BitVec.ofInt 16 (b : Int)) = BitVec.ofNat 16 b := by simp
 have key : (BitVec.ofNat 16 a &&& ~~~(BitVec.ofNat 16 b)).toNat = diffN a b := by
  rw [BitVec.toNat_and, BitVec.toNat_not, BitVec.toNat_ofNat, BitVec.toNat_ofNat, Nat.mod_eq_of_lt (show a < 2 ^ 16 by omega), Nat.mod_eq_of_lt (show b < 2 ^ 16 by omega)]
  apply Nat.eq_of_testBit_eq
  intro i
  rw [diffN_bit, Nat.testBit_and, show 2 ^ 16 - 1 - b = 2 ^ 16 - (b + 1) by omega, Nat.testBit_two_pow_sub_succ (by omega)]
  rcases Nat.lt_or_ge i 16 with h16 | h16
  ·simp [h16]
  ·rw [Nat.testBit_lt_two_pow (Nat.lt_of_lt_of_le (show a < 2 ^ 16 by omega) (Nat.pow_le_pow_right (by omega) h16))]; simp
 have hlt : diffN a b < 65536 := Nat.lt_of_lt_of_le (diffN_lt (n := 8) (by omega)) (by decide)
 simp only [Go.bits, IntKind.bits, e1, e2]
 refine (congrArg (fun n : Nat => IntKind.u16.wrap (n : Int)) key).trans ?_
 show IntKind.u16.wrap ((diffN a b : Nat) : Int) = _
 rw [wrap_u16', Int.emod_eq_of_lt (by omega) (by omega)]
def finishP (ts : List TT) (done : List Int) (at_ : Int) : Option (List Int) := match doneP ts done with
 | none => none
 | some (G, s) => if 0 ≤ at_ ∧ at_ < ts.length then (if (readyN G.nd s).testBit at_.toNat then some (ivs (bitsN (s ||| 2 ^ at_.toNat))) else none) else none
def impl_FinishTask.f (l0 : List TT) (l1 : List Int) (a2 : Int) : Option (List Int × Bool) := some (match finishP l0 l1 a2 with | none => ([], false) | some l => (l, true))
def impl_WaitsFor.f (l0 : List TT) (l1 : List Int) (a2 : Int) : Option (List Int) := some (match doneP l0 l1 with
 | none => []
 | some (G, s) => if 0 ≤ a2 ∧ a2 < l0.length then ivs (bitsN (diffN (G.nd.getD a2.toNat 0) s)) else [])
end Go.Proofs.YtajapkjplgaigaaDoor.P
end
section
namespace Go.Proofs.YtajapkjplgaigaaDoor.P
open Go.RowKit Go.Shelf Go.Proofs.YtajapkjplgaigaaDoorW.PrintWords Go.Proofs.YtajapkjplgaigaaDoorW.PrintLast Go.Proofs.YtajapkjplgaigaaDoorW.PrintMore
attribute [local go_sem] Oper.semAt_some
set_option linter.unusedVariables false
set_option linter.unusedSimpArgs false
theorem S_makecap {P : Program} {ops : Array Oper} {o : Oper} {a : Act} {Q : Exit → Act → World → Prop} {rest : List Oper} {α : Type} (d : Kd α) {W : World} (e : Nat) (hgd : o.guard = none) (t : TypeId) (x y : Operand) (ho : o.op = .makeSlice t x y)
  (c : Nat) (hx : a.eval x = .int .i64 0) (hy : a.eval y = .int .i64 (c : Int)) (ht : P.underlying t = some (.slice e)) (z : Value) (bytes : Nat) (hinfo : (P.info? e).map (fun i => (i.zero, i.size, i.bytes)) = some (some z, d.sz, bytes)) (hl : bytes * c ≤ 281474976710656) (hc : c ≤ 9223372036854775807)
  (h : ∀ v1 w1, Kd.S d e w1 W.heap.size (fun _ => True) v1 ([] : List α) → Below W.heap.size W w1 → W.grownBy w1 none → (∃ b, v1.ownBlock = some b ∧ W.heap.size ≤ b) → wpList P ops Q rest (a.put o.dst v1) w1) : wpList P ops Q (o :: rest) a W :=
 R_makecap (Kd.bare d) e hgd t x y ho c hx hy ht z bytes hinfo hl hc (fun v1 w1 hr => h v1 w1 (Kd.S_bare hr))
def keepN (G : GrN) (i : Nat) : Nat := diffN (G.nd.getD i 0) (uselessN G.nd G.bl i)
def keepT (G : GrN) (i : Nat) : TT := ⟨(rd_T39 G.ts (i : Int)).f0, ivs (bitsN (keepN G i)), (rd_T39 G.ts (i : Int)).f2, (rd_T39 G.ts (i : Int)).f3⟩
def withoutW (ts : List TT) : List TT := match graphP ts with
 | none => []
 | some G => (List.range G.ts.length).map (keepT G)
def impl_WithoutUseless.f (l0 : List TT) : Option (List TT) := some (withoutW l0)
set_option maxRecDepth 100000 in
set_option maxHeartbeats 4000000 in
theorem impl_WithoutUseless.calls (A0 : Option Addr) (c0 : Nat) (l0 : List TT) (r : List TT) (w : World) (hr0 : Kd.C k39 w A0 l0.length l0) (hc0 : l0.length ≤ c0) (h : impl_WithoutUseless.f l0 = some r) (hTab : TabOK w) :
  Calls Tryd.prog 27 #[.slice A0 l0.length c0] w fun e w' => ∃ v0_ : Value, e = .returned (v0_) ∧ Kd.S k39 39 w' w.heap.size (fun _ => True) v0_ r ∧ Below w.heap.size w w' := by
 have gc := Aside0.mk (graphOf_all A0 c0 l0 w hr0 hc0 hTab)
 have hT' := Aside0.mk hTab
 have hr0' := Aside0.mk hr0
 unfold impl_WithoutUseless.f withoutW at h
 injection h with h
 clear hr0 hTab
 cases hd : graphP l0 with
 | none =>
  rw [hd] at h
  simp only at h
  subst h
  have hd' := Aside0.mk hd
  clear hd
  go_enter Tryd.func27, Tryd.ntmps27
  go_wp2_with (go_at_call 58; refine gc.out.mono ?_; rintro e w1 ⟨g, b, rfl, hB, hno, hyes⟩; obtain ⟨rfl, rfl⟩ := hno hd'.out; have hB' := Aside0.mk hB; clear hB hno hyes)
  go_ret
  exact ⟨_, rfl, Kd.S_nil _ _ _ _ _, hB'.out⟩
 | some G =>
  rw [hd] at h
  simp only at h
  subst h
  obtain ⟨hts, hnP, hOk⟩ := graphP_ok hd
  have hd' := Aside0.mk hd
  have hOk' := Aside0.mk hOk
  have hts' := Aside0.mk hts
  have hn8 := Aside0.mk (show l0.length ≤ 8 by rw [← hts]; exact hOk.n8)
  clear hd hts hnP hOk
  go_enter Tryd.func27, Tryd.ntmps27
  go_wp2_with (first | (go_at_call 58; refine gc.out.mono ?_; rintro e w1 ⟨g, b, rfl, hB, hno, hyes⟩; obtain ⟨rfl, a, rfl, hG0⟩ := hyes G hd'.out; have hG := graphOf_at hr0'.out hB hG0; have hB' := Aside0.mk hB; have hG' := Aside0.mk hG; have hT1 := Aside0.mk (hT'.out.below hB); clear hB hno hyes hG hG0) | ((with_reducible refine gate_dst (N := 17) rfl ?_); go_loud (refine S_makecap k39 39 rfl 23 _ _ rfl l0.length rfl rfl Tryd.underlying23 (.agg #[(.int .i64 0), (.slice none 0 0), (.int .i64 0), (.int .i64 0)]) 48 (by kernel_rfl) (by have := hn8.out; omega) (by have := hn8.out; omega) ?_; intro v5 w2 hS2 hB2 hg2 _; have hS2' := Aside0.mk hS2; have hB2' := Aside0.mk hB2; clear hS2 hB2 hg2)))
  have hC1 := Aside0.mk (Kd.C_below hr0'.out hB'.out)
  clear hr0' gc hT'
  have hS0 := Aside0.mk (show Kd.S k39 39 w2 w1.heap.size (fun _ => True) v5 ((List.range 0).map (keepT G)) from hS2'.out)
  clear hS2'
  go_loopg [5, 20] l0.length (fun kq v5 v20 w' => ∃ j : Nat, v20 = .int .i64 (j : Int) ∧ Aside0 (kq + j = l0.length) ∧ Aside0 (Kd.S k39 39 w' w1.heap.size (fun _ => True) v5 ((List.range j).map (keepT G))) ∧ Aside0 (Below w1.heap.size w1 w'))
  case atStart => exact ⟨0, rfl, ⟨by omega⟩, hS0, hB2'⟩
  case round =>
   clear hS0 hB2'
   obtain ⟨j, rfl, hk, hS, hB⟩ := hrel
   by_cases hj : j < l0.length
   case neg =>
    obtain rfl : j = l0.length := by have := hk.out; omega
    go_wp2
    go_ret
    refine ⟨_, rfl, ?_, below_step hB'.out hB.out⟩
    rw [hts'.out]
    exact Kd.S_lower hS.out hB'.out.size
   case pos =>
    have hjI : (j : Int) < (l0.length : Int) := by omega
    have hjb : decide ((j : Int) < (l0.length : Int)) = true := decide_eq_true hjI
    obtain ⟨adt, At, ct, rfl, hx0, hx1, hx2, hx3, _⟩ := at_T39 (Kd.C_below hC1.out hB.out) (j : Int) (by omega) hjI
    simp only [Int.toNat_natCast] at hx0 hx1 hx2 hx3
    go_wp2_with (fail)
    have hw := Aside0.mk (show wrap64 ((j : Int) + 1) = ((j + 1 : Nat) : Int) by have := hn8.out; rw [IntWalk.wrap64_in _ (by omega)]; omega)
    have hk1 := Aside0.mk (show gk - 1 < gk by have := hk.out; omega)
    have hk2 := Aside0.mk (show gk - 1 + (j + 1) = l0.length by have := hk.out; omega)
    obtain ⟨gb, hgb⟩ : ∃ gb, gb = wr.heap.size := ⟨_, rfl⟩
    have hbox := blk_new wr (.cells #[.int .i64 (rd_T39 l0 (j : Int)).f0, .slice At (rd_T39 l0 (j : Int)).f1.length ct, .int .i64 (rd_T39 l0 (j : Int)).f2, .int .i64 (rd_T39 l0 (j : Int)).f3] 39)
    have hS1 := Kd.S_below (Kd.S_elderB hS.out gb (Nat.le_of_eq hgb.symm)) ((Below.refl _ wr).alloc (Nat.le_refl _) (.cells #[.int .i64 (rd_T39 l0 (j : Int)).f0, .slice At (rd_T39 l0 (j : Int)).f1.length ct, .int .i64 (rd_T39 l0 (j : Int)).f2, .int .i64 (rd_T39 l0 (j : Int)).f3] 39))
    have hB1 := hB.out.alloc hB.out.size (.cells #[.int .i64 (rd_T39 l0 (j : Int)).f0, .slice At (rd_T39 l0 (j : Int)).f1.length ct, .int .i64 (rd_T39 l0 (j : Int)).f2, .int .i64 (rd_T39 l0 (j : Int)).f3] 39)
    have hgw := Aside0.mk (show w1.heap.size ≤ gb by rw [hgb]; exact hB.out.size)
    rw [← hgb] at hbox
    simp only [← hgb]
    clear hgb hx0 hx1 hx2 hx3 hS hB
    generalize wr.alloc (.cells #[.int .i64 (rd_T39 l0 (j : Int)).f0, .slice At (rd_T39 l0 (j : Int)).f1.length ct, .int .i64 (rd_T39 l0 (j : Int)).f2, .int .i64 (rd_T39 l0 (j : Int)).f3] 39) = W1 at *
    have hjn := Aside0.mk (show j < G.ts.length by rw [hts'.out]; exact hj)
    obtain ⟨A0', c0', A1', c1', A2', c2', A3', c3', A4', c4', hblk, _, ⟨hCn, _⟩, _⟩ := (hG'.out.below hB1)
    have hnl : j < G.gr.nd.length := by show j < (nI G.nd).length; rw [nI_length, hOk'.out.nl]; exact hjn.out
    obtain ⟨ad2, rfl, hx1⟩ := Kd.at_int hCn (j : Int) (by omega) (by omega)
    obtain ⟨sn, hsn⟩ : ∃ sn, G.nd.getD j 0 = sn := ⟨_, rfl⟩
    have hsn' := Aside0.mk hsn
    have hsb := Aside0.mk (show sn < 2 ^ G.ts.length by rw [← hsn]; exact hOk'.out.nlt j)
    have hn2 : rd G.gr.nd (j : Int) = ((G.nd.getD j 0 : Nat) : Int) := rd_nI _ _
    simp only [Int.toNat_natCast, hn2, hsn] at hx1
    clear hn2 hsn
    have hnlI : (j : Int) < (G.gr.nd.length : Int) := by omega
    have hg1 : W1.cell? ⟨a, 1, none⟩ = some (.slice (some ad2) G.gr.nd.length c1') := (blk_cell hblk 1).trans rfl
    have hHeld0 : W1.drew.cell? ⟨a, 1, none⟩ = some (.slice (some ad2) G.gr.nd.length c1') ∧ W1.drew.cell? (ad2.add j) = some (.int .u16 (sn : Int)) := ⟨hg1, hx1⟩
    have hS2 := Aside0.mk (Kd.S_drew hS1)
    have hB2 := Aside0.mk (below_drew hB1)
    have hbox2 := Aside0.mk (show W1.drew.heap[gb]? = _ from hbox)
    clear hbox hS1 hB1 hblk hCn hnl hg1 hx1
    refine start_ (n := 14) (S := fun w' => w'.cell? ⟨a, 1, none⟩ = some (.slice (some ad2) G.gr.nd.length c1') ∧ w'.cell? (ad2.add j) = some (.int .u16 (sn : Int))) (ds := [13]) #[false, false, false, false, false, false, false, false, false, false, false, false, false, false] (by kernel_rfl) rfl rfl hHeld0 (fun hHeld => ?_)
    clear hHeld0
    generalize W1.drew = W2 at *
    refine pure_ (i := 0) (N := some 25) (v := ?_) (a' := ?_) #[true, false, false, false, false, false, false, false, false, false, false, false, false, false] rfl rfl (by kernel_rfl) (fun _ _ _ h => h) (Or.inl ⟨by rfl, ?_⟩) ?_ ?_
    rotate_left
    ·intro w'
     go_simp
     with_reducible rfl
    rotate_left
    ·simp only [Act.put, List.setIfInBounds_toArray, List.set_cons_zero, List.set_cons_succ, i64_w]
     rfl
    refine pure_ (i := 1) (N := some 26) (v := ?_) (a' := ?_) #[true, true, false, false, false, false, false, false, false, false, false, false, false, false] rfl rfl (by kernel_rfl) (fun _ _ _ h => h) (Or.inl ⟨by rfl, ?_⟩) ?_ ?_
    rotate_left
    ·intro w'
     go_simp
     with_reducible rfl
    rotate_left
    ·simp only [Act.put, List.setIfInBounds_toArray, List.set_cons_zero, List.set_cons_succ, i64_w]
     rfl
    refine pure_ (i := 2) (N := some 27) (v := ?_) (a' := ?_) #[true, true, true, false, false, false, false, false, false, false, false, false, false, false] rfl rfl (by kernel_rfl) (fun _ _ _ h => h) (Or.inl ⟨by rfl, ?_⟩) ?_ ?_
    rotate_left
    ·intro w'
     go_simp
     with_reducible rfl
    rotate_left
    ·simp only [Act.put, List.setIfInBounds_toArray, List.set_cons_zero, List.set_cons_succ, i64_w]
     rfl
    refine take_ (i := 3) (N := some 28) (v := ?_) (a' := ?_) #[true, true, true, true, false, false, false, false, false, false, false, false, false, false] rfl rfl (by kernel_rfl) (fun _ _ _ h => h) (Or.inl ⟨by rfl, ?_⟩) hHeld ?_ ?_
    rotate_left
    ·rintro w' ⟨s0, s1⟩
     go_simp
     with_reducible rfl
    rotate_left
    ·simp only [Act.put, List.setIfInBounds_toArray, List.set_cons_zero, List.set_cons_succ, i64_w]
     rfl
    refine pure_ (i := 4) (N := some 29) (v := ?_) (a' := ?_) #[true, true, true, true, true, false, false, false, false, false, false, false, false, false] rfl rfl (by kernel_rfl) (fun _ _ _ h => h) (Or.inl ⟨by rfl, ?_⟩) ?_ ?_
    rotate_left
    ·intro w'
     go_simp
     with_reducible rfl
    rotate_left
    ·simp only [Act.put, List.setIfInBounds_toArray, List.set_cons_zero, List.set_cons_succ, i64_w]
     rfl
    refine pure_ (i := 5) (N := some 30) (v := ?_) (a' := ?_) #[true, true, true, true, true, true, false, false, false, false, false, false, false, false] rfl rfl (by kernel_rfl) (fun _ _ _ h => h) (Or.inl ⟨by rfl, ?_⟩) ?_ ?_
    rotate_left
    ·intro w'
     go_simp
     with_reducible rfl
    rotate_left
    ·simp only [Act.put, List.setIfInBounds_toArray, List.set_cons_zero, List.set_cons_succ, i64_w]
     rfl
    refine take_ (i := 6) (N := some 31) (v := ?_) (a' := ?_) #[true, true, true, true, true, true, true, false, false, false, false, false, false, false] rfl rfl (by kernel_rfl) (fun _ _ _ h => h) (Or.inl ⟨by rfl, ?_⟩) hHeld ?_ ?_
    rotate_left
    ·rintro w' ⟨s0, s1⟩
     go_simp
     with_reducible rfl
    rotate_left
    ·simp only [Act.put, List.setIfInBounds_toArray, List.set_cons_zero, List.set_cons_succ, i64_w]
     rfl
    refine pure_ (i := 7) (N := some 32) (v := ?_) (a' := ?_) #[true, true, true, true, true, true, true, true, false, false, false, false, false, false] rfl rfl (by kernel_rfl) (fun _ _ _ h => h) (Or.inl ⟨by rfl, ?_⟩) ?_ ?_
    rotate_left
    ·intro w'
     go_simp
     with_reducible rfl
    rotate_left
    ·simp only [Act.put, List.setIfInBounds_toArray, List.set_cons_zero, List.set_cons_succ, i64_w]
     rfl
    refine pure_ (i := 8) (N := some 33) (v := ?_) (a' := ?_) #[true, true, true, true, true, true, true, true, true, false, false, false, false, false] rfl rfl (by kernel_rfl) (fun _ _ _ h => h) (Or.inl ⟨by rfl, ?_⟩) ?_ ?_
    rotate_left
    ·intro w'
     go_simp
     with_reducible rfl
    rotate_left
    ·simp only [Act.put, List.setIfInBounds_toArray, List.set_cons_zero, List.set_cons_succ, i64_w]
     rfl
    have hun : uselessN G.nd G.bl j < 2 ^ G.ts.length := by unfold uselessN; exact useless_lt (hOk'.out.nlt j) _ 0 (Nat.two_pow_pos _)
    have hkl : keepN G j < 2 ^ G.ts.length := diffN_lt (hOk'.out.nlt j)
    have hkl' := Aside0.mk hkl
    have hdv := Aside0.mk (show Go.bits .andNot .u16 (sn : Int) ((uselessN G.nd G.bl j : Nat) : Int) = ((keepN G j : Nat) : Int) by
     rw [andNotI_nat sn _ (lt256 hsb.out hOk'.out.n8) (lt256 hun hOk'.out.n8)]
     unfold keepN
     rw [hsn'.out])
    clear hun hkl
    refine one_ (i := 9) (N := some 34) #[true, true, true, true, true, true, true, true, true, true, false, false, false, false] rfl rfl (by kernel_rfl) (by decide) (fun K hK => ?_)
    refine goes_ Tryd.func59 (by kernel_rfl) rfl #[.pointer (some ⟨a, 0, none⟩), .int .i64 (j : Int)] (by rfl) rfl rfl (by (try simp only [List.map_toArray, List.map_cons, List.map_nil]); first | done | rfl) ?_
    refine (useless_calls a G hOk'.out j hjn.out W2 (hG'.out.below hB2.out) (hT1.out.below hB2.out)).mono ?_
    rintro e W3 ⟨rfl, hb3⟩
    have hS3 := Aside0.mk (Kd.S_below hS2.out hb3)
    have hB3 := Aside0.mk (below_step hB2.out hb3)
    have hbox3 := Aside0.mk (blk_below hbox2.out hb3)
    have hh1 := (hb3.cell (p := ⟨a, 1, none⟩) (World.block_lt_of_cell? W2 _ hHeld.1)).trans hHeld.1
    have hh2 := (hb3.cell (World.block_lt_of_cell? W2 _ hHeld.2)).trans hHeld.2
    refine ⟨_, rfl, ?_⟩
    refine hK.out _ _ ⟨hh1, hh2⟩ (fun hHeld => ?_)
    clear hK K hh1 hh2 hS2 hB2 hbox2 hb3
    refine norm_ (a' := ?_) ?_ ?_
    rotate_left
    ·show Act.put _ (some 34) _ = _
     simp only [Act.put, List.setIfInBounds_toArray, List.set_cons_zero, List.set_cons_succ, i64_w]
     rfl
    refine pure_ (i := 10) (N := some 35) (v := ?_) (a' := ?_) #[true, true, true, true, true, true, true, true, true, true, true, false, false, false] rfl rfl (by kernel_rfl) (fun _ _ _ h => h) (Or.inl ⟨by rfl, ?_⟩) ?_ ?_
    rotate_left
    ·intro w'
     go_simp
     with_reducible rfl
    rotate_left
    ·simp only [Act.put, List.setIfInBounds_toArray, List.set_cons_zero, List.set_cons_succ, i64_w]
     rfl
    rw [hdv.out]
    refine one_ (i := 11) (N := some 36) #[true, true, true, true, true, true, true, true, true, true, true, true, false, false] rfl rfl (by kernel_rfl) (by decide) (fun K hK => ?_)
    refine goes_ Tryd.func47 (by kernel_rfl) rfl #[.int .u16 ((keepN G j : Nat) : Int)] (by rfl) rfl rfl (by (try simp only [List.map_toArray, List.map_cons, List.map_nil]); first | done | rfl) ?_
    refine (list_calls (keepN G j) (lt256 hkl'.out hOk'.out.n8) W3 (hT1.out.below hB3.out)).mono ?_
    rintro e W4 ⟨v, rfl, hR4, hb4⟩
    obtain ⟨Ar, cr, rfl⟩ := Kd.R_slice hR4
    have hS4 := Aside0.mk (Kd.S_below (Kd.S_bound hS3.out) hb4)
    have hB4 := Aside0.mk (below_step hB3.out hb4)
    have hbox4 := Aside0.mk (blk_below hbox3.out hb4)
    have hR4' := Aside0.mk hR4
    have hgb3 := Aside0.mk (blk_lt hbox3.out)
    have hlt5 := Aside0.mk (Kd.S_lt hS3.out)
    have hbs4 := Aside0.mk (Kd.R_base hR4)
    have hsz3 := Aside0.mk hB3.out.size
    have hh1 := (hb4.cell (p := ⟨a, 1, none⟩) (World.block_lt_of_cell? W3 _ hHeld.1)).trans hHeld.1
    have hh2 := (hb4.cell (World.block_lt_of_cell? W3 _ hHeld.2)).trans hHeld.2
    refine ⟨_, rfl, ?_⟩
    refine hK.out _ _ ⟨hh1, hh2⟩ (fun hHeld => ?_)
    clear hK K hh1 hh2 hS3 hB3 hbox3 hb4 hR4
    refine norm_ (a' := ?_) ?_ ?_
    rotate_left
    ·show Act.put _ (some 36) _ = _
     simp only [Act.put, List.setIfInBounds_toArray, List.set_cons_zero, List.set_cons_succ, i64_w]
     rfl
    refine pure_ (i := 12) (N := some 37) (v := ?_) (a' := ?_) #[true, true, true, true, true, true, true, true, true, true, true, true, true, false] rfl rfl (by kernel_rfl) (fun _ _ _ h => h) (Or.inl ⟨by rfl, ?_⟩) ?_ ?_
    rotate_left
    ·intro w'
     go_simp
     with_reducible rfl
    rotate_left
    ·simp only [Act.put, List.setIfInBounds_toArray, List.set_cons_zero, List.set_cons_succ, i64_w]
     rfl
    have hfz := blk_frozen hbox4.out 1
    have hcc : W4.cell? ⟨gb, 1, none⟩ = some (.slice At (rd_T39 l0 (j : Int)).f1.length ct) := (blk_cell hbox4.out 1).trans rfl
    refine last_ (i := 13) (N := none) #[true, true, true, true, true, true, true, true, true, true, true, true, true, true] rfl rfl (by kernel_rfl) (by decide) (fun K hK => ?_)
    refine skip_ (w1 := W4.setCell ⟨gb, 1, none⟩ (.slice Ar (ivs (bitsN (keepN G j))).length cr)) (by rfl) rfl (by go_simp) ?_
    refine hK.out _ _ ?_
    clear hK K
    refine done_ (by kernel_rfl) ?_
    obtain ⟨W5, hW5⟩ : ∃ W5, W5 = W4.setCell ⟨gb, 1, none⟩ (.slice Ar (ivs (bitsN (keepN G j))).length cr) := ⟨_, rfl⟩
    have hbox5 := blk_set hbox4.out 1 (.slice Ar (ivs (bitsN (keepN G j))).length cr)
    have hS5 := Aside0.mk (Kd.S_far (p := ⟨gb, 1, none⟩) hS4.out (fun k hk => hk.1.2) (.slice Ar (ivs (bitsN (keepN G j))).length cr))
    have hR5 := Aside0.mk (Kd.R_far (p := ⟨gb, 1, none⟩) (Kd.R_tight rfl hR4'.out) (fun k hk => by have h1 := hbs4.out k hk.symm; have h2 := hgb3.out; show k ≠ gb; omega) (.slice Ar (ivs (bitsN (keepN G j))).length cr))
    have hB5 := Aside0.mk (hB4.out.setCell (p := ⟨gb, 1, none⟩) hgw.out (.slice Ar (ivs (bitsN (keepN G j))).length cr))
    rw [← hW5] at hbox5 hS5 hR5 hB5
    try rw [← hW5]
    have hcz0 : W5.cell? ⟨gb, 0, none⟩ = some (.int .i64 (rd_T39 l0 (j : Int)).f0) := (blk_cell hbox5 0).trans rfl
    have hcz1 : W5.cell? ⟨gb, 1, none⟩ = some (.slice Ar (ivs (bitsN (keepN G j))).length cr) := (blk_cell hbox5 1).trans rfl
    have hcz2 : W5.cell? ⟨gb, 2, none⟩ = some (.int .i64 (rd_T39 l0 (j : Int)).f2) := (blk_cell hbox5 2).trans rfl
    have hcz3 : W5.cell? ⟨gb, 3, none⟩ = some (.int .i64 (rd_T39 l0 (j : Int)).f3) := (blk_cell hbox5 3).trans rfl
    clear hcc hW5 hbox5 hbox4 hS4 hR4' hB4 hfz hHeld
    go_wp2_with (at_builtin; go_loud (refine Kd.S_append k39 (w0 := w1) w1.heap.size rfl (.tmp 38) (.tmp 40) 23 39 (.agg #[(.int .i64 0), (.slice none 0 0), (.int .i64 0), (.int .i64 0)]) 48 rfl Tryd.underlying23 (by kernel_rfl) rfl (by decide) (by omega) u5 ((List.range j).map (keepT G)) (⟨(rd_T39 l0 (j : Int)).f0, ivs (bitsN (keepN G j)), (rd_T39 l0 (j : Int)).f2, (rd_T39 l0 (j : Int)).f3⟩ : TT) [.int .i64 (rd_T39 l0 (j : Int)).f0, .slice Ar (ivs (bitsN (keepN G j))).length cr, .int .i64 (rd_T39 l0 (j : Int)).f2, .int .i64 (rd_T39 l0 (j : Int)).f3] (fun _ => True) (fun k_ => some k_ = (Value.slice Ar (ivs (bitsN (keepN G j))).length cr).ownBlock) rfl rfl ?aP ?aK (fun _ _ => trivial) ?aO hB5.out hB5.out.size ?aL ?_; (case aP => exact k39_mkM _ _ _ _ (Kd.R_lower hR5.out hsz3.out)); (case aK => exact fun k hk => ⟨trivial, fun e => by have h1 := hbs4.out k hk.symm; have h2 := hlt5.out k e.symm; omega⟩); (case aO => exact Kd.S_mono hS5.out (fun k hk => ⟨trivial, fun e => by have h1 := hbs4.out k e.symm; have h2 := hk.2.2.1; omega⟩)); (case aL => rw [List.length_map, List.length_range]; have := hn8.out; omega); intro v6 w6 ho hb hg hat; have hS6 := Aside0.mk ho; have hB6 := Aside0.mk hb; clear ho hb hg hat hS5 hR5 hB5 hcz0 hcz1 hcz2 hcz3))
    go_roundg (gk - 1)
    case measure => exact hk1.out
    case rel =>
     refine ⟨j + 1, by rw [hw.out], hk2, ⟨?_⟩, hB6⟩
     have e : (List.range (j + 1)).map (keepT G) = (List.range j).map (keepT G) ++ [(⟨(rd_T39 l0 (j : Int)).f0, ivs (bitsN (keepN G j)), (rd_T39 l0 (j : Int)).f2, (rd_T39 l0 (j : Int)).f3⟩ : TT)] := by
      rw [List.range_succ, List.map_append]
      unfold keepT
      rw [hts'.out]
      rfl
     rw [e]
     exact hS6.out
end Go.Proofs.YtajapkjplgaigaaDoor.P
end
