/- Merged texts of one claim: part 26 of what the statement's proof stands on. No condition. -/
import Derived.Test.YtajapkjplgaigaaDoorC50
import Derived.Test.YtajapkjplgaigaaDoorC52
import Derived.Laws.OwnMore
import Derived.RegionTactic
import Derived.ChangeAlike
import Derived.Test.YtajapkjplgaigaaDoorC51
section
namespace Go.Proofs.YtajapkjplgaigaaDoor.P
open Go.RowKit Go.Proofs.YtajapkjplgaigaaDoorW.PrintWords Go.Proofs.YtajapkjplgaigaaDoorW.PrintLast Go.Proofs.YtajapkjplgaigaaDoorW.PrintMore
attribute [local go_sem] max2_int min2_int max_two min_two max_three min_three max_four min_four   -- for this text's walks alone
set_option linter.unusedVariables false
set_option linter.unusedSimpArgs false
def impl_needsOf.l0 : Nat → List (S39) → List Int → List (S39) → Int → Int → Option (List Int × Bool)
 | 0, _, _, _, _, _ => none
 | k + 1, x0, x4, x15, x16, x17 => if x17 < x16 then (if 0 ≤ x17 then (if x17 < (x15.length : Int) then ((impl_setOf.f k ((rd_T39 x15 x17).f1) (x0.length : Int)).bind fun bt340 => (if bt340.2 = true then ((impl_within.f ((rd_T39 x15 x17).f0) 1 20).bind fun t342 => (if t342 = true then ((impl_within.f ((rd_T39 x15 x17).f2) 0 2).bind fun t343 => (if t343 = true then ((impl_within.f ((rd_T39 x15 x17).f3) 1 4).bind fun t344 => (if t344 = true then (if x4.length < 70368744177664 then (impl_needsOf.l0 k x0 (x4 ++ [bt340.1]) x15 x16 (wrap64 (x17 + 1))) else (none)) else (some (([] : List Int), false)))) else (some (([] : List Int), false)))) else (some (([] : List Int), false)))) else (some (([] : List Int), false)))) else (none)) else (none)) else (some (x4, true))
def impl_needsOf.f (k : Nat) (l0 : List (S39)) : Option (List Int × Bool) := if (l0.length : Int) > 8 then (some (([] : List Int), false)) else (impl_needsOf.l0 k l0 (([] : List Int)) l0 (l0.length : Int) 0)
set_option maxHeartbeats 8000000 in
set_option maxRecDepth 100000 in
theorem impl_needsOf.calls (k : Nat) (A0 : Option Addr) (c0 : Nat) (l0 : List (S39)) (r1 : List Int) (r2 : Bool) (w : World) (hr0 : Kd.C k39 w A0 l0.length l0) (hc0 : l0.length ≤ c0) (h : impl_needsOf.f k l0 = some (r1, r2)) :
  Calls Tryd.prog 89 #[.slice A0 l0.length c0] w fun e w' => ∃ v0_ : Value, e = .returned (.tuple #[v0_, .bool r2]) ∧ Kd.R (Kd.int .u16) 51 w' w.heap.size (fun _ => True) v0_ r1 ∧ Below w.heap.size w w' := by
 have hu39 := Tryd.underlying39
 have HR0 := Aside0.mk hr0
 have HC0 := Aside0.mk hc0
 clear hr0 hc0
 have HB := Aside0.mk (Below.refl w.heap.size w)
 have H : (if (l0.length : Int) > 8 then (some (([] : List Int), false)) else (impl_needsOf.l0 k l0 (([] : List Int)) l0 (l0.length : Int) 0)) = some (r1, r2) := h
 clear h
 by_cases c2 : (l0.length : Int) > 8
 ·rw [if_pos c2] at H
  have c2b0 : decide (8 < (l0.length : Int)) = true := decide_eq_true c2
  have c2b1 : decide (8 < l0.length) = true := decide_eq_true (by omega)
  clear c2
  simp only [Option.some.injEq, Prod.mk.injEq] at H
  obtain ⟨rfl, rfl⟩ := H
  go_enter Tryd.func89, Tryd.ntmps89
  go_wp2
  go_ret2
  exact ⟨_, by first | rfl | (simp [errW_none, errW_some] <;> rfl) | (simp [*, errW_none, errW_some] <;> rfl), by first | exact Kd.R_nil _ _ _ _ _ | exact Kd.N_nil _ _ _ _ _ | exact Kd.V_nil _ _ _ _ _ | exact Kd.Q_nil _ _ _ _ _ | exact Kd.S_nil _ _ _ _ _, by repeat (first | (with_reducible first | exact HB.out | apply below_alloc | apply pw_below_drewN | apply below_drew1) | exact HB.out)⟩
 ·rw [if_neg c2] at H
  have c2b0 : decide (8 < (l0.length : Int)) = false := decide_eq_false c2
  have c2b1 : decide (8 < l0.length) = false := decide_eq_false (by omega)
  clear c2
  obtain ⟨y335, hy335⟩ : ∃ y_ : List Int, y_ = (([] : List Int)) := ⟨_, rfl⟩
  replace H : (impl_needsOf.l0 k l0 y335 l0 (l0.length : Int) 0) = some (r1, r2) := by first | (rw [hy335]; with_reducible exact H) | (have H2_ := (Option.bind_some _ _).symm.trans H; rw [hy335]; with_reducible exact H2_) | (have H2_ := (Option.bind_some _ _).symm.trans H; with_reducible exact H2_) | with_reducible exact H | (rw [hy335]; exact H) | exact H
  have Ny335 := Aside0.mk hy335
  clear hy335
  have H' := Aside0.mk H
  clear H
  go_enter Tryd.func89, Tryd.ntmps89
  go_wp2_with (first | ((with_reducible refine gate_dst (N := 14) rfl ?_); refine R_makecap (Kd.int .u16) 51 rfl 62 (.const (.int .i64 0)) (.tmp 13) rfl l0.length rfl rfl Tryd.underlying62 (.int .u16 0) 2 (by kernel_rfl) (by have := of_decide_eq_false c2b1; omega) (by have := of_decide_eq_false c2b1; omega) ?_; intro v336 w3 ho4 hb hg_ hnew_; clear hg_ hnew_; (first | rw [← Ny335.out] at ho4 | (simp only [Int.reduceToNat] at ho4; rw [← Ny335.out] at ho4)); have n0_ := Aside0.mk (Kd.R_lower ho4 (below_size (by repeat (first | (with_reducible first | exact HB.out | apply below_alloc | apply pw_below_drewN | apply below_drew1) | exact HB.out)))); have n1_ := Aside0.mk (below_step (by repeat (first | (with_reducible first | exact HB.out | apply below_alloc | apply pw_below_drewN | apply below_drew1) | exact HB.out)) hb); clear HB; have HO337 := n0_; have HB := n1_; clear n0_ n1_; clear hb ho4))
  go_loopg [4, 17] k (fun kq v4 v17 w' => ∃ (x4_1 : List Int) (x17_1 : Int), v17 = .int .i64 x17_1 ∧ Aside0 (impl_needsOf.l0 kq l0 x4_1 l0 (l0.length : Int) x17_1 = some (r1, r2)) ∧ Aside0 (kq ≤ k) ∧ Aside0 (Kd.R (Kd.int .u16) 51 w' w.heap.size (fun _ => True) v4 x4_1) ∧ Aside0 (Below w.heap.size w w'))
  case atStart => exact ⟨(y335), (0), (by first | rfl | (simp; done) | (simp [*]; done)), H', ⟨Nat.le_refl _⟩, ⟨by (with_reducible repeat (first | apply Kd.R_alloc | apply Kd.R_drewN | apply Kd.R_drew)); exact HO337.out⟩, ⟨by repeat (first | (with_reducible first | exact HB.out | apply below_alloc | apply pw_below_drewN | apply below_drew1) | exact HB.out)⟩⟩
  case round =>
   clear H'
   try clear c2
   try clear c2b0
   try clear c2b1
   try clear p2
   obtain ⟨x4_1, x17_1, rfl, HA, HK1, HO_4, HB⟩ := hrel
   cases gk with
   | zero => exact absurd HA.out (by simp [impl_needsOf.l0])
   | succ k1 =>
    have H := HA.out
    clear HA
    simp only [impl_needsOf.l0] at H
    by_cases c5 : x17_1 < (l0.length : Int)
    ·rw [if_pos c5] at H
     have c5b0 : decide (x17_1 < (l0.length : Int)) = true := decide_eq_true c5
     clear c5
     by_cases c6 : 0 ≤ x17_1
     ·rw [if_pos c6] at H
      have c6b0 : decide (0 ≤ x17_1) = true := decide_eq_true c6
      clear c6
      by_cases c7 : x17_1 < (l0.length : Int)
      ·rw [if_pos c7] at H
       have c7b0 : decide (x17_1 < (l0.length : Int)) = true := decide_eq_true c7
       clear c7
       replace H := Option.bind_eq_some_iff.mp H
       obtain ⟨⟨t340, t341⟩, A80, H⟩ := H
       replace H : (if t341 = true then ((impl_within.f ((rd_T39 l0 x17_1).f0) 1 20).bind fun t342 => (if t342 = true then ((impl_within.f ((rd_T39 l0 x17_1).f2) 0 2).bind fun t343 => (if t343 = true then ((impl_within.f ((rd_T39 l0 x17_1).f3) 1 4).bind fun t344 => (if t344 = true then (if x4_1.length < 70368744177664 then (impl_needsOf.l0 k1 l0 (x4_1 ++ [t340]) l0 (l0.length : Int) (wrap64 (x17_1 + 1))) else (none)) else (some (([] : List Int), false)))) else (some (([] : List Int), false)))) else (some (([] : List Int), false)))) else (some (([] : List Int), false))) = some (r1, r2) := H
       have A8 := Aside0.mk A80
       clear A80
       by_cases c9 : t341 = true
       ·subst c9
        have H1 : ((impl_within.f ((rd_T39 l0 x17_1).f0) 1 20).bind fun t342 => (if t342 = true then ((impl_within.f ((rd_T39 l0 x17_1).f2) 0 2).bind fun t343 => (if t343 = true then ((impl_within.f ((rd_T39 l0 x17_1).f3) 1 4).bind fun t344 => (if t344 = true then (if x4_1.length < 70368744177664 then (impl_needsOf.l0 k1 l0 (x4_1 ++ [t340]) l0 (l0.length : Int) (wrap64 (x17_1 + 1))) else (none)) else (some (([] : List Int), false)))) else (some (([] : List Int), false)))) else (some (([] : List Int), false)))) = some (r1, r2) := by rw [if_pos rfl] at H; exact H
        clear H
        have H := H1
        clear H1
        replace H := Option.bind_eq_some_iff.mp H
        obtain ⟨t342, A100, H⟩ := H
        replace H : (if t342 = true then ((impl_within.f ((rd_T39 l0 x17_1).f2) 0 2).bind fun t343 => (if t343 = true then ((impl_within.f ((rd_T39 l0 x17_1).f3) 1 4).bind fun t344 => (if t344 = true then (if x4_1.length < 70368744177664 then (impl_needsOf.l0 k1 l0 (x4_1 ++ [t340]) l0 (l0.length : Int) (wrap64 (x17_1 + 1))) else (none)) else (some (([] : List Int), false)))) else (some (([] : List Int), false)))) else (some (([] : List Int), false))) = some (r1, r2) := H
        have A10 := Aside0.mk A100
        clear A100
        by_cases c11 : t342 = true
        ·subst c11
         have H1 : ((impl_within.f ((rd_T39 l0 x17_1).f2) 0 2).bind fun t343 => (if t343 = true then ((impl_within.f ((rd_T39 l0 x17_1).f3) 1 4).bind fun t344 => (if t344 = true then (if x4_1.length < 70368744177664 then (impl_needsOf.l0 k1 l0 (x4_1 ++ [t340]) l0 (l0.length : Int) (wrap64 (x17_1 + 1))) else (none)) else (some (([] : List Int), false)))) else (some (([] : List Int), false)))) = some (r1, r2) := by rw [if_pos rfl] at H; exact H
         clear H
         have H := H1
         clear H1
         replace H := Option.bind_eq_some_iff.mp H
         obtain ⟨t343, A120, H⟩ := H
         replace H : (if t343 = true then ((impl_within.f ((rd_T39 l0 x17_1).f3) 1 4).bind fun t344 => (if t344 = true then (if x4_1.length < 70368744177664 then (impl_needsOf.l0 k1 l0 (x4_1 ++ [t340]) l0 (l0.length : Int) (wrap64 (x17_1 + 1))) else (none)) else (some (([] : List Int), false)))) else (some (([] : List Int), false))) = some (r1, r2) := H
         have A12 := Aside0.mk A120
         clear A120
         by_cases c13 : t343 = true
         ·subst c13
          have H1 : ((impl_within.f ((rd_T39 l0 x17_1).f3) 1 4).bind fun t344 => (if t344 = true then (if x4_1.length < 70368744177664 then (impl_needsOf.l0 k1 l0 (x4_1 ++ [t340]) l0 (l0.length : Int) (wrap64 (x17_1 + 1))) else (none)) else (some (([] : List Int), false)))) = some (r1, r2) := by rw [if_pos rfl] at H; exact H
          clear H
          have H := H1
          clear H1
          replace H := Option.bind_eq_some_iff.mp H
          obtain ⟨t344, A140, H⟩ := H
          replace H : (if t344 = true then (if x4_1.length < 70368744177664 then (impl_needsOf.l0 k1 l0 (x4_1 ++ [t340]) l0 (l0.length : Int) (wrap64 (x17_1 + 1))) else (none)) else (some (([] : List Int), false))) = some (r1, r2) := H
          have A14 := Aside0.mk A140
          clear A140
          by_cases c15 : t344 = true
          ·subst c15
           have H1 : (if x4_1.length < 70368744177664 then (impl_needsOf.l0 k1 l0 (x4_1 ++ [t340]) l0 (l0.length : Int) (wrap64 (x17_1 + 1))) else (none)) = some (r1, r2) := by rw [if_pos rfl] at H; exact H
           clear H
           have H := H1
           clear H1
           by_cases c16 : x4_1.length < 70368744177664
           ·rw [if_pos c16] at H
            have LMc16 := Aside0.mk c16
            clear c16
            obtain ⟨y345, hy345⟩ : ∃ y_ : List Int, y_ = (x4_1 ++ [t340]) := ⟨_, rfl⟩
            replace H : (impl_needsOf.l0 k1 l0 y345 l0 (l0.length : Int) (wrap64 (x17_1 + 1))) = some (r1, r2) := by first | (rw [hy345]; with_reducible exact H) | (have H2_ := (Option.bind_some _ _).symm.trans H; rw [hy345]; with_reducible exact H2_) | (have H2_ := (Option.bind_some _ _).symm.trans H; with_reducible exact H2_) | with_reducible exact H | (rw [hy345]; exact H) | exact H
            have Ny345 := Aside0.mk hy345
            clear hy345
            have H' := Aside0.mk H
            clear H
            have p338 : 0 ≤ (x17_1 : Int) := of_decide_eq_true (by first | (with_reducible assumption) | assumption)
            have q338 : x17_1 < (l0.length : Int) := of_decide_eq_true (by first | (with_reducible assumption) | assumption)
            obtain ⟨ad338, A338_1, c338_1, e338, hx338_0, hx338_1, hx338_2, hx338_3, hl338_1, hi338_1⟩ := at_T39 HR0.out x17_1 p338 q338
            cases e338
            replace hx338_0 := (HB.out.cell (World.block_lt_of_cell? w _ hx338_0)).trans hx338_0
            replace hx338_1 := (HB.out.cell (World.block_lt_of_cell? w _ hx338_1)).trans hx338_1
            replace hx338_2 := (HB.out.cell (World.block_lt_of_cell? w _ hx338_2)).trans hx338_2
            replace hx338_3 := (HB.out.cell (World.block_lt_of_cell? w _ hx338_3)).trans hx338_3
            have HR338_1 := Aside0.mk hi338_1
            have HC338_1 := Aside0.mk hl338_1
            clear hi338_1 hl338_1
            replace p338 := eq_true p338
            replace q338 := eq_true q338
            go_wp2_with (first | ((with_reducible refine gate_dst (N := 6) rfl ?_); refine box_event ?hg (N := 6) ?hd (cs := #[.int .i64 0, .slice none 0 0, .int .i64 0, .int .i64 0]) (t := 39) ?hr ?_; (case hd => rfl); (case hg => rfl); (case hr => first | (go_simp; done) | (go_simp; rfl)); intro gb339 hg w17 hbox hb; have n0_ := Aside0.mk (Kd.R_below (by (with_reducible repeat (first | apply Kd.R_alloc | apply Kd.R_drewN | apply Kd.R_drew)); exact HO_4.out) hb); have n1_ := Aside0.mk (below_step (by repeat (first | (with_reducible first | exact HB.out | apply below_alloc | apply pw_below_drewN | apply below_drew1) | exact HB.out)) hb); have n2_ := Aside0.mk (hbox); have n3_ := Aside0.mk ((by rw [hg]; exact (below_size (by repeat (first | (with_reducible first | exact HB.out | apply below_alloc | apply pw_below_drewN | apply below_drew1) | exact HB.out))) : w.heap.size ≤ gb339)); have n4_ := Aside0.mk ((by rw [hg]; exact (below_size (by repeat (first | (with_reducible first | exact HB.out | apply below_alloc | apply pw_below_drewN | apply below_drew1) | exact HB.out))) : w.heap.size ≤ gb339)); clear HO_4; clear HB; have HO_4 := n0_; have HB := n1_; have BK339 := n2_; have GW339 := n3_; have GE339 := n4_; clear n0_ n1_ n2_ n3_ n4_; clear hb hbox hg; have hcz18_0 : w17.cell? ⟨gb339, 0, none⟩ = some (.int .i64 0) := (blk_cell BK339.out 0).trans rfl; have hcz18_1 : w17.cell? ⟨gb339, 1, none⟩ = some (.slice none 0 0) := (blk_cell BK339.out 1).trans rfl; have hcz18_2 : w17.cell? ⟨gb339, 2, none⟩ = some (.int .i64 0) := (blk_cell BK339.out 2).trans rfl; have hcz18_3 : w17.cell? ⟨gb339, 3, none⟩ = some (.int .i64 0) := (blk_cell BK339.out 3).trans rfl; have hfz18_0 := blk_frozen BK339.out 0; have hfz18_1 := blk_frozen BK339.out 1; have hfz18_2 := blk_frozen BK339.out 2; have hfz18_3 := blk_frozen BK339.out 3) | ((with_reducible refine gate_callee (f := 71) rfl ?_); refine goesL_ (some 26) rfl rfl Tryd.func71 (by kernel_rfl) rfl #[.slice A338_1 ((rd_T39 l0 x17_1).f1).length c338_1, .int .i64 (l0.length : Int)] rfl (by (try simp only [List.map_toArray, List.map_cons, List.map_nil]); first | done | rfl | (simp only [List.length_drop, List.length_take]; rfl)) ?_; (with_reducible refine (impl_setOf.calls k1 _ _ ((rd_T39 l0 x17_1).f1) (l0.length : Int) t340 true _ ?side1 ?side2 A8.out).mono ?_); (case side1 => exact Kd.C_below HR338_1.out (by repeat (first | (with_reducible first | exact HB.out | apply below_alloc | apply pw_below_drewN | apply below_drew1 | refine below_set ?_ GE339.out) | exact HB.out))); (case side2 => exact HC338_1.out); rintro e w' ⟨rfl, ⟨nd, rfl⟩⟩; refine ⟨_, rfl, ?_⟩) | (go_at_call 48; (with_reducible refine (impl_within.calls ((rd_T39 l0 x17_1).f0) 1 20 true _ A10.out).mono ?_); rintro e w' ⟨rfl, ⟨nd, rfl⟩⟩) | (go_at_call 48; (with_reducible refine (impl_within.calls ((rd_T39 l0 x17_1).f2) 0 2 true _ A12.out).mono ?_); rintro e w' ⟨rfl, ⟨nd, rfl⟩⟩) | (go_at_call 48; (with_reducible refine (impl_within.calls ((rd_T39 l0 x17_1).f3) 1 4 true _ A14.out).mono ?_); rintro e w' ⟨rfl, ⟨nd, rfl⟩⟩) | ((with_reducible refine gate_builtin (b := .append) (xs := #[.tmp 49, .tmp 51]) rfl ?_); at_builtin; refine Kd.R_append (Kd.int .u16) (w0 := w) w.heap.size rfl (.tmp 49) (.tmp 51) 62 51 (.int .u16 0) 2 rfl Tryd.underlying62 info51 rfl (by decide) (by omega) u4 x4_1 t340 [.int .u16 t340] (fun _ => True) (fun _ => False) rfl (by first | (go_simp; done) | (go_simp; rfl)) ?aP (fun _ hk => hk.elim) ?aF ?aO ?aB ?aS ?aL ?_; (case aP => exact rfl); (case aB => exact (by repeat (first | (with_reducible first | exact HB.out | apply below_alloc | apply pw_below_drewN | apply below_drew1 | refine below_set ?_ GE339.out) | exact HB.out))); (case aF => exact (fun _ _ => trivial)); (case aO => exact (by (with_reducible repeat (first | apply Kd.R_alloc | apply Kd.R_drewN | apply Kd.R_drew)); exact Kd.R_mono (Kd.R_far (p := ⟨gb339, 3, none⟩) (Kd.R_far (p := ⟨gb339, 2, none⟩) (Kd.R_far (p := ⟨gb339, 1, none⟩) (Kd.R_far (p := ⟨gb339, 0, none⟩) (Kd.R_types HO_4.out BK339.out (by decide)) (fun _ hk => hk.2) (.int .i64 ((rd_T39 l0 x17_1).f0))) (fun _ hk => hk.2) (.slice A338_1 ((rd_T39 l0 x17_1).f1).length c338_1)) (fun _ hk => hk.2) (.int .i64 ((rd_T39 l0 x17_1).f2))) (fun _ hk => hk.2) (.int .i64 ((rd_T39 l0 x17_1).f3))) (fun _ hk => trivial))); (case aS => exact (below_size (by repeat (first | (with_reducible first | exact HB.out | apply below_alloc | apply pw_below_drewN | apply below_drew1 | refine below_set ?_ GE339.out) | exact HB.out)))); (case aL => have := LMc16.out; omega); intro v346 w19 ho hb hg hat; rw [← Ny345.out] at ho; have n0_ := Aside0.mk (blk_grown (g := gb339) (o := .cells #[.int .i64 ((rd_T39 l0 x17_1).f0), .slice A338_1 ((rd_T39 l0 x17_1).f1).length c338_1, .int .i64 ((rd_T39 l0 x17_1).f2), .int .i64 ((rd_T39 l0 x17_1).f3)] 39 (0, 0)) (by (with_reducible repeat (first | refine blk_drewN ?_ _ | refine blk_drew ?_ | refine blk_alloc ?_ _)); refine blk_put (cs := #[.int .i64 ((rd_T39 l0 x17_1).f0), .slice A338_1 ((rd_T39 l0 x17_1).f1).length c338_1, .int .i64 ((rd_T39 l0 x17_1).f2), .int .i64 0]) ?_ 3 _ rfl; (with_reducible repeat (first | refine blk_drewN ?_ _ | refine blk_drew ?_ | refine blk_alloc ?_ _)); refine blk_put (cs := #[.int .i64 ((rd_T39 l0 x17_1).f0), .slice A338_1 ((rd_T39 l0 x17_1).f1).length c338_1, .int .i64 0, .int .i64 0]) ?_ 2 _ rfl; (with_reducible repeat (first | refine blk_drewN ?_ _ | refine blk_drew ?_ | refine blk_alloc ?_ _)); refine blk_put (cs := #[.int .i64 ((rd_T39 l0 x17_1).f0), .slice none 0 0, .int .i64 0, .int .i64 0]) ?_ 1 _ rfl; (with_reducible repeat (first | refine blk_drewN ?_ _ | refine blk_drew ?_ | refine blk_alloc ?_ _)); refine blk_put (cs := #[.int .i64 0, .slice none 0 0, .int .i64 0, .int .i64 0]) ?_ 0 _ rfl; (with_reducible repeat (first | refine blk_drewN ?_ _ | refine blk_drew ?_ | refine blk_alloc ?_ _)); exact BK339.out) hg (Kd.R_ne HO_4.out BK339.out (by decide))); have n1_ := Aside0.mk (hb); have n2_ := Aside0.mk (ho); clear BK339; clear HB; clear HO_4; have BK339 := n0_; have HB := n1_; have HO347 := n2_; clear n0_ n1_ n2_; clear ho hb hg hat))
            go_roundg k1
            case measure => have := HK1.out; omega
            case rel => exact ⟨(y345), (wrap64 (x17_1 + 1)), (by first | rfl | (simp; done) | (simp [*]; done)), H', ⟨by have := HK1.out; omega⟩, ⟨by (with_reducible repeat (first | apply Kd.R_alloc | apply Kd.R_drewN | apply Kd.R_drew)); exact HO347.out⟩, ⟨by repeat (first | (with_reducible first | exact HB.out | apply below_alloc | apply pw_below_drewN | apply below_drew1 | refine below_set ?_ GE339.out) | exact HB.out)⟩⟩
           ·rw [if_neg c16] at H
            exact absurd H (by simp)
          ·replace c15 := Bool.eq_false_iff.mpr c15
           subst c15
           have H1 : (some (([] : List Int), false)) = some (r1, r2) := by rw [if_neg (show ¬ (false = true) by decide)] at H; exact H
           clear H
           have H := H1
           clear H1
           simp only [Option.some.injEq, Prod.mk.injEq] at H
           obtain ⟨rfl, rfl⟩ := H
           have p338 : 0 ≤ (x17_1 : Int) := of_decide_eq_true (by first | (with_reducible assumption) | assumption)
           have q338 : x17_1 < (l0.length : Int) := of_decide_eq_true (by first | (with_reducible assumption) | assumption)
           obtain ⟨ad338, A338_1, c338_1, e338, hx338_0, hx338_1, hx338_2, hx338_3, hl338_1, hi338_1⟩ := at_T39 HR0.out x17_1 p338 q338
           cases e338
           replace hx338_0 := (HB.out.cell (World.block_lt_of_cell? w _ hx338_0)).trans hx338_0
           replace hx338_1 := (HB.out.cell (World.block_lt_of_cell? w _ hx338_1)).trans hx338_1
           replace hx338_2 := (HB.out.cell (World.block_lt_of_cell? w _ hx338_2)).trans hx338_2
           replace hx338_3 := (HB.out.cell (World.block_lt_of_cell? w _ hx338_3)).trans hx338_3
           have HR338_1 := Aside0.mk hi338_1
           have HC338_1 := Aside0.mk hl338_1
           clear hi338_1 hl338_1
           replace p338 := eq_true p338
           replace q338 := eq_true q338
           go_wp2_with (first | ((with_reducible refine gate_dst (N := 6) rfl ?_); refine box_event ?hg (N := 6) ?hd (cs := #[.int .i64 0, .slice none 0 0, .int .i64 0, .int .i64 0]) (t := 39) ?hr ?_; (case hd => rfl); (case hg => rfl); (case hr => first | (go_simp; done) | (go_simp; rfl)); intro gb339 hg w20 hbox hb; have n0_ := Aside0.mk (Kd.R_below (by (with_reducible repeat (first | apply Kd.R_alloc | apply Kd.R_drewN | apply Kd.R_drew)); exact HO_4.out) hb); have n1_ := Aside0.mk (below_step (by repeat (first | (with_reducible first | exact HB.out | apply below_alloc | apply pw_below_drewN | apply below_drew1) | exact HB.out)) hb); have n2_ := Aside0.mk (hbox); have n3_ := Aside0.mk ((by rw [hg]; exact (below_size (by repeat (first | (with_reducible first | exact HB.out | apply below_alloc | apply pw_below_drewN | apply below_drew1) | exact HB.out))) : w.heap.size ≤ gb339)); have n4_ := Aside0.mk ((by rw [hg]; exact (below_size (by repeat (first | (with_reducible first | exact HB.out | apply below_alloc | apply pw_below_drewN | apply below_drew1) | exact HB.out))) : w.heap.size ≤ gb339)); clear HO_4; clear HB; have HO_4 := n0_; have HB := n1_; have BK339 := n2_; have GW339 := n3_; have GE339 := n4_; clear n0_ n1_ n2_ n3_ n4_; clear hb hbox hg; have hcz21_0 : w20.cell? ⟨gb339, 0, none⟩ = some (.int .i64 0) := (blk_cell BK339.out 0).trans rfl; have hcz21_1 : w20.cell? ⟨gb339, 1, none⟩ = some (.slice none 0 0) := (blk_cell BK339.out 1).trans rfl; have hcz21_2 : w20.cell? ⟨gb339, 2, none⟩ = some (.int .i64 0) := (blk_cell BK339.out 2).trans rfl; have hcz21_3 : w20.cell? ⟨gb339, 3, none⟩ = some (.int .i64 0) := (blk_cell BK339.out 3).trans rfl; have hfz21_0 := blk_frozen BK339.out 0; have hfz21_1 := blk_frozen BK339.out 1; have hfz21_2 := blk_frozen BK339.out 2; have hfz21_3 := blk_frozen BK339.out 3) | ((with_reducible refine gate_callee (f := 71) rfl ?_); refine goesL_ (some 26) rfl rfl Tryd.func71 (by kernel_rfl) rfl #[.slice A338_1 ((rd_T39 l0 x17_1).f1).length c338_1, .int .i64 (l0.length : Int)] rfl (by (try simp only [List.map_toArray, List.map_cons, List.map_nil]); first | done | rfl | (simp only [List.length_drop, List.length_take]; rfl)) ?_; (with_reducible refine (impl_setOf.calls k1 _ _ ((rd_T39 l0 x17_1).f1) (l0.length : Int) t340 true _ ?side1 ?side2 A8.out).mono ?_); (case side1 => exact Kd.C_below HR338_1.out (by repeat (first | (with_reducible first | exact HB.out | apply below_alloc | apply pw_below_drewN | apply below_drew1 | refine below_set ?_ GE339.out) | exact HB.out))); (case side2 => exact HC338_1.out); rintro e w' ⟨rfl, ⟨nd, rfl⟩⟩; refine ⟨_, rfl, ?_⟩) | (go_at_call 48; (with_reducible refine (impl_within.calls ((rd_T39 l0 x17_1).f0) 1 20 true _ A10.out).mono ?_); rintro e w' ⟨rfl, ⟨nd, rfl⟩⟩) | (go_at_call 48; (with_reducible refine (impl_within.calls ((rd_T39 l0 x17_1).f2) 0 2 true _ A12.out).mono ?_); rintro e w' ⟨rfl, ⟨nd, rfl⟩⟩) | (go_at_call 48; (with_reducible refine (impl_within.calls ((rd_T39 l0 x17_1).f3) 1 4 false _ A14.out).mono ?_); rintro e w' ⟨rfl, ⟨nd, rfl⟩⟩))
           go_ret2
           exact ⟨_, by first | rfl | (simp [errW_none, errW_some] <;> rfl) | (simp [*, errW_none, errW_some] <;> rfl), by first | exact Kd.R_nil _ _ _ _ _ | exact Kd.N_nil _ _ _ _ _ | exact Kd.V_nil _ _ _ _ _ | exact Kd.Q_nil _ _ _ _ _ | exact Kd.S_nil _ _ _ _ _, by repeat (first | (with_reducible first | exact HB.out | apply below_alloc | apply pw_below_drewN | apply below_drew1 | refine below_set ?_ GE339.out) | exact HB.out)⟩
         ·replace c13 := Bool.eq_false_iff.mpr c13
          subst c13
          have H1 : (some (([] : List Int), false)) = some (r1, r2) := by rw [if_neg (show ¬ (false = true) by decide)] at H; exact H
          clear H
          have H := H1
          clear H1
          simp only [Option.some.injEq, Prod.mk.injEq] at H
          obtain ⟨rfl, rfl⟩ := H
          have p338 : 0 ≤ (x17_1 : Int) := of_decide_eq_true (by first | (with_reducible assumption) | assumption)
          have q338 : x17_1 < (l0.length : Int) := of_decide_eq_true (by first | (with_reducible assumption) | assumption)
          obtain ⟨ad338, A338_1, c338_1, e338, hx338_0, hx338_1, hx338_2, hx338_3, hl338_1, hi338_1⟩ := at_T39 HR0.out x17_1 p338 q338
          cases e338
          replace hx338_0 := (HB.out.cell (World.block_lt_of_cell? w _ hx338_0)).trans hx338_0
          replace hx338_1 := (HB.out.cell (World.block_lt_of_cell? w _ hx338_1)).trans hx338_1
          replace hx338_2 := (HB.out.cell (World.block_lt_of_cell? w _ hx338_2)).trans hx338_2
          replace hx338_3 := (HB.out.cell (World.block_lt_of_cell? w _ hx338_3)).trans hx338_3
          have HR338_1 := Aside0.mk hi338_1
          have HC338_1 := Aside0.mk hl338_1
          clear hi338_1 hl338_1
          replace p338 := eq_true p338
          replace q338 := eq_true q338
          go_wp2_with (first | ((with_reducible refine gate_dst (N := 6) rfl ?_); refine box_event ?hg (N := 6) ?hd (cs := #[.int .i64 0, .slice none 0 0, .int .i64 0, .int .i64 0]) (t := 39) ?hr ?_; (case hd => rfl); (case hg => rfl); (case hr => first | (go_simp; done) | (go_simp; rfl)); intro gb339 hg w22 hbox hb; have n0_ := Aside0.mk (Kd.R_below (by (with_reducible repeat (first | apply Kd.R_alloc | apply Kd.R_drewN | apply Kd.R_drew)); exact HO_4.out) hb); have n1_ := Aside0.mk (below_step (by repeat (first | (with_reducible first | exact HB.out | apply below_alloc | apply pw_below_drewN | apply below_drew1) | exact HB.out)) hb); have n2_ := Aside0.mk (hbox); have n3_ := Aside0.mk ((by rw [hg]; exact (below_size (by repeat (first | (with_reducible first | exact HB.out | apply below_alloc | apply pw_below_drewN | apply below_drew1) | exact HB.out))) : w.heap.size ≤ gb339)); have n4_ := Aside0.mk ((by rw [hg]; exact (below_size (by repeat (first | (with_reducible first | exact HB.out | apply below_alloc | apply pw_below_drewN | apply below_drew1) | exact HB.out))) : w.heap.size ≤ gb339)); clear HO_4; clear HB; have HO_4 := n0_; have HB := n1_; have BK339 := n2_; have GW339 := n3_; have GE339 := n4_; clear n0_ n1_ n2_ n3_ n4_; clear hb hbox hg; have hcz23_0 : w22.cell? ⟨gb339, 0, none⟩ = some (.int .i64 0) := (blk_cell BK339.out 0).trans rfl; have hcz23_1 : w22.cell? ⟨gb339, 1, none⟩ = some (.slice none 0 0) := (blk_cell BK339.out 1).trans rfl; have hcz23_2 : w22.cell? ⟨gb339, 2, none⟩ = some (.int .i64 0) := (blk_cell BK339.out 2).trans rfl; have hcz23_3 : w22.cell? ⟨gb339, 3, none⟩ = some (.int .i64 0) := (blk_cell BK339.out 3).trans rfl; have hfz23_0 := blk_frozen BK339.out 0; have hfz23_1 := blk_frozen BK339.out 1; have hfz23_2 := blk_frozen BK339.out 2; have hfz23_3 := blk_frozen BK339.out 3) | ((with_reducible refine gate_callee (f := 71) rfl ?_); refine goesL_ (some 26) rfl rfl Tryd.func71 (by kernel_rfl) rfl #[.slice A338_1 ((rd_T39 l0 x17_1).f1).length c338_1, .int .i64 (l0.length : Int)] rfl (by (try simp only [List.map_toArray, List.map_cons, List.map_nil]); first | done | rfl | (simp only [List.length_drop, List.length_take]; rfl)) ?_; (with_reducible refine (impl_setOf.calls k1 _ _ ((rd_T39 l0 x17_1).f1) (l0.length : Int) t340 true _ ?side1 ?side2 A8.out).mono ?_); (case side1 => exact Kd.C_below HR338_1.out (by repeat (first | (with_reducible first | exact HB.out | apply below_alloc | apply pw_below_drewN | apply below_drew1 | refine below_set ?_ GE339.out) | exact HB.out))); (case side2 => exact HC338_1.out); rintro e w' ⟨rfl, ⟨nd, rfl⟩⟩; refine ⟨_, rfl, ?_⟩) | (go_at_call 48; (with_reducible refine (impl_within.calls ((rd_T39 l0 x17_1).f0) 1 20 true _ A10.out).mono ?_); rintro e w' ⟨rfl, ⟨nd, rfl⟩⟩) | (go_at_call 48; (with_reducible refine (impl_within.calls ((rd_T39 l0 x17_1).f2) 0 2 false _ A12.out).mono ?_); rintro e w' ⟨rfl, ⟨nd, rfl⟩⟩))
          go_ret2
          exact ⟨_, by first | rfl | (simp [errW_none, errW_some] <;> rfl) | (simp [*, errW_none, errW_some] <;> rfl), by first | exact Kd.R_nil _ _ _ _ _ | exact Kd.N_nil _ _ _ _ _ | exact Kd.V_nil _ _ _ _ _ | exact Kd.Q_nil _ _ _ _ _ | exact Kd.S_nil _ _ _ _ _, by repeat (first | (with_reducible first | exact HB.out | apply below_alloc | apply pw_below_drewN | apply below_drew1 | refine below_set ?_ GE339.out) | exact HB.out)⟩
        ·replace c11 := Bool.eq_false_iff.mpr c11
         subst c11
         have H1 : (some (([] : List Int), false)) = some (r1, r2) := by rw [if_neg (show ¬ (false = true) by decide)] at H; exact H
         clear H
         have H := H1
         clear H1
         simp only [Option.some.injEq, Prod.mk.injEq] at H
         obtain ⟨rfl, rfl⟩ := H
         have p338 : 0 ≤ (x17_1 : Int) := of_decide_eq_true (by first | (with_reducible assumption) | assumption)
         have q338 : x17_1 < (l0.length : Int) := of_decide_eq_true (by first | (with_reducible assumption) | assumption)
         obtain ⟨ad338, A338_1, c338_1, e338, hx338_0, hx338_1, hx338_2, hx338_3, hl338_1, hi338_1⟩ := at_T39 HR0.out x17_1 p338 q338
         cases e338
         replace hx338_0 := (HB.out.cell (World.block_lt_of_cell? w _ hx338_0)).trans hx338_0
         replace hx338_1 := (HB.out.cell (World.block_lt_of_cell? w _ hx338_1)).trans hx338_1
         replace hx338_2 := (HB.out.cell (World.block_lt_of_cell? w _ hx338_2)).trans hx338_2
         replace hx338_3 := (HB.out.cell (World.block_lt_of_cell? w _ hx338_3)).trans hx338_3
         have HR338_1 := Aside0.mk hi338_1
         have HC338_1 := Aside0.mk hl338_1
         clear hi338_1 hl338_1
         replace p338 := eq_true p338
         replace q338 := eq_true q338
         go_wp2_with (first | ((with_reducible refine gate_dst (N := 6) rfl ?_); refine box_event ?hg (N := 6) ?hd (cs := #[.int .i64 0, .slice none 0 0, .int .i64 0, .int .i64 0]) (t := 39) ?hr ?_; (case hd => rfl); (case hg => rfl); (case hr => first | (go_simp; done) | (go_simp; rfl)); intro gb339 hg w24 hbox hb; have n0_ := Aside0.mk (Kd.R_below (by (with_reducible repeat (first | apply Kd.R_alloc | apply Kd.R_drewN | apply Kd.R_drew)); exact HO_4.out) hb); have n1_ := Aside0.mk (below_step (by repeat (first | (with_reducible first | exact HB.out | apply below_alloc | apply pw_below_drewN | apply below_drew1) | exact HB.out)) hb); have n2_ := Aside0.mk (hbox); have n3_ := Aside0.mk ((by rw [hg]; exact (below_size (by repeat (first | (with_reducible first | exact HB.out | apply below_alloc | apply pw_below_drewN | apply below_drew1) | exact HB.out))) : w.heap.size ≤ gb339)); have n4_ := Aside0.mk ((by rw [hg]; exact (below_size (by repeat (first | (with_reducible first | exact HB.out | apply below_alloc | apply pw_below_drewN | apply below_drew1) | exact HB.out))) : w.heap.size ≤ gb339)); clear HO_4; clear HB; have HO_4 := n0_; have HB := n1_; have BK339 := n2_; have GW339 := n3_; have GE339 := n4_; clear n0_ n1_ n2_ n3_ n4_; clear hb hbox hg; have hcz25_0 : w24.cell? ⟨gb339, 0, none⟩ = some (.int .i64 0) := (blk_cell BK339.out 0).trans rfl; have hcz25_1 : w24.cell? ⟨gb339, 1, none⟩ = some (.slice none 0 0) := (blk_cell BK339.out 1).trans rfl; have hcz25_2 : w24.cell? ⟨gb339, 2, none⟩ = some (.int .i64 0) := (blk_cell BK339.out 2).trans rfl; have hcz25_3 : w24.cell? ⟨gb339, 3, none⟩ = some (.int .i64 0) := (blk_cell BK339.out 3).trans rfl; have hfz25_0 := blk_frozen BK339.out 0; have hfz25_1 := blk_frozen BK339.out 1; have hfz25_2 := blk_frozen BK339.out 2; have hfz25_3 := blk_frozen BK339.out 3) | ((with_reducible refine gate_callee (f := 71) rfl ?_); refine goesL_ (some 26) rfl rfl Tryd.func71 (by kernel_rfl) rfl #[.slice A338_1 ((rd_T39 l0 x17_1).f1).length c338_1, .int .i64 (l0.length : Int)] rfl (by (try simp only [List.map_toArray, List.map_cons, List.map_nil]); first | done | rfl | (simp only [List.length_drop, List.length_take]; rfl)) ?_; (with_reducible refine (impl_setOf.calls k1 _ _ ((rd_T39 l0 x17_1).f1) (l0.length : Int) t340 true _ ?side1 ?side2 A8.out).mono ?_); (case side1 => exact Kd.C_below HR338_1.out (by repeat (first | (with_reducible first | exact HB.out | apply below_alloc | apply pw_below_drewN | apply below_drew1 | refine below_set ?_ GE339.out) | exact HB.out))); (case side2 => exact HC338_1.out); rintro e w' ⟨rfl, ⟨nd, rfl⟩⟩; refine ⟨_, rfl, ?_⟩) | (go_at_call 48; (with_reducible refine (impl_within.calls ((rd_T39 l0 x17_1).f0) 1 20 false _ A10.out).mono ?_); rintro e w' ⟨rfl, ⟨nd, rfl⟩⟩))
         go_ret2
         exact ⟨_, by first | rfl | (simp [errW_none, errW_some] <;> rfl) | (simp [*, errW_none, errW_some] <;> rfl), by first | exact Kd.R_nil _ _ _ _ _ | exact Kd.N_nil _ _ _ _ _ | exact Kd.V_nil _ _ _ _ _ | exact Kd.Q_nil _ _ _ _ _ | exact Kd.S_nil _ _ _ _ _, by repeat (first | (with_reducible first | exact HB.out | apply below_alloc | apply pw_below_drewN | apply below_drew1 | refine below_set ?_ GE339.out) | exact HB.out)⟩
       ·replace c9 := Bool.eq_false_iff.mpr c9
        subst c9
        have H1 : (some (([] : List Int), false)) = some (r1, r2) := by rw [if_neg (show ¬ (false = true) by decide)] at H; exact H
        clear H
        have H := H1
        clear H1
        simp only [Option.some.injEq, Prod.mk.injEq] at H
        obtain ⟨rfl, rfl⟩ := H
        have p338 : 0 ≤ (x17_1 : Int) := of_decide_eq_true (by first | (with_reducible assumption) | assumption)
        have q338 : x17_1 < (l0.length : Int) := of_decide_eq_true (by first | (with_reducible assumption) | assumption)
        obtain ⟨ad338, A338_1, c338_1, e338, hx338_0, hx338_1, hx338_2, hx338_3, hl338_1, hi338_1⟩ := at_T39 HR0.out x17_1 p338 q338
        cases e338
        replace hx338_0 := (HB.out.cell (World.block_lt_of_cell? w _ hx338_0)).trans hx338_0
        replace hx338_1 := (HB.out.cell (World.block_lt_of_cell? w _ hx338_1)).trans hx338_1
        replace hx338_2 := (HB.out.cell (World.block_lt_of_cell? w _ hx338_2)).trans hx338_2
        replace hx338_3 := (HB.out.cell (World.block_lt_of_cell? w _ hx338_3)).trans hx338_3
        have HR338_1 := Aside0.mk hi338_1
        have HC338_1 := Aside0.mk hl338_1
        clear hi338_1 hl338_1
        replace p338 := eq_true p338
        replace q338 := eq_true q338
        go_wp2_with (first | ((with_reducible refine gate_dst (N := 6) rfl ?_); refine box_event ?hg (N := 6) ?hd (cs := #[.int .i64 0, .slice none 0 0, .int .i64 0, .int .i64 0]) (t := 39) ?hr ?_; (case hd => rfl); (case hg => rfl); (case hr => first | (go_simp; done) | (go_simp; rfl)); intro gb339 hg w26 hbox hb; have n0_ := Aside0.mk (Kd.R_below (by (with_reducible repeat (first | apply Kd.R_alloc | apply Kd.R_drewN | apply Kd.R_drew)); exact HO_4.out) hb); have n1_ := Aside0.mk (below_step (by repeat (first | (with_reducible first | exact HB.out | apply below_alloc | apply pw_below_drewN | apply below_drew1) | exact HB.out)) hb); have n2_ := Aside0.mk (hbox); have n3_ := Aside0.mk ((by rw [hg]; exact (below_size (by repeat (first | (with_reducible first | exact HB.out | apply below_alloc | apply pw_below_drewN | apply below_drew1) | exact HB.out))) : w.heap.size ≤ gb339)); have n4_ := Aside0.mk ((by rw [hg]; exact (below_size (by repeat (first | (with_reducible first | exact HB.out | apply below_alloc | apply pw_below_drewN | apply below_drew1) | exact HB.out))) : w.heap.size ≤ gb339)); clear HO_4; clear HB; have HO_4 := n0_; have HB := n1_; have BK339 := n2_; have GW339 := n3_; have GE339 := n4_; clear n0_ n1_ n2_ n3_ n4_; clear hb hbox hg; have hcz27_0 : w26.cell? ⟨gb339, 0, none⟩ = some (.int .i64 0) := (blk_cell BK339.out 0).trans rfl; have hcz27_1 : w26.cell? ⟨gb339, 1, none⟩ = some (.slice none 0 0) := (blk_cell BK339.out 1).trans rfl; have hcz27_2 : w26.cell? ⟨gb339, 2, none⟩ = some (.int .i64 0) := (blk_cell BK339.out 2).trans rfl; have hcz27_3 : w26.cell? ⟨gb339, 3, none⟩ = some (.int .i64 0) := (blk_cell BK339.out 3).trans rfl; have hfz27_0 := blk_frozen BK339.out 0; have hfz27_1 := blk_frozen BK339.out 1; have hfz27_2 := blk_frozen BK339.out 2; have hfz27_3 := blk_frozen BK339.out 3) | ((with_reducible refine gate_callee (f := 71) rfl ?_); refine goesL_ (some 26) rfl rfl Tryd.func71 (by kernel_rfl) rfl #[.slice A338_1 ((rd_T39 l0 x17_1).f1).length c338_1, .int .i64 (l0.length : Int)] rfl (by (try simp only [List.map_toArray, List.map_cons, List.map_nil]); first | done | rfl | (simp only [List.length_drop, List.length_take]; rfl)) ?_; (with_reducible refine (impl_setOf.calls k1 _ _ ((rd_T39 l0 x17_1).f1) (l0.length : Int) t340 false _ ?side1 ?side2 A8.out).mono ?_); (case side1 => exact Kd.C_below HR338_1.out (by repeat (first | (with_reducible first | exact HB.out | apply below_alloc | apply pw_below_drewN | apply below_drew1 | refine below_set ?_ GE339.out) | exact HB.out))); (case side2 => exact HC338_1.out); rintro e w' ⟨rfl, ⟨nd, rfl⟩⟩; refine ⟨_, rfl, ?_⟩))
        go_ret2
        exact ⟨_, by first | rfl | (simp [errW_none, errW_some] <;> rfl) | (simp [*, errW_none, errW_some] <;> rfl), by first | exact Kd.R_nil _ _ _ _ _ | exact Kd.N_nil _ _ _ _ _ | exact Kd.V_nil _ _ _ _ _ | exact Kd.Q_nil _ _ _ _ _ | exact Kd.S_nil _ _ _ _ _, by repeat (first | (with_reducible first | exact HB.out | apply below_alloc | apply pw_below_drewN | apply below_drew1 | refine below_set ?_ GE339.out) | exact HB.out)⟩
      ·rw [if_neg c7] at H
       exact absurd H (by simp)
     ·rw [if_neg c6] at H
      exact absurd H (by simp)
    ·rw [if_neg c5] at H
     have c5b0 : decide (x17_1 < (l0.length : Int)) = false := decide_eq_false c5
     clear c5
     simp only [Option.some.injEq, Prod.mk.injEq] at H
     obtain ⟨rfl, rfl⟩ := H
     go_wp2
     go_ret2
     exact ⟨_, by first | rfl | (simp [errW_none, errW_some] <;> rfl) | (simp [*, errW_none, errW_some] <;> rfl), by (with_reducible repeat (first | apply Kd.R_alloc | apply Kd.R_drewN | apply Kd.R_drew)); exact HO_4.out, by repeat (first | (with_reducible first | exact HB.out | apply below_alloc | apply pw_below_drewN | apply below_drew1) | exact HB.out)⟩
end Go.Proofs.YtajapkjplgaigaaDoor.P
end
section
namespace Go.Proofs.YtajapkjplgaigaaDoor.P
open Go.RowKit Go.Proofs.YtajapkjplgaigaaDoorW.PrintWords Go.Proofs.YtajapkjplgaigaaDoorW.PrintLast Go.Proofs.YtajapkjplgaigaaDoorW.PrintMore
attribute [local go_sem] max2_int min2_int max_two min_two max_three min_three max_four min_four   -- for this text's walks alone
set_option linter.unusedVariables false
set_option linter.unusedSimpArgs false
mutual
def impl_order.l0 : Nat → List Int → List Int → Int → Int → Int → Option (List Int × Int)
 | 0, _, _, _, _, _ => none
 | k + 1, x0, x4, x5, x10, x11 => if x11 < x10 then (impl_order.l1 k x0 x4 x5 x10 x11 x0 (x0.length : Int) 0) else (some (x4, x5))
def impl_order.l1 : Nat → List Int → List Int → Int → Int → Int → List Int → Int → Int → Option (List Int × Int)
 | 0, _, _, _, _, _, _, _, _ => none
 | k + 1, x0, x4, x5, x10, x11, x13, x14, x15 => if x15 < x14 then (if 0 ≤ x15 then (if x15 < (x13.length : Int) then ((impl_set_has.f x5 x15).bind fun t352 => (if t352 = true then (impl_order.l1 k x0 x4 x5 x10 x11 x13 x14 (wrap64 (x15 + 1))) else (if (Go.bits .andNot .u16 (rd x13 x15) x5) = 0 then (if x4.length < 17592186044416 then ((impl_set_with.f x5 x15).bind fun t356 => (impl_order.l0 k x0 (x4 ++ [x15]) t356 x10 (wrap64 (x11 + 1)))) else (none)) else (impl_order.l1 k x0 x4 x5 x10 x11 x13 x14 (wrap64 (x15 + 1)))))) else (none)) else (none)) else (impl_order.l0 k x0 x4 x5 x10 (wrap64 (x11 + 1)))
end
def impl_order.f (k : Nat) (l0 : List Int) : Option (List Int × Int) := impl_order.l0 k l0 (([] : List Int)) 0 (l0.length : Int) 0
set_option maxHeartbeats 8000000 in
set_option maxRecDepth 100000 in
theorem impl_order.calls (k : Nat) (A0 : Option Addr) (c0 : Nat) (l0 : List Int) (r1 : List Int) (r2 : Int) (w : World) (hr0 : Kd.C (Kd.int .u16) w A0 l0.length l0) (hc0 : l0.length ≤ c0) (h : impl_order.f k l0 = some (r1, r2)) :
  Calls Tryd.prog 90 #[.slice A0 l0.length c0] w fun e w' => ∃ v0_ : Value, e = .returned (.tuple #[v0_, .int .u16 r2]) ∧ Kd.R (Kd.int .i64) 3 w' w.heap.size (fun _ => True) v0_ r1 ∧ Below w.heap.size w w' := by
 have HR0 := Aside0.mk hr0
 have HC0 := Aside0.mk hc0
 clear hr0 hc0
 have HB := Aside0.mk (Below.refl w.heap.size w)
 have H : (impl_order.l0 k l0 (([] : List Int)) 0 (l0.length : Int) 0) = some (r1, r2) := h
 clear h
 obtain ⟨y348, hy348⟩ : ∃ y_ : List Int, y_ = (([] : List Int)) := ⟨_, rfl⟩
 replace H : (impl_order.l0 k l0 y348 0 (l0.length : Int) 0) = some (r1, r2) := by first | (rw [hy348]; with_reducible exact H) | (have H2_ := (Option.bind_some _ _).symm.trans H; rw [hy348]; with_reducible exact H2_) | (have H2_ := (Option.bind_some _ _).symm.trans H; with_reducible exact H2_) | with_reducible exact H | (rw [hy348]; exact H) | exact H
 have Ny348 := Aside0.mk hy348
 clear hy348
 have H' := Aside0.mk H
 clear H
 go_enter Tryd.func90, Tryd.ntmps90
 go_wp2_with (first | ((with_reducible refine gate_dst (N := 8) rfl ?_); refine Kd.R_lit (Kd.int .i64) _ 3 ?hg (N := 8) ?hd (xs := ([] : List Int)) (inner := []) (ok := fun _ => True) (okp := fun _ => True) ?hr ?hp (fun _ hk => hk) trivial (Below.refl _ _) (Nat.le_refl _) (by simp) ?_; (case hd => rfl); (case hg => rfl); (case hr => first | (go_simp; done) | (go_simp; rfl)); (case hp => exact (Reps.none _ _)); intro v349 w2 ho3 hb hg_ hnew_; clear hg_ hnew_; (first | rw [← Ny348.out] at ho3 | (simp only [Int.reduceToNat] at ho3; rw [← Ny348.out] at ho3)); have n0_ := Aside0.mk (Kd.R_lower ho3 (below_size (by repeat (first | (with_reducible first | exact HB.out | apply below_alloc | apply pw_below_drewN | apply below_drew1) | exact HB.out)))); have n1_ := Aside0.mk (below_step (by repeat (first | (with_reducible first | exact HB.out | apply below_alloc | apply pw_below_drewN | apply below_drew1) | exact HB.out)) hb); clear HB; have HO350 := n0_; have HB := n1_; clear n0_ n1_; clear hb ho3))
 go_loopg [4, 5, 11] k (fun kq v4 v5 v11 w' => ∃ (x4_1 : List Int) (x5_1 : Int) (x11_1 : Int), v5 = .int .u16 x5_1 ∧ v11 = .int .i64 x11_1 ∧ Aside0 (impl_order.l0 kq l0 x4_1 x5_1 (l0.length : Int) x11_1 = some (r1, r2)) ∧ Aside0 (kq ≤ k) ∧ Aside0 (Kd.R (Kd.int .i64) 3 w' w.heap.size (fun _ => True) v4 x4_1) ∧ Aside0 (Below w.heap.size w w'))
 case atStart => exact ⟨(y348), (0), (0), (by first | rfl | (simp; done) | (simp [*]; done)), (by first | rfl | (simp; done) | (simp [*]; done)), H', ⟨Nat.le_refl _⟩, ⟨by (with_reducible repeat (first | apply Kd.R_alloc | apply Kd.R_drewN | apply Kd.R_drew)); exact HO350.out⟩, ⟨by repeat (first | (with_reducible first | exact HB.out | apply below_alloc | apply pw_below_drewN | apply below_drew1) | exact HB.out)⟩⟩
 case round =>
  clear H'
  try clear p2
  obtain ⟨x4_1, x5_1, x11_1, rfl, rfl, HA, HK1, HO_4, HB⟩ := hrel
  cases gk with
  | zero => exact absurd HA.out (by simp [impl_order.l0])
  | succ k1 =>
   have H := HA.out
   clear HA
   simp only [impl_order.l0] at H
   by_cases c4 : x11_1 < (l0.length : Int)
   ·rw [if_pos c4] at H
    have c4b0 : decide (x11_1 < (l0.length : Int)) = true := decide_eq_true c4
    clear c4
    have H' := Aside0.mk H
    clear H
    go_wp2
    go_loopg [4, 5, 15] k1 (fun kq v4 v5 v15 w' => ∃ (x4_2 : List Int) (x5_2 : Int) (x15_2 : Int), v5 = .int .u16 x5_2 ∧ v15 = .int .i64 x15_2 ∧ Aside0 (impl_order.l1 kq l0 x4_2 x5_2 (l0.length : Int) x11_1 l0 (l0.length : Int) x15_2 = some (r1, r2)) ∧ Aside0 (kq ≤ k1) ∧ Aside0 (Kd.R (Kd.int .i64) 3 w' w.heap.size (fun _ => True) v4 x4_2) ∧ Aside0 (Below w.heap.size w w'))
    case atStart => exact ⟨(x4_1), (x5_1), (0), (by first | rfl | (simp; done) | (simp [*]; done)), (by first | rfl | (simp; done) | (simp [*]; done)), H', ⟨Nat.le_refl _⟩, ⟨by (with_reducible repeat (first | apply Kd.R_alloc | apply Kd.R_drewN | apply Kd.R_drew)); exact HO_4.out⟩, ⟨by repeat (first | (with_reducible first | exact HB.out | apply below_alloc | apply pw_below_drewN | apply below_drew1) | exact HB.out)⟩⟩
    case round =>
     clear H'
     try clear p2
     try clear c4
     try clear c4b0
     try clear p2
     obtain ⟨x4_2, x5_2, x15_2, rfl, rfl, HA, HK2, HO_4, HB⟩ := hrel
     cases gk with
     | zero => exact absurd HA.out (by simp [impl_order.l1])
     | succ k2 =>
      have H := HA.out
      clear HA
      simp only [impl_order.l1] at H
      by_cases c5 : x15_2 < (l0.length : Int)
      ·rw [if_pos c5] at H
       have c5b0 : decide (x15_2 < (l0.length : Int)) = true := decide_eq_true c5
       clear c5
       by_cases c6 : 0 ≤ x15_2
       ·rw [if_pos c6] at H
        have c6b0 : decide (0 ≤ x15_2) = true := decide_eq_true c6
        clear c6
        by_cases c7 : x15_2 < (l0.length : Int)
        ·rw [if_pos c7] at H
         have c7b0 : decide (x15_2 < (l0.length : Int)) = true := decide_eq_true c7
         clear c7
         replace H := Option.bind_eq_some_iff.mp H
         obtain ⟨t352, A80, H⟩ := H
         replace H : (if t352 = true then (impl_order.l1 k2 l0 x4_2 x5_2 (l0.length : Int) x11_1 l0 (l0.length : Int) (wrap64 (x15_2 + 1))) else (if (Go.bits .andNot .u16 (rd l0 x15_2) x5_2) = 0 then (if x4_2.length < 17592186044416 then ((impl_set_with.f x5_2 x15_2).bind fun t356 => (impl_order.l0 k2 l0 (x4_2 ++ [x15_2]) t356 (l0.length : Int) (wrap64 (x11_1 + 1)))) else (none)) else (impl_order.l1 k2 l0 x4_2 x5_2 (l0.length : Int) x11_1 l0 (l0.length : Int) (wrap64 (x15_2 + 1))))) = some (r1, r2) := H
         have A8 := Aside0.mk A80
         clear A80
         by_cases c9 : t352 = true
         ·subst c9
          have H1 : (impl_order.l1 k2 l0 x4_2 x5_2 (l0.length : Int) x11_1 l0 (l0.length : Int) (wrap64 (x15_2 + 1))) = some (r1, r2) := by rw [if_pos rfl] at H; exact H
          clear H
          have H := H1
          clear H1
          have H' := Aside0.mk H
          clear H
          have p351 : 0 ≤ (x15_2 : Int) := of_decide_eq_true (by first | (with_reducible assumption) | assumption)
          have q351 : x15_2 < (l0.length : Int) := of_decide_eq_true (by first | (with_reducible assumption) | assumption)
          obtain ⟨ad351, e351, hx351_0⟩ := Kd.at_int HR0.out x15_2 p351 q351
          cases e351
          replace hx351_0 := (HB.out.cell (World.block_lt_of_cell? w _ hx351_0)).trans hx351_0
          replace p351 := eq_true p351
          replace q351 := eq_true q351
          go_wp2_with (first | ((with_reducible refine gate_callee (f := 49) rfl ?_); refine goesL_ (some 22) rfl rfl Tryd.func49 (by kernel_rfl) rfl #[.int .u16 x5_2, .int .i64 x15_2] rfl (by (try simp only [List.map_toArray, List.map_cons, List.map_nil]); first | done | rfl | (simp only [List.length_drop, List.length_take]; rfl)) ?_; (with_reducible refine (impl_set_has.calls x5_2 x15_2 true _ A8.out).mono ?_); rintro e w' ⟨rfl, ⟨nd, rfl⟩⟩; refine ⟨_, rfl, ?_⟩))
          go_roundg k2
          case measure => have := HK1.out; have := HK2.out; omega
          case rel => exact ⟨(x4_2), (x5_2), (wrap64 (x15_2 + 1)), (by first | rfl | (simp; done) | (simp [*]; done)), (by first | rfl | (simp; done) | (simp [*]; done)), H', ⟨by have := HK1.out; have := HK2.out; omega⟩, ⟨by (with_reducible repeat (first | apply Kd.R_alloc | apply Kd.R_drewN | apply Kd.R_drew)); exact HO_4.out⟩, ⟨by repeat (first | (with_reducible first | exact HB.out | apply below_alloc | apply pw_below_drewN | apply below_drew1) | exact HB.out)⟩⟩
         ·replace c9 := Bool.eq_false_iff.mpr c9
          subst c9
          have H1 : (if (Go.bits .andNot .u16 (rd l0 x15_2) x5_2) = 0 then (if x4_2.length < 17592186044416 then ((impl_set_with.f x5_2 x15_2).bind fun t356 => (impl_order.l0 k2 l0 (x4_2 ++ [x15_2]) t356 (l0.length : Int) (wrap64 (x11_1 + 1)))) else (none)) else (impl_order.l1 k2 l0 x4_2 x5_2 (l0.length : Int) x11_1 l0 (l0.length : Int) (wrap64 (x15_2 + 1)))) = some (r1, r2) := by rw [if_neg (show ¬ (false = true) by decide)] at H; exact H
          clear H
          have H := H1
          clear H1
          by_cases c10 : (Go.bits .andNot .u16 (rd l0 x15_2) x5_2) = 0
          ·rw [if_pos c10] at H
           have c10b0 : ((Go.bits .andNot .u16 (rd l0 x15_2) x5_2) == 0) = true := beq_iff_eq.mpr c10
           have c10b1 : ((Go.bits .andNot .u16 (rd l0 x15_2) x5_2) != 0) = false := bne_eq_false_iff_eq.mpr c10
           clear c10
           by_cases c11 : x4_2.length < 17592186044416
           ·rw [if_pos c11] at H
            have LMc11 := Aside0.mk c11
            clear c11
            obtain ⟨y353, hy353⟩ : ∃ y_ : List Int, y_ = (x4_2 ++ [x15_2]) := ⟨_, rfl⟩
            replace H : ((impl_set_with.f x5_2 x15_2).bind fun t356 => (impl_order.l0 k2 l0 y353 t356 (l0.length : Int) (wrap64 (x11_1 + 1)))) = some (r1, r2) := by first | (rw [hy353]; with_reducible exact H) | (have H2_ := (Option.bind_some _ _).symm.trans H; rw [hy353]; with_reducible exact H2_) | (have H2_ := (Option.bind_some _ _).symm.trans H; with_reducible exact H2_) | with_reducible exact H | (rw [hy353]; exact H) | exact H
            have Ny353 := Aside0.mk hy353
            clear hy353
            replace H := Option.bind_eq_some_iff.mp H
            obtain ⟨t356, A120, H⟩ := H
            replace H : (impl_order.l0 k2 l0 y353 t356 (l0.length : Int) (wrap64 (x11_1 + 1))) = some (r1, r2) := H
            have A12 := Aside0.mk A120
            clear A120
            have H' := Aside0.mk H
            clear H
            have p351 : 0 ≤ (x15_2 : Int) := of_decide_eq_true (by first | (with_reducible assumption) | assumption)
            have q351 : x15_2 < (l0.length : Int) := of_decide_eq_true (by first | (with_reducible assumption) | assumption)
            obtain ⟨ad351, e351, hx351_0⟩ := Kd.at_int HR0.out x15_2 p351 q351
            cases e351
            replace hx351_0 := (HB.out.cell (World.block_lt_of_cell? w _ hx351_0)).trans hx351_0
            replace p351 := eq_true p351
            replace q351 := eq_true q351
            go_wp2_with (first | ((with_reducible refine gate_callee (f := 49) rfl ?_); refine goesL_ (some 22) rfl rfl Tryd.func49 (by kernel_rfl) rfl #[.int .u16 x5_2, .int .i64 x15_2] rfl (by (try simp only [List.map_toArray, List.map_cons, List.map_nil]); first | done | rfl | (simp only [List.length_drop, List.length_take]; rfl)) ?_; (with_reducible refine (impl_set_has.calls x5_2 x15_2 false _ A8.out).mono ?_); rintro e w' ⟨rfl, ⟨nd, rfl⟩⟩; refine ⟨_, rfl, ?_⟩) | ((with_reducible refine gate_builtin (b := .append) (xs := #[.tmp 30, .tmp 32]) rfl ?_); at_builtin; refine Kd.R_append (Kd.int .i64) (w0 := w) w.heap.size rfl (.tmp 30) (.tmp 32) 24 3 (.int .i64 0) 8 rfl Tryd.underlying24 info3 rfl (by decide) (by omega) u4 x4_2 x15_2 [.int .i64 x15_2] (fun _ => True) (fun _ => False) rfl rfl ?aP (fun _ hk => hk.elim) ?aF ?aO ?aB ?aS ?aL ?_; (case aP => exact rfl); (case aB => exact (by repeat (first | (with_reducible first | exact HB.out | apply below_alloc | apply pw_below_drewN | apply below_drew1) | exact HB.out))); (case aF => exact (fun _ _ => trivial)); (case aO => exact (by (with_reducible repeat (first | apply Kd.R_alloc | apply Kd.R_drewN | apply Kd.R_drew)); exact HO_4.out)); (case aS => exact (below_size (by repeat (first | (with_reducible first | exact HB.out | apply below_alloc | apply pw_below_drewN | apply below_drew1) | exact HB.out)))); (case aL => have := LMc11.out; omega); intro v354 w13 ho hb hg hat; rw [← Ny353.out] at ho; have n0_ := Aside0.mk (hb); have n1_ := Aside0.mk (ho); clear HB; clear HO_4; have HB := n0_; have HO355 := n1_; clear n0_ n1_; clear ho hb hg hat) | ((with_reducible refine gate_callee (f := 50) rfl ?_); refine goesL_ (some 36) rfl rfl Tryd.func50 (by kernel_rfl) rfl #[.int .u16 x5_2, .int .i64 x15_2] rfl (by (try simp only [List.map_toArray, List.map_cons, List.map_nil]); first | done | rfl | (simp only [List.length_drop, List.length_take]; rfl)) ?_; (with_reducible refine (impl_set_with.calls x5_2 x15_2 t356 _ A12.out).mono ?_); rintro e w' ⟨rfl, ⟨nd, rfl⟩⟩; refine ⟨_, rfl, ?_⟩))
            go_roundg k2
            case measure => have := HK1.out; have := HK2.out; omega
            case rel => exact ⟨(y353), (t356), (wrap64 (x11_1 + 1)), (by first | rfl | (simp; done) | (simp [*]; done)), (by first | rfl | (simp; done) | (simp [*]; done)), H', ⟨by have := HK1.out; have := HK2.out; omega⟩, ⟨by (with_reducible repeat (first | apply Kd.R_alloc | apply Kd.R_drewN | apply Kd.R_drew)); exact HO355.out⟩, ⟨by repeat (first | (with_reducible first | exact HB.out | apply below_alloc | apply pw_below_drewN | apply below_drew1) | exact HB.out)⟩⟩
           ·rw [if_neg c11] at H
            exact absurd H (by simp)
          ·rw [if_neg c10] at H
           have c10b0 : ((Go.bits .andNot .u16 (rd l0 x15_2) x5_2) == 0) = false := beq_eq_false_iff_ne.mpr c10
           have c10b1 : ((Go.bits .andNot .u16 (rd l0 x15_2) x5_2) != 0) = true := bne_iff_ne.mpr c10
           have H' := Aside0.mk H
           clear H
           have p351 : 0 ≤ (x15_2 : Int) := of_decide_eq_true (by first | (with_reducible assumption) | assumption)
           have q351 : x15_2 < (l0.length : Int) := of_decide_eq_true (by first | (with_reducible assumption) | assumption)
           obtain ⟨ad351, e351, hx351_0⟩ := Kd.at_int HR0.out x15_2 p351 q351
           cases e351
           replace hx351_0 := (HB.out.cell (World.block_lt_of_cell? w _ hx351_0)).trans hx351_0
           replace p351 := eq_true p351
           replace q351 := eq_true q351
           go_wp2_with (first | ((with_reducible refine gate_callee (f := 49) rfl ?_); refine goesL_ (some 22) rfl rfl Tryd.func49 (by kernel_rfl) rfl #[.int .u16 x5_2, .int .i64 x15_2] rfl (by (try simp only [List.map_toArray, List.map_cons, List.map_nil]); first | done | rfl | (simp only [List.length_drop, List.length_take]; rfl)) ?_; (with_reducible refine (impl_set_has.calls x5_2 x15_2 false _ A8.out).mono ?_); rintro e w' ⟨rfl, ⟨nd, rfl⟩⟩; refine ⟨_, rfl, ?_⟩))
           go_roundg k2
           case measure => have := HK1.out; have := HK2.out; omega
           case rel => exact ⟨(x4_2), (x5_2), (wrap64 (x15_2 + 1)), (by first | rfl | (simp; done) | (simp [*]; done)), (by first | rfl | (simp; done) | (simp [*]; done)), H', ⟨by have := HK1.out; have := HK2.out; omega⟩, ⟨by (with_reducible repeat (first | apply Kd.R_alloc | apply Kd.R_drewN | apply Kd.R_drew)); exact HO_4.out⟩, ⟨by repeat (first | (with_reducible first | exact HB.out | apply below_alloc | apply pw_below_drewN | apply below_drew1) | exact HB.out)⟩⟩
        ·rw [if_neg c7] at H
         exact absurd H (by simp)
       ·rw [if_neg c6] at H
        exact absurd H (by simp)
      ·rw [if_neg c5] at H
       have c5b0 : decide (x15_2 < (l0.length : Int)) = false := decide_eq_false c5
       clear c5
       have H' := Aside0.mk H
       clear H
       go_wp2
       go_roundg k2
       case measure => have := HK1.out; have := HK2.out; omega
       case rel => exact ⟨(x4_2), (x5_2), (wrap64 (x11_1 + 1)), (by first | rfl | (simp; done) | (simp [*]; done)), (by first | rfl | (simp; done) | (simp [*]; done)), H', ⟨by have := HK1.out; have := HK2.out; omega⟩, ⟨by (with_reducible repeat (first | apply Kd.R_alloc | apply Kd.R_drewN | apply Kd.R_drew)); exact HO_4.out⟩, ⟨by repeat (first | (with_reducible first | exact HB.out | apply below_alloc | apply pw_below_drewN | apply below_drew1) | exact HB.out)⟩⟩
   ·rw [if_neg c4] at H
    have c4b0 : decide (x11_1 < (l0.length : Int)) = false := decide_eq_false c4
    clear c4
    simp only [Option.some.injEq, Prod.mk.injEq] at H
    obtain ⟨rfl, rfl⟩ := H
    go_wp2
    go_ret2
    exact ⟨_, by first | rfl | (simp [errW_none, errW_some] <;> rfl) | (simp [*, errW_none, errW_some] <;> rfl), by (with_reducible repeat (first | apply Kd.R_alloc | apply Kd.R_drewN | apply Kd.R_drew)); exact HO_4.out, by repeat (first | (with_reducible first | exact HB.out | apply below_alloc | apply pw_below_drewN | apply below_drew1) | exact HB.out)⟩
end Go.Proofs.YtajapkjplgaigaaDoor.P
end
section
namespace Go.Proofs.YtajapkjplgaigaaDoor.P
open Go.RowKit Go.Proofs.YtajapkjplgaigaaDoorW.PrintWords Go.Proofs.YtajapkjplgaigaaDoorW.PrintLast Go.Proofs.YtajapkjplgaigaaDoorW.PrintMore
attribute [local go_sem] max2_int min2_int max_two min_two max_three min_three max_four min_four   -- for this text's walks alone
set_option linter.unusedVariables false
set_option linter.unusedSimpArgs false
def impl_everything.f (a0 : Int) : Option (Int) := if 0 ≤ a0 then (some (IntKind.u16.wrap ((shl .u16 1 a0) - 1))) else (none)
set_option maxHeartbeats 8000000 in
set_option maxRecDepth 100000 in
theorem impl_everything.calls (a0 : Int) (r : Int) (w : World) (h : impl_everything.f a0 = some r) :
  Calls Tryd.prog 42 #[.int .i64 a0] w fun e w' => e = .returned (.int .u16 r) ∧ Drawn0 w w' := by
 have H : (if 0 ≤ a0 then (some (IntKind.u16.wrap ((shl .u16 1 a0) - 1))) else (none)) = some r := h
 clear h
 by_cases c2 : 0 ≤ a0
 ·rw [if_pos c2] at H
  have c2b0 := eq_true c2
  have c2b1 : decide (0 ≤ a0) = true := decide_eq_true c2
  clear c2
  obtain ⟨ji3, hji3⟩ : ∃ j_ : Int, (shl .u16 1 a0) = j_ := ⟨_, rfl⟩
  replace H : (some (IntKind.u16.wrap ((ji3) - 1))) = some r := by first | (rw [hji3] at H; exact H) | (simp only [hji3] at H ⊢; exact H)
  have hji3_ : (IntKind.u16.wrap (1 * 2 ^ min a0.toNat 16)) = ji3 := hji3
  have hji3z : a0 ≤ 16 → (IntKind.u16.wrap (1 * 2 ^ a0.toNat)) = ji3 := shl_small hji3
  have hji3u : (IntKind.u16.wrap (2 ^ min a0.toNat 16)) = ji3 := by have h_ := hji3_; rw [Int.one_mul] at h_; exact h_
  have hji3v : a0 ≤ 16 → (IntKind.u16.wrap (2 ^ a0.toNat)) = ji3 := fun hle_ => by have h_ := hji3z hle_; rw [Int.one_mul] at h_; exact h_
  obtain rfl := Option.some.inj H
  go_enter Tryd.func42, Tryd.ntmps42
  go_wp2
  go_ret
  exact ⟨by first | rfl | (simp; done) | (simp only [← hji3] <;> (first | rfl | simp)) | (simp [*]; done), by repeat (first | exact Drawn0.refl _ | apply Drawn0.step)⟩
 ·rw [if_neg c2] at H
  exact absurd H (by simp)
end Go.Proofs.YtajapkjplgaigaaDoor.P
end
section
namespace Go.Proofs.YtajapkjplgaigaaDoor.P
open Go.RowKit Go.Shelf Go.Proofs.YtajapkjplgaigaaDoorW.PrintWords Go.Proofs.YtajapkjplgaigaaDoorW.PrintLast Go.Proofs.YtajapkjplgaigaaDoorW.PrintMore
attribute [local go_sem] Oper.semAt_some
set_option linter.unusedVariables false
set_option linter.unusedSimpArgs false
def everyI (n : Nat) : Int := IntKind.u16.wrap ((shl .u16 1 (n : Int)) - 1)
theorem everyI_calls (n : Nat) (w : World) : Calls Tryd.prog 42 #[.int .i64 (n : Int)] w fun e w' => e = .returned (.int .u16 (everyI n)) ∧ Drawn0 w w' :=
 impl_everything.calls (n : Int) _ w (by unfold impl_everything.f; rw [if_pos (by omega)]; rfl)
set_option maxRecDepth 100000 in
set_option maxHeartbeats 4000000 in
theorem graphOf_no1 (k : Nat) (A0 : Option Addr) (c0 : Nat) (l0 : List TT) (nd : List Int) (w : World) (hr0 : Kd.C k39 w A0 l0.length l0) (hc0 : l0.length ≤ c0) (hN : impl_needsOf.f k l0 = some (nd, false)) :
  Calls Tryd.prog 58 #[.slice A0 l0.length c0] w fun e w' => e = .returned (.tuple #[.pointer none, .bool false]) ∧ Below w.heap.size w w' := by
 have nc := Aside0.mk (impl_needsOf.calls k A0 c0 l0 nd false w hr0 hc0 hN)
 clear hr0 hN
 refine calls_of_wpM Tryd.func58 rfl ?_
 simp only [Tryd.ntmps58, List.size_toArray, List.length_cons, List.length_nil, Nat.reduceAdd, Nat.reduceSub, Array.replicate_succ, Array.replicate_zero, List.push_toArray, List.append_toArray, List.nil_append, List.cons_append]
 go_wp2_with (go_at_call 89; refine nc.out.mono ?_; rintro e w1 ⟨v, rfl, hR, hB⟩; have hB' := Aside0.mk hB; clear hB hR)
 refine retM (B := w.heap.size) (fun W => Below w.heap.size w W) (ownFrom_below (Nat.le_refl _) (Nat.le_refl _)) trivial hB'.out ?_
 intro W' hbb
 exact ⟨.tuple #[.pointer none, .bool false], (results_tmp2 (t := 2) (u := 3) rfl _ _ _).trans rfl, rfl, hbb⟩
set_option maxRecDepth 100000 in
set_option maxHeartbeats 4000000 in
theorem graphOf_no2 (k : Nat) (A0 : Option Addr) (c0 : Nat) (l0 : List TT) (nd od : List Int) (dn : Int) (w : World) (hr0 : Kd.C k39 w A0 l0.length l0) (hc0 : l0.length ≤ c0) (hN : impl_needsOf.f k l0 = some (nd, true)) (hO : impl_order.f k nd = some (od, dn))
  (hd : (dn == everyI l0.length) = false) :
  Calls Tryd.prog 58 #[.slice A0 l0.length c0] w fun e w' => e = .returned (.tuple #[.pointer none, .bool false]) ∧ Below w.heap.size w w' := by
 have nc := Aside0.mk (impl_needsOf.calls k A0 c0 l0 nd true w hr0 hc0 hN)
 have hO' := Aside0.mk hO
 clear hr0 hN hO
 have hd2 : (dn != everyI l0.length) = true := by simpa [bne] using hd
 refine calls_of_wpM Tryd.func58 rfl ?_
 simp only [Tryd.ntmps58, List.size_toArray, List.length_cons, List.length_nil, Nat.reduceAdd, Nat.reduceSub, Array.replicate_succ, Array.replicate_zero, List.push_toArray, List.append_toArray, List.nil_append, List.cons_append]
 go_wp2_with (first | (go_at_call 89; refine nc.out.mono ?_; rintro e w1 ⟨v, rfl, hR, hB⟩; have hB' := Aside0.mk hB; obtain ⟨A1, c1, rfl, hl1, hC1⟩ := Kd.R_reads hR; have hC1' := Aside0.mk hC1; have oc := Aside0.mk (impl_order.calls k A1 c1 nd od dn w1 hC1 hl1 hO'.out); clear hB hR hC1) | (go_at_call 90; refine oc.out.mono ?_; rintro e w2 ⟨v2, rfl, hR2, hB2⟩; have hB2' := Aside0.mk (below_step hB'.out hB2); clear hR2 hB2) | (go_at_call 42; refine (everyI_calls l0.length _).mono ?_; rintro e w3 ⟨rfl, ⟨m3, rfl⟩⟩))
 refine retM (B := w.heap.size) (fun W => Below w.heap.size w W) (ownFrom_below (Nat.le_refl _) (Nat.le_refl _)) trivial (pw_below_drewN hB2'.out _) ?_
 intro W' hbb
 exact ⟨.tuple #[.pointer none, .bool false], (results_tmp2 (t := 2) (u := 3) rfl _ _ _).trans rfl, rfl, hbb⟩
def bStep (i : Nat) (bl : List Nat) (k : Nat) : List Nat := bl.set i (bl.getD i 0 ||| (bl.getD k 0 ||| 2 ^ k))
def aStep (i : Nat) (ab : List Nat) (k : Nat) : List Nat := ab.set k (ab.getD k 0 ||| 2 ^ i)
def relStep (nd : List Nat) (s : List Nat × List Nat) (i : Nat) : List Nat × List Nat :=
 ((bitsN (nd.getD i 0)).foldl (bStep i) s.1, (bitsN (((bitsN (nd.getD i 0)).foldl (bStep i) s.1).getD i 0)).foldl (aStep i) s.2)
def relP (nd : List Nat) (od : List Nat) (n : Nat) : List Nat × List Nat := od.foldl (relStep nd) (List.replicate n 0, List.replicate n 0)
def OkU (n : Nat) (l : List Nat) : Prop := l.length = n ∧ ∀ x ∈ l, x < 2 ^ n
theorem OkU.get {n : Nat} {l : List Nat} (h : OkU n l) (i : Nat) : l.getD i 0 < 2 ^ n := by
 rw [List.getD_eq_getElem?_getD]
 cases hi : l[i]? with
 | none => simp [Nat.two_pow_pos]
 | some v => exact h.2 v (List.mem_of_getElem? hi)
theorem OkU.set {n : Nat} {l : List Nat} (h : OkU n l) (i x : Nat) (hx : x < 2 ^ n) : OkU n (l.set i x) :=
 ⟨by simp [h.1], fun y hy => by rcases List.mem_or_eq_of_mem_set hy with h' | rfl; exact h.2 y h'; exact hx⟩
theorem OkU.bStep {n : Nat} {l : List Nat} (h : OkU n l) (i k : Nat) (hk : k < n) : OkU n (bStep i l k) := h.set _ _ (or_lt8 (h.get i) (with_lt (h.get k) hk))
theorem OkU.aStep {n : Nat} {l : List Nat} (h : OkU n l) (i k : Nat) (hi : i < n) : OkU n (aStep i l k) := h.set _ _ (with_lt (h.get k) hi)
theorem OkU.bFold {n : Nat} (i : Nat) : ∀ (ks : List Nat) {l : List Nat}, OkU n l → (∀ k ∈ ks, k < n) → OkU n (ks.foldl (P.bStep i) l)
 | [], _, h, _ => h
 | k :: ks, _, h, hk => OkU.bFold i ks (h.bStep i k (hk k List.mem_cons_self)) (fun k' h' => hk k' (List.mem_cons_of_mem _ h'))
theorem OkU.aFold {n : Nat} (i : Nat) (hi : i < n) : ∀ (ks : List Nat) {l : List Nat}, OkU n l → OkU n (ks.foldl (P.aStep i) l)
 | [], _, h => h
 | k :: ks, _, h => OkU.aFold i hi ks (h.aStep i k hi)
theorem bitsN_lt {s n : Nat} (hs : s < 2 ^ n) : ∀ k ∈ bitsN s, k < n := fun k hk => bit_lt hs (mem_bitsN.1 hk).2
theorem OkU.rel {n : Nat} {nd : List Nat} {s : List Nat × List Nat} (hnd : ∀ i, nd.getD i 0 < 2 ^ n) (h1 : OkU n s.1) (h2 : OkU n s.2) (i : Nat) (hi : i < n) : OkU n (relStep nd s i).1 ∧ OkU n (relStep nd s i).2 :=
 ⟨h1.bFold i _ (bitsN_lt (hnd i)), h2.aFold i hi _⟩
theorem OkU.zero (n : Nat) : OkU n (List.replicate n 0) := ⟨by simp, fun x hx => by rw [(List.mem_replicate.1 hx).2]; exact Nat.two_pow_pos n⟩
theorem OkU.relF {n : Nat} {nd : List Nat} (hnd : ∀ i, nd.getD i 0 < 2 ^ n) : ∀ (od : List Nat) (s : List Nat × List Nat), OkU n s.1 → OkU n s.2 → (∀ i ∈ od, i < n) → OkU n (od.foldl (relStep nd) s).1 ∧ OkU n (od.foldl (relStep nd) s).2
 | [], _, h1, h2, _ => ⟨h1, h2⟩
 | i :: od, s, h1, h2, ho => OkU.relF hnd od (relStep nd s i) (OkU.rel hnd h1 h2 i (ho i List.mem_cons_self)).1 (OkU.rel hnd h1 h2 i (ho i List.mem_cons_self)).2 (fun k hk => ho k (List.mem_cons_of_mem _ hk))
theorem relP_ok {n : Nat} {nd od : List Nat} (hnd : ∀ i, nd.getD i 0 < 2 ^ n) (ho : ∀ i ∈ od, i < n) : OkU n (relP nd od n).1 ∧ OkU n (relP nd od n).2 := OkU.relF hnd od _ (OkU.zero n) (OkU.zero n) ho
structure F8 (n : Nat) (V0 V1 V2 : Value) (w3 : World) (b1 b2 b3 b4 : Nat) (bl ab : List Nat) (W : World) : Prop where
 bel : Below w3.heap.size w3 W
 h1 : W.heap[b1]? = some (rowU bl)
 h2 : W.heap[b2]? = some (rowU ab)
 h3 : W.heap[b3]? = some (.cells #[V0, V1, V2, slv b1 n, slv b2 n] 64 (0, 0))
 h4 : W.heap[b4]? = some (.cells #[.pointer (some ⟨b3, 0, none⟩)] 49 (0, 0))
theorem own_F8 {β : Type} (n : Nat) (V0 V1 V2 : Value) (w3 : World) (b1 b2 b3 b4 : Nat) (bl ab : β → List Nat) (B : Nat) (hB : w3.heap.size ≤ B) : OwnFrom B (fun s W => F8 n V0 V1 V2 w3 b1 b2 b3 b4 (bl s) (ab s) W) := by
 intro s W W' row h hg hr
 exact ⟨(ownFrom_below (Nat.le_refl _) hB) s W W' row h.bel hg hr, own_blk B b1 (fun s => ((nI (bl s)).map (Value.int .u16)).toArray) _ s W W' row h.h1 hg hr, own_blk B b2 (fun s => ((nI (ab s)).map (Value.int .u16)).toArray) _ s W W' row h.h2 hg hr,
  own_blk B b3 (fun _ => _) _ s W W' row h.h3 hg hr, own_blk B b4 (fun _ => _) _ s W W' row h.h4 hg hr⟩
theorem F8.alloc {n : Nat} {V0 V1 V2 : Value} {w3 W : World} {b1 b2 b3 b4 : Nat} {bl ab : List Nat} (h : F8 n V0 V1 V2 w3 b1 b2 b3 b4 bl ab W) (o : Obj) : F8 n V0 V1 V2 w3 b1 b2 b3 b4 bl ab (W.alloc o) :=
 ⟨h.bel.alloc h.bel.size o, blk_alloc h.h1 o, blk_alloc h.h2 o, blk_alloc h.h3 o, blk_alloc h.h4 o⟩
theorem F8.drew {n : Nat} {V0 V1 V2 : Value} {w3 W : World} {b1 b2 b3 b4 : Nat} {bl ab : List Nat} (h : F8 n V0 V1 V2 w3 b1 b2 b3 b4 bl ab W) : F8 n V0 V1 V2 w3 b1 b2 b3 b4 bl ab W.drew :=
 ⟨below_drew h.bel, h.h1, h.h2, h.h3, h.h4⟩
theorem grown_set (W : World) (m b i : Nat) (v : Value) : W.grownBy ((W.drewN m).setCell ⟨b, i, none⟩ v) (some b) :=
 ⟨rfl, rfl, rfl, by simp [World.setCell], fun k _ hne => Below.heap_setCell (W.drewN m) ⟨b, i, none⟩ v k (fun e => hne (by rw [e]))⟩
theorem keeps_set (B : Nat) (W : World) (m : Nat) (a : Addr) (v : Value) : KeepsFrom B W ((W.drewN m).setCell a v) :=
 ⟨((KeepsOthers.setCell (W.drewN m) a v).from B).size, ((KeepsOthers.setCell (W.drewN m) a v).from B).same⟩
theorem F8.setB {n : Nat} {V0 V1 V2 : Value} {w3 W : World} {b1 b2 b3 b4 : Nat} {bl ab : List Nat} (h : F8 n V0 V1 V2 w3 b1 b2 b3 b4 bl ab W) (hge : w3.heap.size ≤ b1) (hne : b1 ≠ b2) (m i x : Nat) :
  F8 n V0 V1 V2 w3 b1 b2 b3 b4 (bl.set i x) ab ((W.drewN m).setCell ⟨b1, i, none⟩ (.int .u16 (x : Int))) := by
 have hg := grown_set W m b1 i (.int .u16 (x : Int))
 exact ⟨(pw_below_drewN h.bel m).setCell hge _, rowU_set (W := W.drewN m) h.h1 i x, blk_grown h.h2 hg (fun e => hne (by injection e with e; exact e.symm)), blk_grown h.h3 hg (fun e => blk_ne h.h1 h.h3 (by decide) (by injection e with e; exact e.symm)), blk_grown h.h4 hg (fun e => blk_ne h.h1 h.h4 (by decide) (by injection e with e; exact e.symm))⟩
theorem F8.setA {n : Nat} {V0 V1 V2 : Value} {w3 W : World} {b1 b2 b3 b4 : Nat} {bl ab : List Nat} (h : F8 n V0 V1 V2 w3 b1 b2 b3 b4 bl ab W) (hge : w3.heap.size ≤ b2) (hne : b1 ≠ b2) (m i x : Nat) :
  F8 n V0 V1 V2 w3 b1 b2 b3 b4 bl (ab.set i x) ((W.drewN m).setCell ⟨b2, i, none⟩ (.int .u16 (x : Int))) := by
 have hg := grown_set W m b2 i (.int .u16 (x : Int))
 exact ⟨(pw_below_drewN h.bel m).setCell hge _, blk_grown h.h1 hg (fun e => hne (by injection e)), rowU_set (W := W.drewN m) h.h2 i x, blk_grown h.h3 hg (fun e => blk_ne h.h2 h.h3 (by decide) (by injection e with e; exact e.symm)), blk_grown h.h4 hg (fun e => blk_ne h.h2 h.h4 (by decide) (by injection e with e; exact e.symm))⟩
theorem own_move {w U : World} {base : Nat} {e : TypeId} {size n : Nat} {v : Value} {xs : List Value} (h : w.ownsRow base e size v n xs) (hk : ∀ k, base ≤ k → k < w.heap.size → U.heap[k]? = w.heap[k]?) : U.ownsRow base e size v n xs := by
 obtain ⟨h1, h2 | ⟨g, cap, cur, e1, e2, e3, h3⟩⟩ := h
 ·exact ⟨h1, .inl h2⟩
 ·exact ⟨h1, .inr ⟨g, cap, cur, e1, e2, (hk g e2 (Array.getElem?_eq_some_iff.1 e3).1).trans e3, h3⟩⟩
theorem C_move {k : IntKind} {e : TypeId} {w U : World} {base n c : Nat} {A : Option Addr} {xs : List Int} (h : w.ownsRow base e 1 (.slice A n c) n (encs (Value.int k) xs)) (hn : n = xs.length) (hk : ∀ k, base ≤ k → k < w.heap.size → U.heap[k]? = w.heap[k]?) : Kd.C (Kd.int k) U A xs.length xs := by
 subst hn
 exact Kd.C_of_reads (d := (0 : Int)) (own_reads_of' (own_move h hk))
set_option maxRecDepth 100000 in
set_option maxHeartbeats 4000000 in
theorem graphOf_yes (k : Nat) (A0 : Option Addr) (c0 : Nat) (l0 : List TT) (nd od : List Int) (dn : Int) (w : World) (hr0 : Kd.C k39 w A0 l0.length l0) (hc0 : l0.length ≤ c0) (hN : impl_needsOf.f k l0 = some (nd, true)) (hO : impl_order.f k nd = some (od, dn))
  (hd : (dn == everyI l0.length) = true) (hlen : l0.length ≤ 8) (nN oN : List Nat) (hnd : nd = nI nN) (hod : od = nI oN) (hnl : nN.length = l0.length) (hns : ∀ x ∈ nN, x < 2 ^ l0.length) (hos : ∀ x ∈ oN, x < l0.length) (hT : TabOK w) :
  Calls Tryd.prog 58 #[.slice A0 l0.length c0] w fun e w' => ∃ g, e = .returned (.tuple #[.pointer (some ⟨g, 0, none⟩), .bool true]) ∧ (∀ U : World, Kd.C k39 U A0 l0.length l0 → (∀ k, w.heap.size ≤ k → k < w'.heap.size → U.heap[k]? = w'.heap[k]?) → IsG U g ⟨l0, nd, od, nI (relP nN oN l0.length).1, nI (relP nN oN l0.length).2⟩) ∧ Below w.heap.size w w' := by
 have nc := Aside0.mk (impl_needsOf.calls k A0 c0 l0 nd true w hr0 hc0 hN)
 have hO' := Aside0.mk hO
 have hr0' := Aside0.mk hr0
 have hc0' := Aside0.mk hc0
 have hT' := Aside0.mk hT
 have hlen' := Aside0.mk hlen
 have hnd' := Aside0.mk hnd
 have hod' := Aside0.mk hod
 have hnl' := Aside0.mk hnl
 have hns' := Aside0.mk hns
 have hos' := Aside0.mk hos
 clear hr0 hN hO hT hlen hnd hod hns hos hc0 hnl
 have hd2 : (dn != everyI l0.length) = false := by simpa [bne] using hd
 refine calls_of_wpM Tryd.func58 rfl ?_
 simp only [Tryd.ntmps58, List.size_toArray, List.length_cons, List.length_nil, Nat.reduceAdd, Nat.reduceSub, Array.replicate_succ, Array.replicate_zero, List.push_toArray, List.append_toArray, List.nil_append, List.cons_append]
 go_wp2_with (first | (go_at_call 89; refine nc.out.mono ?_; rintro e w1 ⟨v, rfl, hR, hB⟩; have hB' := Aside0.mk hB; obtain ⟨A1, c1, rfl, hl1, hC1⟩ := Kd.R_reads hR; have hO1 := Aside0.mk (Kd.own_of_R (enc := Value.int .u16) (h1 := fun _ => rfl) hR); have hC1' := Aside0.mk hC1; have hl1' := Aside0.mk hl1; have oc := Aside0.mk (impl_order.calls k A1 c1 nd od dn w1 hC1 hl1 hO'.out); clear hB hR hC1 hl1) | (go_at_call 90; refine oc.out.mono ?_; rintro e w2 ⟨v2, rfl, hR2, hB2⟩; obtain ⟨A2, c2, rfl, hl2, hC2⟩ := Kd.R_reads hR2; have hO2 := Aside0.mk (Kd.own_of_R (enc := Value.int .i64) (h1 := fun _ => rfl) hR2); have hC2' := Aside0.mk hC2; have hl2' := Aside0.mk hl2; have hB2' := Aside0.mk hB2; clear hR2 hB2 hC2 hl2) | (go_at_call 42; refine (everyI_calls l0.length _).mono ?_; rintro e w3 ⟨rfl, ⟨m3, rfl⟩⟩))
 have hB3' := Aside0.mk (pw_below_drewN (below_step hB'.out hB2'.out) m3)
 have hM1 := Aside0.mk (show ∀ k, k < w1.heap.size → (w2.drewN m3).heap[k]? = w1.heap[k]? from fun k hk => hB2'.out.block k hk)
 have hM2 := Aside0.mk (show ∀ k, k < w2.heap.size → (w2.drewN m3).heap[k]? = w2.heap[k]? from fun k hk => rfl)
 have hM3 := Aside0.mk (show w1.heap.size ≤ (w2.drewN m3).heap.size ∧ w2.heap.size ≤ (w2.drewN m3).heap.size ∧ w.heap.size ≤ w1.heap.size from ⟨hB2'.out.size, Nat.le_refl _, hB'.out.size⟩)
 have hA0 := Aside0.mk (Kd.C_drewN (Kd.C_below (Kd.C_below hr0'.out hB'.out) hB2'.out) m3)
 have hA1 := Aside0.mk (Kd.C_drewN (Kd.C_below hC1'.out hB2'.out) m3)
 have hA2 := Aside0.mk (Kd.C_drewN hC2'.out m3)
 generalize w2.drewN m3 = w3 at *
 have hT3 := Aside0.mk (hT'.out.below hB3'.out)
 clear nc oc hB' hB2' hC1' hC2' hr0' hO'
 obtain ⟨n, hn⟩ : ∃ n, n = l0.length := ⟨_, rfl⟩
 have hn' := Aside0.mk hn
 simp only [← hn]
 clear hn
 show (Code.region 7 (opsOf Tryd.f58 7) true).wp _ _ _ _
 refine region7 A0 A1 A2 n _ _ c0 c1 c2 _ (by simp) (by rfl) (by rfl) (by rfl) (by rw [hn'.out]; exact hlen'.out) w3 w3 (Below.refl _ _) _ ?_
 rintro a' w4 ⟨b1, b2, b3, b4, v9, rfl, hF⟩
 simp only [L7, putSel, if_true, Act.put, List.setIfInBounds_toArray, List.set_cons_zero, List.set_cons_succ]
 have hF8 : F8 n (.slice A0 n c0) (.slice A1 nd.length c1) (.slice A2 od.length c2) w3 b1 b2 b3 b4 (List.replicate n 0) (List.replicate n 0) w4 :=
  ⟨hF.bel, (hF.h1 rfl).trans (by rw [zrow, rowU_zero]), (hF.h2 rfl).trans (by rw [zrow, rowU_zero]), hF.h3 rfl, hF.h5 rfl⟩
 have hge := Aside0.mk (show w3.heap.size ≤ b1 ∧ w3.heap.size ≤ b2 ∧ w3.heap.size ≤ b3 ∧ w3.heap.size ≤ b4 from ⟨hF.g1 rfl, hF.g2 rfl, hF.g3 rfl, hF.g4 rfl⟩)
 have hne := Aside0.mk (show b1 ≠ b2 from hF.ne rfl rfl)
 have hF8' := Aside0.mk hF8
 have hv9 := hF.h9 rfl
 clear hF hF8
 subst hv9
 go_wp2
 refine wp_loop_slots [10, 43, 44, 45, 46, 47, 48, 49, 50, 51, 71, 72, 73, 74, 75, 76, 77, 78, 95] [undef, .int .i64 0, undef, undef, undef, undef, undef, undef, undef, undef, undef, undef, undef, undef, undef, undef, undef, undef, undef] (fun kq vs ds W => ∃ j : Nat, ∃ u10 u44 u45 u46 u47 u48 u49 u50 u51 u71 u72 u73 u74 u75 u76 u77 u78 u95, vs = [u10, .int .i64 (j : Int), u44, u45, u46, u47, u48, u49, u50, u51, u71, u72, u73, u74, u75, u76, u77, u78, u95] ∧ Aside0 (kq + j = od.length) ∧ Aside0 (F8 n (.slice A0 n c0) (.slice A1 nd.length c1) (.slice A2 od.length c2) w3 b1 b2 b3 b4 (relP nN (oN.take j) n).1 (relP nN (oN.take j) n).2 W) ∧ Aside0 (Marks w3.heap.size ds W)) od.length (by simp only [setAll, List.setIfInBounds_toArray, List.set_cons_zero, List.set_cons_succ]) ⟨0, undef, undef, undef, undef, undef, undef, undef, undef, undef, undef, undef, undef, undef, undef, undef, undef, undef, undef, rfl, ⟨by omega⟩, hF8', ⟨Marks.nil _ _⟩⟩ ?_
 rintro gk vs ds W ⟨j, u10, u44, u45, u46, u47, u48, u49, u50, u51, u71, u72, u73, u74, u75, u76, u77, u78, u95, rfl, hk, hG, hM⟩ K hK
 simp only [setAll, List.setIfInBounds_toArray, List.set_cons_zero, List.set_cons_succ]
 have hG' := hG
 by_cases hj : j < od.length
 case neg =>
  obtain rfl : j = od.length := by have := hk.out; omega
  have c4 : W.cell? ⟨b4, 0, none⟩ = some (.pointer (some ⟨b3, 0, none⟩)) := (blk_cell hG.out.h4 0).trans rfl
  clear hK
  go_wp2
  have hnb : ∀ i, nN.getD i 0 < 2 ^ n := fun i => OkU.get ⟨by rw [hnl'.out, hn'.out], fun x hx => by rw [hn'.out]; exact hns'.out x hx⟩ i
  have hall : oN.take od.length = oN := by rw [hod'.out, nI_length, List.take_length]
  have hG2 := hG.out
  rw [hall] at hG2
  obtain ⟨hok1, hok2⟩ := relP_ok hnb (od := oN) (fun i hi => by rw [hn'.out]; exact hos'.out i hi)
  have hbelow : Below w.heap.size w W := below_step hB3'.out hG2.bel
  have hn8 : n ≤ 8 := by rw [hn'.out]; exact hlen'.out
  refine retM (B := w3.heap.size) (fun W => F8 n (.slice A0 n c0) (.slice A1 nd.length c1) (.slice A2 od.length c2) w3 b1 b2 b3 b4 (relP nN oN n).1 (relP nN oN n).2 W) (own_F8 _ _ _ _ _ _ _ _ _ _ _ _ (Nat.le_refl _)) hM.out hG2 ?_
  intro W' hE
  refine ⟨.tuple #[.pointer (some ⟨b3, 0, none⟩), .bool true], (results_tmp2 (t := 2) (u := 3) rfl _ _ _).trans rfl, b3, rfl, ?_, below_step hB3'.out hE.bel⟩
  intro U hU0 hUk
  have g1 : w.heap.size ≤ w3.heap.size := hB3'.out.size
  have keep : ∀ {x o}, w3.heap.size ≤ x → W'.heap[x]? = some o → U.heap[x]? = some o := fun h1 h2 => (hUk _ (by omega) (Array.getElem?_eq_some_iff.1 h2).1).trans h2
  have k1 := keep hge.out.1 hE.h1
  have k2 := keep hge.out.2.1 hE.h2
  have k3 := keep hge.out.2.2.1 hE.h3
  have s3 := hE.bel.size
  refine ⟨A0, c0, A1, c1, A2, c2, some ⟨b1, 0, none⟩, n, some ⟨b2, 0, none⟩, n, ?_, ⟨hU0, hc0'.out⟩, ⟨C_move hO1.out rfl (fun k h1 h2 => ?_), hl1'.out⟩, ⟨C_move hO2.out rfl (fun k h1 h2 => ?_), hl2'.out⟩, ⟨?_, ?_⟩, ⟨?_, ?_⟩⟩
  ·rw [k3]
   simp only [nI_length, hok1.1, hok2.1, ← hn'.out]
  ·rw [hUk k h1 (by have := hM3.out; omega), hE.bel.block k (by have := hM3.out; omega)]
   exact hM1.out k h2
  ·rw [hUk k (by have := hM3.out; omega) (by have := hM3.out; omega), hE.bel.block k (by have := hM3.out; omega)]
   exact hM2.out k h2
  ·simp only [nI_length, ← hn'.out]
   exact Kd.C_of_reads (rowU_reads k1 (by rw [hok1.1]; exact hn8))
  ·simp only [nI_length, ← hn'.out, hok1.1]; exact Nat.le_refl _
  ·simp only [nI_length, ← hn'.out]
   exact Kd.C_of_reads (rowU_reads k2 (by rw [hok2.1]; exact hn8))
  ·simp only [nI_length, ← hn'.out, hok2.1]; exact Nat.le_refl _
 case pos =>
  obtain ⟨o, ho⟩ : ∃ o : Nat, oN[j]? = some o := by
   have hl : j < oN.length := by rw [hod'.out, nI_length] at hj; exact hj
   exact ⟨_, List.getElem?_eq_getElem hl⟩
  have hk1 := Aside0.mk (show gk - 1 < gk by have := hk.out; omega)
  have hk2 := Aside0.mk (show gk - 1 + (j + 1) = od.length by have := hk.out; omega)
  have hmax := Kd.C_max hA2.out
  have hcast' := Aside0.mk (show wrap64 ((j : Int) + 1) = ((j + 1 : Nat) : Int) by rw [IntWalk.wrap64_in _ (by omega)]; omega)
  clear hmax
  have hoo := Aside0.mk (hos'.out o (List.mem_of_getElem? ho))
  obtain ⟨adn, rfl, hxn⟩ := Kd.at_int (Kd.C_below hA2.out hG.out.bel) (j : Int) (by omega) (by omega)
  have ho2 : rd od (j : Int) = (o : Int) := by rw [hod'.out, rd_nI, List.getD_eq_getElem?_getD, ho]; rfl
  simp only [Int.toNat_natCast, ho2] at hxn
  obtain ⟨ad1, hA1e, hx1⟩ := Kd.at_int (Kd.C_below hA1.out hG.out.bel) (o : Int) (by omega) (by rw [hnd'.out, nI_length, hnl'.out]; exact_mod_cast hoo.out)
  subst hA1e
  have hn2 : rd nd (o : Int) = ((nN.getD o 0 : Nat) : Int) := by rw [hnd'.out, rd_nI]
  obtain ⟨sn, hsn⟩ : ∃ sn, nN.getD o 0 = sn := ⟨_, rfl⟩
  simp only [Int.toNat_natCast, hn2, hsn] at hx1
  clear hn2
  have hsn' := Aside0.mk hsn
  clear hsn
  have hol : o < nd.length := by rw [hnd'.out, nI_length, hnl'.out]; exact hoo.out
  have hx1' := cell_alloc hx1 (.cells #[.int .i64 (o : Int)] 3)
  have hK' := Aside0.mk hK
  clear hK hx1
  go_wp2_with (go_at_call 54; refine (all_calls _ _).mono ?_; rintro e w' ⟨rfl, rfl⟩)
  have hnb : ∀ i, nN.getD i 0 < 2 ^ n := fun i => OkU.get ⟨by rw [hnl'.out, hn'.out], fun x hx => by rw [hn'.out]; exact hns'.out x hx⟩ i
  have hsb : sn < 2 ^ n := by rw [← hsn'.out]; exact hnb o
  have hon : o < n := by rw [hn'.out]; exact hoo.out
  have hn8 : n ≤ 8 := by rw [hn'.out]; exact hlen'.out
  obtain ⟨hok1, hok2⟩ := relP_ok hnb (od := oN.take j) (fun i hi => by rw [hn'.out]; exact hos'.out i (List.mem_of_mem_take hi))
  have hstep : relP nN (oN.take (j + 1)) n = relStep nN (relP nN (oN.take j) n) o := by
   unfold relP
   rw [List.take_add_one, ho, Option.toList_some, List.foldl_append]
   rfl
  have hstep' := Aside0.mk hstep
  clear hstep
  have hTW := hT3.out.below hG.out.bel
  generalize hbl : (relP nN (oN.take j) n).1 = bl at *
  generalize hab : (relP nN (oN.take j) n).2 = ab at *
  have hG1 := hG.out.alloc (.cells #[.int .i64 (o : Int)] 3)
  have hq1 := Boxed.new W 3 (.int .i64 (o : Int))
  have hM1 : Marks w3.heap.size ds (W.alloc (.cells #[.int .i64 (o : Int)] 3)) := hM.out.block hM.out.ltOf (fun k hk => Below.heap_alloc W _ k hk)
  have hT1 : TabOK (W.alloc (.cells #[.int .i64 (o : Int)] 3)) := hTW.below ((Below.refl _ W).alloc (Nat.le_refl _) _)
  have hs1 : (W.alloc (.cells #[.int .i64 (o : Int)] 3)).heap.size = W.heap.size + 1 := by simp
  have hlt1 := hM.out.ltOf
  have hqs : w3.heap.size ≤ W.heap.size := hG.out.bel.size
  generalize W.alloc (.cells #[.int .i64 (o : Int)] 3) = W1 at *
  generalize W.heap.size = q at *
  have hG2 := hG1.alloc (.cells #[.int .u16 (sn : Int)] 51)
  have hq2 := hq1.alloc (.cells #[.int .u16 (sn : Int)] 51)
  have hM2 : Marks w3.heap.size ds (W1.alloc (.cells #[.int .u16 (sn : Int)] 51)) := hM1.block (hlt1.le (show q ≤ W1.heap.size by omega)) (fun k hk => Below.heap_alloc W1 _ k hk)
  have hT2 : TabOK (W1.alloc (.cells #[.int .u16 (sn : Int)] 51)) := hT1.below ((Below.refl _ W1).alloc (Nat.le_refl _) _)
  have hk2 := (box_at W1 51 (.int .u16 (sn : Int)) (q + 1) hs1).cell
  have hs2 : (W1.alloc (.cells #[.int .u16 (sn : Int)] 51)).heap.size = q + 1 + 1 := by simp [hs1]
  try simp only [hs1]
  generalize W1.alloc (.cells #[.int .u16 (sn : Int)] 51) = W2 at *
  have hkeep := Aside0.mk hK'
  clear hG1 hq1 hM1 hT1 hs1 hF8' hG' hTW hM hG hx1' hxn hA0 hd hd2
  refine wp_all1 (q + 1) sn (lt256 hsb hn8) rfl (by omega) hk2 hT2 rfl rfl rfl (by simp)
   (fun pre W => ((Boxed W q 3 (.int .i64 (o : Int)) ∧ F8 n (.slice A0 n c0) (.slice (some ad1) nd.length c1) (.slice (some adn) od.length c2) w3 b1 b2 b3 b4 (pre.foldl (bStep o) bl) ab W) ∧ Marks w3.heap.size ds W) ∧ OkU n (pre.foldl (bStep o) bl)) (fun _ _ _ => False)
   (OwnFrom.and (OwnFrom.and (OwnFrom.and (own_box _ _ _ _) (own_F8 _ _ _ _ _ _ _ _ _ _ _ _ (by omega))) (own_marks _ _ _ (hlt1.le (by omega)))) (fun _ _ _ _ h _ _ => h)) (fun _ _ _ _ _ hs _ _ => hs) ⟨⟨⟨hq2, hG2⟩, hM2⟩, hok1⟩ (fun pre W h => hT3.out.below h.1.1.2.bel) ?body ?done ?stop
  case stop => intro D c pre W _ _ h _; exact h.elim
  case body =>
   rintro l pre x W hx8 hxs ⟨⟨⟨hb, hF⟩, hMk⟩, hok⟩ hlen
   simp only [List.setIfInBounds_toArray, List.set_cons_zero, List.set_cons_succ]
   generalize hblp : pre.foldl (bStep o) bl = blp at *
   have hxn2 : x < n := bit_lt hsb hxs
   have c4 : W.cell? ⟨b4, 0, none⟩ = some (.pointer (some ⟨b3, 0, none⟩)) := (blk_cell hF.h4 0).trans rfl
   have c33 : W.cell? ⟨b3, 3, none⟩ = some (slv b1 n) := (blk_cell hF.h3 3).trans rfl
   have cq := hb.cell
   have ci := rowU_cell hF.h1 o (by rw [hok.1]; exact hon)
   have ck := rowU_cell hF.h1 x (by rw [hok.1]; exact hxn2)
   obtain ⟨vi, hvi⟩ : ∃ v, blp.getD o 0 = v := ⟨_, rfl⟩
   obtain ⟨vk, hvk⟩ : ∃ v, blp.getD x 0 = v := ⟨_, rfl⟩
   rw [hvi] at ci
   rw [hvk] at ck
   have hvi' := Aside0.mk hvi
   have hvk' := Aside0.mk hvk
   have hF' := Aside0.mk hF
   have hb' := Aside0.mk hb
   have hMk' := Aside0.mk hMk
   have hok' := Aside0.mk hok
   have hfr : W.frozen? ⟨b1, o, none⟩ = false := blk_frozen hF.h1 o
   clear hvi hvk hF hb hMk hok hK' hkeep hM2 hT2 hk2 hq2 hG2 hs2 hlt1
   try gi_wp2
   refine wpIn_region_qtail 17 (by rintro ⟨_, _, h⟩; exact h) (by kernel_rfl) (by kernel_rfl) (by kernel_rfl) (by kernel_rfl) ?_
   simp only [List.take_succ_cons, List.take_zero, List.drop_succ_cons, List.drop_zero]
   repeat (go_big_quiet_step (exact withI_quiet _ _ (by omega) _ _))
   refine wpQuiet_nil ?_
   rintro _ ⟨nq, rfl⟩
   go_wp2
   have hval : Go.bits .or .u16 (vi : Int) (withI (vk : Int) (x : Int)) = ((vi ||| (vk ||| 2 ^ x) : Nat) : Int) := by
    have l1 := lt256 (hok'.out.get o) hn8
    have l2 := lt256 (hok'.out.get x) hn8
    rw [hvi'.out] at l1
    rw [hvk'.out] at l2
    rw [withI_nat vk x l2 hx8, orI_nat _ _ l1 (lt256 (with_lt (by rw [← hvk'.out]; exact hok'.out.get x) hxn2) hn8)]
   have hfold : (pre ++ [x]).foldl (bStep o) bl = blp.set o (vi ||| (vk ||| 2 ^ x)) := by
    rw [List.foldl_append, hblp, List.foldl_cons, List.foldl_nil, bStep, hvi'.out, hvk'.out]
   rw [hval]
   refine ⟨keeps_set _ _ _ _ _, ⟨⟨hb'.out.kept (grown_set W nq b1 o _) (fun e => ?_), by rw [hfold]; exact hF'.out.setB hge.out.1 hne.out nq o _⟩, hMk'.out.keeps (keeps_set _ _ _ _ _)⟩, by rw [hfold, ← hvi'.out, ← hvk'.out]; exact hok'.out.bStep o x hxn2⟩
   injection e with e
   exact blk_ne hF'.out.h1 hb'.out (by decide) e.symm
  case done =>
   rintro D W hD ⟨⟨⟨hb, hF⟩, hMk⟩, hok⟩ hKD
   clear hG2 hq2 hM2 hT2 hk2
   generalize hblp : (bitsN sn).foldl (bStep o) bl = blp at *
   have c4 : W.cell? ⟨b4, 0, none⟩ = some (.pointer (some ⟨b3, 0, none⟩)) := (blk_cell hF.h4 0).trans rfl
   have c33 : W.cell? ⟨b3, 3, none⟩ = some (slv b1 n) := (blk_cell hF.h3 3).trans rfl
   have cq := hb.cell
   have ci := rowU_cell hF.h1 o (by rw [hok.1]; exact hon)
   obtain ⟨vi, hvi⟩ : ∃ v, blp.getD o 0 = v := ⟨_, rfl⟩
   rw [hvi] at ci
   have hvi' := Aside0.mk hvi
   have hblp' := Aside0.mk hblp
   have hF' := Aside0.mk hF
   have hb' := Aside0.mk hb
   have hMk' := Aside0.mk hMk
   have hok' := Aside0.mk hok
   have hKD' := Aside0.mk hKD
   clear hvi hF hb hMk hok hblp hKD
   go_wp2
   go_still_tail 7, (by kernel_rfl)
   go_wp2_with (go_at_call 54; refine (all_calls _ _).mono ?_; rintro e w' ⟨rfl, rfl⟩)
   have hsb2 : vi < 2 ^ n := by rw [← hvi'.out]; exact hok'.out.get o
   have hMD : Marks w3.heap.size (markOf D :: ds) W := hMk'.out.cons (by omega) hKD'.out (hlt1.le (by omega))
   have hG5 := (hF'.out.alloc (.cells #[.int .u16 (vi : Int)] 51)).drew
   have hq5 : Boxed (W.alloc (.cells #[.int .u16 (vi : Int)] 51)).drew q 3 (.int .i64 (o : Int)) := hb'.out.alloc _
   have hM5 : Marks w3.heap.size (markOf D :: ds) (W.alloc (.cells #[.int .u16 (vi : Int)] 51)).drew := hMD.block hMD.ltOf (fun k hk => Below.heap_alloc W _ k hk)
   have hk5 : (W.alloc (.cells #[.int .u16 (vi : Int)] 51)).drew.cell? ⟨W.heap.size, 0, none⟩ = some (.int .u16 (vi : Int)) := (Boxed.new W 51 (.int .u16 (vi : Int))).cell
   have hs5 : (W.alloc (.cells #[.int .u16 (vi : Int)] 51)).drew.heap.size = W.heap.size + 1 := by simp [World.drew]
   have hlt5 := hMD.ltOf
   have hqs5 : w3.heap.size ≤ W.heap.size := hF'.out.bel.size
   clear c4 c33 cq ci hKD' hb' hMk' hMD hs2 hD
   generalize (W.alloc (.cells #[.int .u16 (vi : Int)] 51)).drew = W5 at *
   generalize W.heap.size = q5 at *
   refine wp_all1 q5 vi (lt256 hsb2 hn8) rfl (by omega) hk5 (hT3.out.below hG5.bel) rfl rfl rfl (by simp)
    (fun pre W => ((Boxed W q 3 (.int .i64 (o : Int)) ∧ F8 n (.slice A0 n c0) (.slice (some ad1) nd.length c1) (.slice (some adn) od.length c2) w3 b1 b2 b3 b4 blp (pre.foldl (aStep o) ab) W) ∧ Marks w3.heap.size (markOf D :: ds) W) ∧ OkU n (pre.foldl (aStep o) ab)) (fun _ _ _ => False)
    (OwnFrom.and (OwnFrom.and (OwnFrom.and (own_box _ _ _ _) (own_F8 _ _ _ _ _ _ _ _ _ _ _ _ (by omega))) (own_marks _ _ _ (hlt5.le (by omega)))) (fun _ _ _ _ h _ _ => h)) (fun _ _ _ _ _ hs _ _ => hs) ⟨⟨⟨hq5, hG5⟩, hM5⟩, hok2⟩ (fun pre W h => hT3.out.below h.1.1.2.bel) ?body2 ?done2 ?stop2
   case stop2 => intro D c pre W _ _ h _; exact h.elim
   case body2 =>
    rintro l pre x W hx8 hxs ⟨⟨⟨hb, hF⟩, hMk⟩, hok⟩ hlen
    simp only [List.setIfInBounds_toArray, List.set_cons_zero, List.set_cons_succ]
    generalize habp : pre.foldl (aStep o) ab = abp at *
    have hxn2 : x < n := bit_lt hsb2 hxs
    have c4 : W.cell? ⟨b4, 0, none⟩ = some (.pointer (some ⟨b3, 0, none⟩)) := (blk_cell hF.h4 0).trans rfl
    have c34 : W.cell? ⟨b3, 4, none⟩ = some (slv b2 n) := (blk_cell hF.h3 4).trans rfl
    have cq := hb.cell
    have ck := rowU_cell hF.h2 x (by rw [hok.1]; exact hxn2)
    obtain ⟨vk, hvk⟩ : ∃ v, abp.getD x 0 = v := ⟨_, rfl⟩
    rw [hvk] at ck
    have hvk' := Aside0.mk hvk
    have hF2' := Aside0.mk hF
    have hb' := Aside0.mk hb
    have hMk' := Aside0.mk hMk
    have hok3' := Aside0.mk hok
    have hfr : W.frozen? ⟨b2, x, none⟩ = false := blk_frozen hF.h2 x
    clear hvk hF hb hMk hok hK' hkeep hG5 hq5 hM5 hk5 hs5 hlt5 hF' hok' hblp' hvi'
    try gi_wp2
    refine wpIn_region_qtail 14 (by rintro ⟨_, _, h⟩; exact h) (by kernel_rfl) (by kernel_rfl) (by kernel_rfl) (by kernel_rfl) ?_
    simp only [List.take_succ_cons, List.take_zero, List.drop_succ_cons, List.drop_zero]
    repeat (go_big_quiet_step (exact withI_quiet _ _ (by omega) _ _))
    refine wpQuiet_nil ?_
    rintro _ ⟨nq, rfl⟩
    go_wp2
    have hval : withI (vk : Int) (o : Int) = ((vk ||| 2 ^ o : Nat) : Int) := by
     have l2 := lt256 (hok3'.out.get x) hn8
     rw [hvk'.out] at l2
     rw [withI_nat vk o l2 (by omega)]
    have hfold : (pre ++ [x]).foldl (aStep o) ab = abp.set x (vk ||| 2 ^ o) := by
     rw [List.foldl_append, habp, List.foldl_cons, List.foldl_nil, aStep, hvk'.out]
    rw [hval]
    refine ⟨keeps_set _ _ _ _ _, ⟨⟨hb'.out.kept (grown_set W nq b2 x _) (fun e => ?_), by rw [hfold]; exact hF2'.out.setA hge.out.2.1 hne.out nq x _⟩, hMk'.out.keeps (keeps_set _ _ _ _ _)⟩, by rw [hfold, ← hvk'.out]; exact hok3'.out.aStep o x hon⟩
    injection e with e
    exact blk_ne hF2'.out.h2 hb'.out (by decide) e.symm
   case done2 =>
    rintro D2 W hD2 ⟨⟨⟨hb, hF⟩, hMk⟩, hok⟩ hKD
    have hF2' := Aside0.mk hF
    have hM6 := Aside0.mk (hMk.cons (D := D2) (by omega) hKD (hlt5.le (by omega)))
    clear hF hb hMk hok hKD hG5 hq5 hM5 hk5 hs5 hlt5 hF' hok'
    go_wp2
    have hcast := hcast'.out
    have hR : Aside0 (F8 n (.slice A0 n c0) (.slice (some ad1) nd.length c1) (.slice (some adn) od.length c2) w3 b1 b2 b3 b4 (relP nN (oN.take (j + 1)) n).1 (relP nN (oN.take (j + 1)) n).2 W) := by
     rw [hstep'.out, relStep, hbl, hab, hsn'.out, hblp'.out, hvi'.out]
     exact hF2'
    have h := fun (u10 u44 u45 u46 u47 u48 u49 u50 u51 u71 u72 u73 u74 u75 u76 u77 u78 u95 : Value) => hK'.out (gk - 1) [u10, .int .i64 ((j + 1 : Nat) : Int), u44, u45, u46, u47, u48, u49, u50, u51, u71, u72, u73, u74, u75, u76, u77, u78, u95] (markOf D2 :: markOf D :: ds) W hk1.out ⟨j + 1, u10, u44, u45, u46, u47, u48, u49, u50, u51, u71, u72, u73, u74, u75, u76, u77, u78, u95, rfl, hk2, hR, hM6⟩
    simp only [setAll, List.setIfInBounds_toArray, List.set_cons_zero, List.set_cons_succ] at h
    rw [hcast]
    exact h _ _ _ _ _ _ _ _ _ _ _ _ _ _ _ _ _ _
end Go.Proofs.YtajapkjplgaigaaDoor.P
end
section
namespace Go.Proofs.YtajapkjplgaigaaDoor.P
open Go.RowKit Go.Shelf Go.Proofs.YtajapkjplgaigaaDoorW.PrintWords Go.Proofs.YtajapkjplgaigaaDoorW.PrintLast Go.Proofs.YtajapkjplgaigaaDoorW.PrintMore
set_option linter.unusedVariables false
set_option linter.unusedSimpArgs false
def setGo (n : Nat) : List Int → Int → Nat → Option Nat
 | [], _, s => some s
 | i :: r, last, s => if last + 1 ≤ i ∧ i < n then setGo n r i (s ||| 2 ^ i.toNat) else none
def setP (l : List Int) (n : Nat) : Option Nat := setGo n l (-1) 0
theorem within_eq (a b c : Int) : impl_within.f a b c = some (decide (b ≤ a ∧ a ≤ c)) := by
 unfold impl_within.f
 by_cases h : a ≥ b
 ·simp [h]
 ·simp [h]
theorem with_eq (s i : Nat) (hs : s < 256) (hi : i < 8) : impl_set_with.f (s : Int) (i : Int) = some ((s ||| 2 ^ i : Nat) : Int) := by
 rw [← withI_nat s i hs hi]
 unfold impl_set_with.f withI
 rw [if_pos (by omega)]
theorem setGo_lt {n : Nat} : ∀ (l : List Int) (last : Int) (s s' : Nat), -1 ≤ last → s < 2 ^ n → setGo n l last s = some s' → s' < 2 ^ n
 | [], _, s, s', _, hs, h => by simp [setGo] at h; omega
 | i :: r, last, s, s', hl, hs, h => by
  unfold setGo at h
  split at h
  ·rename_i hi
   exact setGo_lt r i _ s' (by omega) (with_lt hs (by omega)) h
  ·cases h
theorem setP_lt {l : List Int} {n s : Nat} (h : setP l n = some s) : s < 2 ^ n := setGo_lt l _ _ _ (by omega) (Nat.two_pow_pos n) h
def setR (o : Option Nat) : Int × Bool := match o with | some s => ((s : Int), true) | none => (0, false)
theorem rd_mid (pre : List Int) (x : Int) (r : List Int) : rd (pre ++ x :: r) (pre.length : Int) = x := by simp [rd]
theorem setOf_go {n : Nat} (hn : n ≤ 8) : ∀ (r pre : List Int) (last : Int) (s k : Nat), -1 ≤ last → last < n → (pre.length : Int) ≤ last + 1 → s < 2 ^ n → (n : Int) - last + 1 ≤ k →
  impl_setOf.l0 k (n : Int) (s : Int) last (pre ++ r) ((pre ++ r).length : Int) (pre.length : Int) = some (setR (setGo n r last s))
 | [], pre, last, s, k, h1, h2, h3, hs, hk => by
  obtain ⟨k, rfl⟩ : ∃ j, k = j + 1 := ⟨k - 1, by omega⟩
  simp [impl_setOf.l0, setGo, setR]
 | x :: r, pre, last, s, k, h1, h2, h3, hs, hk => by
  obtain ⟨k, rfl⟩ : ∃ j, k = j + 1 := ⟨k - 1, by omega⟩
  have l1 : (pre.length : Int) < ((pre ++ x :: r).length : Int) := by simp; omega
  have w1 : wrap64 (last + 1) = last + 1 := IntWalk.wrap64_in _ (by omega)
  have w2 : wrap64 ((n : Int) - 1) = (n : Int) - 1 := IntWalk.wrap64_in _ (by omega)
  have w3 : wrap64 ((pre.length : Int) + 1) = ((pre ++ [x]).length : Int) := by rw [IntWalk.wrap64_in _ (by omega)]; simp
  simp only [impl_setOf.l0, if_pos l1, if_pos (show (0 : Int) ≤ (pre.length : Int) by omega), rd_mid, w1, w2, within_eq, Option.bind_some, setGo]
  by_cases hi : last + 1 ≤ x ∧ x < n
  ·have hd : decide (last + 1 ≤ x ∧ x ≤ (n : Int) - 1) = true := decide_eq_true ⟨hi.1, by omega⟩
   obtain ⟨m, rfl⟩ : ∃ m : Nat, x = (m : Int) := ⟨x.toNat, by omega⟩
   rw [if_pos hd, with_eq s m (lt256 hs hn) (by omega), Option.bind_some, w3, if_pos hi]
   have := setOf_go hn r (pre ++ [(m : Int)]) (m : Int) (s ||| 2 ^ m) k (by omega) hi.2 (by simp; omega) (with_lt hs (by omega)) (by omega)
   rw [List.append_assoc] at this
   simpa using this
  ·have hd : decide (last + 1 ≤ x ∧ x ≤ (n : Int) - 1) = false := decide_eq_false (fun h => hi ⟨h.1, by omega⟩)
   rw [if_neg (by rw [hd]; exact Bool.false_ne_true), if_neg hi]
   rfl
theorem setOf_eq (l : List Int) (n k : Nat) (hn : n ≤ 8) (hk : n + 2 ≤ k) : impl_setOf.f k l (n : Int) = some (setR (setP l n)) := by
 have := setOf_go hn l [] (-1) 0 k (by omega) (by omega) (by simp) (Nat.two_pow_pos n) (by omega)
 simpa [impl_setOf.f, setP] using this
def taskP (n : Nat) (t : TT) : Option Nat := match setP t.f1 n with
 | none => none
 | some s => if (1 ≤ t.f0 ∧ t.f0 ≤ 20) ∧ (0 ≤ t.f2 ∧ t.f2 ≤ 2) ∧ (1 ≤ t.f3 ∧ t.f3 ≤ 4) then some s else none
def needsGo (n : Nat) : List TT → List Nat → Option (List Nat)
 | [], acc => some acc
 | t :: r, acc => match taskP n t with
  | none => none
  | some s => needsGo n r (acc ++ [s])
def needsP (ts : List TT) : Option (List Nat) := if ts.length > 8 then none else needsGo ts.length ts []
def needsR (o : Option (List Nat)) : List Int × Bool := match o with | some l => (nI l, true) | none => ([], false)
theorem rdT_mid (pre : List TT) (x : TT) (r : List TT) : rd_T39 (pre ++ x :: r) (pre.length : Int) = x := by simp [rd_T39]
theorem needs_go (ts : List TT) (hn : ts.length ≤ 8) : ∀ (r pre : List TT) (acc : List Nat) (k : Nat), pre ++ r = ts → acc.length = pre.length → r.length + 12 ≤ k →
  impl_needsOf.l0 k ts (nI acc) (pre ++ r) ((pre ++ r).length : Int) (pre.length : Int) = some (needsR (needsGo ts.length r acc))
 | [], pre, acc, k, he, ha, hk => by
  obtain ⟨k, rfl⟩ : ∃ j, k = j + 1 := ⟨k - 1, by omega⟩
  simp [impl_needsOf.l0, needsGo, needsR]
 | x :: r, pre, acc, k, he, ha, hk => by
  obtain ⟨k, rfl⟩ : ∃ j, k = j + 1 := ⟨k - 1, by omega⟩
  simp only [List.length_cons] at hk
  have l1 : (pre.length : Int) < ((pre ++ x :: r).length : Int) := by simp; omega
  have hp : pre.length < ts.length := by rw [← he]; simp
  have w3 : wrap64 ((pre.length : Int) + 1) = ((pre ++ [x]).length : Int) := by rw [IntWalk.wrap64_in _ (by omega)]; simp
  simp only [impl_needsOf.l0, if_pos l1, if_pos (show (0 : Int) ≤ (pre.length : Int) by omega), rdT_mid, setOf_eq x.f1 ts.length k hn (by omega), Option.bind_some, needsGo, taskP]
  cases hs : setP x.f1 ts.length with
  | none => simp [setR, needsR]
  | some s =>
   simp only [setR, if_true, within_eq, Option.bind_some, w3]
   by_cases h1 : 1 ≤ x.f0 ∧ x.f0 ≤ 20
   ·by_cases h2 : 0 ≤ x.f2 ∧ x.f2 ≤ 2
    ·by_cases h3 : 1 ≤ x.f3 ∧ x.f3 ≤ 4
     ·have hl : (nI acc).length < 70368744177664 := by rw [nI_length]; omega
      have hx : (1 ≤ x.f0 ∧ x.f0 ≤ 20) ∧ (0 ≤ x.f2 ∧ x.f2 ≤ 2) ∧ (1 ≤ x.f3 ∧ x.f3 ≤ 4) := ⟨h1, h2, h3⟩
      simp only [decide_eq_true h1, decide_eq_true h2, decide_eq_true h3, if_true, if_pos hl, if_pos hx]
      have := needs_go ts hn r (pre ++ [x]) (acc ++ [s]) k (by rw [List.append_assoc]; exact he) (by simp [ha]) (by omega)
      rw [List.append_assoc, nI_append] at this
      exact this
     ·have hx : ¬ ((1 ≤ x.f0 ∧ x.f0 ≤ 20) ∧ (0 ≤ x.f2 ∧ x.f2 ≤ 2) ∧ (1 ≤ x.f3 ∧ x.f3 ≤ 4)) := fun h => h3 h.2.2
      simp only [decide_eq_true h1, decide_eq_true h2, decide_eq_false h3, if_true, if_neg hx, Bool.false_eq_true, if_false, needsR]
    ·have hx : ¬ ((1 ≤ x.f0 ∧ x.f0 ≤ 20) ∧ (0 ≤ x.f2 ∧ x.f2 ≤ 2) ∧ (1 ≤ x.f3 ∧ x.f3 ≤ 4)) := fun h => h2 h.2.1
     simp only [decide_eq_true h1, decide_eq_false h2, if_true, if_neg hx, Bool.false_eq_true, if_false, needsR]
   ·have hx : ¬ ((1 ≤ x.f0 ∧ x.f0 ≤ 20) ∧ (0 ≤ x.f2 ∧ x.f2 ≤ 2) ∧ (1 ≤ x.f3 ∧ x.f3 ≤ 4)) := fun h => h1 h.1
    simp only [decide_eq_false h1, if_neg hx, Bool.false_eq_true, if_false, needsR]
theorem needs_eq (ts : List TT) (k : Nat) (hk : 100 ≤ k) : impl_needsOf.f k ts = some (needsR (needsP ts)) := by
 unfold impl_needsOf.f needsP
 by_cases h : ts.length > 8
 ·rw [if_pos (by omega), if_pos h]; rfl
 ·rw [if_neg (by omega), if_neg h]
  have := needs_go ts (by omega) ts [] [] k (by simp) rfl (by omega)
  simpa [nI] using this
def canP (nd : List Nat) (done : Nat) (i : Nat) : Bool := !done.testBit i && (nd.getD i 0 &&& done == nd.getD i 0)
def firstP (nd : List Nat) (done : Nat) : Option Nat := (List.range nd.length).find? (canP nd done)
def orderStep (nd : List Nat) (s : List Nat × Nat) : List Nat × Nat := match firstP nd s.2 with
 | none => s
 | some i => (s.1 ++ [i], s.2 ||| 2 ^ i)
def orderGo (nd : List Nat) : Nat → List Nat × Nat → List Nat × Nat
 | 0, s => s
 | m + 1, s => orderGo nd m (orderStep nd s)
def orderP (nd : List Nat) : List Nat × Nat := orderGo nd nd.length ([], 0)
theorem andNot_zero : ∀ a, a < 256 → ∀ b, b < 256 → (Go.bits .andNot .u16 ((a : Nat) : Int) ((b : Nat) : Int) = 0 ↔ a &&& b = a) := by
 intro a ha b hb
 have e1 : (BitVec.ofInt 16 (a : Int)) = BitVec.ofNat 16 a := by simp
 have e2 : (BitVec.ofInt 16 (b : Int)) = BitVec.ofNat 16 b := by simp
 have key : (BitVec.ofNat 16 a &&& ~~~(BitVec.ofNat 16 b)).toNat = 0 ↔ a &&& b = a := by
  rw [BitVec.toNat_and, BitVec.toNat_not, BitVec.toNat_ofNat, BitVec.toNat_ofNat, Nat.mod_eq_of_lt (show a < 2 ^ 16 by omega), Nat.mod_eq_of_lt (show b < 2 ^ 16 by omega)]
  constructor
  ·intro h
   apply Nat.eq_of_testBit_eq
   intro i
   have hi : (a &&& (2 ^ 16 - 1 - b)).testBit i = false := by rw [h]; simp
   rw [Nat.testBit_and] at hi ⊢
   rcases Nat.lt_or_ge i 16 with h16 | h16
   ·rw [show 2 ^ 16 - 1 - b = 2 ^ 16 - (b + 1) by omega, Nat.testBit_two_pow_sub_succ (by omega)] at hi
    cases hA : a.testBit i <;> cases hB : b.testBit i <;> simp [hA, hB, h16] at hi ⊢
   ·rw [Nat.testBit_lt_two_pow (Nat.lt_of_lt_of_le (show a < 2 ^ 16 by omega) (Nat.pow_le_pow_right (by omega) h16))]; rfl
  ·intro h
   apply Nat.eq_of_testBit_eq
   intro i
   rw [Nat.testBit_and, Nat.zero_testBit]
   have hi : (a &&& b).testBit i = a.testBit i := by rw [h]
   rw [Nat.testBit_and] at hi
   rw [show 2 ^ 16 - 1 - b = 2 ^ 16 - (b + 1) by omega, Nat.testBit_two_pow_sub_succ (by omega)]
   cases hA : a.testBit i <;> cases hB : b.testBit i <;> simp [hA, hB] at hi ⊢
 simp only [Go.bits, IntKind.bits, e1, e2]
 have hlt : (BitVec.ofNat 16 a &&& ~~~(BitVec.ofNat 16 b)).toNat < 65536 := (BitVec.ofNat 16 a &&& ~~~(BitVec.ofNat 16 b)).isLt
 rw [wrap_u16', Int.emod_eq_of_lt (by omega) (by omega)]
 exact Iff.trans Int.natCast_eq_zero key
theorem has_eq (s i : Nat) (hs : s < 256) (hi : i < 8) : impl_set_has.f (s : Int) (i : Int) = some (s.testBit i) := by
 rw [← hasB_nat s hs i hi]
 unfold impl_set_has.f hasB
 rw [if_pos (by omega)]
def ordR (s : List Nat × Nat) : List Int × Int := (nI s.1, (s.2 : Int))
def firstFrom (nd : List Nat) (done j : Nat) : Option Nat := ((List.range nd.length).drop j).find? (canP nd done)
theorem firstFrom_step (nd : List Nat) (done j : Nat) (h : j < nd.length) : firstFrom nd done j = if canP nd done j then some j else firstFrom nd done (j + 1) := by
 unfold firstFrom
 rw [List.drop_eq_getElem_cons (by simpa using h), List.find?_cons]
 simp only [List.getElem_range]
 cases canP nd done j <;> rfl
theorem firstFrom_end (nd : List Nat) (done : Nat) : firstFrom nd done nd.length = none := by
 unfold firstFrom
 rw [List.drop_eq_nil_of_le (by simp)]
 rfl
theorem firstP_lt {nd : List Nat} {done i : Nat} (h : firstP nd done = some i) : i < nd.length := by simpa using List.mem_of_find?_eq_some h
theorem order_l1 {n : Nat} (nd : List Nat) (hn : n ≤ 8) (hl : nd.length = n) (hnd : ∀ i, nd.getD i 0 < 2 ^ n) (list : List Nat) (done c : Nat) (hd : done < 2 ^ n) (hll : list.length ≤ 8) : ∀ (m j k : Nat), m + j = n → m + 2 ≤ k →
  impl_order.l1 k (nI nd) (nI list) (done : Int) (n : Int) (c : Int) (nI nd) (n : Int) (j : Int) = match firstFrom nd done j with
   | none => impl_order.l0 (k - m - 1) (nI nd) (nI list) (done : Int) (n : Int) (wrap64 ((c : Int) + 1))
   | some i => impl_order.l0 (k - (i - j) - 1) (nI nd) (nI (list ++ [i])) ((done ||| 2 ^ i : Nat) : Int) (n : Int) (wrap64 ((c : Int) + 1))
 | 0, j, k, hj, hk => by
  obtain ⟨k, rfl⟩ : ∃ k', k = k' + 1 := ⟨k - 1, by omega⟩
  obtain rfl : j = n := by omega
  rw [show firstFrom nd done j = none from by rw [← hl]; exact firstFrom_end nd done]
  simp [impl_order.l1]
 | m + 1, j, k, hj, hk => by
  obtain ⟨k, rfl⟩ : ∃ k', k = k' + 1 := ⟨k - 1, by omega⟩
  have hjl : j < nd.length := by omega
  have ih := order_l1 nd hn hl hnd list done c hd hll m (j + 1) k (by omega) (by omega)
  have w3 : wrap64 ((j : Int) + 1) = ((j + 1 : Nat) : Int) := by rw [IntWalk.wrap64_in _ (by omega)]; omega
  have hll2 : (nI list).length < 17592186044416 := by rw [nI_length]; omega
  have hlen : (j : Int) < ((nI nd).length : Int) := by rw [nI_length]; omega
  simp only [impl_order.l1, if_pos (show (j : Int) < (n : Int) by omega), if_pos (show (0 : Int) ≤ (j : Int) by omega), if_pos hlen, has_eq done j (lt256 hd hn) (by omega), Option.bind_some, rd_nI, with_eq done j (lt256 hd hn) (by omega), if_pos hll2, w3, ih]
  rw [firstFrom_step nd done j hjl]
  have hz := andNot_zero (nd.getD j 0) (lt256 (hnd j) hn) done (lt256 hd hn)
  cases hb : done.testBit j with
  | true =>
   have hc : canP nd done j = false := by simp [canP, hb]
   simp only [if_true, hc, Bool.false_eq_true, if_false]
   cases hf : firstFrom nd done (j + 1) with
   | none => simp only []; congr 1; omega
   | some i =>
    have : j + 1 ≤ i := by
     have := List.mem_of_find?_eq_some hf
     obtain ⟨q, hq, he⟩ := List.mem_iff_getElem.1 this
     simp at he
     omega
    simp only []; congr 1; omega
  | false =>
   by_cases hs : nd.getD j 0 &&& done = nd.getD j 0
   ·have hc : canP nd done j = true := by simp only [canP, hb, hs]; simp
    simp only [Bool.false_eq_true, if_false, if_pos (hz.2 hs), hc, if_true, nI_append]
    rw [show k + 1 - (j - j) - 1 = k by omega]
    rfl
   ·have hc : canP nd done j = false := by simp only [canP, hb, beq_eq_false_iff_ne.2 hs]; rfl
    simp only [Bool.false_eq_true, if_false, if_neg (fun h => hs (hz.1 h)), hc]
    cases hf : firstFrom nd done (j + 1) with
    | none => simp only []; congr 1; omega
    | some i =>
     have : j + 1 ≤ i := by
      have := List.mem_of_find?_eq_some hf
      obtain ⟨q, hq, he⟩ := List.mem_iff_getElem.1 this
      simp at he
      omega
     simp only []; congr 1; omega
theorem orderStep_ok {n : Nat} (nd : List Nat) (hl : nd.length = n) (s : List Nat × Nat) (hd : s.2 < 2 ^ n) : (orderStep nd s).2 < 2 ^ n ∧ (orderStep nd s).1.length ≤ s.1.length + 1 := by
 unfold orderStep
 cases hf : firstP nd s.2 with
 | none => exact ⟨hd, by simp⟩
 | some i => exact ⟨with_lt hd (by have := firstP_lt hf; omega), by simp⟩
theorem order_l0 {n : Nat} (nd : List Nat) (hn : n ≤ 8) (hl : nd.length = n) (hnd : ∀ i, nd.getD i 0 < 2 ^ n) : ∀ (m c k : Nat) (s : List Nat × Nat), m + c = n → s.1.length ≤ c → s.2 < 2 ^ n → m * 11 + 1 ≤ k →
  impl_order.l0 k (nI nd) (nI s.1) (s.2 : Int) (n : Int) (c : Int) = some (ordR (orderGo nd m s))
 | 0, c, k, s, hm, hs, hd, hk => by
  obtain ⟨k, rfl⟩ : ∃ k', k = k' + 1 := ⟨k - 1, by omega⟩
  obtain rfl : c = n := by omega
  simp [impl_order.l0, orderGo, ordR]
 | m + 1, c, k, s, hm, hs, hd, hk => by
  obtain ⟨k, rfl⟩ : ∃ k', k = k' + 1 := ⟨k - 1, by omega⟩
  have w3 : wrap64 ((c : Int) + 1) = ((c + 1 : Nat) : Int) := by rw [IntWalk.wrap64_in _ (by omega)]; omega
  have h1 := order_l1 nd hn hl hnd s.1 s.2 c hd (by omega) n 0 k (by omega) (by omega)
  have e0 : firstFrom nd s.2 0 = firstP nd s.2 := rfl
  have eL : ((nI nd).length : Int) = (n : Int) := by rw [nI_length, hl]
  simp only [impl_order.l0, if_pos (show (c : Int) < (n : Int) by omega), eL]
  have h1' : impl_order.l1 k (nI nd) (nI s.1) (s.2 : Int) (n : Int) (c : Int) (nI nd) (n : Int) 0 = _ := h1
  rw [h1', e0, w3]
  have hok := orderStep_ok nd hl s hd
  simp only [orderGo]
  cases hf : firstP nd s.2 with
  | none =>
   have es : orderStep nd s = s := by unfold orderStep; rw [hf]
   rw [es]
   exact order_l0 nd hn hl hnd m (c + 1) _ s (by omega) (by omega) hd (by omega)
  | some i =>
   have es : orderStep nd s = (s.1 ++ [i], s.2 ||| 2 ^ i) := by unfold orderStep; rw [hf]
   rw [es] at hok ⊢
   have hi := firstP_lt hf
   exact order_l0 nd hn hl hnd m (c + 1) _ (s.1 ++ [i], s.2 ||| 2 ^ i) (by omega) (by simp; omega) hok.1 (by omega)
theorem order_eq {n : Nat} (nd : List Nat) (hn : n ≤ 8) (hl : nd.length = n) (hnd : ∀ i, nd.getD i 0 < 2 ^ n) (k : Nat) (hk : 100 ≤ k) : impl_order.f k (nI nd) = some (ordR (orderP nd)) := by
 unfold impl_order.f orderP
 have := order_l0 nd hn hl hnd n 0 k ([], 0) (by omega) (by simp) (Nat.two_pow_pos n) (by omega)
 rw [nI_length, hl]
 simpa [nI] using this
end Go.Proofs.YtajapkjplgaigaaDoor.P
end
section
namespace Go.Proofs.YtajapkjplgaigaaDoor.P
open Go.RowKit Go.Shelf Go.Proofs.YtajapkjplgaigaaDoorW.PrintWords Go.Proofs.YtajapkjplgaigaaDoorW.PrintLast Go.Proofs.YtajapkjplgaigaaDoorW.PrintMore
set_option linter.unusedVariables false
set_option linter.unusedSimpArgs false
structure GrN where
 ts : List TT
 nd : List Nat
 od : List Nat
 bl : List Nat
 ab : List Nat
def GrN.gr (G : GrN) : Gr := ⟨G.ts, nI G.nd, nI G.od, nI G.bl, nI G.ab⟩
def graphP (ts : List TT) : Option GrN := match needsP ts with
 | none => none
 | some nd => if (orderP nd).2 = 2 ^ ts.length - 1 then some ⟨ts, nd, (orderP nd).1, (relP nd (orderP nd).1 ts.length).1, (relP nd (orderP nd).1 ts.length).2⟩ else none
theorem needsGo_spec (n : Nat) : ∀ (r : List TT) (acc out : List Nat), needsGo n r acc = some out → ∃ l : List Nat, out = acc ++ l ∧ l.length = r.length ∧ ∀ (i : Nat) (t : TT), r[i]? = some t → taskP n t = some (l.getD i 0)
 | [], acc, out, h => by
  simp only [needsGo, Option.some.injEq] at h
  exact ⟨[], by simp [h], rfl, fun i t h => by simp at h⟩
 | x :: r, acc, out, h => by
  simp only [needsGo] at h
  cases ht : taskP n x with
  | none => rw [ht] at h; cases h
  | some s =>
   rw [ht] at h
   obtain ⟨l, h1, h2, h3⟩ := needsGo_spec n r (acc ++ [s]) out h
   refine ⟨s :: l, by simp [h1], by simp [h2], fun i t hi => ?_⟩
   cases i with
   | zero => simp at hi; subst hi; simpa using ht
   | succ i => simpa using h3 i t (by simpa using hi)
theorem needsP_spec {ts : List TT} {nd : List Nat} (h : needsP ts = some nd) : ts.length ≤ 8 ∧ nd.length = ts.length ∧ ∀ (i : Nat) (t : TT), ts[i]? = some t → taskP ts.length t = some (nd.getD i 0) := by
 unfold needsP at h
 split at h
 ·cases h
 ·rename_i hn
  obtain ⟨l, h1, h2, h3⟩ := needsGo_spec _ _ _ _ h
  rw [List.nil_append] at h1
  subst h1
  exact ⟨by omega, h2, h3⟩
theorem taskP_lt {n s : Nat} {t : TT} (h : taskP n t = some s) : s < 2 ^ n ∧ setP t.f1 n = some s ∧ (1 ≤ t.f0 ∧ t.f0 ≤ 20) ∧ (0 ≤ t.f2 ∧ t.f2 ≤ 2) ∧ (1 ≤ t.f3 ∧ t.f3 ≤ 4) := by
 unfold taskP at h
 cases hs : setP t.f1 n with
 | none => rw [hs] at h; cases h
 | some s' =>
  rw [hs] at h
  simp only at h
  split at h
  ·rename_i hc
   injection h with h
   subst h
   exact ⟨setP_lt hs, rfl, hc⟩
  ·cases h
theorem needs_lt {ts : List TT} {nd : List Nat} (h : needsP ts = some nd) (i : Nat) : nd.getD i 0 < 2 ^ ts.length := by
 obtain ⟨h1, h2, h3⟩ := needsP_spec h
 rcases Nat.lt_or_ge i ts.length with hi | hi
 ·exact (taskP_lt (h3 i _ (List.getElem?_eq_getElem hi))).1
 ·rw [List.getD_eq_getElem?_getD, List.getElem?_eq_none (by omega)]; exact Nat.two_pow_pos _
theorem orderGo_mem {nd : List Nat} : ∀ (m : Nat) (s : List Nat × Nat), (∀ i ∈ s.1, i < nd.length) → ∀ i ∈ (orderGo nd m s).1, i < nd.length
 | 0, s, h => h
 | m + 1, s, h => by
  refine orderGo_mem m (orderStep nd s) ?_
  unfold orderStep
  cases hf : firstP nd s.2 with
  | none => exact h
  | some j =>
   intro i hi
   rcases List.mem_append.1 hi with hi | hi
   ·exact h i hi
   ·rw [List.mem_singleton] at hi; subst hi; exact firstP_lt hf
theorem orderP_mem (nd : List Nat) : ∀ i ∈ (orderP nd).1, i < nd.length := orderGo_mem _ _ (fun i hi => by cases hi)
theorem everyI_eq : ∀ n, n ≤ 8 → everyI n = ((2 ^ n - 1 : Nat) : Int) := by decide +kernel
structure GOk (G : GrN) : Prop where
 n8 : G.ts.length ≤ 8
 nl : G.nd.length = G.ts.length
 task : ∀ (i : Nat) (t : TT), G.ts[i]? = some t → taskP G.ts.length t = some (G.nd.getD i 0)
 nlt : ∀ i, G.nd.getD i 0 < 2 ^ G.ts.length
 ord : G.od = (orderP G.nd).1
 full : (orderP G.nd).2 = 2 ^ G.ts.length - 1
 omem : ∀ i ∈ G.od, i < G.ts.length
 blE : G.bl = (relP G.nd G.od G.ts.length).1
 abE : G.ab = (relP G.nd G.od G.ts.length).2
 bl : OkU G.ts.length G.bl
 ab : OkU G.ts.length G.ab
theorem graphP_ok {ts : List TT} {G : GrN} (h : graphP ts = some G) : G.ts = ts ∧ needsP ts = some G.nd ∧ GOk G := by
 unfold graphP at h
 cases hn : needsP ts with
 | none => rw [hn] at h; cases h
 | some nd =>
  rw [hn] at h
  simp only at h
  split at h
  ·rename_i hd
   injection h with h
   obtain ⟨h1, h2, h3⟩ := needsP_spec hn
   have hm : ∀ i ∈ (orderP nd).1, i < ts.length := fun i hi => by rw [← h2]; exact orderP_mem nd i hi
   have hr := relP_ok (n := ts.length) (nd := nd) (od := (orderP nd).1) (needs_lt hn) hm
   subst h
   exact ⟨rfl, rfl, ⟨h1, h2, h3, needs_lt hn, rfl, hd, hm, rfl, rfl, hr.1, hr.2⟩⟩
  ·cases h
theorem GOk.pool {G : GrN} (h : GOk G) (i : Nat) (hi : i < G.ts.length) : 0 ≤ (rd_T39 G.ts (i : Int)).f2 ∧ (rd_T39 G.ts (i : Int)).f2 < 3 := by
 have := taskP_lt (h.task i _ (List.getElem?_eq_getElem hi))
 have e : rd_T39 G.ts (i : Int) = G.ts[i] := by simp [rd_T39, hi]
 rw [e]
 omega
theorem graphOf_all (A0 : Option Addr) (c0 : Nat) (l0 : List TT) (w : World) (hr0 : Kd.C k39 w A0 l0.length l0) (hc0 : l0.length ≤ c0) (hT : TabOK w) :
  Calls Tryd.prog 58 #[.slice A0 l0.length c0] w fun e w' => ∃ g b, e = .returned (.tuple #[.pointer g, .bool b]) ∧ Below w.heap.size w w' ∧ (graphP l0 = none → g = none ∧ b = false) ∧ (∀ G, graphP l0 = some G → b = true ∧ ∃ a, g = some ⟨a, 0, none⟩ ∧ ∀ U : World, Kd.C k39 U A0 l0.length l0 → (∀ k, w.heap.size ≤ k → k < w'.heap.size → U.heap[k]? = w'.heap[k]?) → IsG U a G.gr) := by
 have hN := needs_eq l0 100 (Nat.le_refl _)
 cases hn : needsP l0 with
 | none =>
  rw [hn] at hN
  have hg : graphP l0 = none := by unfold graphP; rw [hn]
  refine (graphOf_no1 100 A0 c0 l0 [] w hr0 hc0 hN).mono ?_
  rintro e w' ⟨rfl, hb⟩
  exact ⟨none, false, rfl, hb, fun _ => ⟨rfl, rfl⟩, fun G h => by rw [hg] at h; cases h⟩
 | some nd =>
  rw [hn] at hN
  obtain ⟨h1, h2, h3⟩ := needsP_spec hn
  have hO := order_eq nd h1 h2 (needs_lt hn) 100 (Nat.le_refl _)
  by_cases hd : (orderP nd).2 = 2 ^ l0.length - 1
  ·have hg : graphP l0 = some ⟨l0, nd, (orderP nd).1, (relP nd (orderP nd).1 l0.length).1, (relP nd (orderP nd).1 l0.length).2⟩ := by unfold graphP; rw [hn]; simp only [if_pos hd]
   refine (graphOf_yes 100 A0 c0 l0 (nI nd) (nI (orderP nd).1) ((orderP nd).2 : Int) w hr0 hc0 hN hO (by rw [everyI_eq _ h1, hd]; simp) h1 nd (orderP nd).1 rfl rfl h2 (fun x hx => by
    obtain ⟨i, hi, rfl⟩ := List.getElem_of_mem hx
    have := needs_lt hn i
    rwa [List.getD_eq_getElem?_getD, List.getElem?_eq_getElem hi] at this) (fun x hx => by rw [← h2]; exact orderP_mem nd x hx) hT).mono ?_
   rintro e w' ⟨g, rfl, hG, hb⟩
   exact ⟨_, _, rfl, hb, fun h => (by rw [hg] at h; cases h), fun G h => by rw [hg] at h; injection h with h; subst h; exact ⟨rfl, g, rfl, hG⟩⟩
  ·have hg : graphP l0 = none := by unfold graphP; rw [hn]; simp only [if_neg hd]
   refine (graphOf_no2 100 A0 c0 l0 (nI nd) (nI (orderP nd).1) ((orderP nd).2 : Int) w hr0 hc0 hN hO (by
    rw [everyI_eq _ h1]
    exact beq_eq_false_iff_ne.2 (fun h => hd (by exact_mod_cast h)))).mono ?_
   rintro e w' ⟨rfl, hb⟩
   exact ⟨none, false, rfl, hb, fun _ => ⟨rfl, rfl⟩, fun G h => by rw [hg] at h; cases h⟩
theorem graphOf_at {A0 : Option Addr} {l0 : List TT} {w w' : World} {a : Nat} {G : GrN} (hr0 : Kd.C k39 w A0 l0.length l0) (hb : Below w.heap.size w w')
  (h : ∀ U : World, Kd.C k39 U A0 l0.length l0 → (∀ k, w.heap.size ≤ k → k < w'.heap.size → U.heap[k]? = w'.heap[k]?) → IsG U a G.gr) : IsG w' a G.gr := h w' (Kd.C_below hr0 hb) (fun _ _ _ => rfl)
end Go.Proofs.YtajapkjplgaigaaDoor.P
end
section
namespace Go.Proofs.YtajapkjplgaigaaDoor.P
open Go.RowKit Go.Shelf Go.Proofs.YtajapkjplgaigaaDoorW.PrintWords Go.Proofs.YtajapkjplgaigaaDoorW.PrintLast Go.Proofs.YtajapkjplgaigaaDoorW.PrintMore
attribute [local go_sem] Oper.semAt_some
set_option linter.unusedVariables false
set_option linter.unusedSimpArgs false
def closedP (nd : List Nat) (s : Nat) : Bool := (bitsN s).all fun i => nd.getD i 0 &&& s == nd.getD i 0
def doneP (ts : List TT) (done : List Int) : Option (GrN × Nat) := match graphP ts with
 | none => none
 | some G => match setP done ts.length with
  | none => none
  | some s => if closedP G.nd s then some (G, s) else none
theorem size_calls (g : Nat) (G : Gr) (w : World) (hG : IsG w g G) : Calls Tryd.prog 40 #[.pointer (some ⟨g, 0, none⟩)] w fun e w' => e = .returned (.int .i64 (G.ts.length : Int)) ∧ Drawn0 w w' := by
 obtain ⟨A0, c0, A1, c1, A2, c2, A3, c3, A4, c4, hblk, _⟩ := hG
 have hg0 : w.cell? ⟨g, 0, none⟩ = some (.slice A0 G.ts.length c0) := (blk_cell hblk 0).trans rfl
 clear hblk
 go_enter Tryd.func40, Tryd.ntmps40
 go_wp2
 go_ret
 exact ⟨rfl, ⟨0, rfl⟩⟩
structure Rs (w : World) (q : Nat) (v0 v1 v2 : Value) (W : World) : Prop where
 h0 : Boxed W q 49 v0
 h1 : Boxed W (q + 1) 51 v1
 h2 : Boxed W (q + 1 + 1) 4 v2
 bel : Below w.heap.size w W
end Go.Proofs.YtajapkjplgaigaaDoor.P
end
section
namespace Go.Proofs.YtajapkjplgaigaaDoor.P
open Go.RowKit Go.Shelf Go.Proofs.YtajapkjplgaigaaDoorW.PrintWords Go.Proofs.YtajapkjplgaigaaDoorW.PrintLast Go.Proofs.YtajapkjplgaigaaDoorW.PrintMore
attribute [local go_sem] Oper.semAt_some
set_option linter.unusedVariables false
set_option linter.unusedSimpArgs false
def readyStepN (nd : List Nat) (s : Nat) (o i : Nat) : Nat := if canP nd s i then o ||| 2 ^ i else o
def readyN (nd : List Nat) (s : Nat) : Nat := (List.range nd.length).foldl (readyStepN nd s) 0
def impl_ValidDone.f (l0 : List TT) (l1 : List Int) : Option (Bool) := some (doneP l0 l1).isSome
def impl_ReadyTasks.f (l0 : List TT) (l1 : List Int) : Option (List Int) := some (match doneP l0 l1 with | none => [] | some (G, s) => ivs (bitsN (readyN G.nd s)))
end Go.Proofs.YtajapkjplgaigaaDoor.P
end
section
namespace Go.Proofs.YtajapkjplgaigaaDoor.P
open Go.RowKit Go.Shelf Go.Proofs.YtajapkjplgaigaaDoorW.PrintWords Go.Proofs.YtajapkjplgaigaaDoorW.PrintLast Go.Proofs.YtajapkjplgaigaaDoorW.PrintMore
attribute [local go_sem] Oper.semAt_some
set_option linter.unusedVariables false
set_option linter.unusedSimpArgs false
def diffN (a b : Nat) : Nat := a ^^^ (a &&& b)
theorem within_calls (a b c : Int) (r : Bool) (hr : decide (b ≤ a ∧ a ≤ c) = r) (w : World) : Calls Tryd.prog 48 #[.int .i64 a, .int .i64 b, .int .i64 c] w fun e w' => e = .returned (.bool r) ∧ Drawn0 w w' :=
 impl_within.calls a b c _ w (by rw [within_eq, hr])
theorem size_callsN (g : Nat) (G : GrN) (n : Nat) (hn : G.ts.length = n) (w : World) (hG : IsG w g G.gr) : Calls Tryd.prog 40 #[.pointer (some ⟨g, 0, none⟩)] w fun e w' => e = .returned (.int .i64 (n : Int)) ∧ Drawn0 w w' := by
 subst hn
 exact size_calls g G.gr w hG
theorem has_callsN (s i : Nat) (hs : s < 256) (hi : i < 8) (w : World) : Calls Tryd.prog 49 #[.int .u16 (s : Int), .int .i64 (i : Int)] w fun e w' => e = .returned (.bool (s.testBit i)) ∧ Drawn0 w w' := by
 have := hasB_calls (s : Int) (i : Int) (by omega) w
 rw [hasB_nat s hs i hi] at this
 exact this
theorem with_callsN (s i : Nat) (hs : s < 256) (hi : i < 8) (w : World) : Calls Tryd.prog 50 #[.int .u16 (s : Int), .int .i64 (i : Int)] w fun e w' => e = .returned (.int .u16 ((s ||| 2 ^ i : Nat) : Int)) ∧ Drawn0 w w' := by
 have := withI_calls (s : Int) (i : Int) (by omega) w
 rw [withI_nat s i hs hi] at this
 exact this
def finishP (ts : List TT) (done : List Int) (at_ : Int) : Option (List Int) := match doneP ts done with
 | none => none
 | some (G, s) => if 0 ≤ at_ ∧ at_ < ts.length then (if (readyN G.nd s).testBit at_.toNat then some (ivs (bitsN (s ||| 2 ^ at_.toNat))) else none) else none
def impl_FinishTask.f (l0 : List TT) (l1 : List Int) (a2 : Int) : Option (List Int × Bool) := some (match finishP l0 l1 a2 with | none => ([], false) | some l => (l, true))
def impl_WaitsFor.f (l0 : List TT) (l1 : List Int) (a2 : Int) : Option (List Int) := some (match doneP l0 l1 with
 | none => []
 | some (G, s) => if 0 ≤ a2 ∧ a2 < l0.length then ivs (bitsN (diffN (G.nd.getD a2.toNat 0) s)) else [])
end Go.Proofs.YtajapkjplgaigaaDoor.P
end
section
namespace Go.Proofs.YtajapkjplgaigaaDoor.P
open Go.RowKit Go.Shelf Go.Proofs.YtajapkjplgaigaaDoorW.PrintWords Go.Proofs.YtajapkjplgaigaaDoorW.PrintLast Go.Proofs.YtajapkjplgaigaaDoorW.PrintMore
attribute [local go_sem] Oper.semAt_some
set_option linter.unusedVariables false
set_option linter.unusedSimpArgs false
def IsC (W : World) (b : Nat) (n : Int) (us : List Int) : Prop := us.length = 3 ∧ W.heap[b]? = some (.cells (Value.int .i64 n :: us.map (Value.int .i64)).toArray 84 (0, 0))
def addN (n sign : Int) : Int := wrap64 (n + sign)
def addU (us : List Int) (pool units sign : Int) : List Int := us.set pool.toNat (wrap64 (rd us pool + wrap64 (sign * units)))
theorem IsC.three {W : World} {b : Nat} {n : Int} {us : List Int} (h : IsC W b n us) : ∃ u0 u1 u2, us = [u0, u1, u2] ∧ W.heap[b]? = some (.cells #[.int .i64 n, .int .i64 u0, .int .i64 u1, .int .i64 u2] 84 (0, 0)) := by
 obtain ⟨hl, hh⟩ := h
 match us, hl with
 | [u0, u1, u2], _ => exact ⟨u0, u1, u2, rfl, hh⟩
theorem IsC.grown {W W' : World} {b : Nat} {n : Int} {us : List Int} (h : IsC W b n us) {row : Option Nat} (hg : W.grownBy W' row) (hne : some b ≠ row) : IsC W' b n us := ⟨h.1, blk_grown h.2 hg hne⟩
theorem IsC.alloc {W : World} {b : Nat} {n : Int} {us : List Int} (h : IsC W b n us) (o : Obj) : IsC (W.alloc o) b n us := ⟨h.1, blk_alloc h.2 o⟩
theorem IsC.drewN {W : World} {b : Nat} {n : Int} {us : List Int} (h : IsC W b n us) (k : Nat) : IsC (W.drewN k) b n us := h
theorem grown_drewN {w W : World} {row : Option Nat} (h : w.grownBy W row) (k : Nat) : w.grownBy (W.drewN k) row := ⟨h.os, h.tape, h.output, h.size, h.block⟩
theorem Kd.C_alloc_cell {w : World} {a : Addr} {v : Value} (h : w.cell? a = some v) (o : Obj) : (w.alloc o).cell? a = some v :=
 (Below.cell ((Below.refl _ w).alloc (Nat.le_refl _) o) (World.block_lt_of_cell? w a h)).trans h
set_option maxRecDepth 100000 in
set_option maxHeartbeats 2000000 in
theorem add_calls (b : Nat) (n : Int) (us : List Int) (time pool units sign : Int) (A : Option Addr) (m c : Nat) (h0 : 0 ≤ pool) (h3 : pool < 3) (w : World) (hC : IsC w b n us) :
  Calls Tryd.prog 96 #[.pointer (some ⟨b, 0, none⟩), .agg #[.int .i64 time, .slice A m c, .int .i64 pool, .int .i64 units], .int .i64 sign] w fun e w' =>
   e = .returned (.tuple #[]) ∧ IsC w' b (addN n sign) (addU us pool units sign) ∧ w.grownBy w' (some b) := by
 obtain ⟨u0, u1, u2, rfl, hb⟩ := hC.three
 have hlt := (Array.getElem?_eq_some_iff.1 hb).1
 have c0 : w.cell? ⟨b, 0, none⟩ = some (.int .i64 n) := (blk_cell hb 0).trans rfl
 have cp : w.cell? ⟨b, 1 + pool.toNat, none⟩ = some (.int .i64 (rd [u0, u1, u2] pool)) := by
  have : pool = 0 ∨ pool = 1 ∨ pool = 2 := by omega
  rcases this with rfl | rfl | rfl
  ·exact (blk_cell hb 1).trans rfl
  ·exact (blk_cell hb 2).trans rfl
  ·exact (blk_cell hb 3).trans rfl
 have f0 : w.frozen? ⟨b, 0, none⟩ = false := by simp [World.frozen?, hb]
 have fp : w.frozen? ⟨b, 1 + pool.toNat, none⟩ = false := by simp [World.frozen?, hb]
 have hb' := Aside0.mk hb
 clear hb hC
 go_enter Tryd.func96, Tryd.ntmps96
 go_wp2
 generalize hW1 : (w.setCell _ _).alloc _ = W1
 have hs1 : (w.setCell ⟨b, 0, none⟩ (.int .i64 (wrap64 (n + sign)))).heap.size = w.heap.size := by simp
 have t0 : W1.heap[w.heap.size]? = some (.cells #[.int .i64 time, .slice A m c, .int .i64 pool, .int .i64 units] 39 (0, 0)) := by
  rw [← hW1, ← hs1]; exact World.alloc_heap_new _ _
 have b1 : W1.heap[b]? = some (.cells #[.int .i64 (wrap64 (n + sign)), .int .i64 u0, .int .i64 u1, .int .i64 u2] 84 (0, 0)) := by
  rw [← hW1, Below.heap_alloc _ _ _ (by simpa using hlt)]
  simpa using blk_set hb'.out 0 (.int .i64 (wrap64 (n + sign)))
 have hg1 : w.grownBy W1 (some b) := by
  rw [← hW1]
  exact World.grownBy.trans (grownBy_setCell' w b _) (World.grownBy_alloc _ _ _)
 clear hW1 cp fp c0 f0 hs1
 have t2 : W1.cell? ⟨w.heap.size, 2, none⟩ = some (.int .i64 pool) := (blk_cell t0 2).trans rfl
 have t3 : W1.cell? ⟨w.heap.size, 3, none⟩ = some (.int .i64 units) := (blk_cell t0 3).trans rfl
 have cp : W1.cell? ⟨b, 1 + pool.toNat, none⟩ = some (.int .i64 (rd [u0, u1, u2] pool)) := by
  have : pool = 0 ∨ pool = 1 ∨ pool = 2 := by omega
  rcases this with rfl | rfl | rfl
  ·exact (blk_cell b1 1).trans rfl
  ·exact (blk_cell b1 2).trans rfl
  ·exact (blk_cell b1 3).trans rfl
 have fp : W1.frozen? ⟨b, 1 + pool.toNat, none⟩ = false := by simp [World.frozen?, b1]
 have hb1 := Aside0.mk b1
 clear b1 t0
 go_still_tail 15, (by kernel_rfl)
 go_wp2
 go_end0
 refine ⟨rfl, ⟨by simp [addU], ?_⟩, World.grownBy.trans hg1 ⟨rfl, rfl, rfl, (KeepsWalks.setCell W1 _ _).size, fun k _ hk => Below.heap_setCell _ _ _ k (fun e => hk (by rw [e]))⟩⟩
 have := blk_set hb1.out (1 + pool.toNat) (Value.int IntKind.i64 (wrap64 (rd [u0, u1, u2] pool + wrap64 (sign * units))))
 refine (blk_drew this).trans ?_
 have hp : pool = 0 ∨ pool = 1 ∨ pool = 2 := by omega
 rcases hp with rfl | rfl | rfl <;> rfl
def takesB (n : Int) (us : List Int) (pool units : Int) (room : List Int) (workers : Int) : Bool := !(decide (n ≥ workers) || decide (wrap64 (rd us pool + units) > rd room pool))
set_option maxRecDepth 100000 in
set_option maxHeartbeats 2000000 in
theorem takes_calls (b : Nat) (n : Int) (us : List Int) (time pool units workers : Int) (A : Option Addr) (m c : Nat) (R : Option Addr) (cr : Nat) (room : List Int) (h0 : 0 ≤ pool) (h3 : pool < 3) (w : World) (hC : IsC w b n us)
  (hr : Kd.C (Kd.int .i64) w R room.length room) (hl : room.length = 3) :
  Calls Tryd.prog 97 #[.pointer (some ⟨b, 0, none⟩), .agg #[.int .i64 time, .slice A m c, .int .i64 pool, .int .i64 units], .slice R room.length cr, .int .i64 workers] w fun e w' =>
   e = .returned (.bool (takesB n us pool units room workers)) ∧ (takesB n us pool units room workers = true → IsC w' b (addN n 1) (addU us pool units 1)) ∧ (takesB n us pool units room workers = false → IsC w' b n us) ∧ w.grownBy w' (some b) := by
 obtain ⟨u0, u1, u2, rfl, hb⟩ := hC.three
 have hlt := (Array.getElem?_eq_some_iff.1 hb).1
 have c0 : w.cell? ⟨b, 0, none⟩ = some (.int .i64 n) := (blk_cell hb 0).trans rfl
 have cp : w.cell? ⟨b, 1 + pool.toNat, none⟩ = some (.int .i64 (rd [u0, u1, u2] pool)) := by
  have : pool = 0 ∨ pool = 1 ∨ pool = 2 := by omega
  rcases this with rfl | rfl | rfl
  ·exact (blk_cell hb 1).trans rfl
  ·exact (blk_cell hb 2).trans rfl
  ·exact (blk_cell hb 3).trans rfl
 obtain ⟨ad, rfl, hx⟩ := Kd.at_int hr pool h0 (by omega)
 have hC' := Aside0.mk hC
 clear hC hb hr
 have hl' : pool < (room.length : Int) := by omega
 have hx' := Kd.C_alloc_cell hx (.cells #[.int .i64 time, .slice A m c, .int .i64 pool, .int .i64 units] 39)
 by_cases q1 : n ≥ workers
 ·have hd : decide (workers ≤ n) = true := decide_eq_true q1
  have et : takesB n [u0, u1, u2] pool units room workers = false := by simp [takesB, q1]
  rw [et]
  clear et
  go_enter Tryd.func97, Tryd.ntmps97
  go_wp2
  go_quiet (fail)
  go_wp2
  go_ret
  exact ⟨rfl, fun h => (by cases h), fun _ => (hC'.out.alloc _).drewN _, grown_drewN (World.grownBy_alloc w _ _) _⟩
 ·have hd : decide (workers ≤ n) = false := decide_eq_false q1
  by_cases q2 : wrap64 (rd [u0, u1, u2] pool + units) > rd room pool
  ·have hd2 : decide (rd room pool < wrap64 (rd [u0, u1, u2] pool + units)) = true := decide_eq_true q2
   have et : takesB n [u0, u1, u2] pool units room workers = false := by simp [takesB, q2]
   rw [et]
   clear et q2
   go_enter Tryd.func97, Tryd.ntmps97
   go_wp2
   go_quiet (fail)
   go_wp2
   go_ret
   exact ⟨rfl, fun h => (by cases h), fun _ => (hC'.out.alloc _).drewN _, grown_drewN (World.grownBy_alloc w _ _) _⟩
  ·have hd2 : decide (rd room pool < wrap64 (rd [u0, u1, u2] pool + units)) = false := decide_eq_false q2
   have et : takesB n [u0, u1, u2] pool units room workers = true := by simp [takesB, q2]; omega
   rw [et]
   clear et q2
   go_enter Tryd.func97, Tryd.ntmps97
   go_wp2
   go_quiet (fail)
   have ac := fun W h => add_calls b n [u0, u1, u2] time pool units 1 A m c h0 h3 W h
   go_wp2_with (go_at_call 96; refine (ac _ ((hC'.out.alloc _).drewN _)).mono ?_; rintro e w1 ⟨rfl, hC1, hg1⟩)
   go_ret
   exact ⟨rfl, fun _ => hC1, fun h => (by cases h), World.grownBy.trans (grown_drewN (World.grownBy_alloc w _ _) _) hg1⟩
end Go.Proofs.YtajapkjplgaigaaDoor.P
end
section
namespace Go.Proofs.YtajapkjplgaigaaDoor.P
open Go.RowKit Go.Shelf Go.Proofs.YtajapkjplgaigaaDoorW.PrintWords Go.Proofs.YtajapkjplgaigaaDoorW.PrintLast Go.Proofs.YtajapkjplgaigaaDoorW.PrintMore
attribute [local go_sem] Oper.semAt_some
set_option linter.unusedVariables false
set_option linter.unusedSimpArgs false
def countN (xs : List Nat) : Int := xs.foldl (fun (a : Int) (_ : Nat) => addN a 1) 0
def countU (ts : List TT) (xs : List Nat) : List Int := xs.foldl (fun (a : List Int) (i : Nat) => addU a (rd_T39 ts (i : Int)).f2 (rd_T39 ts (i : Int)).f3 1) [0, 0, 0]
theorem countN_snoc (xs : List Nat) (x : Nat) : countN (xs ++ [x]) = addN (countN xs) 1 := by simp [countN]
theorem countU_snoc (ts : List TT) (xs : List Nat) (x : Nat) : countU ts (xs ++ [x]) = addU (countU ts xs) (rd_T39 ts (x : Int)).f2 (rd_T39 ts (x : Int)).f3 1 := by simp [countU]
theorem own_C {β : Type} (B b : Nat) (n : β → Int) (us : β → List Int) : OwnFrom B (fun s W => IsC W b (n s) (us s)) := by
 intro s W W' row h hg hr
 refine h.grown hg (fun e => ?_)
 obtain ⟨_, o, ho, hc⟩ := hr b e.symm
 rw [h.2] at ho
 cases ho
 cases hc
def cntV (n : Int) (us : List Int) : Value := .agg (Value.int .i64 n :: us.map (Value.int .i64)).toArray
set_option maxRecDepth 100000 in
set_option maxHeartbeats 2000000 in
theorem counted_calls (g : Nat) (G : Gr) (s : Nat) (hs : s < 256) (hin : ∀ i, i < 8 → s.testBit i = true → i < G.ts.length) (hp : ∀ i : Nat, i < G.ts.length → 0 ≤ (rd_T39 G.ts (i : Int)).f2 ∧ (rd_T39 G.ts (i : Int)).f2 < 3) (w : World) (hG : IsG w g G) (hT : TabOK w) :
  Calls Tryd.prog 72 #[.pointer (some ⟨g, 0, none⟩), .int .u16 s] w fun e w' => e = .returned (cntV (countN (bitsN s)) (countU G.ts (bitsN s))) ∧ Below w.heap.size w w' := by
 refine calls_of_wpM Tryd.func72 rfl ?_
 simp only [Tryd.ntmps72, List.size_toArray, List.length_cons, List.length_nil, Nat.reduceAdd, Nat.reduceSub, Array.replicate_succ, Array.replicate_zero, List.push_toArray, List.append_toArray, List.nil_append, List.cons_append]
 have hT' := Aside0.mk hT
 have hG' := Aside0.mk hG
 clear hT hG
 go_wp2_with (go_at_call 54; refine (all_calls _ _).mono ?_; rintro e w' ⟨rfl, rfl⟩)
 have hT := hT'.out
 have hG := hG'.out
 have hB1 := (Below.refl w.heap.size w).alloc (Nat.le_refl _) (.cells #[.pointer (some ⟨g, 0, none⟩)] 49)
 have hb0 := Boxed.new w 49 (.pointer (some ⟨g, 0, none⟩))
 have hs1 : (w.alloc (.cells #[.pointer (some ⟨g, 0, none⟩)] 49)).heap.size = w.heap.size + 1 := by simp
 generalize w.alloc (.cells #[.pointer (some ⟨g, 0, none⟩)] 49) = W1 at *
 have hB2 := hB1.alloc (by omega) (.cells #[.int .i64 0, .int .i64 0, .int .i64 0, .int .i64 0] 84)
 have hb2 := hb0.alloc (.cells #[.int .i64 0, .int .i64 0, .int .i64 0, .int .i64 0] 84)
 have hc2 : IsC (W1.alloc (.cells #[.int .i64 0, .int .i64 0, .int .i64 0, .int .i64 0] 84)) (w.heap.size + 1) 0 [0, 0, 0] := ⟨rfl, by rw [← hs1]; exact blk_new _ _⟩
 have hs2 : (W1.alloc (.cells #[.int .i64 0, .int .i64 0, .int .i64 0, .int .i64 0] 84)).heap.size = w.heap.size + 1 + 1 := by simp [hs1]
 generalize W1.alloc (.cells #[.int .i64 0, .int .i64 0, .int .i64 0, .int .i64 0] 84) = W2 at *
 have hB3 := hB2.alloc (by omega) (.cells #[.int .i64 0, .int .i64 0, .int .i64 0, .int .i64 0] 84)
 have hb3 := hb2.alloc (.cells #[.int .i64 0, .int .i64 0, .int .i64 0, .int .i64 0] 84)
 have hc3 := hc2.alloc (.cells #[.int .i64 0, .int .i64 0, .int .i64 0, .int .i64 0] 84)
 have hd3 : IsC (W2.alloc (.cells #[.int .i64 0, .int .i64 0, .int .i64 0, .int .i64 0] 84)) (w.heap.size + 1 + 1) 0 [0, 0, 0] := ⟨rfl, by rw [← hs2]; exact blk_new _ _⟩
 have hs3 : (W2.alloc (.cells #[.int .i64 0, .int .i64 0, .int .i64 0, .int .i64 0] 84)).heap.size = w.heap.size + 1 + 1 + 1 := by simp [hs2]
 generalize W2.alloc (.cells #[.int .i64 0, .int .i64 0, .int .i64 0, .int .i64 0] 84) = W3 at *
 have hB4 := hB3.alloc (by omega) (.cells #[.int .u16 s] 51)
 refine wp_all1 (w.heap.size + 1 + 1 + 1) s hs rfl (by simp; omega) (box_at _ _ _ _ hs3).cell (hT.below hB4) rfl rfl rfl (by simp)
  (fun pre W => ((Boxed W w.heap.size 49 (.pointer (some ⟨g, 0, none⟩)) ∧ IsC W (w.heap.size + 1) 0 [0, 0, 0]) ∧ IsC W (w.heap.size + 1 + 1) (countN pre) (countU G.ts pre)) ∧ Below w.heap.size w W) (fun _ _ _ => False)
  (OwnFrom.and (OwnFrom.and (OwnFrom.and (own_box _ _ _ _) (own_C _ _ _ _)) (own_C _ _ _ _)) (ownFrom_below (Nat.le_refl _) (by simp; omega))) (fun _ _ _ _ _ hs _ _ => hs) ⟨⟨⟨hb3.alloc _, hc3.alloc _⟩, hd3.alloc _⟩, hB4⟩ (fun pre W h => hT.below h.2) ?body ?done ?stop
 case stop => intro D c pre W _ _ h _; exact h.elim
 case body =>
  rintro l pre x W hx8 hxs ⟨⟨⟨h0, h1⟩, h2⟩, hB⟩ hlen
  simp only [List.setIfInBounds_toArray, List.set_cons_zero, List.set_cons_succ]
  have hxl := hin x hx8 hxs
  obtain ⟨A0, c0, A1, c1, A2, c2, A3, c3, A4, c4, hblk, ⟨hC0, _⟩, _⟩ := hG.below hB
  obtain ⟨ad, B1, d1, rfl, hx0, hx1, hx2, hx3, _⟩ := at_T39 hC0 (x : Int) (by omega) (by omega)
  simp only [Int.toNat_natCast] at hx0 hx1 hx2 hx3
  have hg0 : W.cell? ⟨g, 0, none⟩ = some (.slice (some ad) G.ts.length c0) := (blk_cell hblk 0).trans rfl
  have hc0 := h0.cell
  have ac := Aside0.mk (add_calls (w.heap.size + 1 + 1) _ _ (rd_T39 G.ts (x : Int)).f0 (rd_T39 G.ts (x : Int)).f2 (rd_T39 G.ts (x : Int)).f3 1 B1 (rd_T39 G.ts (x : Int)).f1.length d1 (hp x hxl).1 (hp x hxl).2 W h2)
  have hB' := Aside0.mk hB
  have h1' := Aside0.mk h1
  have h2' := Aside0.mk h2
  clear hb0 hb2 hb3 hB1 hB2 hB3 hB4 hT hG hB hblk hs1 hs2 hs3 hc2 hc3 hd3 h1 h2
  gi_wp2_with (refine ⟨trivial, ?_⟩; gi_at_call 96; refine (CallsIn.inRound l (callsIn_wide.2 ac.out)).mono ?_; rintro e w1 ⟨rfl, hC1, hg1⟩)
  refine ⟨(KeepsOthers.of_grownBy hg1 (fun j o e ho => by cases e; rw [h2'.out.2] at ho; cases ho; rfl)).from _, ⟨⟨h0.kept hg1 (fun e => by injection e; omega), h1'.out.grown hg1 (fun e => by injection e; omega)⟩, by rw [countN_snoc, countU_snoc]; exact hC1⟩, hB'.out.grown hg1 (hB'.out.size) (fun k e => by cases e; omega)⟩
 case done =>
  rintro D W hD ⟨⟨⟨h0, h1⟩, h2⟩, hB⟩ hK
  have hD' : w.heap.size ≤ D := by simp at hD; omega
  obtain ⟨u0, u1, u2, hu, hb⟩ := h2.three
  have hl1 := blk_lt h1.2
  obtain ⟨n, hn⟩ : ∃ n, countN (bitsN s) = n := ⟨_, rfl⟩
  have k0 : W.cell? ⟨w.heap.size + 1 + 1, 0, none⟩ = some (.int .i64 n) := (blk_cell hb 0).trans (by rw [hn]; rfl)
  have k1 : W.cell? ⟨w.heap.size + 1 + 1, 1, none⟩ = some (.int .i64 u0) := (blk_cell hb 1).trans rfl
  have k2 : W.cell? ⟨w.heap.size + 1 + 1, 2, none⟩ = some (.int .i64 u1) := (blk_cell hb 2).trans rfl
  have k3 : W.cell? ⟨w.heap.size + 1 + 1, 3, none⟩ = some (.int .i64 u2) := (blk_cell hb 3).trans rfl
  have j0 : W.cell? ⟨w.heap.size + 1, 0, none⟩ = some (.int .i64 0) := (blk_cell h1.2 0).trans rfl
  have j1 : W.cell? ⟨w.heap.size + 1, 1, none⟩ = some (.int .i64 0) := (blk_cell h1.2 1).trans rfl
  have j2 : W.cell? ⟨w.heap.size + 1, 2, none⟩ = some (.int .i64 0) := (blk_cell h1.2 2).trans rfl
  have j3 : W.cell? ⟨w.heap.size + 1, 3, none⟩ = some (.int .i64 0) := (blk_cell h1.2 3).trans rfl
  have jf : W.frozen? ⟨w.heap.size + 1, 0, none⟩ = false := blk_frozen h1.2 0
  have jf1 : W.frozen? ⟨w.heap.size + 1, 1, none⟩ = false := blk_frozen h1.2 1
  have jf2 : W.frozen? ⟨w.heap.size + 1, 2, none⟩ = false := blk_frozen h1.2 2
  have jf3 : W.frozen? ⟨w.heap.size + 1, 3, none⟩ = false := blk_frozen h1.2 3
  have hB' := Aside0.mk hB
  have hK' := Aside0.mk hK
  have hu' := Aside0.mk hu
  have hn' := Aside0.mk hn
  have h1' := Aside0.mk h1
  clear hb0 hb2 hb3 hB1 hB2 hB3 hB4 hT hG hB hD hK hs1 hs2 hs3 hc2 hc3 hd3 h0 h1 h2 hb hu hn
  go_wp2
  have s1 := blk_set h1'.out.2 0 (Value.int .i64 n)
  have s2 := blk_set s1 1 (Value.int .i64 u0)
  have s3 := blk_set s2 2 (Value.int .i64 u1)
  have s4 := blk_set s3 3 (Value.int .i64 u2)
  refine retM (B := w.heap.size) (fun W => IsC W (w.heap.size + 1) n [u0, u1, u2] ∧ Below w.heap.size w W) (OwnFrom.and (own_C _ _ _ _) (ownFrom_below (Nat.le_refl _) (Nat.le_refl _)))
   ⟨⟨D, rfl, hD', ((KeepsOthers.setCell _ _ _).trans ((KeepsOthers.setCell _ _ _).trans ((KeepsOthers.setCell _ _ _).trans (KeepsOthers.setCell _ _ _)))).same D _ hK'.out rfl, by simp⟩, trivial⟩ ⟨⟨rfl, s4⟩, (((hB'.out.setCell (p := ⟨w.heap.size + 1, 0, none⟩) (by simp) _).setCell (p := ⟨w.heap.size + 1, 1, none⟩) (by simp) _).setCell (p := ⟨w.heap.size + 1, 2, none⟩) (by simp) _).setCell (p := ⟨w.heap.size + 1, 3, none⟩) (by simp) _⟩ ?_
  rintro W' ⟨hC, hbb⟩
  have k0 : W'.cell? ⟨w.heap.size + 1, 0, none⟩ = some (.int .i64 n) := (blk_cell hC.2 0).trans rfl
  have k1 : W'.cell? ⟨w.heap.size + 1, 1, none⟩ = some (.int .i64 u0) := (blk_cell hC.2 1).trans rfl
  have k2 : W'.cell? ⟨w.heap.size + 1, 2, none⟩ = some (.int .i64 u1) := (blk_cell hC.2 2).trans rfl
  have k3 : W'.cell? ⟨w.heap.size + 1, 3, none⟩ = some (.int .i64 u2) := (blk_cell hC.2 3).trans rfl
  refine ⟨.agg #[.int .i64 n, .int .i64 u0, .int .i64 u1, .int .i64 u2], by simp [results, Tryd.results72, go_sem, k0, k1, k2, k3], ?_, hbb⟩
  rw [hu'.out, hn'.out]
  rfl
end Go.Proofs.YtajapkjplgaigaaDoor.P
end
section
namespace Go.Proofs.YtajapkjplgaigaaDoor.P
open Go.RowKit Go.Shelf Go.Proofs.YtajapkjplgaigaaDoorW.PrintWords Go.Proofs.YtajapkjplgaigaaDoorW.PrintLast Go.Proofs.YtajapkjplgaigaaDoorW.PrintMore
set_option linter.unusedVariables false
set_option linter.unusedSimpArgs false
def fitsB (us room : List Int) : Bool := decide (rd us 0 ≤ rd room 0) && decide (rd us 1 ≤ rd room 1) && decide (rd us 2 ≤ rd room 2)
set_option maxRecDepth 100000 in
set_option maxHeartbeats 2000000 in
theorem fits_calls (n : Int) (us : List Int) (R : Option Addr) (cr : Nat) (room : List Int) (w : World) (hu : us.length = 3)
  (hr : Kd.C (Kd.int .i64) w R room.length room) (hl : room.length = 3) :
  Calls Tryd.prog 77 #[cntV n us, .slice R room.length cr] w fun e w' => e = .returned (.bool (fitsB us room)) ∧ Below w.heap.size w w' := by
 match us, hu with
 | [u0, u1, u2], _ =>
 show Calls Tryd.prog 77 #[.agg #[.int .i64 n, .int .i64 u0, .int .i64 u1, .int .i64 u2], .slice R room.length cr] w _
 obtain ⟨ad, rfl, hx0⟩ := Kd.at_int hr 0 (by omega) (by omega)
 obtain ⟨ad1, e1, hx1⟩ := Kd.at_int hr 1 (by omega) (by omega)
 cases e1
 obtain ⟨ad2, e2, hx2⟩ := Kd.at_int hr 2 (by omega) (by omega)
 cases e2
 rw [hl]
 have hy0 : (w.alloc (.cells #[.int .i64 n, .int .i64 u0, .int .i64 u1, .int .i64 u2] 84)).cell? ad = some (.int .i64 (rd room 0)) := by simpa [Addr.add] using Kd.C_alloc_cell hx0 (.cells #[.int .i64 n, .int .i64 u0, .int .i64 u1, .int .i64 u2] 84)
 have hy1 : (w.alloc (.cells #[.int .i64 n, .int .i64 u0, .int .i64 u1, .int .i64 u2] 84)).cell? ⟨ad.block, ad.off + 1, none⟩ = some (.int .i64 (rd room 1)) := by simpa [Addr.add] using Kd.C_alloc_cell hx1 (.cells #[.int .i64 n, .int .i64 u0, .int .i64 u1, .int .i64 u2] 84)
 have hy2 : (w.alloc (.cells #[.int .i64 n, .int .i64 u0, .int .i64 u1, .int .i64 u2] 84)).cell? ⟨ad.block, ad.off + 2, none⟩ = some (.int .i64 (rd room 2)) := by simpa [Addr.add] using Kd.C_alloc_cell hx2 (.cells #[.int .i64 n, .int .i64 u0, .int .i64 u1, .int .i64 u2] 84)
 have i0 : ∀ w, (Instr.index 82 (.agg #[.int .i64 u0, .int .i64 u1, .int .i64 u2]) (.int .i64 0)).run Tryd.prog w = .ok (.int .i64 u0) w := fun _ => by kernel_rfl
 have i1 : ∀ w, (Instr.index 82 (.agg #[.int .i64 u0, .int .i64 u1, .int .i64 u2]) (.int .i64 1)).run Tryd.prog w = .ok (.int .i64 u1) w := fun _ => by kernel_rfl
 have i2 : ∀ w, (Instr.index 82 (.agg #[.int .i64 u0, .int .i64 u1, .int .i64 u2]) (.int .i64 2)).run Tryd.prog w = .ok (.int .i64 u2) w := fun _ => by kernel_rfl
 have ef : fitsB [u0, u1, u2] room = (decide (u0 ≤ rd room 0) && decide (u1 ≤ rd room 1) && decide (u2 ≤ rd room 2)) := rfl
 rw [ef]
 clear hx0 hx1 hx2 ef hr
 go_enter Tryd.func77, Tryd.ntmps77
 go_wp2
 go_loopg [9] 3 (fun kq v9 w' => ∃ j : Nat, v9 = .int .i64 j ∧ Aside0 (kq + j = 3) ∧ Aside0 (1 ≤ j → u0 ≤ rd room 0) ∧ Aside0 (2 ≤ j → u1 ≤ rd room 1) ∧ Aside0 (3 ≤ j → u2 ≤ rd room 2) ∧ w' = w.alloc (.cells #[.int .i64 n, .int .i64 u0, .int .i64 u1, .int .i64 u2] 84))
 case atStart => exact ⟨0, rfl, ⟨rfl⟩, ⟨by omega⟩, ⟨by omega⟩, ⟨by omega⟩, rfl⟩
 case round =>
  obtain ⟨j, rfl, hk, g0, g1, g2, rfl⟩ := hrel
  have hj : j = 0 ∨ j = 1 ∨ j = 2 ∨ j = 3 := by have := hk.out; omega
  rcases hj with rfl | rfl | rfl | rfl
  ·by_cases q : u0 ≤ rd room 0
   ·have d0 : decide (rd room 0 < u0) = false := decide_eq_false (by omega)
    go_wp2
    go_roundg (gk - 1)
    case measure => have := hk.out; omega
    case rel => exact ⟨1, rfl, ⟨by have := hk.out; omega⟩, ⟨fun _ => q⟩, ⟨by omega⟩, ⟨by omega⟩, rfl⟩
   ·have d0 : decide (rd room 0 < u0) = true := decide_eq_true (by omega)
    have q' := Aside0.mk q
    clear q
    go_wp2
    go_ret
    exact ⟨by have z := q'.out; simp <;> intros <;> omega, (Below.refl _ w).alloc (Nat.le_refl _) _⟩
  ·by_cases q : u1 ≤ rd room 1
   ·have d0 : decide (rd room 1 < u1) = false := decide_eq_false (by omega)
    go_wp2
    go_roundg (gk - 1)
    case measure => have := hk.out; omega
    case rel => exact ⟨2, rfl, ⟨by have := hk.out; omega⟩, ⟨fun _ => g0.out (by omega)⟩, ⟨fun _ => q⟩, ⟨by omega⟩, rfl⟩
   ·have d0 : decide (rd room 1 < u1) = true := decide_eq_true (by omega)
    have q' := Aside0.mk q
    clear q
    go_wp2
    go_ret
    exact ⟨by have z := q'.out; simp <;> intros <;> omega, (Below.refl _ w).alloc (Nat.le_refl _) _⟩
  ·by_cases q : u2 ≤ rd room 2
   ·have d0 : decide (rd room 2 < u2) = false := decide_eq_false (by omega)
    go_wp2
    go_roundg (gk - 1)
    case measure => have := hk.out; omega
    case rel => exact ⟨3, rfl, ⟨by have := hk.out; omega⟩, ⟨fun _ => g0.out (by omega)⟩, ⟨fun _ => g1.out (by omega)⟩, ⟨fun _ => q⟩, rfl⟩
   ·have d0 : decide (rd room 2 < u2) = true := decide_eq_true (by omega)
    have q' := Aside0.mk q
    clear q
    go_wp2
    go_ret
    exact ⟨by have z := q'.out; simp <;> intros <;> omega, (Below.refl _ w).alloc (Nat.le_refl _) _⟩
  ·go_wp2
   go_ret
   exact ⟨by simp [g0.out, g1.out, g2.out], (Below.refl _ w).alloc (Nat.le_refl _) _⟩
end Go.Proofs.YtajapkjplgaigaaDoor.P
end
section
namespace Go.Proofs.YtajapkjplgaigaaDoor.P
open Go.RowKit Go.Shelf Go.Proofs.YtajapkjplgaigaaDoorW.PrintWords Go.Proofs.YtajapkjplgaigaaDoorW.PrintLast Go.Proofs.YtajapkjplgaigaaDoorW.PrintMore
set_option linter.unusedVariables false
set_option linter.unusedSimpArgs false
def admStep (ts : List TT) (room : List Int) (workers : Int) (a : List Int × Int × List Int) (i : Int) : List Int × Int × List Int :=
 if takesB a.2.1 a.2.2 (rd_T39 ts i).f2 (rd_T39 ts i).f3 room workers then (a.1 ++ [i], addN a.2.1 1, addU a.2.2 (rd_T39 ts i).f2 (rd_T39 ts i).f3 1) else a
def admP (ts : List TT) (n : Int) (us room : List Int) (workers : Int) (list : List Int) : List Int × Int × List Int := list.foldl (admStep ts room workers) ([], n, us)
theorem admP_snoc (ts : List TT) (n : Int) (us room : List Int) (workers : Int) (l : List Int) (x : Int) : admP ts n us room workers (l ++ [x]) = admStep ts room workers (admP ts n us room workers l) x := by simp [admP]
theorem rd_take_snoc (l : List Int) (j : Nat) (h : j < l.length) : l.take (j + 1) = l.take j ++ [rd l (j : Int)] := by
 rw [List.take_succ_eq_append_getElem h]
 simp [rd, h]
theorem admP_len (ts : List TT) (n : Int) (us room : List Int) (workers : Int) (l : List Int) : (admP ts n us room workers l).1.length ≤ l.length := by
 have : ∀ (l : List Int) a, (l.foldl (admStep ts room workers) a).1.length ≤ a.1.length + l.length := by
  intro l
  induction l with
  | nil => intro a; simp
  | cons x l ih =>
   intro a
   simp only [List.foldl_cons, List.length_cons]
   refine Nat.le_trans (ih _) ?_
   unfold admStep
   split <;> simp <;> omega
 simpa [admP] using this l ([], n, us)
set_option maxRecDepth 100000 in
set_option maxHeartbeats 4000000 in
theorem admitted_calls (g : Nat) (G : Gr) (n : Int) (us : List Int) (R L : Option Addr) (cr cl : Nat) (room list : List Int) (workers : Int) (w : World) (hG : IsG w g G) (hu : us.length = 3)
  (hp : ∀ i : Nat, i < G.ts.length → 0 ≤ (rd_T39 G.ts (i : Int)).f2 ∧ (rd_T39 G.ts (i : Int)).f2 < 3) (hin : ∀ x ∈ list, 0 ≤ x ∧ x < G.ts.length)
  (hr : Kd.C (Kd.int .i64) w R room.length room) (hl : room.length = 3) (hr2 : Kd.C (Kd.int .i64) w L list.length list) (hcl : list.length ≤ cl) (hlen : list.length < 17592186044416) :
  Calls Tryd.prog 73 #[.pointer (some ⟨g, 0, none⟩), cntV n us, .slice R room.length cr, .slice L list.length cl, .int .i64 workers] w fun e w' => ∃ v : Value,
   e = .returned v ∧ Kd.R (Kd.int .i64) 3 w' w.heap.size (fun _ => True) v (admP G.ts n us room workers list).1 ∧ Below w.heap.size w w' := by
 match us, hu with
 | [u0, u1, u2], _ =>
 show Calls Tryd.prog 73 #[.pointer (some ⟨g, 0, none⟩), .agg #[.int .i64 n, .int .i64 u0, .int .i64 u1, .int .i64 u2], .slice R room.length cr, .slice L list.length cl, .int .i64 workers] w _
 have hG' := Aside0.mk hG
 have hr' := Aside0.mk hr
 have hr2' := Aside0.mk hr2
 have hin' := Aside0.mk hin
 have hp' := Aside0.mk hp
 have hl' := Aside0.mk hl
 clear hG hr hr2 hin hp hl
 go_enter Tryd.func73, Tryd.ntmps73
 go_wp2
 have hc0 : IsC (w.alloc (.cells #[.int .i64 n, .int .i64 u0, .int .i64 u1, .int .i64 u2] 84)) w.heap.size n [u0, u1, u2] := ⟨rfl, blk_new _ _⟩
 have hB0 := (Below.refl w.heap.size w).alloc (Nat.le_refl _) (.cells #[.int .i64 n, .int .i64 u0, .int .i64 u1, .int .i64 u2] 84)
 have hs0 : (w.alloc (.cells #[.int .i64 n, .int .i64 u0, .int .i64 u1, .int .i64 u2] 84)).heap.size = w.heap.size + 1 := by simp
 generalize w.alloc (.cells #[.int .i64 n, .int .i64 u0, .int .i64 u1, .int .i64 u2] 84) = W1 at *
 have hO0 : Kd.R (Kd.int .i64) 3 (W1.alloc (.cells #[] 3)) w.heap.size (fun k => k ≠ w.heap.size) (.slice (some ⟨w.heap.size + 1, 0, none⟩) 0 0) [] := by
  have := World.ownsRow_made (base := w.heap.size) (size := 1) (e := 3) W1 #[] 0 (by omega) (by unfold maxLen; omega) rfl
  rw [hs0] at this
  exact Kd.R_of_own (enc := Value.int .i64) (h1 := fun _ => rfl) this (fun k hk => by simp [Value.ownBlock] at hk; omega)
 have hc1 := hc0.alloc (.cells #[] 3)
 have hB1 := hB0.alloc (by omega) (.cells #[] 3)
 have hs1 : (W1.alloc (.cells #[] 3)).heap.size = w.heap.size + 1 + 1 := by simp [hs0]
 generalize W1.alloc (.cells #[] 3) = W2 at *
 have hs1' := Aside0.mk hs1
 clear hc0 hB0 hs0 hs1
 go_loopg [11, 17] list.length (fun kq v11 v17 W => ∃ j : Nat, v17 = .int .i64 j ∧ Aside0 (kq + j = list.length) ∧ Aside0 (Kd.R (Kd.int .i64) 3 W w.heap.size (fun k => k ≠ w.heap.size) v11 (admP G.ts n [u0, u1, u2] room workers (list.take j)).1) ∧
  Aside0 (IsC W w.heap.size (admP G.ts n [u0, u1, u2] room workers (list.take j)).2.1 (admP G.ts n [u0, u1, u2] room workers (list.take j)).2.2) ∧ Aside0 (Below w.heap.size w W))
 case atStart => exact ⟨0, rfl, ⟨rfl⟩, ⟨hO0⟩, ⟨hc1⟩, ⟨hB1⟩⟩
 case round =>
  clear hO0 hc1 hB1
  obtain ⟨j, rfl, hk, hO, hc, hB⟩ := hrel
  by_cases hj : j < list.length
  ·obtain ⟨adl, rfl, hxl⟩ := Kd.at_int (Kd.C_below hr2'.out hB.out) (j : Int) (by omega) (by omega)
   obtain ⟨x, hx⟩ : ∃ x, rd list (j : Int) = x := ⟨_, rfl⟩
   have hxm : 0 ≤ x ∧ x < G.ts.length := hin'.out x (by rw [← hx]; simp [rd, hj])
   rw [hx] at hxl
   simp only [Int.toNat_natCast] at hxl
   obtain ⟨hx0, hx1⟩ := hxm
   obtain ⟨A0, c0, A1, c1, A2, c2, A3, c3, A4, c4, hblk, ⟨hC0, _⟩, _⟩ := hG'.out.below hB.out
   obtain ⟨ad, B1, d1, rfl, ht0, ht1, ht2, ht3, _⟩ := at_T39 hC0 x hx0 hx1
   have hg0 : wr.cell? ⟨g, 0, none⟩ = some (.slice (some ad) G.ts.length c0) := (blk_cell hblk 0).trans rfl
   have hpx := hp'.out x.toNat (by omega)
   rw [Int.toNat_of_nonneg hx0] at hpx
   have tc := Aside0.mk (takes_calls w.heap.size _ _ (rd_T39 G.ts x).f0 (rd_T39 G.ts x).f2 (rd_T39 G.ts x).f3 workers B1 (rd_T39 G.ts x).f1.length d1 R cr room hpx.1 hpx.2 wr hc.out (Kd.C_below hr'.out hB.out) hl'.out)
   obtain ⟨⟨o1, n1, u1'⟩, ho⟩ : ∃ a, admP G.ts n [u0, u1, u2] room workers (list.take j) = a := ⟨_, rfl⟩
   have ho' := Aside0.mk ho
   rw [ho] at hO hc tc
   have hlo : o1.length ≤ list.length := by
    have h1 := admP_len G.ts n [u0, u1, u2] room workers (list.take j)
    rw [ho, List.length_take] at h1
    simp only at h1
    omega
   clear ho hblk hC0
   have hx' := Aside0.mk hx
   clear hx hpx
   cases ht : takesB n1 u1' (rd_T39 G.ts x).f2 (rd_T39 G.ts x).f3 room workers with
   | false =>
    rw [ht] at tc
    have ht' := Aside0.mk ht
    clear ht
    go_wp2_with (go_at_call 97; refine tc.out.mono ?_; rintro e w1 ⟨rfl, _, hC1, hg1⟩)
    go_roundg (gk - 1)
    case measure => have := hk.out; omega
    case rel =>
     have hst : admP G.ts n [u0, u1, u2] room workers (list.take (j + 1)) = (o1, n1, u1') := by
      rw [rd_take_snoc list j hj, admP_snoc, ho'.out, hx'.out]
      simp [admStep, ht'.out]
     refine ⟨j + 1, by go_num, ⟨by have := hk.out; omega⟩, ⟨?_⟩, ⟨?_⟩, ⟨hB.out.grown hg1 hB.out.size (fun k e => by cases e; exact Nat.le_refl _)⟩⟩
     ·rw [hst]; exact Kd.R_grown hO.out hg1 (fun k hk e => hk (by injection e))
     ·rw [hst]; exact hC1 trivial
   | true =>
    rw [ht] at tc
    have ht' := Aside0.mk ht
    clear ht
    have hO' := hO
    have hB' := hB
    go_wp2_with (first | (go_at_call 97; refine tc.out.mono ?_; rintro e w1 ⟨rfl, hC1, _, hg1⟩; have hO1 := Aside0.mk (Kd.R_grown hO'.out hg1 (fun k hk e => hk (by injection e))); have hB1 := Aside0.mk (hB'.out.grown hg1 hB'.out.size (fun k e => by cases e; exact Nat.le_refl _)); have hC1' := Aside0.mk (hC1 trivial); clear hC1 hg1) | (at_builtin; refine Kd.R_append (Kd.int .i64) (w0 := w) w.heap.size rfl (.tmp 31) (.tmp 33) 24 3 (.int .i64 0) 8 rfl Tryd.underlying24 infoI rfl (by decide) (by omega) u11 o1 x [.int .i64 x] (fun k => k ≠ w.heap.size) (fun _ => False) rfl rfl rfl (fun _ hk => hk.elim) (fun k hk => (by have := hB1.out.size; have := blk_lt hC1'.out.2; omega)) hO1.out hB1.out hB1.out.size (by omega) ?_; intro v2 w2 ho2 hb2 hg2 hat2; have hO2 := Aside0.mk ho2; have hB2 := Aside0.mk hb2; have hC2 := Aside0.mk (hC1'.out.grown hg2 (fun e => hO1.out.1 w.heap.size e.symm rfl)); clear ho2 hb2 hg2 hat2))
    go_roundg (gk - 1)
    case measure => have := hk.out; omega
    case rel =>
     have hst : admP G.ts n [u0, u1, u2] room workers (list.take (j + 1)) = (o1 ++ [x], addN n1 1, addU u1' (rd_T39 G.ts x).f2 (rd_T39 G.ts x).f3 1) := by
      rw [rd_take_snoc list j hj, admP_snoc, ho'.out, hx'.out]
      simp [admStep, ht'.out]
     refine ⟨j + 1, by go_num, ⟨by have := hk.out; omega⟩, ⟨?_⟩, ⟨?_⟩, hB2⟩
     ·rw [hst]; exact hO2.out
     ·rw [hst]; exact hC2.out
  ·have hd : decide (j < list.length) = false := decide_eq_false hj
   obtain rfl : j = list.length := by have := hk.out; omega
   go_wp2
   go_ret
   rw [List.take_length] at hO
   exact ⟨_, rfl, Kd.R_mono hO.out (fun _ _ => trivial), hB.out⟩
end Go.Proofs.YtajapkjplgaigaaDoor.P
end
section
namespace Go.Proofs.YtajapkjplgaigaaDoor.P
open Go.RowKit Go.Proofs.YtajapkjplgaigaaDoorW.PrintWords Go.Proofs.YtajapkjplgaigaaDoorW.PrintLast Go.Proofs.YtajapkjplgaigaaDoorW.PrintMore
attribute [local go_sem] max2_int min2_int max_two min_two max_three min_three max_four min_four   -- for this text's walks alone
set_option linter.unusedVariables false
set_option linter.unusedSimpArgs false
def impl_ValidRoom.l0 : Nat → List Int → Int → Int → Option (Bool)
 | 0, _, _, _ => none
 | k + 1, x8, x9, x10 => if x10 < x9 then (if 0 ≤ x10 then (if x10 < (x8.length : Int) then ((impl_within.f (rd x8 x10) 4 8).bind fun t739 => (if t739 = true then (impl_ValidRoom.l0 k x8 x9 (wrap64 (x10 + 1))) else (some false))) else (none)) else (none)) else (some true)
def impl_ValidRoom.f (k : Nat) (l0 : List Int) : Option (Bool) := if (l0.length : Int) = 3 then (impl_ValidRoom.l0 k l0 (l0.length : Int) 0) else (some false)
set_option maxHeartbeats 8000000 in
set_option maxRecDepth 100000 in
theorem impl_ValidRoom.calls (k : Nat) (A0 : Option Addr) (c0 : Nat) (l0 : List Int) (r : Bool) (w : World) (hr0 : Kd.C (Kd.int .i64) w A0 l0.length l0) (hc0 : l0.length ≤ c0) (h : impl_ValidRoom.f k l0 = some r) :
  Calls Tryd.prog 76 #[.slice A0 l0.length c0] w fun e w' => e = .returned (.bool r) ∧ Drawn0 w w' := by
 have HR0 := Aside0.mk hr0
 have HC0 := Aside0.mk hc0
 clear hr0 hc0
 have H : (if (l0.length : Int) = 3 then (impl_ValidRoom.l0 k l0 (l0.length : Int) 0) else (some false)) = some r := h
 clear h
 by_cases c2 : (l0.length : Int) = 3
 ·rw [if_pos c2] at H
  have c2b0 : ((l0.length : Int) == 3) = true := beq_iff_eq.mpr c2
  have c2b1 : ((l0.length : Int) != 3) = false := bne_eq_false_iff_eq.mpr c2
  clear c2
  have H' := Aside0.mk H
  clear H
  go_enter Tryd.func76, Tryd.ntmps76
  go_wp2
  go_loopg [10] k (fun kq v10 w' => ∃ (x10_1 : Int), v10 = .int .i64 x10_1 ∧ Aside0 (impl_ValidRoom.l0 kq l0 (l0.length : Int) x10_1 = some r) ∧ Aside0 (kq ≤ k) ∧ Drawn0 w w')
  case atStart => exact ⟨(0), (by first | rfl | (simp; done) | (simp [*]; done)), H', ⟨Nat.le_refl _⟩, by repeat (first | exact Drawn0.refl _ | apply Drawn0.step)⟩
  case round =>
   clear H'
   try clear c2
   try clear c2b0
   try clear c2b1
   try clear p2
   obtain ⟨x10_1, rfl, HA, HK1, ⟨m1, rfl⟩⟩ := hrel
   cases gk with
   | zero => exact absurd HA.out (by simp [impl_ValidRoom.l0])
   | succ k1 =>
    have H := HA.out
    clear HA
    simp only [impl_ValidRoom.l0] at H
    by_cases c3 : x10_1 < (l0.length : Int)
    ·rw [if_pos c3] at H
     have c3b0 : decide (x10_1 < (l0.length : Int)) = true := decide_eq_true c3
     clear c3
     by_cases c4 : 0 ≤ x10_1
     ·rw [if_pos c4] at H
      have c4b0 : decide (0 ≤ x10_1) = true := decide_eq_true c4
      clear c4
      by_cases c5 : x10_1 < (l0.length : Int)
      ·rw [if_pos c5] at H
       have c5b0 : decide (x10_1 < (l0.length : Int)) = true := decide_eq_true c5
       clear c5
       replace H := Option.bind_eq_some_iff.mp H
       obtain ⟨t739, A60, H⟩ := H
       replace H : (if t739 = true then (impl_ValidRoom.l0 k1 l0 (l0.length : Int) (wrap64 (x10_1 + 1))) else (some false)) = some r := H
       have A6 := Aside0.mk A60
       clear A60
       by_cases c7 : t739 = true
       ·subst c7
        have H1 : (impl_ValidRoom.l0 k1 l0 (l0.length : Int) (wrap64 (x10_1 + 1))) = some r := by rw [if_pos rfl] at H; exact H
        clear H
        have H := H1
        clear H1
        have H' := Aside0.mk H
        clear H
        have p738 : 0 ≤ (x10_1 : Int) := of_decide_eq_true (by first | (with_reducible assumption) | assumption)
        have q738 : x10_1 < (l0.length : Int) := of_decide_eq_true (by first | (with_reducible assumption) | assumption)
        obtain ⟨ad738, e738, hx738_0⟩ := Kd.at_int HR0.out x10_1 p738 q738
        cases e738
        replace p738 := eq_true p738
        replace q738 := eq_true q738
        go_wp2_with (first | ((with_reducible refine gate_callee (f := 48) rfl ?_); refine goesL_ (some 15) rfl rfl Tryd.func48 (by kernel_rfl) rfl #[.int .i64 (rd l0 x10_1), .int .i64 4, .int .i64 8] rfl (by (try simp only [List.map_toArray, List.map_cons, List.map_nil]); first | done | rfl | (simp only [List.length_drop, List.length_take]; rfl)) ?_; (with_reducible refine (impl_within.calls (rd l0 x10_1) 4 8 true _ A6.out).mono ?_); rintro e w' ⟨rfl, ⟨nd, rfl⟩⟩; refine ⟨_, rfl, ?_⟩))
        go_roundg k1
        case measure => have := HK1.out; omega
        case rel => exact ⟨(wrap64 (x10_1 + 1)), (by first | rfl | (simp; done) | (simp [*]; done)), H', ⟨by have := HK1.out; omega⟩, by repeat (first | exact Drawn0.refl _ | apply Drawn0.step)⟩
       ·replace c7 := Bool.eq_false_iff.mpr c7
        subst c7
        have H1 : (some false) = some r := by rw [if_neg (show ¬ (false = true) by decide)] at H; exact H
        clear H
        have H := H1
        clear H1
        obtain rfl := Option.some.inj H
        have p738 : 0 ≤ (x10_1 : Int) := of_decide_eq_true (by first | (with_reducible assumption) | assumption)
        have q738 : x10_1 < (l0.length : Int) := of_decide_eq_true (by first | (with_reducible assumption) | assumption)
        obtain ⟨ad738, e738, hx738_0⟩ := Kd.at_int HR0.out x10_1 p738 q738
        cases e738
        replace p738 := eq_true p738
        replace q738 := eq_true q738
        go_wp2_with (first | ((with_reducible refine gate_callee (f := 48) rfl ?_); refine goesL_ (some 15) rfl rfl Tryd.func48 (by kernel_rfl) rfl #[.int .i64 (rd l0 x10_1), .int .i64 4, .int .i64 8] rfl (by (try simp only [List.map_toArray, List.map_cons, List.map_nil]); first | done | rfl | (simp only [List.length_drop, List.length_take]; rfl)) ?_; (with_reducible refine (impl_within.calls (rd l0 x10_1) 4 8 false _ A6.out).mono ?_); rintro e w' ⟨rfl, ⟨nd, rfl⟩⟩; refine ⟨_, rfl, ?_⟩))
        go_ret
        exact ⟨by first | rfl | (simp; done) | (simp [*]; done), by repeat (first | exact Drawn0.refl _ | apply Drawn0.step)⟩
      ·rw [if_neg c5] at H
       exact absurd H (by simp)
     ·rw [if_neg c4] at H
      exact absurd H (by simp)
    ·rw [if_neg c3] at H
     have c3b0 : decide (x10_1 < (l0.length : Int)) = false := decide_eq_false c3
     clear c3
     obtain rfl := Option.some.inj H
     go_wp2
     go_ret
     exact ⟨by first | rfl | (simp; done) | (simp [*]; done), by repeat (first | exact Drawn0.refl _ | apply Drawn0.step)⟩
 ·rw [if_neg c2] at H
  have c2b0 : ((l0.length : Int) == 3) = false := beq_eq_false_iff_ne.mpr c2
  have c2b1 : ((l0.length : Int) != 3) = true := bne_iff_ne.mpr c2
  obtain rfl := Option.some.inj H
  go_enter Tryd.func76, Tryd.ntmps76
  go_wp2
  go_ret
  exact ⟨by first | rfl | (simp; done) | (simp [*]; done), by repeat (first | exact Drawn0.refl _ | apply Drawn0.step)⟩
end Go.Proofs.YtajapkjplgaigaaDoor.P
end
section
namespace Go.Proofs.YtajapkjplgaigaaDoor.P
open Go.RowKit Go.Proofs.YtajapkjplgaigaaDoorW.PrintWords Go.Proofs.YtajapkjplgaigaaDoorW.PrintLast Go.Proofs.YtajapkjplgaigaaDoorW.PrintMore
attribute [local go_sem] max2_int min2_int max_two min_two max_three min_three max_four min_four   -- for this text's walks alone
set_option linter.unusedVariables false
set_option linter.unusedSimpArgs false
def impl_workersValid.f (a0 : Int) : Option (Bool) := (impl_within.f a0 1 4).bind fun t743 => (some t743)
set_option maxHeartbeats 8000000 in
set_option maxRecDepth 100000 in
theorem impl_workersValid.calls (a0 : Int) (r : Bool) (w : World) (h : impl_workersValid.f a0 = some r) :
  Calls Tryd.prog 70 #[.int .i64 a0] w fun e w' => e = .returned (.bool r) ∧ Drawn0 w w' := by
 have H : ((impl_within.f a0 1 4).bind fun t743 => (some t743)) = some r := h
 clear h
 replace H := Option.bind_eq_some_iff.mp H
 obtain ⟨t743, A20, H⟩ := H
 replace H : (some t743) = some r := H
 have A2 := Aside0.mk A20
 clear A20
 obtain rfl := Option.some.inj H
 go_enter Tryd.func70, Tryd.ntmps70
 go_wp2_with (first | ((with_reducible refine gate_callee (f := 48) rfl ?_); refine goesL_ (some 4) rfl rfl Tryd.func48 (by kernel_rfl) rfl #[.int .i64 a0, .int .i64 1, .int .i64 4] rfl (by (try simp only [List.map_toArray, List.map_cons, List.map_nil]); first | done | rfl | (simp only [List.length_drop, List.length_take]; rfl)) ?_; (with_reducible refine (impl_within.calls a0 1 4 t743 _ A2.out).mono ?_); rintro e w' ⟨rfl, ⟨nd, rfl⟩⟩; refine ⟨_, rfl, ?_⟩))
 go_ret
 exact ⟨by first | rfl | (simp; done) | (simp [*]; done), by repeat (first | exact Drawn0.refl _ | apply Drawn0.step)⟩
end Go.Proofs.YtajapkjplgaigaaDoor.P
end
section
namespace Go.Proofs.YtajapkjplgaigaaDoor.P
open Go.RowKit Go.Shelf Go.Proofs.YtajapkjplgaigaaDoorW.PrintWords Go.Proofs.YtajapkjplgaigaaDoorW.PrintLast Go.Proofs.YtajapkjplgaigaaDoorW.PrintMore
set_option linter.unusedVariables false
set_option linter.unusedSimpArgs false
def roomP (room : List Int) : Bool := decide (room.length = 3) && room.all fun n => decide (4 ≤ n ∧ n ≤ 8)
theorem room_l0 (k : Nat) (a b c : Int) : impl_ValidRoom.l0 (k + 4) [a, b, c] 3 0 = some ((decide (4 ≤ a ∧ a ≤ 8)) && ((decide (4 ≤ b ∧ b ≤ 8)) && (decide (4 ≤ c ∧ c ≤ 8)))) := by
 have w1 : wrap64 (0 + 1) = 1 := by unfold wrap64; omega
 have w2 : wrap64 (1 + 1) = 2 := by unfold wrap64; omega
 have w3 : wrap64 (2 + 1) = 3 := by unfold wrap64; omega
 have r0 : rd [a, b, c] 0 = a := rfl
 have r1 : rd [a, b, c] 1 = b := rfl
 have r2 : rd [a, b, c] 2 = c := rfl
 rw [impl_ValidRoom.l0, if_pos (by omega), if_pos (by omega), if_pos (by simp), within_eq, Option.bind_some, r0, w1]
 by_cases ha : 4 ≤ a ∧ a ≤ 8
 ·rw [decide_eq_true ha, if_pos rfl, Bool.true_and, impl_ValidRoom.l0, if_pos (by omega), if_pos (by omega), if_pos (by simp), within_eq, Option.bind_some, r1, w2]
  by_cases hb : 4 ≤ b ∧ b ≤ 8
  ·rw [decide_eq_true hb, if_pos rfl, Bool.true_and, impl_ValidRoom.l0, if_pos (by omega), if_pos (by omega), if_pos (by simp), within_eq, Option.bind_some, r2, w3]
   by_cases hc : 4 ≤ c ∧ c ≤ 8
   ·rw [decide_eq_true hc, if_pos rfl, impl_ValidRoom.l0, if_neg (by omega)]
   ·rw [decide_eq_false hc, if_neg (by simp)]
  ·rw [decide_eq_false hb, if_neg (by simp), Bool.false_and]
 ·rw [decide_eq_false ha, if_neg (by simp), Bool.false_and]
theorem room_eq (room : List Int) : impl_ValidRoom.f 100 room = some (roomP room) := by
 unfold impl_ValidRoom.f roomP
 by_cases h : room.length = 3
 ·match room, h with
  | [a, b, c], _ =>
   rw [if_pos (by rfl)]
   exact (room_l0 96 a b c).trans (by simp)
 ·rw [if_neg (by omega), decide_eq_false h, Bool.false_and]
theorem roomP_len {room : List Int} (h : roomP room = true) : room.length = 3 := of_decide_eq_true (Bool.and_eq_true_iff.1 h).1
theorem countU_len (ts : List TT) (xs : List Nat) : (countU ts xs).length = 3 := by
 have : ∀ (l : List Nat) (a : List Int), (l.foldl (fun (a : List Int) (i : Nat) => addU a (rd_T39 ts (i : Int)).f2 (rd_T39 ts (i : Int)).f3 1) a).length = a.length := by
  intro l
  induction l with
  | nil => intro a; rfl
  | cons x l ih => intro a; rw [List.foldl_cons, ih]; simp [addU]
 exact this xs [0, 0, 0]
def runsP (ts : List TT) (room running : List Int) : Bool := match graphP ts with
 | none => false
 | some G => roomP room && (match setP running ts.length with | none => false | some s => fitsB (countU ts (bitsN s)) room)
def impl_RunsTogether.f (l0 : List TT) (l1 : List Int) (l2 : List Int) : Option (Bool) := some (runsP l0 l1 l2)
set_option maxRecDepth 100000 in
set_option maxHeartbeats 1000000 in
theorem impl_RunsTogether.calls (A0 : Option Addr) (c0 : Nat) (l0 : List TT) (A1 : Option Addr) (c1 : Nat) (l1 : List Int) (A2 : Option Addr) (c2 : Nat) (l2 : List Int) (r : Bool) (w : World) (hr0 : Kd.C k39 w A0 l0.length l0) (hc0 : l0.length ≤ c0) (hr1 : Kd.C (Kd.int .i64) w A1 l1.length l1) (hc1 : l1.length ≤ c1) (hr2 : Kd.C (Kd.int .i64) w A2 l2.length l2) (hc2 : l2.length ≤ c2) (h : impl_RunsTogether.f l0 l1 l2 = some r) (hTab : TabOK w) :
  Calls Tryd.prog 36 #[.slice A0 l0.length c0, .slice A1 l1.length c1, .slice A2 l2.length c2] w fun e w' => e = .returned (.bool r) ∧ Below w.heap.size w w' := by
 have gc := Aside0.mk (graphOf_all A0 c0 l0 w hr0 hc0 hTab)
 have hT' := Aside0.mk hTab
 have hr0' := Aside0.mk hr0
 have hr1' := Aside0.mk hr1
 have hr2' := Aside0.mk hr2
 have hc1' := Aside0.mk hc1
 have hc2' := Aside0.mk hc2
 have vr := Aside0.mk (room_eq l1)
 have hr : r = runsP l0 l1 l2 := by unfold impl_RunsTogether.f at h; injection h with h; exact h.symm
 clear hr0 hr1 hr2 hTab h
 unfold runsP at hr
 cases hg : graphP l0 with
 | none =>
  rw [hg] at hr
  simp only at hr
  subst hr
  have hg' := Aside0.mk hg
  clear hg
  go_enter Tryd.func36, Tryd.ntmps36
  go_wp2_with (go_at_call 58; refine gc.out.mono ?_; rintro e w1 ⟨g, b, rfl, hB, hno, hyes⟩; obtain ⟨rfl, rfl⟩ := hno hg'.out; have hB1 := Aside0.mk hB; clear hB hno hyes)
  go_ret
  exact ⟨rfl, hB1.out⟩
 | some G =>
  rw [hg] at hr
  simp only at hr
  have hg' := Aside0.mk hg
  obtain ⟨hts, hnP, hOk⟩ := graphP_ok hg
  have hOk' := Aside0.mk hOk
  have hts' := Aside0.mk hts
  have hn8 := hOk.n8
  rw [hts] at hn8
  have hS := setOf_eq l2 l0.length 100 hn8 (by omega)
  have hn8' := Aside0.mk hn8
  clear hg hts hnP hOk hn8
  cases hv : roomP l1 with
  | false =>
   rw [hv] at hr vr
   simp only [Bool.false_and] at hr
   subst hr
   clear hS
   have hv' := Aside0.mk hv
   clear hv
   go_enter Tryd.func36, Tryd.ntmps36
   go_wp2_with (first | (go_at_call 58; refine gc.out.mono ?_; rintro e w1 ⟨g, b, rfl, hB, hno, hyes⟩; obtain ⟨rfl, a, rfl, hG0⟩ := hyes G hg'.out; have hB1 := Aside0.mk hB; clear hB hno hyes hG0) | (go_at_call 76; refine (impl_ValidRoom.calls 100 A1 c1 l1 _ _ (Kd.C_below hr1'.out hB1.out) hc1'.out vr.out).mono ?_; rintro e w2 ⟨rfl, ⟨m2, rfl⟩⟩))
   go_ret
   exact ⟨rfl, pw_below_drewN hB1.out m2⟩
  | true =>
   rw [hv] at hr vr
   simp only [Bool.true_and] at hr
   have hl3 := Aside0.mk (roomP_len hv)
   clear hv
   cases hs : setP l2 l0.length with
   | none =>
    rw [hs] at hr hS
    simp only at hr
    subst hr
    have hS' := Aside0.mk hS
    clear hS hs
    go_enter Tryd.func36, Tryd.ntmps36
    go_wp2_with (first | (go_at_call 58; refine gc.out.mono ?_; rintro e w1 ⟨g, b, rfl, hB, hno, hyes⟩; obtain ⟨rfl, a, rfl, hG0⟩ := hyes G hg'.out; have hG1 := Aside0.mk (graphOf_at hr0'.out hB hG0); have hB1 := Aside0.mk hB; clear hB hno hyes hG0) | (go_at_call 76; refine (impl_ValidRoom.calls 100 A1 c1 l1 _ _ (Kd.C_below hr1'.out hB1.out) hc1'.out vr.out).mono ?_; rintro e w2 ⟨rfl, ⟨m2, rfl⟩⟩) | (go_at_call 40; refine (size_callsN a G l0.length (by rw [hts'.out]) _ (hG1.out.drewN m2)).mono ?_; rintro e w3 ⟨rfl, ⟨m3, rfl⟩⟩) | (go_at_call 71; refine (impl_setOf.calls 100 A2 c2 l2 (l0.length : Int) 0 false _ (Kd.C_drewN (Kd.C_below hr2'.out hB1.out) _) hc2'.out hS'.out).mono ?_; rintro e w4 ⟨rfl, ⟨m4, rfl⟩⟩))
    go_ret
    exact ⟨rfl, pw_below_drewN hB1.out _⟩
   | some s =>
    rw [hs] at hr hS
    simp only at hr
    subst hr
    have hS' := Aside0.mk hS
    have hsl := setP_lt hs
    have hs8 := Aside0.mk (lt256 hsl hn8'.out)
    have hin := Aside0.mk (show ∀ i, i < 8 → s.testBit i = true → i < G.gr.ts.length from fun i _ hb => by have := bit_lt hsl hb; rw [show G.gr.ts = l0 from hts'.out]; exact this)
    have hp := Aside0.mk (show ∀ i : Nat, i < G.gr.ts.length → 0 ≤ (rd_T39 G.gr.ts (i : Int)).f2 ∧ (rd_T39 G.gr.ts (i : Int)).f2 < 3 from fun i hi => hOk'.out.pool i hi)
    have hge := Aside0.mk (show G.gr.ts = l0 from hts'.out)
    clear hS hs hsl
    go_enter Tryd.func36, Tryd.ntmps36
    go_wp2_with (first | (go_at_call 58; refine gc.out.mono ?_; rintro e w1 ⟨g, b, rfl, hB, hno, hyes⟩; obtain ⟨rfl, a, rfl, hG0⟩ := hyes G hg'.out; have hG1 := Aside0.mk (graphOf_at hr0'.out hB hG0); have hB1 := Aside0.mk hB; clear hB hno hyes hG0) | (go_at_call 76; refine (impl_ValidRoom.calls 100 A1 c1 l1 _ _ (Kd.C_below hr1'.out hB1.out) hc1'.out vr.out).mono ?_; rintro e w2 ⟨rfl, ⟨m2, rfl⟩⟩) | (go_at_call 40; refine (size_callsN a G l0.length (by rw [hts'.out]) _ (hG1.out.drewN m2)).mono ?_; rintro e w3 ⟨rfl, ⟨m3, rfl⟩⟩) | (go_at_call 71; refine (impl_setOf.calls 100 A2 c2 l2 (l0.length : Int) (s : Int) true _ (Kd.C_drewN (Kd.C_below hr2'.out hB1.out) _) hc2'.out hS'.out).mono ?_; rintro e w4 ⟨rfl, ⟨m4, rfl⟩⟩) | (go_at_call 72; refine (counted_calls a G.gr s hs8.out hin.out hp.out _ (hG1.out.drewN _) (hT'.out.below (pw_below_drewN hB1.out _))).mono ?_; rintro e w5 ⟨rfl, hB5⟩; have hB5' := Aside0.mk (below_step (pw_below_drewN hB1.out _) hB5); clear hB5; simp only [hge.out]) | (go_at_call 77; refine (fits_calls _ (countU l0 (bitsN s)) A1 c1 l1 _ (countU_len _ _) (Kd.C_below hr1'.out hB5'.out) hl3.out).mono ?_; rintro e w6 ⟨rfl, hB6⟩; have hB6' := Aside0.mk (below_step hB5'.out hB6); clear hB6))
    go_ret
    exact ⟨rfl, hB6'.out⟩
def seenGo (n : Nat) : List Int → Nat → Option Nat
 | [], s => some s
 | i :: r, s => if (0 ≤ i ∧ i < n) ∧ s.testBit i.toNat = false then seenGo n r (s ||| 2 ^ i.toNat) else none
def admitP (ts : List TT) (room running list : List Int) (workers : Int) : List Int := if 1 ≤ workers ∧ workers ≤ 4 then (if runsP ts room running = true then (match setP running ts.length with
 | none => []
 | some s => match seenGo ts.length list s with
  | none => []
  | some _ => (admP ts (countN (bitsN s)) (countU ts (bitsN s)) room workers list).1) else []) else []
def impl_AdmitTasks.f (l0 : List TT) (l1 : List Int) (l2 : List Int) (l3 : List Int) (a4 : Int) : Option (List Int) := if l3.length < 17592186044416 then some (admitP l0 l1 l2 l3 a4) else none
theorem runsP_some {ts : List TT} {room running : List Int} (h : runsP ts room running = true) : ∃ G s, graphP ts = some G ∧ roomP room = true ∧ setP running ts.length = some s := by
 unfold runsP at h
 cases hg : graphP ts with
 | none => rw [hg] at h; cases h
 | some G =>
  rw [hg] at h
  simp only [Bool.and_eq_true] at h
  cases hs : setP running ts.length with
  | none => rw [hs] at h; simp at h
  | some s => exact ⟨G, s, rfl, h.1, rfl⟩
theorem workers_eq (a : Int) : impl_workersValid.f a = some (decide (1 ≤ a ∧ a ≤ 4)) := by
 unfold impl_workersValid.f
 rw [within_eq]; rfl
theorem seenGo_in {n : Nat} : ∀ (l : List Int) (s s' : Nat), seenGo n l s = some s' → ∀ x ∈ l, 0 ≤ x ∧ x < n
 | [], _, _, _ => fun x hx => by cases hx
 | i :: r, s, s', h => by
  unfold seenGo at h
  split at h
  ·rename_i hc
   intro x hx
   rcases List.mem_cons.1 hx with rfl | hx
   ·exact hc.1
   ·exact seenGo_in r _ s' h x hx
  ·cases h
end Go.Proofs.YtajapkjplgaigaaDoor.P
end
section
namespace Go.Proofs.YtajapkjplgaigaaDoor.P
open Go.RowKit Go.Shelf Go.Proofs.YtajapkjplgaigaaDoorW.PrintWords Go.Proofs.YtajapkjplgaigaaDoorW.PrintLast Go.Proofs.YtajapkjplgaigaaDoorW.PrintMore
set_option linter.unusedVariables false
set_option linter.unusedSimpArgs false
theorem w64' {n : Int} (h : -9223372036854775808 ≤ n) (h' : n ≤ 9223372036854775807) : wrap64 n = n := by unfold wrap64; omega
theorem countU_three (ts : List TT) (xs : List Nat) : ∃ u0 u1 u2, countU ts xs = [u0, u1, u2] := by
 have h := countU_len ts xs
 match countU ts xs, h with
 | [a, b, c], _ => exact ⟨a, b, c, rfl⟩
set_option maxRecDepth 100000 in
set_option maxHeartbeats 2000000 in
theorem impl_AdmitTasks.calls (A0 : Option Addr) (c0 : Nat) (l0 : List TT) (A1 : Option Addr) (c1 : Nat) (l1 : List Int) (A2 : Option Addr) (c2 : Nat) (l2 : List Int) (A3 : Option Addr) (c3 : Nat) (l3 : List Int) (a4 : Int) (r : List Int) (w : World) (hr0 : Kd.C k39 w A0 l0.length l0) (hc0 : l0.length ≤ c0) (hr1 : Kd.C (Kd.int .i64) w A1 l1.length l1) (hc1 : l1.length ≤ c1) (hr2 : Kd.C (Kd.int .i64) w A2 l2.length l2) (hc2 : l2.length ≤ c2) (hr3 : Kd.C (Kd.int .i64) w A3 l3.length l3) (hc3 : l3.length ≤ c3) (h : impl_AdmitTasks.f l0 l1 l2 l3 a4 = some r) (hTab : TabOK w) :
  Calls Tryd.prog 34 #[.slice A0 l0.length c0, .slice A1 l1.length c1, .slice A2 l2.length c2, .slice A3 l3.length c3, .int .i64 a4] w fun e w' => ∃ v0_ : Value, e = .returned (v0_) ∧ Kd.R (Kd.int .i64) 3 w' w.heap.size (fun _ => True) v0_ r ∧ Below w.heap.size w w' := by
 have hT' := Aside0.mk hTab
 have hr0' := Aside0.mk hr0
 have hr1' := Aside0.mk hr1
 have hr2' := Aside0.mk hr2
 have hr3' := Aside0.mk hr3
 have hc0' := Aside0.mk hc0
 have hc1' := Aside0.mk hc1
 have hc2' := Aside0.mk hc2
 have hc3' := Aside0.mk hc3
 have wv := Aside0.mk (workers_eq a4)
 unfold impl_AdmitTasks.f at h
 by_cases hlen : l3.length < 17592186044416
 case neg => rw [if_neg hlen] at h; cases h
 rw [if_pos hlen] at h
 injection h with hr
 have hlen' := Aside0.mk hlen
 clear hr0 hr1 hr2 hr3 hc0 hc1 hc2 hc3 hTab hlen
 unfold admitP at hr
 by_cases hw : 1 ≤ a4 ∧ a4 ≤ 4
 case neg =>
  rw [if_neg hw] at hr
  subst hr
  have wv2 := Aside0.mk (wv.out.trans (congrArg some (decide_eq_false hw)))
  clear hw wv
  go_enter Tryd.func34, Tryd.ntmps34
  go_wp2_with (go_at_call 70; refine (impl_workersValid.calls a4 _ _ wv2.out).mono ?_; rintro e w1 ⟨rfl, ⟨m1, rfl⟩⟩)
  go_ret
  exact ⟨_, rfl, Kd.R_nil _ _ _ _ _, pw_below_drewN (Below.refl _ _) m1⟩
 rw [if_pos hw] at hr
 have wv2 := Aside0.mk (wv.out.trans (congrArg some (decide_eq_true hw)))
 clear hw wv
 have rc := Aside0.mk (fun (W : World) (h0 : Kd.C k39 W A0 l0.length l0) (h1 : Kd.C (Kd.int .i64) W A1 l1.length l1) (h2 : Kd.C (Kd.int .i64) W A2 l2.length l2) (hT : TabOK W) => impl_RunsTogether.calls A0 c0 l0 A1 c1 l1 A2 c2 l2 _ W h0 hc0'.out h1 hc1'.out h2 hc2'.out rfl hT)
 cases hrt : runsP l0 l1 l2 with
 | false =>
  rw [hrt] at hr rc
  rw [if_neg (by simp)] at hr
  subst hr
  clear hrt
  go_enter Tryd.func34, Tryd.ntmps34
  go_wp2_with (first | (go_at_call 70; refine (impl_workersValid.calls a4 _ _ wv2.out).mono ?_; rintro e w1 ⟨rfl, ⟨m1, rfl⟩⟩) | (go_at_call 36; refine (rc.out _ (Kd.C_drewN hr0'.out _) (Kd.C_drewN hr1'.out _) (Kd.C_drewN hr2'.out _) (hT'.out.below (pw_below_drewN (Below.refl _ _) _))).mono ?_; rintro e w2 ⟨rfl, hB2⟩; have hB2' := Aside0.mk (below_step (pw_below_drewN (Below.refl _ _) m1) hB2); clear hB2))
  go_ret
  exact ⟨_, rfl, Kd.R_nil _ _ _ _ _, hB2'.out⟩
 | true =>
  obtain ⟨G, s, hg, hv, hs⟩ := runsP_some hrt
  rw [hrt, if_pos rfl, hs] at hr
  rw [hrt] at rc
  simp only at hr
  have hg' := Aside0.mk hg
  obtain ⟨hts, hnP, hOk⟩ := graphP_ok hg
  have hOk' := Aside0.mk hOk
  have hts' := Aside0.mk hts
  have hn8 := hOk.n8
  rw [hts] at hn8
  have hS := setOf_eq l2 l0.length 100 hn8 (by omega)
  rw [hs] at hS
  have hS' := Aside0.mk hS
  have hsl := setP_lt hs
  have hsl' := Aside0.mk hsl
  have hs8 := Aside0.mk (lt256 hsl hn8)
  have hin := Aside0.mk (show ∀ i, i < 8 → s.testBit i = true → i < G.gr.ts.length from fun i _ hb => by have := bit_lt hsl hb; rw [show G.gr.ts = l0 from hts]; exact this)
  have hp := Aside0.mk (show ∀ i : Nat, i < G.gr.ts.length → 0 ≤ (rd_T39 G.gr.ts (i : Int)).f2 ∧ (rd_T39 G.gr.ts (i : Int)).f2 < 3 from fun i hi => hOk'.out.pool i hi)
  have hge := Aside0.mk (show G.gr.ts = l0 from hts)
  have hl3 := Aside0.mk (roomP_len hv)
  have hn8' := Aside0.mk hn8
  obtain ⟨u0, u1, u2, hu⟩ := countU_three l0 (bitsN s)
  have hu' := Aside0.mk hu
  obtain ⟨cn, hcn⟩ : ∃ n, countN (bitsN s) = n := ⟨_, rfl⟩
  have hcn' := Aside0.mk hcn
  rw [hu, hcn] at hr
  have hr' := Aside0.mk hr
  have hcnt := Aside0.mk (show cntV (countN (bitsN s)) (countU G.gr.ts (bitsN s)) = .agg #[.int .i64 cn, .int .i64 u0, .int .i64 u1, .int .i64 u2] by rw [hge.out, hu, hcn]; rfl)
  clear hrt hg hv hs hts hnP hOk hn8 hS hsl hu hcn hr
  go_enter Tryd.func34, Tryd.ntmps34
  go_wp2_with (first | (go_at_call 70; refine (impl_workersValid.calls a4 _ _ wv2.out).mono ?_; rintro e w1 ⟨rfl, ⟨m1, rfl⟩⟩) | (go_at_call 36; refine (rc.out _ (Kd.C_drewN hr0'.out _) (Kd.C_drewN hr1'.out _) (Kd.C_drewN hr2'.out _) (hT'.out.below (pw_below_drewN (Below.refl _ _) _))).mono ?_; rintro e w2 ⟨rfl, hB2⟩; have hB2' := Aside0.mk (below_step (pw_below_drewN (Below.refl _ _) m1) hB2); clear hB2) | (go_at_call 58; refine (graphOf_all A0 c0 l0 _ (Kd.C_below hr0'.out hB2'.out) hc0'.out (hT'.out.below hB2'.out)).mono ?_; rintro e w3 ⟨g, b, rfl, hB, hno, hyes⟩; obtain ⟨rfl, a, rfl, hG0⟩ := hyes G hg'.out; have hG3 := Aside0.mk (graphOf_at (Kd.C_below hr0'.out hB2'.out) hB hG0); have hB3 := Aside0.mk (below_step hB2'.out hB); clear hB hno hyes hG0) | (go_at_call 40; refine (size_callsN a G l0.length (by rw [hts'.out]) _ hG3.out).mono ?_; rintro e w4 ⟨rfl, ⟨m4, rfl⟩⟩) | (go_at_call 71; refine (impl_setOf.calls 100 A2 c2 l2 (l0.length : Int) (s : Int) true _ (Kd.C_drewN (Kd.C_below hr2'.out hB3.out) _) hc2'.out hS'.out).mono ?_; rintro e w5 ⟨rfl, ⟨m5, rfl⟩⟩) | (go_at_call 72; refine (counted_calls a G.gr s hs8.out hin.out hp.out _ (hG3.out.drewN _) (hT'.out.below (pw_below_drewN hB3.out _))).mono ?_; rintro e w6 ⟨rfl, hB6⟩; have hG6 := Aside0.mk (IsG.below (hG3.out.drewN (m4 + m5)) hB6); have hB6' := Aside0.mk (below_step (pw_below_drewN hB3.out _) hB6); clear hB6; simp only [hcnt.out]))
  obtain ⟨cb, hcb⟩ : ∃ cb, cb = w6.heap.size := ⟨_, rfl⟩
  have hx7 : (w6.alloc (.cells #[.int .i64 cn, .int .i64 u0, .int .i64 u1, .int .i64 u2] 84)).heap[cb]? = some (.cells #[.int .i64 cn, .int .i64 u0, .int .i64 u1, .int .i64 u2] 84 (0, 0)) := by rw [hcb]; exact blk_new w6 _
  have hG7 := hG6.out.below ((Below.refl _ w6).alloc (Nat.le_refl _) (.cells #[.int .i64 cn, .int .i64 u0, .int .i64 u1, .int .i64 u2] 84))
  have hB7 := hB6'.out.alloc hB6'.out.size (.cells #[.int .i64 cn, .int .i64 u0, .int .i64 u1, .int .i64 u2] 84)
  rw [← hcb]
  clear hG6 hB6' hcb hG3 hB3 hB2'
  generalize w6.alloc (.cells #[.int .i64 cn, .int .i64 u0, .int .i64 u1, .int .i64 u2] 84) = W7 at *
  have k0 : W7.cell? ⟨cb, 0, none⟩ = some (.int .i64 cn) := (blk_cell hx7 0).trans rfl
  have k1 : W7.cell? ⟨cb, 1, none⟩ = some (.int .i64 u0) := (blk_cell hx7 1).trans rfl
  have k2 : W7.cell? ⟨cb, 2, none⟩ = some (.int .i64 u1) := (blk_cell hx7 2).trans rfl
  have k3 : W7.cell? ⟨cb, 3, none⟩ = some (.int .i64 u2) := (blk_cell hx7 3).trans rfl
  have hG7' := Aside0.mk hG7
  have hB7' := Aside0.mk hB7
  have k0' := Aside0.mk k0
  have k1' := Aside0.mk k1
  have k2' := Aside0.mk k2
  have k3' := Aside0.mk k3
  have w1e' := Aside0.mk (show wrap64 ((l0.length : Int) - 1) = (l0.length : Int) - 1 from w64' (by have := hn8'.out; omega) (by have := hn8'.out; omega))
  clear hG7 hB7 hx7 k0 k1 k2 k3
  go_loopg [13, 45] l3.length (fun kq v13 v45 W => ∃ (j : Nat) (pre r : List Int) (sn : Nat), v13 = .int .u16 (sn : Int) ∧ v45 = .int .i64 (j : Int) ∧ Aside0 (pre ++ r = l3) ∧ Aside0 (pre.length = j) ∧ Aside0 (kq + j = l3.length) ∧ Aside0 (sn < 2 ^ l0.length) ∧ Aside0 (seenGo l0.length r sn = seenGo l0.length l3 s) ∧ Aside0 (∃ m, W = W7.drewN m))
  case atStart => exact ⟨0, [], l3, s, rfl, rfl, ⟨rfl⟩, ⟨rfl⟩, ⟨rfl⟩, hsl', ⟨rfl⟩, ⟨⟨0, rfl⟩⟩⟩
  case round =>
   obtain ⟨j, pre, r2, sn, rfl, rfl, hpr, hpl, hk, hsn, hse, hm⟩ := hrel
   obtain ⟨m, rfl⟩ := hm.out
   clear hm
   cases r2 with
   | nil =>
    have hjl : j = l3.length := by have h1 := hpr.out; have h2 := hpl.out; rw [List.append_nil] at h1; rw [← h1]; exact h2.symm
    have hd : decide (j < l3.length) = false := decide_eq_false (by omega)
    have hsome : seenGo l0.length l3 s = some sn := hse.out.symm
    have hinl := Aside0.mk (show ∀ x ∈ l3, 0 ≤ x ∧ x < G.gr.ts.length from fun x hx => by rw [hge.out]; exact seenGo_in l3 s sn hsome x hx)
    have hrr : r = (admP l0 cn [u0, u1, u2] l1 a4 l3).1 := by have := hr'.out; rw [hsome] at this; exact this.symm
    have hrr' := Aside0.mk hrr
    have ac := Aside0.mk (show Calls Tryd.prog 73 #[.pointer (some ⟨a, 0, none⟩), .agg #[.int .i64 cn, .int .i64 u0, .int .i64 u1, .int .i64 u2], .slice A1 l1.length c1, .slice A3 l3.length c3, .int .i64 a4] (W7.drewN m) _ from admitted_calls a G.gr cn [u0, u1, u2] A1 A3 c1 c3 l1 l3 a4 (W7.drewN m) (hG7'.out.drewN m) rfl hp.out hinl.out (Kd.C_drewN (Kd.C_below hr1'.out hB7'.out) m) hl3.out (Kd.C_drewN (Kd.C_below hr3'.out hB7'.out) m) hc3'.out hlen'.out)
    clear hsome hrr
    subst hjl
    have k0 := k0'.out
    have k1 := k1'.out
    have k2 := k2'.out
    have k3 := k3'.out
    go_wp2_with (go_at_call 73; refine ac.out.mono ?_; rintro e w9 ⟨v, rfl, hR, hB⟩; have hR9 := Aside0.mk hR; have hB9 := Aside0.mk (below_step (pw_below_drewN hB7'.out m) hB); clear hR hB)
    go_ret
    refine ⟨_, rfl, ?_, hB9.out⟩
    have h9 := hR9.out
    rw [hge.out, ← hrr'.out] at h9
    exact Kd.R_lower h9 (pw_below_drewN hB7'.out m).size
   | cons x r3 =>
    have hj : j < l3.length := by have h1 := hpr.out; have h2 := hpl.out; rw [← h1]; simp; omega
    obtain ⟨adl, rfl, hxl⟩ := Kd.at_int (Kd.C_drewN (Kd.C_below hr3'.out hB7'.out) m) (j : Int) (by omega) (by omega)
    have hx : rd l3 (j : Int) = x := by have h1 := hpr.out; have h2 := hpl.out; rw [← h1, ← h2]; simp [rd]
    rw [hx] at hxl
    simp only [Int.toNat_natCast] at hxl
    have w1e := w1e'.out
    have hse2 : (if (0 ≤ x ∧ x < l0.length) ∧ sn.testBit x.toNat = false then seenGo l0.length r3 (sn ||| 2 ^ x.toNat) else none) = seenGo l0.length l3 s := hse.out
    have hse' := Aside0.mk hse2
    clear hse2 hx
    by_cases hxr : 0 ≤ x ∧ x < l0.length
    case neg =>
     have hwi : decide ((0 : Int) ≤ x ∧ x ≤ (l0.length : Int) - 1) = false := decide_eq_false (by omega)
     have hrr : r = [] := by have h1 := hr'.out; rw [← hse'.out, if_neg (fun h => hxr h.1)] at h1; exact h1.symm
     subst hrr
     have hwc := Aside0.mk (fun W => within_calls x 0 ((l0.length : Int) - 1) _ hwi W)
     clear hwi hxr
     go_wp2_with (first | (go_at_call 40; refine (size_callsN a G l0.length (by rw [hts'.out]) _ (hG7'.out.drewN m)).mono ?_; rintro e w3 ⟨rfl, ⟨m3, rfl⟩⟩) | (go_at_call 48; refine (hwc.out _).mono ?_; rintro e w4 ⟨rfl, ⟨m4, rfl⟩⟩))
     go_ret
     exact ⟨_, rfl, Kd.R_nil _ _ _ _ _, pw_below_drewN hB7'.out _⟩
    case pos =>
     have hwi : decide ((0 : Int) ≤ x ∧ x ≤ (l0.length : Int) - 1) = true := decide_eq_true (by omega)
     have hwc := Aside0.mk (fun W => within_calls x 0 ((l0.length : Int) - 1) _ hwi W)
     clear hwi
     obtain ⟨i, rfl⟩ : ∃ i : Nat, x = (i : Int) := ⟨x.toNat, by omega⟩
     have hi : i < l0.length := by omega
     have hi8 : i < 8 := by have := hn8'.out; omega
     have hs256 : sn < 256 := lt256 hsn.out hn8'.out
     have hhc := Aside0.mk (fun W => has_callsN sn i hs256 hi8 W)
     have hwt := Aside0.mk (fun W => with_callsN sn i hs256 hi8 W)
     have hsn2 := Aside0.mk (with_lt hsn.out hi)
     have hxr' := Aside0.mk hxr
     clear hxr hi hi8 hs256
     cases hb : sn.testBit i with
     | true =>
      have hrr : r = [] := by have h1 := hr'.out; rw [← hse'.out, if_neg (fun h => by have := h.2; rw [Int.toNat_natCast, hb] at this; cases this)] at h1; exact h1.symm
      subst hrr
      rw [hb] at hhc
      clear hb
      go_wp2_with (first | (go_at_call 40; refine (size_callsN a G l0.length (by rw [hts'.out]) _ (hG7'.out.drewN m)).mono ?_; rintro e w3 ⟨rfl, ⟨m3, rfl⟩⟩) | (go_at_call 48; refine (hwc.out _).mono ?_; rintro e w4 ⟨rfl, ⟨m4, rfl⟩⟩) | (go_at_call 49; refine (hhc.out _).mono ?_; rintro e w5 ⟨rfl, ⟨m5, rfl⟩⟩))
      go_ret
      exact ⟨_, rfl, Kd.R_nil _ _ _ _ _, pw_below_drewN hB7'.out _⟩
     | false =>
      have hse3 := Aside0.mk (show seenGo l0.length r3 (sn ||| 2 ^ i) = seenGo l0.length l3 s by have h1 := hse'.out; rw [if_pos ⟨hxr'.out, by rw [Int.toNat_natCast]; exact hb⟩, Int.toNat_natCast] at h1; exact h1)
      rw [hb] at hhc
      clear hb
      go_wp2_with (first | (go_at_call 40; refine (size_callsN a G l0.length (by rw [hts'.out]) _ (hG7'.out.drewN m)).mono ?_; rintro e w3 ⟨rfl, ⟨m3, rfl⟩⟩) | (go_at_call 48; refine (hwc.out _).mono ?_; rintro e w4 ⟨rfl, ⟨m4, rfl⟩⟩) | (go_at_call 49; refine (hhc.out _).mono ?_; rintro e w5 ⟨rfl, ⟨m5, rfl⟩⟩) | (go_at_call 50; refine (hwt.out _).mono ?_; rintro e w6 ⟨rfl, ⟨m6, rfl⟩⟩))
      go_roundg (gk - 1)
      case measure => have := hk.out; omega
      case rel => exact ⟨j + 1, pre ++ [(i : Int)], r3, sn ||| 2 ^ i, rfl, (by have h44 := hlen'.out; first | go_num | exact congrArg (Value.int .i64) (by rw [w64' (by omega) (by omega)]; omega)), ⟨by rw [← hpr.out]; simp⟩, ⟨by rw [List.length_append, hpl.out]; rfl⟩, ⟨by have := hk.out; omega⟩, hsn2, hse3, ⟨⟨_, rfl⟩⟩⟩
end Go.Proofs.YtajapkjplgaigaaDoor.P
end
section
namespace Go.Proofs.YtajapkjplgaigaaDoor.P
open Go.RowKit Go.Proofs.YtajapkjplgaigaaDoorW.PrintWords Go.Proofs.YtajapkjplgaigaaDoorW.PrintLast Go.Proofs.YtajapkjplgaigaaDoorW.PrintMore
attribute [local go_sem] max2_int min2_int max_two min_two max_three min_three max_four min_four   -- for this text's walks alone
set_option linter.unusedVariables false
set_option linter.unusedSimpArgs false
mutual
def spec_admit.l0 : Nat → List (S39) → List Int → List Int → Int → List Int → List Int → Int → Option (List Int)
 | 0, _, _, _, _, _, _, _ => none
 | k + 1, x0, x1, x3, x4, x11, x12, x13 => if x13 < (x3.length : Int) then (spec_admit.j1 k x0 x1 x3 x4 x11 x12 x13 (decide ((x12.length : Int) < x4))) else (spec_admit.j1 k x0 x1 x3 x4 x11 x12 x13 false)
def spec_admit.j1 : Nat → List (S39) → List Int → List Int → Int → List Int → List Int → Int → Bool → Option (List Int)
 | 0, _, _, _, _, _, _, _, _ => none
 | k + 1, x0, x1, x3, x4, x11, x12, x13, x27 => if x27 = true then (if 0 ≤ x13 then (if x13 < (x3.length : Int) then (if 0 ≤ (rd x3 x13) then (if (rd x3 x13) < (x0.length : Int) then ((spec_used.f k x0 x12 ((rd_T39 x0 (rd x3 x13)).f2)).bind fun t759 => (if 0 ≤ ((rd_T39 x0 (rd x3 x13)).f2) then (if ((rd_T39 x0 (rd x3 x13)).f2) < (x1.length : Int) then (if (wrap64 (t759 + ((rd_T39 x0 (rd x3 x13)).f3))) ≤ (rd x1 ((rd_T39 x0 (rd x3 x13)).f2)) then (if x11.length < 17592186044416 then (if x12.length < 17592186044416 then (spec_admit.l0 k x0 x1 x3 x4 (x11 ++ [rd x3 x13]) (x12 ++ [rd x3 x13]) (wrap64 (x13 + 1))) else (none)) else (none)) else (spec_admit.l0 k x0 x1 x3 x4 x11 x12 (wrap64 (x13 + 1)))) else (none)) else (none))) else (none)) else (none)) else (none)) else (none)) else (some x11)
end
def spec_admit.f (k : Nat) (l0 : List (S39)) (l1 : List Int) (l2 : List Int) (l3 : List Int) (a4 : Int) : Option (List Int) := (spec_copyInts.f l2).bind fun t753 => (spec_admit.l0 k l0 l1 l3 a4 (([] : List Int)) t753 0)
set_option maxHeartbeats 8000000 in
set_option maxRecDepth 100000 in
theorem spec_admit.calls (k : Nat) (A0 : Option Addr) (c0 : Nat) (l0 : List (S39)) (A1 : Option Addr) (c1 : Nat) (l1 : List Int) (A2 : Option Addr) (c2 : Nat) (l2 : List Int) (A3 : Option Addr) (c3 : Nat) (l3 : List Int) (a4 : Int) (r : List Int) (w : World) (hr0 : Kd.C k39 w A0 l0.length l0) (hc0 : l0.length ≤ c0) (hr1 : Kd.C (Kd.int .i64) w A1 l1.length l1) (hc1 : l1.length ≤ c1) (hr2 : Kd.C (Kd.int .i64) w A2 l2.length l2) (hc2 : l2.length ≤ c2) (hr3 : Kd.C (Kd.int .i64) w A3 l3.length l3) (hc3 : l3.length ≤ c3) (h : spec_admit.f k l0 l1 l2 l3 a4 = some r) :
  Calls Tryd.prog 75 #[.slice A0 l0.length c0, .slice A1 l1.length c1, .slice A2 l2.length c2, .slice A3 l3.length c3, .int .i64 a4] w fun e w' => ∃ v0_ : Value, e = .returned (v0_) ∧ Kd.R (Kd.int .i64) 3 w' w.heap.size (fun _ => True) v0_ r ∧ Below w.heap.size w w' := by
 have hu39 := Tryd.underlying39
 have HR0 := Aside0.mk hr0
 have HC0 := Aside0.mk hc0
 clear hr0 hc0
 have HR1 := Aside0.mk hr1
 have HC1 := Aside0.mk hc1
 clear hr1 hc1
 have HR2 := Aside0.mk hr2
 have HC2 := Aside0.mk hc2
 clear hr2 hc2
 have HR3 := Aside0.mk hr3
 have HC3 := Aside0.mk hc3
 clear hr3 hc3
 have HB := Aside0.mk (Below.refl w.heap.size w)
 have H : ((spec_copyInts.f l2).bind fun t753 => (spec_admit.l0 k l0 l1 l3 a4 (([] : List Int)) t753 0)) = some r := h
 clear h
 obtain ⟨y750, hy750⟩ : ∃ y_ : List Int, y_ = (([] : List Int)) := ⟨_, rfl⟩
 replace H : ((spec_copyInts.f l2).bind fun t753 => (spec_admit.l0 k l0 l1 l3 a4 y750 t753 0)) = some r := by first | (rw [hy750]; with_reducible exact H) | (have H2_ := (Option.bind_some _ _).symm.trans H; rw [hy750]; with_reducible exact H2_) | (have H2_ := (Option.bind_some _ _).symm.trans H; with_reducible exact H2_) | with_reducible exact H | (rw [hy750]; exact H) | exact H
 have Ny750 := Aside0.mk hy750
 clear hy750
 replace H := Option.bind_eq_some_iff.mp H
 obtain ⟨t753, A60, H⟩ := H
 replace H : (spec_admit.l0 k l0 l1 l3 a4 y750 t753 0) = some r := H
 have A6 := Aside0.mk A60
 clear A60
 have H' := Aside0.mk H
 clear H
 go_enter Tryd.func75, Tryd.ntmps75
 iterate 7 (first | go_quiet (first | ((with_reducible refine gate_dst (N := 15) rfl ?_); (try (refine gate_guard (by rfl) ?_; dsimp only)); refine Kd.R_lit (Kd.int .i64) _ 3 ?hg (N := 15) ?hd (xs := ([] : List Int)) (inner := []) (ok := fun _ => True) (okp := fun _ => True) ?hr ?hp (fun _ hk => hk) trivial (Below.refl _ _) (Nat.le_refl _) (by simp) ?_; (case hd => rfl); (case hg => rfl); (case hr => first | (go_simp; done) | (go_simp; rfl)); (case hp => exact (Reps.none _ _)); intro v751 w7 ho8 hb hg_ hnew_; clear hg_ hnew_; (first | rw [← Ny750.out] at ho8 | (simp only [Int.reduceToNat] at ho8; rw [← Ny750.out] at ho8)); have n0_ := Aside0.mk (Kd.R_lower ho8 (below_size (by repeat (first | (with_reducible first | exact HB.out | apply below_alloc | apply pw_below_drewN | apply below_drew1) | exact HB.out)))); have n1_ := Aside0.mk (below_step (by repeat (first | (with_reducible first | exact HB.out | apply below_alloc | apply pw_below_drewN | apply below_drew1) | exact HB.out)) hb); clear HB; have HO752 := n0_; have HB := n1_; clear n0_ n1_; clear hb ho8) | (go_at_call 67; (with_reducible refine (spec_copyInts.calls _ _ l2 t753 _ ?side1 ?side2 A6.out).mono ?_); (case side1 => repeat (first | exact (Kd.C_below HR2.out HB.out) | (with_reducible refine Kd.C_alloc ?_ _) | (with_reducible refine Kd.C_drewN ?_ _) | (with_reducible refine Kd.C_drew ?_))); (case side2 => exact HC2.out); rintro e w9 ⟨v754, rfl, ho0, hb⟩; have n0_ := Aside0.mk (Kd.R_elder' (by (with_reducible repeat (first | apply Kd.R_alloc | apply Kd.R_drewN | apply Kd.R_drew)); exact HO752.out) (Kd.R_base ho0) hb); have n1_ := Aside0.mk (Kd.R_lower (Kd.R_new' ho0 (Kd.R_lt (by (with_reducible repeat (first | apply Kd.R_alloc | apply Kd.R_drewN | apply Kd.R_drew)); exact HO752.out))) (below_size (by repeat (first | (with_reducible first | exact HB.out | apply below_alloc | apply pw_below_drewN | apply below_drew1) | exact HB.out)))); have n2_ := Aside0.mk (below_step (by repeat (first | (with_reducible first | exact HB.out | apply below_alloc | apply pw_below_drewN | apply below_drew1) | exact HB.out)) hb); clear HO752; clear HB; have HO752 := n0_; have HO755 := n1_; have HB := n2_; clear n0_ n1_ n2_; (try clear hb); (try clear hb2); (try clear hk); (try clear hi); (try clear ho0))) | go_wp2_with (first | ((with_reducible refine gate_dst (N := 15) rfl ?_); (try (refine gate_guard (by rfl) ?_; dsimp only)); refine Kd.R_lit (Kd.int .i64) _ 3 ?hg (N := 15) ?hd (xs := ([] : List Int)) (inner := []) (ok := fun _ => True) (okp := fun _ => True) ?hr ?hp (fun _ hk => hk) trivial (Below.refl _ _) (Nat.le_refl _) (by simp) ?_; (case hd => rfl); (case hg => rfl); (case hr => first | (go_simp; done) | (go_simp; rfl)); (case hp => exact (Reps.none _ _)); intro v751 w7 ho8 hb hg_ hnew_; clear hg_ hnew_; (first | rw [← Ny750.out] at ho8 | (simp only [Int.reduceToNat] at ho8; rw [← Ny750.out] at ho8)); have n0_ := Aside0.mk (Kd.R_lower ho8 (below_size (by repeat (first | (with_reducible first | exact HB.out | apply below_alloc | apply pw_below_drewN | apply below_drew1) | exact HB.out)))); have n1_ := Aside0.mk (below_step (by repeat (first | (with_reducible first | exact HB.out | apply below_alloc | apply pw_below_drewN | apply below_drew1) | exact HB.out)) hb); clear HB; have HO752 := n0_; have HB := n1_; clear n0_ n1_; clear hb ho8) | (go_at_call 67; (with_reducible refine (spec_copyInts.calls _ _ l2 t753 _ ?side1 ?side2 A6.out).mono ?_); (case side1 => repeat (first | exact (Kd.C_below HR2.out HB.out) | (with_reducible refine Kd.C_alloc ?_ _) | (with_reducible refine Kd.C_drewN ?_ _) | (with_reducible refine Kd.C_drew ?_))); (case side2 => exact HC2.out); rintro e w9 ⟨v754, rfl, ho0, hb⟩; have n0_ := Aside0.mk (Kd.R_elder' (by (with_reducible repeat (first | apply Kd.R_alloc | apply Kd.R_drewN | apply Kd.R_drew)); exact HO752.out) (Kd.R_base ho0) hb); have n1_ := Aside0.mk (Kd.R_lower (Kd.R_new' ho0 (Kd.R_lt (by (with_reducible repeat (first | apply Kd.R_alloc | apply Kd.R_drewN | apply Kd.R_drew)); exact HO752.out))) (below_size (by repeat (first | (with_reducible first | exact HB.out | apply below_alloc | apply pw_below_drewN | apply below_drew1) | exact HB.out)))); have n2_ := Aside0.mk (below_step (by repeat (first | (with_reducible first | exact HB.out | apply below_alloc | apply pw_below_drewN | apply below_drew1) | exact HB.out)) hb); clear HO752; clear HB; have HO752 := n0_; have HO755 := n1_; have HB := n2_; clear n0_ n1_ n2_; (try clear hb); (try clear hb2); (try clear hk); (try clear hi); (try clear ho0))) | skip)
 go_loopg [11, 12, 13] k (fun kq v11 v12 v13 w' => ∃ (x11_1 : List Int) (x12_1 : List Int) (x13_1 : Int), v13 = .int .i64 x13_1 ∧ Aside0 (spec_admit.l0 kq l0 l1 l3 a4 x11_1 x12_1 x13_1 = some r) ∧ Aside0 (kq ≤ k) ∧ Aside0 (Kd.R (Kd.int .i64) 3 w' w.heap.size (fun k_ => some k_ ≠ (v12 : Value).ownBlock) v11 x11_1) ∧ Aside0 (Kd.R (Kd.int .i64) 3 w' w.heap.size (fun k_ => some k_ ≠ (v11 : Value).ownBlock) v12 x12_1) ∧ Aside0 (Below w.heap.size w w'))
 case atStart => exact ⟨(y750), (t753), (0), (by first | rfl | (simp; done) | (simp [*]; done)), H', ⟨Nat.le_refl _⟩, ⟨by (with_reducible repeat (first | apply Kd.R_alloc | apply Kd.R_drewN | apply Kd.R_drew)); exact Kd.R_mono HO752.out (fun _ hk => hk.2)⟩, ⟨by (with_reducible repeat (first | apply Kd.R_alloc | apply Kd.R_drewN | apply Kd.R_drew)); exact Kd.R_mono HO755.out (fun _ hk => hk.2)⟩, ⟨by repeat (first | (with_reducible first | exact HB.out | apply below_alloc | apply pw_below_drewN | apply below_drew1) | exact HB.out)⟩⟩
 case round =>
  clear H'
  try clear c1
  try clear c2
  try clear p2
  try clear c3
  try clear c7
  obtain ⟨x11_1, x12_1, x13_1, rfl, HA, HK1, HO_11, HO_12, HB⟩ := hrel
  cases gk with
  | zero => exact absurd HA.out (by simp [spec_admit.l0])
  | succ k1 =>
   have H := HA.out
   clear HA
   simp only [spec_admit.l0] at H
   have HC10 := Aside0.mk H
   clear H
   go_upto_region 4 with (fail)
   repeat (go_quiet (fail); go_upto_region 4 with (fail))
   go_cut [27] (fun v27 wc => ∃ (kq : Nat) (x27_9 : Bool), v27 = .bool x27_9 ∧ Aside0 (spec_admit.j1 kq l0 l1 l3 a4 x11_1 x12_1 x13_1 x27_9 = some r) ∧ Aside0 (kq ≤ k1) ∧ Aside0 (Kd.R (Kd.int .i64) 3 wc w.heap.size (fun k_ => some k_ ≠ (u12 : Value).ownBlock) u11 x11_1) ∧ Aside0 (Kd.R (Kd.int .i64) 3 wc w.heap.size (fun k_ => some k_ ≠ (u11 : Value).ownBlock) u12 x12_1) ∧ Aside0 (Below w.heap.size w wc))
   case first =>
    have H := HC10.out
    clear HC10
    by_cases c11 : x13_1 < (l3.length : Int)
    ·rw [if_pos c11] at H
     have c11b0 : decide (x13_1 < (l3.length : Int)) = true := decide_eq_true c11
     clear c11
     (first | rw [c11b0] | (simp only [i64_w, i32_w]; rw [c11b0]) | skip)
     have H' := Aside0.mk H
     clear H
     obtain ⟨Ao12, co12, eo12⟩ := Kd.R_slice HO_12.out
     subst eo12
     go_wp2
     repeat (go_quiet (fail); try go_wp2)
     go_meet
     case rel => exact ⟨_, (decide ((x12_1.length : Int) < a4)), (by first | rfl | (simp; done) | (simp [*]; done)), H', ⟨by have := HK1.out; first | omega | exact Nat.le_refl _⟩, ⟨by (with_reducible repeat (first | apply Kd.R_alloc | apply Kd.R_drewN | apply Kd.R_drew)); exact HO_11.out⟩, ⟨by (with_reducible repeat (first | apply Kd.R_alloc | apply Kd.R_drewN | apply Kd.R_drew)); exact HO_12.out⟩, ⟨by repeat (first | (with_reducible first | exact HB.out | apply below_alloc | apply pw_below_drewN | apply below_drew1) | exact HB.out)⟩⟩
    ·rw [if_neg c11] at H
     have c11b0 : decide (x13_1 < (l3.length : Int)) = false := decide_eq_false c11
     clear c11
     (first | rw [c11b0] | (simp only [i64_w, i32_w]; rw [c11b0]) | skip)
     have H' := Aside0.mk H
     clear H
     go_wp2
     repeat (go_quiet (fail); try go_wp2)
     go_meet
     case rel => exact ⟨_, (false), (by first | rfl | (simp; done) | (simp [*]; done)), H', ⟨by have := HK1.out; first | omega | exact Nat.le_refl _⟩, ⟨by (with_reducible repeat (first | apply Kd.R_alloc | apply Kd.R_drewN | apply Kd.R_drew)); exact HO_11.out⟩, ⟨by (with_reducible repeat (first | apply Kd.R_alloc | apply Kd.R_drewN | apply Kd.R_drew)); exact HO_12.out⟩, ⟨by repeat (first | (with_reducible first | exact HB.out | apply below_alloc | apply pw_below_drewN | apply below_drew1) | exact HB.out)⟩⟩
   case rest =>
    clear HC10
    try clear c1
    try clear c2
    try clear p2
    try clear c3
    try clear c7
    try clear c11
    try clear c11b0
    try clear p2
    obtain ⟨kq, x27_9, rfl, HA, HJ9, HO_11, HO_12, HB⟩ := hcut
    cases kq with
    | zero => exact absurd HA.out (by simp [spec_admit.j1])
    | succ kj9 =>
     have H := HA.out
     clear HA
     simp only [spec_admit.j1] at H
     by_cases c13 : x27_9 = true
     ·subst c13
      have H1 : (if 0 ≤ x13_1 then (if x13_1 < (l3.length : Int) then (if 0 ≤ (rd l3 x13_1) then (if (rd l3 x13_1) < (l0.length : Int) then ((spec_used.f kj9 l0 x12_1 ((rd_T39 l0 (rd l3 x13_1)).f2)).bind fun t759 => (if 0 ≤ ((rd_T39 l0 (rd l3 x13_1)).f2) then (if ((rd_T39 l0 (rd l3 x13_1)).f2) < (l1.length : Int) then (if (wrap64 (t759 + ((rd_T39 l0 (rd l3 x13_1)).f3))) ≤ (rd l1 ((rd_T39 l0 (rd l3 x13_1)).f2)) then (if x11_1.length < 17592186044416 then (if x12_1.length < 17592186044416 then (spec_admit.l0 kj9 l0 l1 l3 a4 (x11_1 ++ [rd l3 x13_1]) (x12_1 ++ [rd l3 x13_1]) (wrap64 (x13_1 + 1))) else (none)) else (none)) else (spec_admit.l0 kj9 l0 l1 l3 a4 x11_1 x12_1 (wrap64 (x13_1 + 1)))) else (none)) else (none))) else (none)) else (none)) else (none)) else (none)) = some r := by rw [if_pos rfl] at H; exact H
      clear H
      have H := H1
      clear H1
      by_cases c14 : 0 ≤ x13_1
      ·rw [if_pos c14] at H
       have c14b0 : decide (0 ≤ x13_1) = true := decide_eq_true c14
       clear c14
       by_cases c15 : x13_1 < (l3.length : Int)
       ·rw [if_pos c15] at H
        have c15b0 : decide (x13_1 < (l3.length : Int)) = true := decide_eq_true c15
        clear c15
        by_cases c16 : 0 ≤ (rd l3 x13_1)
        ·rw [if_pos c16] at H
         have c16b0 : decide (0 ≤ (rd l3 x13_1)) = true := decide_eq_true c16
         clear c16
         by_cases c17 : (rd l3 x13_1) < (l0.length : Int)
         ·rw [if_pos c17] at H
          have c17b0 : decide ((rd l3 x13_1) < (l0.length : Int)) = true := decide_eq_true c17
          clear c17
          replace H := Option.bind_eq_some_iff.mp H
          obtain ⟨t759, A180, H⟩ := H
          replace H : (if 0 ≤ ((rd_T39 l0 (rd l3 x13_1)).f2) then (if ((rd_T39 l0 (rd l3 x13_1)).f2) < (l1.length : Int) then (if (wrap64 (t759 + ((rd_T39 l0 (rd l3 x13_1)).f3))) ≤ (rd l1 ((rd_T39 l0 (rd l3 x13_1)).f2)) then (if x11_1.length < 17592186044416 then (if x12_1.length < 17592186044416 then (spec_admit.l0 kj9 l0 l1 l3 a4 (x11_1 ++ [rd l3 x13_1]) (x12_1 ++ [rd l3 x13_1]) (wrap64 (x13_1 + 1))) else (none)) else (none)) else (spec_admit.l0 kj9 l0 l1 l3 a4 x11_1 x12_1 (wrap64 (x13_1 + 1)))) else (none)) else (none)) = some r := H
          have A18 := Aside0.mk A180
          clear A180
          by_cases c19 : 0 ≤ ((rd_T39 l0 (rd l3 x13_1)).f2)
          ·rw [if_pos c19] at H
           have c19b0 : decide (0 ≤ ((rd_T39 l0 (rd l3 x13_1)).f2)) = true := decide_eq_true c19
           clear c19
           by_cases c20 : ((rd_T39 l0 (rd l3 x13_1)).f2) < (l1.length : Int)
           ·rw [if_pos c20] at H
            have c20b0 : decide (((rd_T39 l0 (rd l3 x13_1)).f2) < (l1.length : Int)) = true := decide_eq_true c20
            clear c20
            by_cases c21 : (wrap64 (t759 + ((rd_T39 l0 (rd l3 x13_1)).f3))) ≤ (rd l1 ((rd_T39 l0 (rd l3 x13_1)).f2))
            ·rw [if_pos c21] at H
             have c21b0 : decide ((wrap64 (t759 + ((rd_T39 l0 (rd l3 x13_1)).f3))) ≤ (rd l1 ((rd_T39 l0 (rd l3 x13_1)).f2))) = true := decide_eq_true c21
             have c21b9 : decide ((IntKind.i64.wrap (t759 + ((rd_T39 l0 (rd l3 x13_1)).f3))) ≤ (rd l1 ((rd_T39 l0 (rd l3 x13_1)).f2))) = true := by simp only [i64_w]; exact c21b0
             clear c21
             by_cases c22 : x11_1.length < 17592186044416
             ·rw [if_pos c22] at H
              have LMc22 := Aside0.mk c22
              clear c22
              obtain ⟨y762, hy762⟩ : ∃ y_ : List Int, y_ = (x11_1 ++ [rd l3 x13_1]) := ⟨_, rfl⟩
              replace H : (if x12_1.length < 17592186044416 then (spec_admit.l0 kj9 l0 l1 l3 a4 y762 (x12_1 ++ [rd l3 x13_1]) (wrap64 (x13_1 + 1))) else (none)) = some r := by first | (rw [hy762]; with_reducible exact H) | (have H2_ := (Option.bind_some _ _).symm.trans H; rw [hy762]; with_reducible exact H2_) | (have H2_ := (Option.bind_some _ _).symm.trans H; with_reducible exact H2_) | with_reducible exact H | (rw [hy762]; exact H) | exact H
              have Ny762 := Aside0.mk hy762
              clear hy762
              by_cases c23 : x12_1.length < 17592186044416
              ·rw [if_pos c23] at H
               have LMc23 := Aside0.mk c23
               clear c23
               obtain ⟨y766, hy766⟩ : ∃ y_ : List Int, y_ = (x12_1 ++ [rd l3 x13_1]) := ⟨_, rfl⟩
               replace H : (spec_admit.l0 kj9 l0 l1 l3 a4 y762 y766 (wrap64 (x13_1 + 1))) = some r := by first | (rw [hy766]; with_reducible exact H) | (have H2_ := (Option.bind_some _ _).symm.trans H; rw [hy766]; with_reducible exact H2_) | (have H2_ := (Option.bind_some _ _).symm.trans H; with_reducible exact H2_) | with_reducible exact H | (rw [hy766]; exact H) | exact H
               have Ny766 := Aside0.mk hy766
               clear hy766
               have H' := Aside0.mk H
               clear H
               have p756 : 0 ≤ (x13_1 : Int) := of_decide_eq_true (by first | (with_reducible assumption) | assumption)
               have q756 : x13_1 < (l3.length : Int) := of_decide_eq_true (by first | (with_reducible assumption) | assumption)
               obtain ⟨ad756, e756, hx756_0⟩ := Kd.at_int HR3.out x13_1 p756 q756
               cases e756
               replace hx756_0 := (HB.out.cell (World.block_lt_of_cell? w _ hx756_0)).trans hx756_0
               replace p756 := eq_true p756
               replace q756 := eq_true q756
               have p757 : 0 ≤ ((rd l3 x13_1) : Int) := of_decide_eq_true (by first | (with_reducible assumption) | assumption)
               have q757 : (rd l3 x13_1) < (l0.length : Int) := of_decide_eq_true (by first | (with_reducible assumption) | assumption)
               obtain ⟨ad757, A757_1, c757_1, e757, hx757_0, hx757_1, hx757_2, hx757_3, hl757_1, hi757_1⟩ := at_T39 HR0.out (rd l3 x13_1) p757 q757
               cases e757
               replace hx757_0 := (HB.out.cell (World.block_lt_of_cell? w _ hx757_0)).trans hx757_0
               replace hx757_1 := (HB.out.cell (World.block_lt_of_cell? w _ hx757_1)).trans hx757_1
               replace hx757_2 := (HB.out.cell (World.block_lt_of_cell? w _ hx757_2)).trans hx757_2
               replace hx757_3 := (HB.out.cell (World.block_lt_of_cell? w _ hx757_3)).trans hx757_3
               have HR757_1 := Aside0.mk hi757_1
               have HC757_1 := Aside0.mk hl757_1
               clear hi757_1 hl757_1
               replace p757 := eq_true p757
               replace q757 := eq_true q757
               iterate 7 (first | go_quiet (first | ((with_reducible refine gate_dst (N := 14) rfl ?_); (try (refine gate_guard (by rfl) ?_; dsimp only)); refine box_event ?hg (N := 14) ?hd (cs := #[.int .i64 0, .slice none 0 0, .int .i64 0, .int .i64 0]) (t := 39) ?hr ?_; (case hd => rfl); (case hg => rfl); (case hr => first | (go_simp; done) | (go_simp; rfl)); intro gb758 hg w24 hbox hb; have n0_ := Aside0.mk (Kd.R_below (by (with_reducible repeat (first | apply Kd.R_alloc | apply Kd.R_drewN | apply Kd.R_drew)); exact HO_11.out) hb); have n1_ := Aside0.mk (Kd.R_below (by (with_reducible repeat (first | apply Kd.R_alloc | apply Kd.R_drewN | apply Kd.R_drew)); exact HO_12.out) hb); have n2_ := Aside0.mk (below_step (by repeat (first | (with_reducible first | exact HB.out | apply below_alloc | apply pw_below_drewN | apply below_drew1) | exact HB.out)) hb); have n3_ := Aside0.mk (hbox); have n4_ := Aside0.mk ((by rw [hg]; exact (below_size (by repeat (first | (with_reducible first | exact HB.out | apply below_alloc | apply pw_below_drewN | apply below_drew1) | exact HB.out))) : w.heap.size ≤ gb758)); have n5_ := Aside0.mk ((by rw [hg]; exact (below_size (by repeat (first | (with_reducible first | exact HB.out | apply below_alloc | apply pw_below_drewN | apply below_drew1) | exact HB.out))) : w.heap.size ≤ gb758)); clear HO_11; clear HO_12; clear HB; have HO_11 := n0_; have HO_12 := n1_; have HB := n2_; have BK758 := n3_; have GW758 := n4_; have GE758 := n5_; clear n0_ n1_ n2_ n3_ n4_ n5_; clear hb hbox hg; have hcz25_0 : w24.cell? ⟨gb758, 0, none⟩ = some (.int .i64 0) := (blk_cell BK758.out 0).trans rfl; have hcz25_1 : w24.cell? ⟨gb758, 1, none⟩ = some (.slice none 0 0) := (blk_cell BK758.out 1).trans rfl; have hcz25_2 : w24.cell? ⟨gb758, 2, none⟩ = some (.int .i64 0) := (blk_cell BK758.out 2).trans rfl; have hcz25_3 : w24.cell? ⟨gb758, 3, none⟩ = some (.int .i64 0) := (blk_cell BK758.out 3).trans rfl; have hfz25_0 := blk_frozen BK758.out 0; have hfz25_1 := blk_frozen BK758.out 1; have hfz25_2 := blk_frozen BK758.out 2; have hfz25_3 := blk_frozen BK758.out 3; obtain ⟨Ao26, co26, eo26⟩ := Kd.R_slice HO_12.out; subst eo26) | (go_at_call 95; (with_reducible refine (spec_used.calls kj9 _ _ l0 _ _ x12_1 ((rd_T39 l0 (rd l3 x13_1)).f2) t759 _ ?side1 ?side2 ?side3 ?side4 A18.out).mono ?_); (case side1 => exact Kd.C_below HR0.out (by repeat (first | (with_reducible first | exact HB.out | apply below_alloc | apply pw_below_drewN | apply below_drew1 | refine below_set ?_ GE758.out) | exact HB.out))); (case side2 => exact HC0.out); (case side3 => refine (Kd.R_reads' (e := 3) (base := w.heap.size) (ok := fun k_ => some k_ ≠ (u11 : Value).ownBlock) (n := x12_1.length) (c := co26) ?_).2.2; exact (by (with_reducible repeat (first | apply Kd.R_alloc | apply Kd.R_drewN | apply Kd.R_drew)); exact (Kd.R_mono (Kd.R_far (p := ⟨gb758, 3, none⟩) (Kd.R_far (p := ⟨gb758, 2, none⟩) (Kd.R_far (p := ⟨gb758, 1, none⟩) (Kd.R_far (p := ⟨gb758, 0, none⟩) (Kd.R_types HO_12.out BK758.out (by decide)) (fun _ hk => hk.2) (.int .i64 ((rd_T39 l0 (rd l3 x13_1)).f0))) (fun _ hk => hk.2) (.slice A757_1 ((rd_T39 l0 (rd l3 x13_1)).f1).length c757_1)) (fun _ hk => hk.2) (.int .i64 ((rd_T39 l0 (rd l3 x13_1)).f2))) (fun _ hk => hk.2) (.int .i64 ((rd_T39 l0 (rd l3 x13_1)).f3))) (fun _ h_ => h_.1)))); (case side4 => exact (Kd.R_reads' HO_12.out).2.1); rintro e w' ⟨rfl, ⟨nd, rfl⟩⟩; (try first | exact ⟨rfl, _, World.drewN_drewN _ _ _⟩ | exact ⟨rfl, _, Eq.trans (World.drewN_drewN _ _ _) (congrArg (World.drewN _) (Nat.add_assoc _ _ _))⟩); have p760 : 0 ≤ (((rd_T39 l0 (rd l3 x13_1)).f2) : Int) := of_decide_eq_true (by first | (with_reducible assumption) | assumption); have q760 : ((rd_T39 l0 (rd l3 x13_1)).f2) < (l1.length : Int) := of_decide_eq_true (by first | (with_reducible assumption) | assumption); obtain ⟨ad760, e760, hx760_0⟩ := Kd.at_int HR1.out ((rd_T39 l0 (rd l3 x13_1)).f2) p760 q760; cases e760; have hn760_0 : ad760.block ≠ gb758 := Nat.ne_of_lt (Nat.lt_of_lt_of_le (by have := World.block_lt_of_cell? _ _ hx760_0; first | rwa [add_block] at this | exact this) GW758.out); have hn760_1 : ad760.block ≠ gb758 := Nat.ne_of_lt (Nat.lt_of_lt_of_le (by have := World.block_lt_of_cell? _ _ hx760_0; first | rwa [add_block] at this | exact this) GW758.out); have hn760_2 : ad760.block ≠ gb758 := Nat.ne_of_lt (Nat.lt_of_lt_of_le (by have := World.block_lt_of_cell? _ _ hx760_0; first | rwa [add_block] at this | exact this) GW758.out); have hn760_3 : ad760.block ≠ gb758 := Nat.ne_of_lt (Nat.lt_of_lt_of_le (by have := World.block_lt_of_cell? _ _ hx760_0; first | rwa [add_block] at this | exact this) GW758.out); replace hx760_0 := (HB.out.cell (World.block_lt_of_cell? w _ hx760_0)).trans hx760_0; replace hx760_0 := (cell_far (p := ⟨gb758, 0, none⟩) (by first | (rw [add_block]; exact hn760_0) | (show (Addr.add _ _).block ≠ _; rw [add_block]; exact hn760_0) | exact hn760_0) (.int .i64 ((rd_T39 l0 (rd l3 x13_1)).f0))).trans hx760_0; replace hx760_0 := (cell_far (p := ⟨gb758, 1, none⟩) (by first | (rw [add_block]; exact hn760_1) | (show (Addr.add _ _).block ≠ _; rw [add_block]; exact hn760_1) | exact hn760_1) (.slice A757_1 ((rd_T39 l0 (rd l3 x13_1)).f1).length c757_1)).trans hx760_0; replace hx760_0 := (cell_far (p := ⟨gb758, 2, none⟩) (by first | (rw [add_block]; exact hn760_2) | (show (Addr.add _ _).block ≠ _; rw [add_block]; exact hn760_2) | exact hn760_2) (.int .i64 ((rd_T39 l0 (rd l3 x13_1)).f2))).trans hx760_0; replace hx760_0 := (cell_far (p := ⟨gb758, 3, none⟩) (by first | (rw [add_block]; exact hn760_3) | (show (Addr.add _ _).block ≠ _; rw [add_block]; exact hn760_3) | exact hn760_3) (.int .i64 ((rd_T39 l0 (rd l3 x13_1)).f3))).trans hx760_0; (try have hy760_0 := fun (n_ : Nat) => (show ((((((w24.drewN n_).setCell ⟨gb758, 0, none⟩ (.int .i64 ((rd_T39 l0 (rd l3 x13_1)).f0))).setCell ⟨gb758, 1, none⟩ (.slice A757_1 ((rd_T39 l0 (rd l3 x13_1)).f1).length c757_1)).setCell ⟨gb758, 2, none⟩ (.int .i64 ((rd_T39 l0 (rd l3 x13_1)).f2))).setCell ⟨gb758, 3, none⟩ (.int .i64 ((rd_T39 l0 (rd l3 x13_1)).f3)))).cell? _ = some _ from hx760_0)); clear hn760_0; clear hn760_1; clear hn760_2; clear hn760_3; replace p760 := eq_true p760; replace q760 := eq_true q760; have p761 : 0 ≤ (x13_1 : Int) := of_decide_eq_true (by first | (with_reducible assumption) | assumption); have q761 : x13_1 < (l3.length : Int) := of_decide_eq_true (by first | (with_reducible assumption) | assumption); obtain ⟨ad761, e761, hx761_0⟩ := Kd.at_int HR3.out x13_1 p761 q761; obtain rfl : ad756 = ad761 := (by injection e761); have hn761_0 : ad756.block ≠ gb758 := Nat.ne_of_lt (Nat.lt_of_lt_of_le (by have := World.block_lt_of_cell? _ _ hx761_0; first | rwa [add_block] at this | exact this) GW758.out); have hn761_1 : ad756.block ≠ gb758 := Nat.ne_of_lt (Nat.lt_of_lt_of_le (by have := World.block_lt_of_cell? _ _ hx761_0; first | rwa [add_block] at this | exact this) GW758.out); have hn761_2 : ad756.block ≠ gb758 := Nat.ne_of_lt (Nat.lt_of_lt_of_le (by have := World.block_lt_of_cell? _ _ hx761_0; first | rwa [add_block] at this | exact this) GW758.out); have hn761_3 : ad756.block ≠ gb758 := Nat.ne_of_lt (Nat.lt_of_lt_of_le (by have := World.block_lt_of_cell? _ _ hx761_0; first | rwa [add_block] at this | exact this) GW758.out); replace hx761_0 := (HB.out.cell (World.block_lt_of_cell? w _ hx761_0)).trans hx761_0; replace hx761_0 := (cell_far (p := ⟨gb758, 0, none⟩) (by first | (rw [add_block]; exact hn761_0) | (show (Addr.add _ _).block ≠ _; rw [add_block]; exact hn761_0) | exact hn761_0) (.int .i64 ((rd_T39 l0 (rd l3 x13_1)).f0))).trans hx761_0; replace hx761_0 := (cell_far (p := ⟨gb758, 1, none⟩) (by first | (rw [add_block]; exact hn761_1) | (show (Addr.add _ _).block ≠ _; rw [add_block]; exact hn761_1) | exact hn761_1) (.slice A757_1 ((rd_T39 l0 (rd l3 x13_1)).f1).length c757_1)).trans hx761_0; replace hx761_0 := (cell_far (p := ⟨gb758, 2, none⟩) (by first | (rw [add_block]; exact hn761_2) | (show (Addr.add _ _).block ≠ _; rw [add_block]; exact hn761_2) | exact hn761_2) (.int .i64 ((rd_T39 l0 (rd l3 x13_1)).f2))).trans hx761_0; replace hx761_0 := (cell_far (p := ⟨gb758, 3, none⟩) (by first | (rw [add_block]; exact hn761_3) | (show (Addr.add _ _).block ≠ _; rw [add_block]; exact hn761_3) | exact hn761_3) (.int .i64 ((rd_T39 l0 (rd l3 x13_1)).f3))).trans hx761_0; (try have hy761_0 := fun (n_ : Nat) => (show ((((((w24.drewN n_).setCell ⟨gb758, 0, none⟩ (.int .i64 ((rd_T39 l0 (rd l3 x13_1)).f0))).setCell ⟨gb758, 1, none⟩ (.slice A757_1 ((rd_T39 l0 (rd l3 x13_1)).f1).length c757_1)).setCell ⟨gb758, 2, none⟩ (.int .i64 ((rd_T39 l0 (rd l3 x13_1)).f2))).setCell ⟨gb758, 3, none⟩ (.int .i64 ((rd_T39 l0 (rd l3 x13_1)).f3)))).cell? _ = some _ from hx761_0)); clear hn761_0; clear hn761_1; clear hn761_2; clear hn761_3; replace p761 := eq_true p761; replace q761 := eq_true q761) | ((with_reducible refine gate_builtin (b := .append) (xs := #[.tmp 51, .tmp 56]) rfl ?_); (try (refine gate_guard (by rfl) ?_; dsimp only)); at_builtin; refine Kd.R_append (Kd.int .i64) (w0 := w) w.heap.size rfl (.tmp 51) (.tmp 56) 24 3 (.int .i64 0) 8 rfl Tryd.underlying24 info3 rfl (by decide) (by omega) u11 x11_1 (rd l3 x13_1) [.int .i64 (rd l3 x13_1)] (fun k_ => some k_ ≠ (.slice Ao26 x12_1.length co26 : Value).ownBlock) (fun _ => False) rfl (by first | (go_simp; done) | (go_simp; rfl)) ?aP (fun _ hk => hk.elim) ?aF ?aO ?aB ?aS ?aL ?_; (case aP => exact rfl); (case aB => exact (by repeat (first | (with_reducible first | exact HB.out | apply below_alloc | apply pw_below_drewN | apply below_drew1 | refine below_set ?_ GE758.out) | exact HB.out))); (case aF => exact (fun k_ hk => Kd.fresh' (Kd.R_lt (by (with_reducible repeat (first | apply Kd.R_alloc | apply Kd.R_drewN | apply Kd.R_drew)); exact (Kd.R_mono (Kd.R_far (p := ⟨gb758, 3, none⟩) (Kd.R_far (p := ⟨gb758, 2, none⟩) (Kd.R_far (p := ⟨gb758, 1, none⟩) (Kd.R_far (p := ⟨gb758, 0, none⟩) (Kd.R_types HO_12.out BK758.out (by decide)) (fun _ hk => hk.2) (.int .i64 ((rd_T39 l0 (rd l3 x13_1)).f0))) (fun _ hk => hk.2) (.slice A757_1 ((rd_T39 l0 (rd l3 x13_1)).f1).length c757_1)) (fun _ hk => hk.2) (.int .i64 ((rd_T39 l0 (rd l3 x13_1)).f2))) (fun _ hk => hk.2) (.int .i64 ((rd_T39 l0 (rd l3 x13_1)).f3))) (fun _ h_ => h_.1)))) k_ hk)); (case aO => exact (by (with_reducible repeat (first | apply Kd.R_alloc | apply Kd.R_drewN | apply Kd.R_drew)); exact Kd.R_mono (Kd.R_far (p := ⟨gb758, 3, none⟩) (Kd.R_far (p := ⟨gb758, 2, none⟩) (Kd.R_far (p := ⟨gb758, 1, none⟩) (Kd.R_far (p := ⟨gb758, 0, none⟩) (Kd.R_types HO_11.out BK758.out (by decide)) (fun _ hk => hk.2) (.int .i64 ((rd_T39 l0 (rd l3 x13_1)).f0))) (fun _ hk => hk.2) (.slice A757_1 ((rd_T39 l0 (rd l3 x13_1)).f1).length c757_1)) (fun _ hk => hk.2) (.int .i64 ((rd_T39 l0 (rd l3 x13_1)).f2))) (fun _ hk => hk.2) (.int .i64 ((rd_T39 l0 (rd l3 x13_1)).f3))) (fun _ hk => hk.1))); (case aS => exact (below_size (by repeat (first | (with_reducible first | exact HB.out | apply below_alloc | apply pw_below_drewN | apply below_drew1 | refine below_set ?_ GE758.out) | exact HB.out)))); (case aL => have := LMc22.out; omega); intro v763 w27 ho hb hg hat; rw [← Ny762.out] at ho; have n0_ := Aside0.mk (Kd.R_after (ok := (fun _ => True)) (by (with_reducible repeat (first | apply Kd.R_alloc | apply Kd.R_drewN | apply Kd.R_drew)); exact Kd.R_mono (Kd.R_far (p := ⟨gb758, 3, none⟩) (Kd.R_far (p := ⟨gb758, 2, none⟩) (Kd.R_far (p := ⟨gb758, 1, none⟩) (Kd.R_far (p := ⟨gb758, 0, none⟩) (Kd.R_types HO_12.out BK758.out (by decide)) (fun _ hk => hk.2) (.int .i64 ((rd_T39 l0 (rd l3 x13_1)).f0))) (fun _ hk => hk.2) (.slice A757_1 ((rd_T39 l0 (rd l3 x13_1)).f1).length c757_1)) (fun _ hk => hk.2) (.int .i64 ((rd_T39 l0 (rd l3 x13_1)).f2))) (fun _ hk => hk.2) (.int .i64 ((rd_T39 l0 (rd l3 x13_1)).f3))) (fun _ hk => ⟨trivial, hk.1⟩)) hg hat); have n1_ := Aside0.mk (blk_grown (g := gb758) (o := .cells #[.int .i64 ((rd_T39 l0 (rd l3 x13_1)).f0), .slice A757_1 ((rd_T39 l0 (rd l3 x13_1)).f1).length c757_1, .int .i64 ((rd_T39 l0 (rd l3 x13_1)).f2), .int .i64 ((rd_T39 l0 (rd l3 x13_1)).f3)] 39 (0, 0)) (by (with_reducible repeat (first | refine blk_drewN ?_ _ | refine blk_drew ?_ | refine blk_alloc ?_ _)); refine blk_put (cs := #[.int .i64 ((rd_T39 l0 (rd l3 x13_1)).f0), .slice A757_1 ((rd_T39 l0 (rd l3 x13_1)).f1).length c757_1, .int .i64 ((rd_T39 l0 (rd l3 x13_1)).f2), .int .i64 0]) ?_ 3 _ rfl; (with_reducible repeat (first | refine blk_drewN ?_ _ | refine blk_drew ?_ | refine blk_alloc ?_ _)); refine blk_put (cs := #[.int .i64 ((rd_T39 l0 (rd l3 x13_1)).f0), .slice A757_1 ((rd_T39 l0 (rd l3 x13_1)).f1).length c757_1, .int .i64 0, .int .i64 0]) ?_ 2 _ rfl; (with_reducible repeat (first | refine blk_drewN ?_ _ | refine blk_drew ?_ | refine blk_alloc ?_ _)); refine blk_put (cs := #[.int .i64 ((rd_T39 l0 (rd l3 x13_1)).f0), .slice none 0 0, .int .i64 0, .int .i64 0]) ?_ 1 _ rfl; (with_reducible repeat (first | refine blk_drewN ?_ _ | refine blk_drew ?_ | refine blk_alloc ?_ _)); refine blk_put (cs := #[.int .i64 0, .slice none 0 0, .int .i64 0, .int .i64 0]) ?_ 0 _ rfl; (with_reducible repeat (first | refine blk_drewN ?_ _ | refine blk_drew ?_ | refine blk_alloc ?_ _)); exact BK758.out) hg (Kd.R_ne HO_11.out BK758.out (by decide))); have n2_ := Aside0.mk (hb); have n3_ := Aside0.mk (ho); clear HO_12; clear BK758; clear HB; clear HO_11; have HO_12 := n0_; have BK758 := n1_; have HB := n2_; have HO764 := n3_; clear n0_ n1_ n2_ n3_; clear ho hb hg hat; have p765 : 0 ≤ (x13_1 : Int) := of_decide_eq_true (by first | (with_reducible assumption) | assumption); have q765 : x13_1 < (l3.length : Int) := of_decide_eq_true (by first | (with_reducible assumption) | assumption); obtain ⟨ad765, e765, hx765_0⟩ := Kd.at_int HR3.out x13_1 p765 q765; obtain rfl : ad756 = ad765 := (by injection e765); replace hx765_0 := (HB.out.cell (World.block_lt_of_cell? w _ hx765_0)).trans hx765_0; replace p765 := eq_true p765; replace q765 := eq_true q765) | ((with_reducible refine gate_builtin (b := .append) (xs := #[.tmp 58, .tmp 63]) rfl ?_); (try (refine gate_guard (by rfl) ?_; dsimp only)); at_builtin; refine Kd.R_append (Kd.int .i64) (w0 := w) w.heap.size rfl (.tmp 58) (.tmp 63) 24 3 (.int .i64 0) 8 rfl Tryd.underlying24 info3 rfl (by decide) (by omega) (.slice Ao26 x12_1.length co26) x12_1 (rd l3 x13_1) [.int .i64 (rd l3 x13_1)] (fun k_ => some k_ ≠ (v763 : Value).ownBlock) (fun _ => False) rfl rfl ?aP (fun _ hk => hk.elim) ?aF ?aO ?aB ?aS ?aL ?_; (case aP => exact rfl); (case aB => exact (by repeat (first | (with_reducible first | exact HB.out | apply below_alloc | apply pw_below_drewN | apply below_drew1 | refine below_set ?_ GE758.out) | exact HB.out))); (case aF => exact (fun k_ hk => Kd.fresh' (Kd.R_lt (by (with_reducible repeat (first | apply Kd.R_alloc | apply Kd.R_drewN | apply Kd.R_drew)); exact HO764.out)) k_ hk)); (case aO => exact (by (with_reducible repeat (first | apply Kd.R_alloc | apply Kd.R_drewN | apply Kd.R_drew)); exact Kd.R_mono HO_12.out (fun _ hk => hk.2))); (case aS => exact (below_size (by repeat (first | (with_reducible first | exact HB.out | apply below_alloc | apply pw_below_drewN | apply below_drew1 | refine below_set ?_ GE758.out) | exact HB.out)))); (case aL => have := LMc23.out; omega); intro v767 w28 ho hb hg hat; rw [← Ny766.out] at ho; have n0_ := Aside0.mk (blk_grown (g := gb758) (o := .cells #[.int .i64 ((rd_T39 l0 (rd l3 x13_1)).f0), .slice A757_1 ((rd_T39 l0 (rd l3 x13_1)).f1).length c757_1, .int .i64 ((rd_T39 l0 (rd l3 x13_1)).f2), .int .i64 ((rd_T39 l0 (rd l3 x13_1)).f3)] 39 (0, 0)) (by (with_reducible repeat (first | refine blk_drewN ?_ _ | refine blk_drew ?_ | refine blk_alloc ?_ _)); exact BK758.out) hg (Kd.R_ne HO_12.out BK758.out (by decide))); have n1_ := Aside0.mk (Kd.R_after (ok := (fun _ => True)) (by (with_reducible repeat (first | apply Kd.R_alloc | apply Kd.R_drewN | apply Kd.R_drew)); exact Kd.R_mono HO764.out (fun _ hk => ⟨trivial, hk⟩)) hg hat); have n2_ := Aside0.mk (hb); have n3_ := Aside0.mk (ho); clear BK758; clear HO764; clear HB; clear HO_12; have BK758 := n0_; have HO764 := n1_; have HB := n2_; have HO768 := n3_; clear n0_ n1_ n2_ n3_; clear ho hb hg hat)) | go_wp2_with (first | ((with_reducible refine gate_dst (N := 14) rfl ?_); (try (refine gate_guard (by rfl) ?_; dsimp only)); refine box_event ?hg (N := 14) ?hd (cs := #[.int .i64 0, .slice none 0 0, .int .i64 0, .int .i64 0]) (t := 39) ?hr ?_; (case hd => rfl); (case hg => rfl); (case hr => first | (go_simp; done) | (go_simp; rfl)); intro gb758 hg w24 hbox hb; have n0_ := Aside0.mk (Kd.R_below (by (with_reducible repeat (first | apply Kd.R_alloc | apply Kd.R_drewN | apply Kd.R_drew)); exact HO_11.out) hb); have n1_ := Aside0.mk (Kd.R_below (by (with_reducible repeat (first | apply Kd.R_alloc | apply Kd.R_drewN | apply Kd.R_drew)); exact HO_12.out) hb); have n2_ := Aside0.mk (below_step (by repeat (first | (with_reducible first | exact HB.out | apply below_alloc | apply pw_below_drewN | apply below_drew1) | exact HB.out)) hb); have n3_ := Aside0.mk (hbox); have n4_ := Aside0.mk ((by rw [hg]; exact (below_size (by repeat (first | (with_reducible first | exact HB.out | apply below_alloc | apply pw_below_drewN | apply below_drew1) | exact HB.out))) : w.heap.size ≤ gb758)); have n5_ := Aside0.mk ((by rw [hg]; exact (below_size (by repeat (first | (with_reducible first | exact HB.out | apply below_alloc | apply pw_below_drewN | apply below_drew1) | exact HB.out))) : w.heap.size ≤ gb758)); clear HO_11; clear HO_12; clear HB; have HO_11 := n0_; have HO_12 := n1_; have HB := n2_; have BK758 := n3_; have GW758 := n4_; have GE758 := n5_; clear n0_ n1_ n2_ n3_ n4_ n5_; clear hb hbox hg; have hcz25_0 : w24.cell? ⟨gb758, 0, none⟩ = some (.int .i64 0) := (blk_cell BK758.out 0).trans rfl; have hcz25_1 : w24.cell? ⟨gb758, 1, none⟩ = some (.slice none 0 0) := (blk_cell BK758.out 1).trans rfl; have hcz25_2 : w24.cell? ⟨gb758, 2, none⟩ = some (.int .i64 0) := (blk_cell BK758.out 2).trans rfl; have hcz25_3 : w24.cell? ⟨gb758, 3, none⟩ = some (.int .i64 0) := (blk_cell BK758.out 3).trans rfl; have hfz25_0 := blk_frozen BK758.out 0; have hfz25_1 := blk_frozen BK758.out 1; have hfz25_2 := blk_frozen BK758.out 2; have hfz25_3 := blk_frozen BK758.out 3; obtain ⟨Ao26, co26, eo26⟩ := Kd.R_slice HO_12.out; subst eo26) | (go_at_call 95; (with_reducible refine (spec_used.calls kj9 _ _ l0 _ _ x12_1 ((rd_T39 l0 (rd l3 x13_1)).f2) t759 _ ?side1 ?side2 ?side3 ?side4 A18.out).mono ?_); (case side1 => exact Kd.C_below HR0.out (by repeat (first | (with_reducible first | exact HB.out | apply below_alloc | apply pw_below_drewN | apply below_drew1 | refine below_set ?_ GE758.out) | exact HB.out))); (case side2 => exact HC0.out); (case side3 => refine (Kd.R_reads' (e := 3) (base := w.heap.size) (ok := fun k_ => some k_ ≠ (u11 : Value).ownBlock) (n := x12_1.length) (c := co26) ?_).2.2; exact (by (with_reducible repeat (first | apply Kd.R_alloc | apply Kd.R_drewN | apply Kd.R_drew)); exact (Kd.R_mono (Kd.R_far (p := ⟨gb758, 3, none⟩) (Kd.R_far (p := ⟨gb758, 2, none⟩) (Kd.R_far (p := ⟨gb758, 1, none⟩) (Kd.R_far (p := ⟨gb758, 0, none⟩) (Kd.R_types HO_12.out BK758.out (by decide)) (fun _ hk => hk.2) (.int .i64 ((rd_T39 l0 (rd l3 x13_1)).f0))) (fun _ hk => hk.2) (.slice A757_1 ((rd_T39 l0 (rd l3 x13_1)).f1).length c757_1)) (fun _ hk => hk.2) (.int .i64 ((rd_T39 l0 (rd l3 x13_1)).f2))) (fun _ hk => hk.2) (.int .i64 ((rd_T39 l0 (rd l3 x13_1)).f3))) (fun _ h_ => h_.1)))); (case side4 => exact (Kd.R_reads' HO_12.out).2.1); rintro e w' ⟨rfl, ⟨nd, rfl⟩⟩; (try first | exact ⟨rfl, _, World.drewN_drewN _ _ _⟩ | exact ⟨rfl, _, Eq.trans (World.drewN_drewN _ _ _) (congrArg (World.drewN _) (Nat.add_assoc _ _ _))⟩); have p760 : 0 ≤ (((rd_T39 l0 (rd l3 x13_1)).f2) : Int) := of_decide_eq_true (by first | (with_reducible assumption) | assumption); have q760 : ((rd_T39 l0 (rd l3 x13_1)).f2) < (l1.length : Int) := of_decide_eq_true (by first | (with_reducible assumption) | assumption); obtain ⟨ad760, e760, hx760_0⟩ := Kd.at_int HR1.out ((rd_T39 l0 (rd l3 x13_1)).f2) p760 q760; cases e760; have hn760_0 : ad760.block ≠ gb758 := Nat.ne_of_lt (Nat.lt_of_lt_of_le (by have := World.block_lt_of_cell? _ _ hx760_0; first | rwa [add_block] at this | exact this) GW758.out); have hn760_1 : ad760.block ≠ gb758 := Nat.ne_of_lt (Nat.lt_of_lt_of_le (by have := World.block_lt_of_cell? _ _ hx760_0; first | rwa [add_block] at this | exact this) GW758.out); have hn760_2 : ad760.block ≠ gb758 := Nat.ne_of_lt (Nat.lt_of_lt_of_le (by have := World.block_lt_of_cell? _ _ hx760_0; first | rwa [add_block] at this | exact this) GW758.out); have hn760_3 : ad760.block ≠ gb758 := Nat.ne_of_lt (Nat.lt_of_lt_of_le (by have := World.block_lt_of_cell? _ _ hx760_0; first | rwa [add_block] at this | exact this) GW758.out); replace hx760_0 := (HB.out.cell (World.block_lt_of_cell? w _ hx760_0)).trans hx760_0; replace hx760_0 := (cell_far (p := ⟨gb758, 0, none⟩) (by first | (rw [add_block]; exact hn760_0) | (show (Addr.add _ _).block ≠ _; rw [add_block]; exact hn760_0) | exact hn760_0) (.int .i64 ((rd_T39 l0 (rd l3 x13_1)).f0))).trans hx760_0; replace hx760_0 := (cell_far (p := ⟨gb758, 1, none⟩) (by first | (rw [add_block]; exact hn760_1) | (show (Addr.add _ _).block ≠ _; rw [add_block]; exact hn760_1) | exact hn760_1) (.slice A757_1 ((rd_T39 l0 (rd l3 x13_1)).f1).length c757_1)).trans hx760_0; replace hx760_0 := (cell_far (p := ⟨gb758, 2, none⟩) (by first | (rw [add_block]; exact hn760_2) | (show (Addr.add _ _).block ≠ _; rw [add_block]; exact hn760_2) | exact hn760_2) (.int .i64 ((rd_T39 l0 (rd l3 x13_1)).f2))).trans hx760_0; replace hx760_0 := (cell_far (p := ⟨gb758, 3, none⟩) (by first | (rw [add_block]; exact hn760_3) | (show (Addr.add _ _).block ≠ _; rw [add_block]; exact hn760_3) | exact hn760_3) (.int .i64 ((rd_T39 l0 (rd l3 x13_1)).f3))).trans hx760_0; (try have hy760_0 := fun (n_ : Nat) => (show ((((((w24.drewN n_).setCell ⟨gb758, 0, none⟩ (.int .i64 ((rd_T39 l0 (rd l3 x13_1)).f0))).setCell ⟨gb758, 1, none⟩ (.slice A757_1 ((rd_T39 l0 (rd l3 x13_1)).f1).length c757_1)).setCell ⟨gb758, 2, none⟩ (.int .i64 ((rd_T39 l0 (rd l3 x13_1)).f2))).setCell ⟨gb758, 3, none⟩ (.int .i64 ((rd_T39 l0 (rd l3 x13_1)).f3)))).cell? _ = some _ from hx760_0)); clear hn760_0; clear hn760_1; clear hn760_2; clear hn760_3; replace p760 := eq_true p760; replace q760 := eq_true q760; have p761 : 0 ≤ (x13_1 : Int) := of_decide_eq_true (by first | (with_reducible assumption) | assumption); have q761 : x13_1 < (l3.length : Int) := of_decide_eq_true (by first | (with_reducible assumption) | assumption); obtain ⟨ad761, e761, hx761_0⟩ := Kd.at_int HR3.out x13_1 p761 q761; obtain rfl : ad756 = ad761 := (by injection e761); have hn761_0 : ad756.block ≠ gb758 := Nat.ne_of_lt (Nat.lt_of_lt_of_le (by have := World.block_lt_of_cell? _ _ hx761_0; first | rwa [add_block] at this | exact this) GW758.out); have hn761_1 : ad756.block ≠ gb758 := Nat.ne_of_lt (Nat.lt_of_lt_of_le (by have := World.block_lt_of_cell? _ _ hx761_0; first | rwa [add_block] at this | exact this) GW758.out); have hn761_2 : ad756.block ≠ gb758 := Nat.ne_of_lt (Nat.lt_of_lt_of_le (by have := World.block_lt_of_cell? _ _ hx761_0; first | rwa [add_block] at this | exact this) GW758.out); have hn761_3 : ad756.block ≠ gb758 := Nat.ne_of_lt (Nat.lt_of_lt_of_le (by have := World.block_lt_of_cell? _ _ hx761_0; first | rwa [add_block] at this | exact this) GW758.out); replace hx761_0 := (HB.out.cell (World.block_lt_of_cell? w _ hx761_0)).trans hx761_0; replace hx761_0 := (cell_far (p := ⟨gb758, 0, none⟩) (by first | (rw [add_block]; exact hn761_0) | (show (Addr.add _ _).block ≠ _; rw [add_block]; exact hn761_0) | exact hn761_0) (.int .i64 ((rd_T39 l0 (rd l3 x13_1)).f0))).trans hx761_0; replace hx761_0 := (cell_far (p := ⟨gb758, 1, none⟩) (by first | (rw [add_block]; exact hn761_1) | (show (Addr.add _ _).block ≠ _; rw [add_block]; exact hn761_1) | exact hn761_1) (.slice A757_1 ((rd_T39 l0 (rd l3 x13_1)).f1).length c757_1)).trans hx761_0; replace hx761_0 := (cell_far (p := ⟨gb758, 2, none⟩) (by first | (rw [add_block]; exact hn761_2) | (show (Addr.add _ _).block ≠ _; rw [add_block]; exact hn761_2) | exact hn761_2) (.int .i64 ((rd_T39 l0 (rd l3 x13_1)).f2))).trans hx761_0; replace hx761_0 := (cell_far (p := ⟨gb758, 3, none⟩) (by first | (rw [add_block]; exact hn761_3) | (show (Addr.add _ _).block ≠ _; rw [add_block]; exact hn761_3) | exact hn761_3) (.int .i64 ((rd_T39 l0 (rd l3 x13_1)).f3))).trans hx761_0; (try have hy761_0 := fun (n_ : Nat) => (show ((((((w24.drewN n_).setCell ⟨gb758, 0, none⟩ (.int .i64 ((rd_T39 l0 (rd l3 x13_1)).f0))).setCell ⟨gb758, 1, none⟩ (.slice A757_1 ((rd_T39 l0 (rd l3 x13_1)).f1).length c757_1)).setCell ⟨gb758, 2, none⟩ (.int .i64 ((rd_T39 l0 (rd l3 x13_1)).f2))).setCell ⟨gb758, 3, none⟩ (.int .i64 ((rd_T39 l0 (rd l3 x13_1)).f3)))).cell? _ = some _ from hx761_0)); clear hn761_0; clear hn761_1; clear hn761_2; clear hn761_3; replace p761 := eq_true p761; replace q761 := eq_true q761) | ((with_reducible refine gate_builtin (b := .append) (xs := #[.tmp 51, .tmp 56]) rfl ?_); (try (refine gate_guard (by rfl) ?_; dsimp only)); at_builtin; refine Kd.R_append (Kd.int .i64) (w0 := w) w.heap.size rfl (.tmp 51) (.tmp 56) 24 3 (.int .i64 0) 8 rfl Tryd.underlying24 info3 rfl (by decide) (by omega) u11 x11_1 (rd l3 x13_1) [.int .i64 (rd l3 x13_1)] (fun k_ => some k_ ≠ (.slice Ao26 x12_1.length co26 : Value).ownBlock) (fun _ => False) rfl (by first | (go_simp; done) | (go_simp; rfl)) ?aP (fun _ hk => hk.elim) ?aF ?aO ?aB ?aS ?aL ?_; (case aP => exact rfl); (case aB => exact (by repeat (first | (with_reducible first | exact HB.out | apply below_alloc | apply pw_below_drewN | apply below_drew1 | refine below_set ?_ GE758.out) | exact HB.out))); (case aF => exact (fun k_ hk => Kd.fresh' (Kd.R_lt (by (with_reducible repeat (first | apply Kd.R_alloc | apply Kd.R_drewN | apply Kd.R_drew)); exact (Kd.R_mono (Kd.R_far (p := ⟨gb758, 3, none⟩) (Kd.R_far (p := ⟨gb758, 2, none⟩) (Kd.R_far (p := ⟨gb758, 1, none⟩) (Kd.R_far (p := ⟨gb758, 0, none⟩) (Kd.R_types HO_12.out BK758.out (by decide)) (fun _ hk => hk.2) (.int .i64 ((rd_T39 l0 (rd l3 x13_1)).f0))) (fun _ hk => hk.2) (.slice A757_1 ((rd_T39 l0 (rd l3 x13_1)).f1).length c757_1)) (fun _ hk => hk.2) (.int .i64 ((rd_T39 l0 (rd l3 x13_1)).f2))) (fun _ hk => hk.2) (.int .i64 ((rd_T39 l0 (rd l3 x13_1)).f3))) (fun _ h_ => h_.1)))) k_ hk)); (case aO => exact (by (with_reducible repeat (first | apply Kd.R_alloc | apply Kd.R_drewN | apply Kd.R_drew)); exact Kd.R_mono (Kd.R_far (p := ⟨gb758, 3, none⟩) (Kd.R_far (p := ⟨gb758, 2, none⟩) (Kd.R_far (p := ⟨gb758, 1, none⟩) (Kd.R_far (p := ⟨gb758, 0, none⟩) (Kd.R_types HO_11.out BK758.out (by decide)) (fun _ hk => hk.2) (.int .i64 ((rd_T39 l0 (rd l3 x13_1)).f0))) (fun _ hk => hk.2) (.slice A757_1 ((rd_T39 l0 (rd l3 x13_1)).f1).length c757_1)) (fun _ hk => hk.2) (.int .i64 ((rd_T39 l0 (rd l3 x13_1)).f2))) (fun _ hk => hk.2) (.int .i64 ((rd_T39 l0 (rd l3 x13_1)).f3))) (fun _ hk => hk.1))); (case aS => exact (below_size (by repeat (first | (with_reducible first | exact HB.out | apply below_alloc | apply pw_below_drewN | apply below_drew1 | refine below_set ?_ GE758.out) | exact HB.out)))); (case aL => have := LMc22.out; omega); intro v763 w27 ho hb hg hat; rw [← Ny762.out] at ho; have n0_ := Aside0.mk (Kd.R_after (ok := (fun _ => True)) (by (with_reducible repeat (first | apply Kd.R_alloc | apply Kd.R_drewN | apply Kd.R_drew)); exact Kd.R_mono (Kd.R_far (p := ⟨gb758, 3, none⟩) (Kd.R_far (p := ⟨gb758, 2, none⟩) (Kd.R_far (p := ⟨gb758, 1, none⟩) (Kd.R_far (p := ⟨gb758, 0, none⟩) (Kd.R_types HO_12.out BK758.out (by decide)) (fun _ hk => hk.2) (.int .i64 ((rd_T39 l0 (rd l3 x13_1)).f0))) (fun _ hk => hk.2) (.slice A757_1 ((rd_T39 l0 (rd l3 x13_1)).f1).length c757_1)) (fun _ hk => hk.2) (.int .i64 ((rd_T39 l0 (rd l3 x13_1)).f2))) (fun _ hk => hk.2) (.int .i64 ((rd_T39 l0 (rd l3 x13_1)).f3))) (fun _ hk => ⟨trivial, hk.1⟩)) hg hat); have n1_ := Aside0.mk (blk_grown (g := gb758) (o := .cells #[.int .i64 ((rd_T39 l0 (rd l3 x13_1)).f0), .slice A757_1 ((rd_T39 l0 (rd l3 x13_1)).f1).length c757_1, .int .i64 ((rd_T39 l0 (rd l3 x13_1)).f2), .int .i64 ((rd_T39 l0 (rd l3 x13_1)).f3)] 39 (0, 0)) (by (with_reducible repeat (first | refine blk_drewN ?_ _ | refine blk_drew ?_ | refine blk_alloc ?_ _)); refine blk_put (cs := #[.int .i64 ((rd_T39 l0 (rd l3 x13_1)).f0), .slice A757_1 ((rd_T39 l0 (rd l3 x13_1)).f1).length c757_1, .int .i64 ((rd_T39 l0 (rd l3 x13_1)).f2), .int .i64 0]) ?_ 3 _ rfl; (with_reducible repeat (first | refine blk_drewN ?_ _ | refine blk_drew ?_ | refine blk_alloc ?_ _)); refine blk_put (cs := #[.int .i64 ((rd_T39 l0 (rd l3 x13_1)).f0), .slice A757_1 ((rd_T39 l0 (rd l3 x13_1)).f1).length c757_1, .int .i64 0, .int .i64 0]) ?_ 2 _ rfl; (with_reducible repeat (first | refine blk_drewN ?_ _ | refine blk_drew ?_ | refine blk_alloc ?_ _)); refine blk_put (cs := #[.int .i64 ((rd_T39 l0 (rd l3 x13_1)).f0), .slice none 0 0, .int .i64 0, .int .i64 0]) ?_ 1 _ rfl; (with_reducible repeat (first | refine blk_drewN ?_ _ | refine blk_drew ?_ | refine blk_alloc ?_ _)); refine blk_put (cs := #[.int .i64 0, .slice none 0 0, .int .i64 0, .int .i64 0]) ?_ 0 _ rfl; (with_reducible repeat (first | refine blk_drewN ?_ _ | refine blk_drew ?_ | refine blk_alloc ?_ _)); exact BK758.out) hg (Kd.R_ne HO_11.out BK758.out (by decide))); have n2_ := Aside0.mk (hb); have n3_ := Aside0.mk (ho); clear HO_12; clear BK758; clear HB; clear HO_11; have HO_12 := n0_; have BK758 := n1_; have HB := n2_; have HO764 := n3_; clear n0_ n1_ n2_ n3_; clear ho hb hg hat; have p765 : 0 ≤ (x13_1 : Int) := of_decide_eq_true (by first | (with_reducible assumption) | assumption); have q765 : x13_1 < (l3.length : Int) := of_decide_eq_true (by first | (with_reducible assumption) | assumption); obtain ⟨ad765, e765, hx765_0⟩ := Kd.at_int HR3.out x13_1 p765 q765; obtain rfl : ad756 = ad765 := (by injection e765); replace hx765_0 := (HB.out.cell (World.block_lt_of_cell? w _ hx765_0)).trans hx765_0; replace p765 := eq_true p765; replace q765 := eq_true q765) | ((with_reducible refine gate_builtin (b := .append) (xs := #[.tmp 58, .tmp 63]) rfl ?_); (try (refine gate_guard (by rfl) ?_; dsimp only)); at_builtin; refine Kd.R_append (Kd.int .i64) (w0 := w) w.heap.size rfl (.tmp 58) (.tmp 63) 24 3 (.int .i64 0) 8 rfl Tryd.underlying24 info3 rfl (by decide) (by omega) (.slice Ao26 x12_1.length co26) x12_1 (rd l3 x13_1) [.int .i64 (rd l3 x13_1)] (fun k_ => some k_ ≠ (v763 : Value).ownBlock) (fun _ => False) rfl rfl ?aP (fun _ hk => hk.elim) ?aF ?aO ?aB ?aS ?aL ?_; (case aP => exact rfl); (case aB => exact (by repeat (first | (with_reducible first | exact HB.out | apply below_alloc | apply pw_below_drewN | apply below_drew1 | refine below_set ?_ GE758.out) | exact HB.out))); (case aF => exact (fun k_ hk => Kd.fresh' (Kd.R_lt (by (with_reducible repeat (first | apply Kd.R_alloc | apply Kd.R_drewN | apply Kd.R_drew)); exact HO764.out)) k_ hk)); (case aO => exact (by (with_reducible repeat (first | apply Kd.R_alloc | apply Kd.R_drewN | apply Kd.R_drew)); exact Kd.R_mono HO_12.out (fun _ hk => hk.2))); (case aS => exact (below_size (by repeat (first | (with_reducible first | exact HB.out | apply below_alloc | apply pw_below_drewN | apply below_drew1 | refine below_set ?_ GE758.out) | exact HB.out)))); (case aL => have := LMc23.out; omega); intro v767 w28 ho hb hg hat; rw [← Ny766.out] at ho; have n0_ := Aside0.mk (blk_grown (g := gb758) (o := .cells #[.int .i64 ((rd_T39 l0 (rd l3 x13_1)).f0), .slice A757_1 ((rd_T39 l0 (rd l3 x13_1)).f1).length c757_1, .int .i64 ((rd_T39 l0 (rd l3 x13_1)).f2), .int .i64 ((rd_T39 l0 (rd l3 x13_1)).f3)] 39 (0, 0)) (by (with_reducible repeat (first | refine blk_drewN ?_ _ | refine blk_drew ?_ | refine blk_alloc ?_ _)); exact BK758.out) hg (Kd.R_ne HO_12.out BK758.out (by decide))); have n1_ := Aside0.mk (Kd.R_after (ok := (fun _ => True)) (by (with_reducible repeat (first | apply Kd.R_alloc | apply Kd.R_drewN | apply Kd.R_drew)); exact Kd.R_mono HO764.out (fun _ hk => ⟨trivial, hk⟩)) hg hat); have n2_ := Aside0.mk (hb); have n3_ := Aside0.mk (ho); clear BK758; clear HO764; clear HB; clear HO_12; have BK758 := n0_; have HO764 := n1_; have HB := n2_; have HO768 := n3_; clear n0_ n1_ n2_ n3_; clear ho hb hg hat)) | skip)
               go_roundg kj9
               case measure => have := HK1.out; have := HJ9.out; omega
               case rel => exact ⟨(y762), (y766), (wrap64 (x13_1 + 1)), (by first | rfl | (simp; done) | (simp [*]; done)), H', ⟨by have := HK1.out; have := HJ9.out; omega⟩, ⟨by (with_reducible repeat (first | apply Kd.R_alloc | apply Kd.R_drewN | apply Kd.R_drew)); exact Kd.R_mono HO764.out (fun _ hk => hk.2)⟩, ⟨by (with_reducible repeat (first | apply Kd.R_alloc | apply Kd.R_drewN | apply Kd.R_drew)); exact HO768.out⟩, ⟨by repeat (first | (with_reducible first | exact HB.out | apply below_alloc | apply pw_below_drewN | apply below_drew1 | refine below_set ?_ GE758.out) | exact HB.out)⟩⟩
              ·rw [if_neg c23] at H
               exact absurd H (by simp)
             ·rw [if_neg c22] at H
              exact absurd H (by simp)
            ·rw [if_neg c21] at H
             have c21b0 : decide ((wrap64 (t759 + ((rd_T39 l0 (rd l3 x13_1)).f3))) ≤ (rd l1 ((rd_T39 l0 (rd l3 x13_1)).f2))) = false := decide_eq_false c21
             have c21b9 : decide ((IntKind.i64.wrap (t759 + ((rd_T39 l0 (rd l3 x13_1)).f3))) ≤ (rd l1 ((rd_T39 l0 (rd l3 x13_1)).f2))) = false := by simp only [i64_w]; exact c21b0
             clear c21
             have H' := Aside0.mk H
             clear H
             have p756 : 0 ≤ (x13_1 : Int) := of_decide_eq_true (by first | (with_reducible assumption) | assumption)
             have q756 : x13_1 < (l3.length : Int) := of_decide_eq_true (by first | (with_reducible assumption) | assumption)
             obtain ⟨ad756, e756, hx756_0⟩ := Kd.at_int HR3.out x13_1 p756 q756
             cases e756
             replace hx756_0 := (HB.out.cell (World.block_lt_of_cell? w _ hx756_0)).trans hx756_0
             replace p756 := eq_true p756
             replace q756 := eq_true q756
             have p757 : 0 ≤ ((rd l3 x13_1) : Int) := of_decide_eq_true (by first | (with_reducible assumption) | assumption)
             have q757 : (rd l3 x13_1) < (l0.length : Int) := of_decide_eq_true (by first | (with_reducible assumption) | assumption)
             obtain ⟨ad757, A757_1, c757_1, e757, hx757_0, hx757_1, hx757_2, hx757_3, hl757_1, hi757_1⟩ := at_T39 HR0.out (rd l3 x13_1) p757 q757
             cases e757
             replace hx757_0 := (HB.out.cell (World.block_lt_of_cell? w _ hx757_0)).trans hx757_0
             replace hx757_1 := (HB.out.cell (World.block_lt_of_cell? w _ hx757_1)).trans hx757_1
             replace hx757_2 := (HB.out.cell (World.block_lt_of_cell? w _ hx757_2)).trans hx757_2
             replace hx757_3 := (HB.out.cell (World.block_lt_of_cell? w _ hx757_3)).trans hx757_3
             have HR757_1 := Aside0.mk hi757_1
             have HC757_1 := Aside0.mk hl757_1
             clear hi757_1 hl757_1
             replace p757 := eq_true p757
             replace q757 := eq_true q757
             iterate 7 (first | go_quiet (first | ((with_reducible refine gate_dst (N := 14) rfl ?_); (try (refine gate_guard (by rfl) ?_; dsimp only)); refine box_event ?hg (N := 14) ?hd (cs := #[.int .i64 0, .slice none 0 0, .int .i64 0, .int .i64 0]) (t := 39) ?hr ?_; (case hd => rfl); (case hg => rfl); (case hr => first | (go_simp; done) | (go_simp; rfl)); intro gb758 hg w29 hbox hb; have n0_ := Aside0.mk (Kd.R_below (by (with_reducible repeat (first | apply Kd.R_alloc | apply Kd.R_drewN | apply Kd.R_drew)); exact HO_11.out) hb); have n1_ := Aside0.mk (Kd.R_below (by (with_reducible repeat (first | apply Kd.R_alloc | apply Kd.R_drewN | apply Kd.R_drew)); exact HO_12.out) hb); have n2_ := Aside0.mk (below_step (by repeat (first | (with_reducible first | exact HB.out | apply below_alloc | apply pw_below_drewN | apply below_drew1) | exact HB.out)) hb); have n3_ := Aside0.mk (hbox); have n4_ := Aside0.mk ((by rw [hg]; exact (below_size (by repeat (first | (with_reducible first | exact HB.out | apply below_alloc | apply pw_below_drewN | apply below_drew1) | exact HB.out))) : w.heap.size ≤ gb758)); have n5_ := Aside0.mk ((by rw [hg]; exact (below_size (by repeat (first | (with_reducible first | exact HB.out | apply below_alloc | apply pw_below_drewN | apply below_drew1) | exact HB.out))) : w.heap.size ≤ gb758)); clear HO_11; clear HO_12; clear HB; have HO_11 := n0_; have HO_12 := n1_; have HB := n2_; have BK758 := n3_; have GW758 := n4_; have GE758 := n5_; clear n0_ n1_ n2_ n3_ n4_ n5_; clear hb hbox hg; have hcz30_0 : w29.cell? ⟨gb758, 0, none⟩ = some (.int .i64 0) := (blk_cell BK758.out 0).trans rfl; have hcz30_1 : w29.cell? ⟨gb758, 1, none⟩ = some (.slice none 0 0) := (blk_cell BK758.out 1).trans rfl; have hcz30_2 : w29.cell? ⟨gb758, 2, none⟩ = some (.int .i64 0) := (blk_cell BK758.out 2).trans rfl; have hcz30_3 : w29.cell? ⟨gb758, 3, none⟩ = some (.int .i64 0) := (blk_cell BK758.out 3).trans rfl; have hfz30_0 := blk_frozen BK758.out 0; have hfz30_1 := blk_frozen BK758.out 1; have hfz30_2 := blk_frozen BK758.out 2; have hfz30_3 := blk_frozen BK758.out 3; obtain ⟨Ao31, co31, eo31⟩ := Kd.R_slice HO_12.out; subst eo31) | (go_at_call 95; (with_reducible refine (spec_used.calls kj9 _ _ l0 _ _ x12_1 ((rd_T39 l0 (rd l3 x13_1)).f2) t759 _ ?side1 ?side2 ?side3 ?side4 A18.out).mono ?_); (case side1 => exact Kd.C_below HR0.out (by repeat (first | (with_reducible first | exact HB.out | apply below_alloc | apply pw_below_drewN | apply below_drew1 | refine below_set ?_ GE758.out) | exact HB.out))); (case side2 => exact HC0.out); (case side3 => refine (Kd.R_reads' (e := 3) (base := w.heap.size) (ok := fun k_ => some k_ ≠ (u11 : Value).ownBlock) (n := x12_1.length) (c := co31) ?_).2.2; exact (by (with_reducible repeat (first | apply Kd.R_alloc | apply Kd.R_drewN | apply Kd.R_drew)); exact (Kd.R_mono (Kd.R_far (p := ⟨gb758, 3, none⟩) (Kd.R_far (p := ⟨gb758, 2, none⟩) (Kd.R_far (p := ⟨gb758, 1, none⟩) (Kd.R_far (p := ⟨gb758, 0, none⟩) (Kd.R_types HO_12.out BK758.out (by decide)) (fun _ hk => hk.2) (.int .i64 ((rd_T39 l0 (rd l3 x13_1)).f0))) (fun _ hk => hk.2) (.slice A757_1 ((rd_T39 l0 (rd l3 x13_1)).f1).length c757_1)) (fun _ hk => hk.2) (.int .i64 ((rd_T39 l0 (rd l3 x13_1)).f2))) (fun _ hk => hk.2) (.int .i64 ((rd_T39 l0 (rd l3 x13_1)).f3))) (fun _ h_ => h_.1)))); (case side4 => exact (Kd.R_reads' HO_12.out).2.1); rintro e w' ⟨rfl, ⟨nd, rfl⟩⟩; (try first | exact ⟨rfl, _, World.drewN_drewN _ _ _⟩ | exact ⟨rfl, _, Eq.trans (World.drewN_drewN _ _ _) (congrArg (World.drewN _) (Nat.add_assoc _ _ _))⟩); have p760 : 0 ≤ (((rd_T39 l0 (rd l3 x13_1)).f2) : Int) := of_decide_eq_true (by first | (with_reducible assumption) | assumption); have q760 : ((rd_T39 l0 (rd l3 x13_1)).f2) < (l1.length : Int) := of_decide_eq_true (by first | (with_reducible assumption) | assumption); obtain ⟨ad760, e760, hx760_0⟩ := Kd.at_int HR1.out ((rd_T39 l0 (rd l3 x13_1)).f2) p760 q760; cases e760; have hn760_0 : ad760.block ≠ gb758 := Nat.ne_of_lt (Nat.lt_of_lt_of_le (by have := World.block_lt_of_cell? _ _ hx760_0; first | rwa [add_block] at this | exact this) GW758.out); have hn760_1 : ad760.block ≠ gb758 := Nat.ne_of_lt (Nat.lt_of_lt_of_le (by have := World.block_lt_of_cell? _ _ hx760_0; first | rwa [add_block] at this | exact this) GW758.out); have hn760_2 : ad760.block ≠ gb758 := Nat.ne_of_lt (Nat.lt_of_lt_of_le (by have := World.block_lt_of_cell? _ _ hx760_0; first | rwa [add_block] at this | exact this) GW758.out); have hn760_3 : ad760.block ≠ gb758 := Nat.ne_of_lt (Nat.lt_of_lt_of_le (by have := World.block_lt_of_cell? _ _ hx760_0; first | rwa [add_block] at this | exact this) GW758.out); replace hx760_0 := (HB.out.cell (World.block_lt_of_cell? w _ hx760_0)).trans hx760_0; replace hx760_0 := (cell_far (p := ⟨gb758, 0, none⟩) (by first | (rw [add_block]; exact hn760_0) | (show (Addr.add _ _).block ≠ _; rw [add_block]; exact hn760_0) | exact hn760_0) (.int .i64 ((rd_T39 l0 (rd l3 x13_1)).f0))).trans hx760_0; replace hx760_0 := (cell_far (p := ⟨gb758, 1, none⟩) (by first | (rw [add_block]; exact hn760_1) | (show (Addr.add _ _).block ≠ _; rw [add_block]; exact hn760_1) | exact hn760_1) (.slice A757_1 ((rd_T39 l0 (rd l3 x13_1)).f1).length c757_1)).trans hx760_0; replace hx760_0 := (cell_far (p := ⟨gb758, 2, none⟩) (by first | (rw [add_block]; exact hn760_2) | (show (Addr.add _ _).block ≠ _; rw [add_block]; exact hn760_2) | exact hn760_2) (.int .i64 ((rd_T39 l0 (rd l3 x13_1)).f2))).trans hx760_0; replace hx760_0 := (cell_far (p := ⟨gb758, 3, none⟩) (by first | (rw [add_block]; exact hn760_3) | (show (Addr.add _ _).block ≠ _; rw [add_block]; exact hn760_3) | exact hn760_3) (.int .i64 ((rd_T39 l0 (rd l3 x13_1)).f3))).trans hx760_0; (try have hy760_0 := fun (n_ : Nat) => (show ((((((w29.drewN n_).setCell ⟨gb758, 0, none⟩ (.int .i64 ((rd_T39 l0 (rd l3 x13_1)).f0))).setCell ⟨gb758, 1, none⟩ (.slice A757_1 ((rd_T39 l0 (rd l3 x13_1)).f1).length c757_1)).setCell ⟨gb758, 2, none⟩ (.int .i64 ((rd_T39 l0 (rd l3 x13_1)).f2))).setCell ⟨gb758, 3, none⟩ (.int .i64 ((rd_T39 l0 (rd l3 x13_1)).f3)))).cell? _ = some _ from hx760_0)); clear hn760_0; clear hn760_1; clear hn760_2; clear hn760_3; replace p760 := eq_true p760; replace q760 := eq_true q760)) | go_wp2_with (first | ((with_reducible refine gate_dst (N := 14) rfl ?_); (try (refine gate_guard (by rfl) ?_; dsimp only)); refine box_event ?hg (N := 14) ?hd (cs := #[.int .i64 0, .slice none 0 0, .int .i64 0, .int .i64 0]) (t := 39) ?hr ?_; (case hd => rfl); (case hg => rfl); (case hr => first | (go_simp; done) | (go_simp; rfl)); intro gb758 hg w29 hbox hb; have n0_ := Aside0.mk (Kd.R_below (by (with_reducible repeat (first | apply Kd.R_alloc | apply Kd.R_drewN | apply Kd.R_drew)); exact HO_11.out) hb); have n1_ := Aside0.mk (Kd.R_below (by (with_reducible repeat (first | apply Kd.R_alloc | apply Kd.R_drewN | apply Kd.R_drew)); exact HO_12.out) hb); have n2_ := Aside0.mk (below_step (by repeat (first | (with_reducible first | exact HB.out | apply below_alloc | apply pw_below_drewN | apply below_drew1) | exact HB.out)) hb); have n3_ := Aside0.mk (hbox); have n4_ := Aside0.mk ((by rw [hg]; exact (below_size (by repeat (first | (with_reducible first | exact HB.out | apply below_alloc | apply pw_below_drewN | apply below_drew1) | exact HB.out))) : w.heap.size ≤ gb758)); have n5_ := Aside0.mk ((by rw [hg]; exact (below_size (by repeat (first | (with_reducible first | exact HB.out | apply below_alloc | apply pw_below_drewN | apply below_drew1) | exact HB.out))) : w.heap.size ≤ gb758)); clear HO_11; clear HO_12; clear HB; have HO_11 := n0_; have HO_12 := n1_; have HB := n2_; have BK758 := n3_; have GW758 := n4_; have GE758 := n5_; clear n0_ n1_ n2_ n3_ n4_ n5_; clear hb hbox hg; have hcz30_0 : w29.cell? ⟨gb758, 0, none⟩ = some (.int .i64 0) := (blk_cell BK758.out 0).trans rfl; have hcz30_1 : w29.cell? ⟨gb758, 1, none⟩ = some (.slice none 0 0) := (blk_cell BK758.out 1).trans rfl; have hcz30_2 : w29.cell? ⟨gb758, 2, none⟩ = some (.int .i64 0) := (blk_cell BK758.out 2).trans rfl; have hcz30_3 : w29.cell? ⟨gb758, 3, none⟩ = some (.int .i64 0) := (blk_cell BK758.out 3).trans rfl; have hfz30_0 := blk_frozen BK758.out 0; have hfz30_1 := blk_frozen BK758.out 1; have hfz30_2 := blk_frozen BK758.out 2; have hfz30_3 := blk_frozen BK758.out 3; obtain ⟨Ao31, co31, eo31⟩ := Kd.R_slice HO_12.out; subst eo31) | (go_at_call 95; (with_reducible refine (spec_used.calls kj9 _ _ l0 _ _ x12_1 ((rd_T39 l0 (rd l3 x13_1)).f2) t759 _ ?side1 ?side2 ?side3 ?side4 A18.out).mono ?_); (case side1 => exact Kd.C_below HR0.out (by repeat (first | (with_reducible first | exact HB.out | apply below_alloc | apply pw_below_drewN | apply below_drew1 | refine below_set ?_ GE758.out) | exact HB.out))); (case side2 => exact HC0.out); (case side3 => refine (Kd.R_reads' (e := 3) (base := w.heap.size) (ok := fun k_ => some k_ ≠ (u11 : Value).ownBlock) (n := x12_1.length) (c := co31) ?_).2.2; exact (by (with_reducible repeat (first | apply Kd.R_alloc | apply Kd.R_drewN | apply Kd.R_drew)); exact (Kd.R_mono (Kd.R_far (p := ⟨gb758, 3, none⟩) (Kd.R_far (p := ⟨gb758, 2, none⟩) (Kd.R_far (p := ⟨gb758, 1, none⟩) (Kd.R_far (p := ⟨gb758, 0, none⟩) (Kd.R_types HO_12.out BK758.out (by decide)) (fun _ hk => hk.2) (.int .i64 ((rd_T39 l0 (rd l3 x13_1)).f0))) (fun _ hk => hk.2) (.slice A757_1 ((rd_T39 l0 (rd l3 x13_1)).f1).length c757_1)) (fun _ hk => hk.2) (.int .i64 ((rd_T39 l0 (rd l3 x13_1)).f2))) (fun _ hk => hk.2) (.int .i64 ((rd_T39 l0 (rd l3 x13_1)).f3))) (fun _ h_ => h_.1)))); (case side4 => exact (Kd.R_reads' HO_12.out).2.1); rintro e w' ⟨rfl, ⟨nd, rfl⟩⟩; (try first | exact ⟨rfl, _, World.drewN_drewN _ _ _⟩ | exact ⟨rfl, _, Eq.trans (World.drewN_drewN _ _ _) (congrArg (World.drewN _) (Nat.add_assoc _ _ _))⟩); have p760 : 0 ≤ (((rd_T39 l0 (rd l3 x13_1)).f2) : Int) := of_decide_eq_true (by first | (with_reducible assumption) | assumption); have q760 : ((rd_T39 l0 (rd l3 x13_1)).f2) < (l1.length : Int) := of_decide_eq_true (by first | (with_reducible assumption) | assumption); obtain ⟨ad760, e760, hx760_0⟩ := Kd.at_int HR1.out ((rd_T39 l0 (rd l3 x13_1)).f2) p760 q760; cases e760; have hn760_0 : ad760.block ≠ gb758 := Nat.ne_of_lt (Nat.lt_of_lt_of_le (by have := World.block_lt_of_cell? _ _ hx760_0; first | rwa [add_block] at this | exact this) GW758.out); have hn760_1 : ad760.block ≠ gb758 := Nat.ne_of_lt (Nat.lt_of_lt_of_le (by have := World.block_lt_of_cell? _ _ hx760_0; first | rwa [add_block] at this | exact this) GW758.out); have hn760_2 : ad760.block ≠ gb758 := Nat.ne_of_lt (Nat.lt_of_lt_of_le (by have := World.block_lt_of_cell? _ _ hx760_0; first | rwa [add_block] at this | exact this) GW758.out); have hn760_3 : ad760.block ≠ gb758 := Nat.ne_of_lt (Nat.lt_of_lt_of_le (by have := World.block_lt_of_cell? _ _ hx760_0; first | rwa [add_block] at this | exact this) GW758.out); replace hx760_0 := (HB.out.cell (World.block_lt_of_cell? w _ hx760_0)).trans hx760_0; replace hx760_0 := (cell_far (p := ⟨gb758, 0, none⟩) (by first | (rw [add_block]; exact hn760_0) | (show (Addr.add _ _).block ≠ _; rw [add_block]; exact hn760_0) | exact hn760_0) (.int .i64 ((rd_T39 l0 (rd l3 x13_1)).f0))).trans hx760_0; replace hx760_0 := (cell_far (p := ⟨gb758, 1, none⟩) (by first | (rw [add_block]; exact hn760_1) | (show (Addr.add _ _).block ≠ _; rw [add_block]; exact hn760_1) | exact hn760_1) (.slice A757_1 ((rd_T39 l0 (rd l3 x13_1)).f1).length c757_1)).trans hx760_0; replace hx760_0 := (cell_far (p := ⟨gb758, 2, none⟩) (by first | (rw [add_block]; exact hn760_2) | (show (Addr.add _ _).block ≠ _; rw [add_block]; exact hn760_2) | exact hn760_2) (.int .i64 ((rd_T39 l0 (rd l3 x13_1)).f2))).trans hx760_0; replace hx760_0 := (cell_far (p := ⟨gb758, 3, none⟩) (by first | (rw [add_block]; exact hn760_3) | (show (Addr.add _ _).block ≠ _; rw [add_block]; exact hn760_3) | exact hn760_3) (.int .i64 ((rd_T39 l0 (rd l3 x13_1)).f3))).trans hx760_0; (try have hy760_0 := fun (n_ : Nat) => (show ((((((w29.drewN n_).setCell ⟨gb758, 0, none⟩ (.int .i64 ((rd_T39 l0 (rd l3 x13_1)).f0))).setCell ⟨gb758, 1, none⟩ (.slice A757_1 ((rd_T39 l0 (rd l3 x13_1)).f1).length c757_1)).setCell ⟨gb758, 2, none⟩ (.int .i64 ((rd_T39 l0 (rd l3 x13_1)).f2))).setCell ⟨gb758, 3, none⟩ (.int .i64 ((rd_T39 l0 (rd l3 x13_1)).f3)))).cell? _ = some _ from hx760_0)); clear hn760_0; clear hn760_1; clear hn760_2; clear hn760_3; replace p760 := eq_true p760; replace q760 := eq_true q760)) | skip)
             go_roundg kj9
             case measure => have := HK1.out; have := HJ9.out; omega
             case rel => exact ⟨(x11_1), (x12_1), (wrap64 (x13_1 + 1)), (by first | rfl | (simp; done) | (simp [*]; done)), H', ⟨by have := HK1.out; have := HJ9.out; omega⟩, ⟨by (with_reducible repeat (first | apply Kd.R_alloc | apply Kd.R_drewN | apply Kd.R_drew)); exact Kd.R_mono (Kd.R_far (p := ⟨gb758, 3, none⟩) (Kd.R_far (p := ⟨gb758, 2, none⟩) (Kd.R_far (p := ⟨gb758, 1, none⟩) (Kd.R_far (p := ⟨gb758, 0, none⟩) (Kd.R_types HO_11.out BK758.out (by decide)) (fun _ hk => hk.2) (.int .i64 ((rd_T39 l0 (rd l3 x13_1)).f0))) (fun _ hk => hk.2) (.slice A757_1 ((rd_T39 l0 (rd l3 x13_1)).f1).length c757_1)) (fun _ hk => hk.2) (.int .i64 ((rd_T39 l0 (rd l3 x13_1)).f2))) (fun _ hk => hk.2) (.int .i64 ((rd_T39 l0 (rd l3 x13_1)).f3))) (fun _ hk => hk.1)⟩, ⟨by (with_reducible repeat (first | apply Kd.R_alloc | apply Kd.R_drewN | apply Kd.R_drew)); exact Kd.R_mono (Kd.R_far (p := ⟨gb758, 3, none⟩) (Kd.R_far (p := ⟨gb758, 2, none⟩) (Kd.R_far (p := ⟨gb758, 1, none⟩) (Kd.R_far (p := ⟨gb758, 0, none⟩) (Kd.R_types HO_12.out BK758.out (by decide)) (fun _ hk => hk.2) (.int .i64 ((rd_T39 l0 (rd l3 x13_1)).f0))) (fun _ hk => hk.2) (.slice A757_1 ((rd_T39 l0 (rd l3 x13_1)).f1).length c757_1)) (fun _ hk => hk.2) (.int .i64 ((rd_T39 l0 (rd l3 x13_1)).f2))) (fun _ hk => hk.2) (.int .i64 ((rd_T39 l0 (rd l3 x13_1)).f3))) (fun _ hk => hk.1)⟩, ⟨by repeat (first | (with_reducible first | exact HB.out | apply below_alloc | apply pw_below_drewN | apply below_drew1 | refine below_set ?_ GE758.out) | exact HB.out)⟩⟩
           ·rw [if_neg c20] at H
            exact absurd H (by simp)
          ·rw [if_neg c19] at H
           exact absurd H (by simp)
         ·rw [if_neg c17] at H
          exact absurd H (by simp)
        ·rw [if_neg c16] at H
         exact absurd H (by simp)
       ·rw [if_neg c15] at H
        exact absurd H (by simp)
      ·rw [if_neg c14] at H
       exact absurd H (by simp)
     ·replace c13 := Bool.eq_false_iff.mpr c13
      subst c13
      have H1 : (some x11_1) = some r := by rw [if_neg (show ¬ (false = true) by decide)] at H; exact H
      clear H
      have H := H1
      clear H1
      obtain rfl := Option.some.inj H
      go_wp2
      repeat (go_quiet (fail); try go_wp2)
      go_ret
      exact ⟨_, by first | rfl | (simp [errW_none, errW_some] <;> rfl) | (simp [*, errW_none, errW_some] <;> rfl), by (with_reducible repeat (first | apply Kd.R_alloc | apply Kd.R_drewN | apply Kd.R_drew)); exact Kd.R_mono HO_11.out (fun _ hk => trivial), by repeat (first | (with_reducible first | exact HB.out | apply below_alloc | apply pw_below_drewN | apply below_drew1) | exact HB.out)⟩
end Go.Proofs.YtajapkjplgaigaaDoor.P
end
