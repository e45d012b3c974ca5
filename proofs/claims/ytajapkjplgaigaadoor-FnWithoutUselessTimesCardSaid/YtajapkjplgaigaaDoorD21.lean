/- Merged texts of one claim: part 24 of what the statement's proof stands on. No condition. -/
import Derived.Test.YtajapkjplgaigaaDoorD20
import Derived.RangeFuncNested
import Derived.RangeFuncBound
import Derived.RangeFuncCalls
import Derived.RangeFuncLeaves
import Derived.WalkKit
import Derived.OwnWalkIn
import Derived.TacticsInMore
import Derived.LoopNIn
import Derived.LoopIn
import Derived.Lib.TrailingZeros
import Derived.Laws.BitsLemmas
import Derived.Shelf.Abstract
import Derived.Test.YtajapkjplgaigaaDoorD2WMore
import Derived.Test.YtajapkjplgaigaaDoorProg
import Derived.OrdersIn
import Derived.StillTail
import Derived.Deep.Quiet
import Derived.Outline
import Derived.StillTailTactics
import Derived.Laws.OwnMore
import Derived.Laws.BitsAllLaws
import Derived.Deep.LoopGhost
import Derived.Laws.MakeOwn
section
namespace Go.Proofs.YtajapkjplgaigaaDoor.P
open Go.Proofs.YtajapkjplgaigaaDoor Go.RowKit Go.Proofs.YtajapkjplgaigaaDoorW.PrintWords Go.Proofs.YtajapkjplgaigaaDoorW.PrintLast Go.Proofs.YtajapkjplgaigaaDoorW.PrintMore
attribute [local go_sem] max2_int min2_int max_two min_two max_three min_three max_four min_four   -- for this text's walks alone
set_option linter.unusedVariables false
set_option linter.unusedSimpArgs false
def spec_anyGraph.f (k : Nat) (s0_0 : List Int) (s0_1 : Int) : Option ((List (S39)) × Int) := (spec_someGraph.f k s0_0 s0_1 8).bind fun bt181 => (if (bt181.1.length : Int) = 0 then (some (bt181.1, bt181.2)) else ((spec_reader_pick.f k s0_0 bt181.2 (bt181.1.length : Int)).bind fun bt185 => ((spec_reader_pick.f k s0_0 bt185.2 24).bind fun bt187 => (if bt187.1 = 0 then ((spec_reader_one.f k s0_0 bt187.2 (([0, 21, 20] : List Int))).bind fun bt192 => (if 0 ≤ bt185.1 then (if bt185.1 < (bt181.1.length : Int) then (some ((bt181.1.set (bt185.1 : Int).toNat (⟨bt192.1, (rd_T39 bt181.1 bt185.1).f1, (rd_T39 bt181.1 bt185.1).f2, (rd_T39 bt181.1 bt185.1).f3⟩ : S39)), bt192.2)) else (none)) else (none))) else (if bt187.1 = 1 then (if 0 ≤ bt185.1 then (if bt185.1 < (bt181.1.length : Int) then ((some ((rd_T39 bt181.1 bt185.1).f1 : List Int)).bind fun y196 => ((spec_reader_pick.f k s0_0 bt187.2 (bt181.1.length : Int)).bind fun bt199 => ((some (([bt199.1] : List Int) : List Int)).bind fun y201 => (if y196.length + y201.length < 17592186044416 then ((spec_reader_spoil.f k s0_0 bt199.2 (y196 ++ y201) 8).bind fun bt207 => (some ((bt181.1.set (bt185.1 : Int).toNat (⟨(rd_T39 bt181.1 bt185.1).f0, bt207.1, (rd_T39 bt181.1 bt185.1).f2, (rd_T39 bt181.1 bt185.1).f3⟩ : S39)), bt207.2))) else (none))))) else (none)) else (none)) else (if bt187.1 = 2 then ((spec_reader_one.f k s0_0 bt187.2 (([(-1), 3] : List Int))).bind fun bt215 => (if 0 ≤ bt185.1 then (if bt185.1 < (bt181.1.length : Int) then (some ((bt181.1.set (bt185.1 : Int).toNat (⟨(rd_T39 bt181.1 bt185.1).f0, (rd_T39 bt181.1 bt185.1).f1, bt215.1, (rd_T39 bt181.1 bt185.1).f3⟩ : S39)), bt215.2)) else (none)) else (none))) else (if bt187.1 = 3 then ((spec_reader_one.f k s0_0 bt187.2 (([0, 5] : List Int))).bind fun bt221 => (if 0 ≤ bt185.1 then (if bt185.1 < (bt181.1.length : Int) then (some ((bt181.1.set (bt185.1 : Int).toNat (⟨(rd_T39 bt181.1 bt185.1).f0, (rd_T39 bt181.1 bt185.1).f1, (rd_T39 bt181.1 bt185.1).f2, bt221.1⟩ : S39)), bt221.2)) else (none)) else (none))) else (if bt187.1 = 4 then ((spec_someGraph.f k s0_0 bt187.2 8).bind fun bt224 => (if bt181.1.length + bt224.1.length < 2932031007402 then (some ((bt181.1 ++ bt224.1), bt224.2)) else (none))) else (some (bt181.1, bt187.2))))))))))
def spec_anyGraph.T9 : Bool × List (List Nat × List Nat) := (true, [([], []), ([], []), ([], []), ([], []), ([], []), ([3, 4], [3, 4]), ([5], [5]), ([6], [6]), ([], []), ([], []), ([9], [9]), ([8, 10], [8, 10]), ([11], [11]), ([7, 12, 11], [7, 12]), ([2, 13, 13], [2, 13]), ([0, 1, 0, 1, 2, 3, 4, 5, 6, 7, 8, 9, 10, 11, 12, 13, 14], [0, 1]), ([15, 0, 1, 2, 3, 4, 5, 6, 7, 8, 9, 10, 11, 12, 13, 14], [15]), ([16, 14, 14, 0, 1, 2, 3, 4, 5, 6, 7, 8, 9, 10, 11, 12, 13, 14], [14, 16])])
def spec_anyGraph.B9 : List Nat := [0, 0, 0, 0, 0, 24, 56, 120, 0, 0, 512, 1792, 3840, 8184, 16380, 32767, 65535, 131071]
theorem spec_anyGraph.tab9 : rtab .any (opsOf Tryd.f56 9) = spec_anyGraph.T9 := by kernel_rfl
theorem spec_anyGraph.bits9 : waitsOk spec_anyGraph.T9.2 spec_anyGraph.B9 = true := by kernel_rfl
set_option maxHeartbeats 8000000 in
set_option maxRecDepth 100000 in
theorem spec_anyGraph.calls (k : Nat) (g : Nat) (s0_0 : List Int) (s0_1 : Int) (r1 : List (S39)) (r2 : Int) (w0 w : World) (hI : IsS97 w0 w g s0_0 s0_1) (hB : Below w0.heap.size w0 w) (h : spec_anyGraph.f k s0_0 s0_1 = some (r1, r2)) :
  Calls Tryd.prog 56 #[.pointer (some ⟨g, 0, none⟩)] w fun e w' => ∃ v0_ : Value, e = .returned (v0_) ∧ Kd.N k39 39 w' w.heap.size (fun k_ => (w.heap.size ≤ k_)) v0_ r1 ∧ IsS97 w0 w' g s0_0 r2 ∧ Below w0.heap.size w0 w' ∧ KeepBut w w' g none := by
 have HI0 := Aside0.mk hI
 have HK := Aside0.mk (KeepBut.refl w g none)
 have HL := Aside0.mk hB.size
 clear hI
 have HW0 := Aside0.mk hB.size
 have HB := Aside0.mk hB
 clear hB
 have H : ((spec_someGraph.f k s0_0 s0_1 8).bind fun bt181 => (if (bt181.1.length : Int) = 0 then (some (bt181.1, bt181.2)) else ((spec_reader_pick.f k s0_0 bt181.2 (bt181.1.length : Int)).bind fun bt185 => ((spec_reader_pick.f k s0_0 bt185.2 24).bind fun bt187 => (if bt187.1 = 0 then ((spec_reader_one.f k s0_0 bt187.2 (([0, 21, 20] : List Int))).bind fun bt192 => (if 0 ≤ bt185.1 then (if bt185.1 < (bt181.1.length : Int) then (some ((bt181.1.set (bt185.1 : Int).toNat (⟨bt192.1, (rd_T39 bt181.1 bt185.1).f1, (rd_T39 bt181.1 bt185.1).f2, (rd_T39 bt181.1 bt185.1).f3⟩ : S39)), bt192.2)) else (none)) else (none))) else (if bt187.1 = 1 then (if 0 ≤ bt185.1 then (if bt185.1 < (bt181.1.length : Int) then ((some ((rd_T39 bt181.1 bt185.1).f1 : List Int)).bind fun y196 => ((spec_reader_pick.f k s0_0 bt187.2 (bt181.1.length : Int)).bind fun bt199 => ((some (([bt199.1] : List Int) : List Int)).bind fun y201 => (if y196.length + y201.length < 17592186044416 then ((spec_reader_spoil.f k s0_0 bt199.2 (y196 ++ y201) 8).bind fun bt207 => (some ((bt181.1.set (bt185.1 : Int).toNat (⟨(rd_T39 bt181.1 bt185.1).f0, bt207.1, (rd_T39 bt181.1 bt185.1).f2, (rd_T39 bt181.1 bt185.1).f3⟩ : S39)), bt207.2))) else (none))))) else (none)) else (none)) else (if bt187.1 = 2 then ((spec_reader_one.f k s0_0 bt187.2 (([(-1), 3] : List Int))).bind fun bt215 => (if 0 ≤ bt185.1 then (if bt185.1 < (bt181.1.length : Int) then (some ((bt181.1.set (bt185.1 : Int).toNat (⟨(rd_T39 bt181.1 bt185.1).f0, (rd_T39 bt181.1 bt185.1).f1, bt215.1, (rd_T39 bt181.1 bt185.1).f3⟩ : S39)), bt215.2)) else (none)) else (none))) else (if bt187.1 = 3 then ((spec_reader_one.f k s0_0 bt187.2 (([0, 5] : List Int))).bind fun bt221 => (if 0 ≤ bt185.1 then (if bt185.1 < (bt181.1.length : Int) then (some ((bt181.1.set (bt185.1 : Int).toNat (⟨(rd_T39 bt181.1 bt185.1).f0, (rd_T39 bt181.1 bt185.1).f1, (rd_T39 bt181.1 bt185.1).f2, bt221.1⟩ : S39)), bt221.2)) else (none)) else (none))) else (if bt187.1 = 4 then ((spec_someGraph.f k s0_0 bt187.2 8).bind fun bt224 => (if bt181.1.length + bt224.1.length < 2932031007402 then (some ((bt181.1 ++ bt224.1), bt224.2)) else (none))) else (some (bt181.1, bt187.2))))))))))) = some (r1, r2) := h
 clear h
 replace H := Option.bind_eq_some_iff.mp H
 obtain ⟨⟨t181, t184⟩, A20, H⟩ := H
 replace H : (if (t181.length : Int) = 0 then (some (t181, t184)) else ((spec_reader_pick.f k s0_0 t184 (t181.length : Int)).bind fun bt185 => ((spec_reader_pick.f k s0_0 bt185.2 24).bind fun bt187 => (if bt187.1 = 0 then ((spec_reader_one.f k s0_0 bt187.2 (([0, 21, 20] : List Int))).bind fun bt192 => (if 0 ≤ bt185.1 then (if bt185.1 < (t181.length : Int) then (some ((t181.set (bt185.1 : Int).toNat (⟨bt192.1, (rd_T39 t181 bt185.1).f1, (rd_T39 t181 bt185.1).f2, (rd_T39 t181 bt185.1).f3⟩ : S39)), bt192.2)) else (none)) else (none))) else (if bt187.1 = 1 then (if 0 ≤ bt185.1 then (if bt185.1 < (t181.length : Int) then ((some ((rd_T39 t181 bt185.1).f1 : List Int)).bind fun y196 => ((spec_reader_pick.f k s0_0 bt187.2 (t181.length : Int)).bind fun bt199 => ((some (([bt199.1] : List Int) : List Int)).bind fun y201 => (if y196.length + y201.length < 17592186044416 then ((spec_reader_spoil.f k s0_0 bt199.2 (y196 ++ y201) 8).bind fun bt207 => (some ((t181.set (bt185.1 : Int).toNat (⟨(rd_T39 t181 bt185.1).f0, bt207.1, (rd_T39 t181 bt185.1).f2, (rd_T39 t181 bt185.1).f3⟩ : S39)), bt207.2))) else (none))))) else (none)) else (none)) else (if bt187.1 = 2 then ((spec_reader_one.f k s0_0 bt187.2 (([(-1), 3] : List Int))).bind fun bt215 => (if 0 ≤ bt185.1 then (if bt185.1 < (t181.length : Int) then (some ((t181.set (bt185.1 : Int).toNat (⟨(rd_T39 t181 bt185.1).f0, (rd_T39 t181 bt185.1).f1, bt215.1, (rd_T39 t181 bt185.1).f3⟩ : S39)), bt215.2)) else (none)) else (none))) else (if bt187.1 = 3 then ((spec_reader_one.f k s0_0 bt187.2 (([0, 5] : List Int))).bind fun bt221 => (if 0 ≤ bt185.1 then (if bt185.1 < (t181.length : Int) then (some ((t181.set (bt185.1 : Int).toNat (⟨(rd_T39 t181 bt185.1).f0, (rd_T39 t181 bt185.1).f1, (rd_T39 t181 bt185.1).f2, bt221.1⟩ : S39)), bt221.2)) else (none)) else (none))) else (if bt187.1 = 4 then ((spec_someGraph.f k s0_0 bt187.2 8).bind fun bt224 => (if t181.length + bt224.1.length < 2932031007402 then (some ((t181 ++ bt224.1), bt224.2)) else (none))) else (some (t181, bt187.2)))))))))) = some (r1, r2) := H
 have A2 := Aside0.mk A20
 clear A20
 by_cases c3 : (t181.length : Int) = 0
 ·rw [if_pos c3] at H
  have c3b0 : ((t181.length : Int) == 0) = true := beq_iff_eq.mpr c3
  have c3b1 : ((t181.length : Int) != 0) = false := bne_eq_false_iff_eq.mpr c3
  clear c3
  simp only [Option.some.injEq, Prod.mk.injEq] at H
  obtain ⟨rfl, rfl⟩ := H
  go_enter Tryd.func56, Tryd.ntmps56
  go_wp2_with (first | ((with_reducible refine gate_callee (f := 88) rfl ?_); refine goesL_ (some 6) rfl rfl Tryd.func88 (by kernel_rfl) rfl #[.pointer (some ⟨g, 0, none⟩), .int .i64 8] rfl (by (try simp only [List.map_toArray, List.map_cons, List.map_nil]); first | done | rfl | (simp only [List.length_drop, List.length_take]; rfl)) ?_; (with_reducible refine (spec_someGraph.calls k g s0_0 s0_1 8 t181 t184 w0 _ ?side1 ?side2 A2.out).mono ?_); (case side1 => repeat (first | (with_reducible first | exact HI0.out | apply IsS97.alloc | apply IsS97.drewN | apply IsS97.drew | apply IsS97.set_1) | exact HI0.out)); (case side2 => repeat (first | (with_reducible first | exact HB.out | apply below_alloc | apply pw_below_drewN | apply below_drew1 | refine below_set ?_ (IsS97.ge HI0.out)) | exact HB.out)); rintro e w4 ⟨v182, rfl, ho0, hi, hb, hk⟩; refine ⟨_, rfl, ?_⟩; have n0_ := Aside0.mk (Kd.N_lower (Kd.N_mono (ok' := fun k_ => (w.heap.size ≤ k_) ∧ k_ ≠ g) (Kd.S_N (Kd.S_bound ho0)) (fun k_ hk_ => ⟨(Nat.le_trans (keep_size (w := w) (g := g) (row := none) (by repeat (first | (with_reducible first | exact HK.out | apply KeepBut.set_ | apply keep_drewN | apply keep_drew | apply keep_alloc) | exact HK.out))) hk_.2.1), (IsS97.fresh (by repeat (first | (with_reducible first | exact HI0.out | apply IsS97.alloc | apply IsS97.drewN | apply IsS97.drew | apply IsS97.set_1) | exact HI0.out)) k_ hk_.2.1)⟩)) (keep_size (w := w) (g := g) (row := none) (by repeat (first | (with_reducible first | exact HK.out | apply KeepBut.set_ | apply keep_drewN | apply keep_drew | apply keep_alloc) | exact HK.out)))); have n1_ := Aside0.mk (KeepBut.trans (by repeat (first | (with_reducible first | exact HK.out | apply KeepBut.set_ | apply keep_drewN | apply keep_drew | apply keep_alloc) | exact HK.out)) hk (.inl rfl)); have n2_ := Aside0.mk (hb); have n3_ := Aside0.mk (hi); clear HK; clear HB; clear HI0; have HO183 := n0_; have HK := n1_; have HB := n2_; have HI0 := n3_; clear n0_ n1_ n2_ n3_; (try clear hb); (try clear hb2); (try clear hk); (try clear hi); (try clear ho0); obtain ⟨Ao5, co5, eo5⟩ := Kd.N_slice HO183.out; subst eo5))
  go_ret
  exact ⟨_, by first | rfl | (simp [errW_none, errW_some] <;> rfl) | (simp [*, errW_none, errW_some] <;> rfl), by (with_reducible repeat (first | apply Kd.N_alloc | apply Kd.N_drewN | apply Kd.N_drew)); exact Kd.N_mono HO183.out (fun _ hk => hk.1), by repeat (first | (with_reducible first | exact HI0.out | apply IsS97.alloc | apply IsS97.drewN | apply IsS97.drew | apply IsS97.set_1) | exact HI0.out), by repeat (first | (with_reducible first | exact HB.out | apply below_alloc | apply pw_below_drewN | apply below_drew1 | refine below_set ?_ (IsS97.ge HI0.out)) | exact HB.out), by repeat (first | (with_reducible first | exact HK.out | apply KeepBut.set_ | apply keep_drewN | apply keep_drew | apply keep_alloc) | exact HK.out)⟩
 ·rw [if_neg c3] at H
  have c3b0 : ((t181.length : Int) == 0) = false := beq_eq_false_iff_ne.mpr c3
  have c3b1 : ((t181.length : Int) != 0) = true := bne_iff_ne.mpr c3
  have c3b2 : ¬ (t181 = []) := fun h_ => c3 (by rw [h_]; rfl)
  replace H := Option.bind_eq_some_iff.mp H
  obtain ⟨⟨t185, t186⟩, A60, H⟩ := H
  replace H : ((spec_reader_pick.f k s0_0 t186 24).bind fun bt187 => (if bt187.1 = 0 then ((spec_reader_one.f k s0_0 bt187.2 (([0, 21, 20] : List Int))).bind fun bt192 => (if 0 ≤ t185 then (if t185 < (t181.length : Int) then (some ((t181.set (t185 : Int).toNat (⟨bt192.1, (rd_T39 t181 t185).f1, (rd_T39 t181 t185).f2, (rd_T39 t181 t185).f3⟩ : S39)), bt192.2)) else (none)) else (none))) else (if bt187.1 = 1 then (if 0 ≤ t185 then (if t185 < (t181.length : Int) then ((some ((rd_T39 t181 t185).f1 : List Int)).bind fun y196 => ((spec_reader_pick.f k s0_0 bt187.2 (t181.length : Int)).bind fun bt199 => ((some (([bt199.1] : List Int) : List Int)).bind fun y201 => (if y196.length + y201.length < 17592186044416 then ((spec_reader_spoil.f k s0_0 bt199.2 (y196 ++ y201) 8).bind fun bt207 => (some ((t181.set (t185 : Int).toNat (⟨(rd_T39 t181 t185).f0, bt207.1, (rd_T39 t181 t185).f2, (rd_T39 t181 t185).f3⟩ : S39)), bt207.2))) else (none))))) else (none)) else (none)) else (if bt187.1 = 2 then ((spec_reader_one.f k s0_0 bt187.2 (([(-1), 3] : List Int))).bind fun bt215 => (if 0 ≤ t185 then (if t185 < (t181.length : Int) then (some ((t181.set (t185 : Int).toNat (⟨(rd_T39 t181 t185).f0, (rd_T39 t181 t185).f1, bt215.1, (rd_T39 t181 t185).f3⟩ : S39)), bt215.2)) else (none)) else (none))) else (if bt187.1 = 3 then ((spec_reader_one.f k s0_0 bt187.2 (([0, 5] : List Int))).bind fun bt221 => (if 0 ≤ t185 then (if t185 < (t181.length : Int) then (some ((t181.set (t185 : Int).toNat (⟨(rd_T39 t181 t185).f0, (rd_T39 t181 t185).f1, (rd_T39 t181 t185).f2, bt221.1⟩ : S39)), bt221.2)) else (none)) else (none))) else (if bt187.1 = 4 then ((spec_someGraph.f k s0_0 bt187.2 8).bind fun bt224 => (if t181.length + bt224.1.length < 2932031007402 then (some ((t181 ++ bt224.1), bt224.2)) else (none))) else (some (t181, bt187.2)))))))) = some (r1, r2) := H
  have A6 := Aside0.mk A60
  clear A60
  replace H := Option.bind_eq_some_iff.mp H
  obtain ⟨⟨t187, t188⟩, A70, H⟩ := H
  replace H : (if t187 = 0 then ((spec_reader_one.f k s0_0 t188 (([0, 21, 20] : List Int))).bind fun bt192 => (if 0 ≤ t185 then (if t185 < (t181.length : Int) then (some ((t181.set (t185 : Int).toNat (⟨bt192.1, (rd_T39 t181 t185).f1, (rd_T39 t181 t185).f2, (rd_T39 t181 t185).f3⟩ : S39)), bt192.2)) else (none)) else (none))) else (if t187 = 1 then (if 0 ≤ t185 then (if t185 < (t181.length : Int) then ((some ((rd_T39 t181 t185).f1 : List Int)).bind fun y196 => ((spec_reader_pick.f k s0_0 t188 (t181.length : Int)).bind fun bt199 => ((some (([bt199.1] : List Int) : List Int)).bind fun y201 => (if y196.length + y201.length < 17592186044416 then ((spec_reader_spoil.f k s0_0 bt199.2 (y196 ++ y201) 8).bind fun bt207 => (some ((t181.set (t185 : Int).toNat (⟨(rd_T39 t181 t185).f0, bt207.1, (rd_T39 t181 t185).f2, (rd_T39 t181 t185).f3⟩ : S39)), bt207.2))) else (none))))) else (none)) else (none)) else (if t187 = 2 then ((spec_reader_one.f k s0_0 t188 (([(-1), 3] : List Int))).bind fun bt215 => (if 0 ≤ t185 then (if t185 < (t181.length : Int) then (some ((t181.set (t185 : Int).toNat (⟨(rd_T39 t181 t185).f0, (rd_T39 t181 t185).f1, bt215.1, (rd_T39 t181 t185).f3⟩ : S39)), bt215.2)) else (none)) else (none))) else (if t187 = 3 then ((spec_reader_one.f k s0_0 t188 (([0, 5] : List Int))).bind fun bt221 => (if 0 ≤ t185 then (if t185 < (t181.length : Int) then (some ((t181.set (t185 : Int).toNat (⟨(rd_T39 t181 t185).f0, (rd_T39 t181 t185).f1, (rd_T39 t181 t185).f2, bt221.1⟩ : S39)), bt221.2)) else (none)) else (none))) else (if t187 = 4 then ((spec_someGraph.f k s0_0 t188 8).bind fun bt224 => (if t181.length + bt224.1.length < 2932031007402 then (some ((t181 ++ bt224.1), bt224.2)) else (none))) else (some (t181, t188))))))) = some (r1, r2) := H
  have A7 := Aside0.mk A70
  clear A70
  by_cases c8 : t187 = 0
  ·rw [if_pos c8] at H
   have c8b0 : (t187 == 0) = true := beq_iff_eq.mpr c8
   have c8b1 : (t187 != 0) = false := bne_eq_false_iff_eq.mpr c8
   clear c8
   obtain ⟨y189, hy189⟩ : ∃ y_ : List Int, y_ = (([0, 21, 20] : List Int)) := ⟨_, rfl⟩
   replace H : ((spec_reader_one.f k s0_0 t188 y189).bind fun bt192 => (if 0 ≤ t185 then (if t185 < (t181.length : Int) then (some ((t181.set (t185 : Int).toNat (⟨bt192.1, (rd_T39 t181 t185).f1, (rd_T39 t181 t185).f2, (rd_T39 t181 t185).f3⟩ : S39)), bt192.2)) else (none)) else (none))) = some (r1, r2) := by first | (rw [hy189]; with_reducible exact H) | (have H2_ := (Option.bind_some _ _).symm.trans H; rw [hy189]; with_reducible exact H2_) | (have H2_ := (Option.bind_some _ _).symm.trans H; with_reducible exact H2_) | with_reducible exact H | (rw [hy189]; exact H) | exact H
   have Ny189 := Aside0.mk hy189
   clear hy189
   replace H := Option.bind_eq_some_iff.mp H
   obtain ⟨⟨t192, t193⟩, A90, H⟩ := H
   replace H : (if 0 ≤ t185 then (if t185 < (t181.length : Int) then (some ((t181.set (t185 : Int).toNat (⟨t192, (rd_T39 t181 t185).f1, (rd_T39 t181 t185).f2, (rd_T39 t181 t185).f3⟩ : S39)), t193)) else (none)) else (none)) = some (r1, r2) := H
   have A9 := Aside0.mk A90
   clear A90
   by_cases c10 : 0 ≤ t185
   ·rw [if_pos c10] at H
    have c10b0 : decide (0 ≤ t185) = true := decide_eq_true c10
    clear c10
    by_cases c11 : t185 < (t181.length : Int)
    ·rw [if_pos c11] at H
     have c11b0 : decide (t185 < (t181.length : Int)) = true := decide_eq_true c11
     clear c11
     obtain ⟨y194, hy194⟩ : ∃ y_ : List (S39), y_ = (t181.set (t185 : Int).toNat (⟨t192, (rd_T39 t181 t185).f1, (rd_T39 t181 t185).f2, (rd_T39 t181 t185).f3⟩ : S39)) := ⟨_, rfl⟩
     replace H : (some (y194, t193)) = some (r1, r2) := by first | (rw [hy194]; with_reducible exact H) | (have H2_ := (Option.bind_some _ _).symm.trans H; rw [hy194]; with_reducible exact H2_) | (have H2_ := (Option.bind_some _ _).symm.trans H; with_reducible exact H2_) | with_reducible exact H | (rw [hy194]; exact H) | exact H
     have Ny194 := Aside0.mk hy194
     clear hy194
     simp only [Option.some.injEq, Prod.mk.injEq] at H
     obtain ⟨rfl, rfl⟩ := H
     go_enter Tryd.func56, Tryd.ntmps56
     go_wp2_with (first | ((with_reducible refine gate_callee (f := 88) rfl ?_); refine goesL_ (some 6) rfl rfl Tryd.func88 (by kernel_rfl) rfl #[.pointer (some ⟨g, 0, none⟩), .int .i64 8] rfl (by (try simp only [List.map_toArray, List.map_cons, List.map_nil]); first | done | rfl | (simp only [List.length_drop, List.length_take]; rfl)) ?_; (with_reducible refine (spec_someGraph.calls k g s0_0 s0_1 8 t181 t184 w0 _ ?side1 ?side2 A2.out).mono ?_); (case side1 => repeat (first | (with_reducible first | exact HI0.out | apply IsS97.alloc | apply IsS97.drewN | apply IsS97.drew | apply IsS97.set_1) | exact HI0.out)); (case side2 => repeat (first | (with_reducible first | exact HB.out | apply below_alloc | apply pw_below_drewN | apply below_drew1 | refine below_set ?_ (IsS97.ge HI0.out)) | exact HB.out)); rintro e w13 ⟨v182, rfl, ho0, hi, hb, hk⟩; refine ⟨_, rfl, ?_⟩; have n0_ := Aside0.mk (Kd.N_lower (Kd.N_mono (ok' := fun k_ => (w.heap.size ≤ k_) ∧ k_ ≠ g) (Kd.S_N (Kd.S_bound ho0)) (fun k_ hk_ => ⟨(Nat.le_trans (keep_size (w := w) (g := g) (row := none) (by repeat (first | (with_reducible first | exact HK.out | apply KeepBut.set_ | apply keep_drewN | apply keep_drew | apply keep_alloc) | exact HK.out))) hk_.2.1), (IsS97.fresh (by repeat (first | (with_reducible first | exact HI0.out | apply IsS97.alloc | apply IsS97.drewN | apply IsS97.drew | apply IsS97.set_1) | exact HI0.out)) k_ hk_.2.1)⟩)) (keep_size (w := w) (g := g) (row := none) (by repeat (first | (with_reducible first | exact HK.out | apply KeepBut.set_ | apply keep_drewN | apply keep_drew | apply keep_alloc) | exact HK.out)))); have n1_ := Aside0.mk (KeepBut.trans (by repeat (first | (with_reducible first | exact HK.out | apply KeepBut.set_ | apply keep_drewN | apply keep_drew | apply keep_alloc) | exact HK.out)) hk (.inl rfl)); have n2_ := Aside0.mk (hb); have n3_ := Aside0.mk (hi); clear HK; clear HB; clear HI0; have HO183 := n0_; have HK := n1_; have HB := n2_; have HI0 := n3_; clear n0_ n1_ n2_ n3_; (try clear hb); (try clear hb2); (try clear hk); (try clear hi); (try clear ho0); obtain ⟨Ao14, co14, eo14⟩ := Kd.N_slice HO183.out; subst eo14) | ((with_reducible refine gate_callee (f := 65) rfl ?_); refine goesL_ (some 14) rfl rfl Tryd.func65 (by kernel_rfl) rfl #[.pointer (some ⟨g, 0, none⟩), .int .i64 (t181.length : Int)] rfl (by (try simp only [List.map_toArray, List.map_cons, List.map_nil]); first | done | rfl | (simp only [List.length_drop, List.length_take]; rfl)) ?_; (with_reducible refine (spec_reader_pick.calls k g s0_0 t184 (t181.length : Int) t185 t186 w0 _ ?side1 ?side2 A6.out).mono ?_); (case side1 => repeat (first | (with_reducible first | exact HI0.out | apply IsS97.alloc | apply IsS97.drewN | apply IsS97.drew | apply IsS97.set_1) | exact HI0.out)); (case side2 => repeat (first | (with_reducible first | exact HB.out | apply below_alloc | apply pw_below_drewN | apply below_drew1 | refine below_set ?_ (IsS97.ge HI0.out)) | exact HB.out)); rintro e w15 ⟨rfl, hi, hb, hk⟩; refine ⟨_, rfl, ?_⟩; have n0_ := Aside0.mk (Kd.N_mono (Kd.N_keep (Kd.N_mono (ok := fun k_ => (((w.heap.size ≤ k_)) ∧ k_ ≠ g)) (by (with_reducible repeat (first | apply Kd.N_alloc | apply Kd.N_drewN | apply Kd.N_drew)); exact HO183.out) (fun k_ hk_ => (⟨hk_, hk_.2⟩ : _ ∧ k_ ≠ g))) hk (fun _ h => h.2)) (fun _ h => h.1)); have n1_ := Aside0.mk (KeepBut.trans (by repeat (first | (with_reducible first | exact HK.out | apply KeepBut.set_ | apply keep_drewN | apply keep_drew | apply keep_alloc) | exact HK.out)) hk (.inl rfl)); have n2_ := Aside0.mk (hb); have n3_ := Aside0.mk (hi); clear HO183; clear HK; clear HB; clear HI0; have HO183 := n0_; have HK := n1_; have HB := n2_; have HI0 := n3_; clear n0_ n1_ n2_ n3_; (try clear hb); (try clear hb2); (try clear hk); (try clear hi)) | ((with_reducible refine gate_callee (f := 65) rfl ?_); refine goesL_ (some 16) rfl rfl Tryd.func65 (by kernel_rfl) rfl #[.pointer (some ⟨g, 0, none⟩), .int .i64 24] rfl (by (try simp only [List.map_toArray, List.map_cons, List.map_nil]); first | done | rfl | (simp only [List.length_drop, List.length_take]; rfl)) ?_; (with_reducible refine (spec_reader_pick.calls k g s0_0 t186 24 t187 t188 w0 _ ?side1 ?side2 A7.out).mono ?_); (case side1 => repeat (first | (with_reducible first | exact HI0.out | apply IsS97.alloc | apply IsS97.drewN | apply IsS97.drew | apply IsS97.set_1) | exact HI0.out)); (case side2 => repeat (first | (with_reducible first | exact HB.out | apply below_alloc | apply pw_below_drewN | apply below_drew1 | refine below_set ?_ (IsS97.ge HI0.out)) | exact HB.out)); rintro e w16 ⟨rfl, hi, hb, hk⟩; refine ⟨_, rfl, ?_⟩; have n0_ := Aside0.mk (Kd.N_mono (Kd.N_keep (Kd.N_mono (ok := fun k_ => (((w.heap.size ≤ k_)) ∧ k_ ≠ g)) (by (with_reducible repeat (first | apply Kd.N_alloc | apply Kd.N_drewN | apply Kd.N_drew)); exact HO183.out) (fun k_ hk_ => (⟨hk_, hk_.2⟩ : _ ∧ k_ ≠ g))) hk (fun _ h => h.2)) (fun _ h => h.1)); have n1_ := Aside0.mk (KeepBut.trans (by repeat (first | (with_reducible first | exact HK.out | apply KeepBut.set_ | apply keep_drewN | apply keep_drew | apply keep_alloc) | exact HK.out)) hk (.inl rfl)); have n2_ := Aside0.mk (hb); have n3_ := Aside0.mk (hi); clear HO183; clear HK; clear HB; clear HI0; have HO183 := n0_; have HK := n1_; have HB := n2_; have HI0 := n3_; clear n0_ n1_ n2_ n3_; (try clear hb); (try clear hb2); (try clear hk); (try clear hi)) | ((with_reducible refine gate_dst (N := 22) rfl ?_); refine Kd.R_lit (Kd.int .i64) _ 3 ?hg (N := 22) ?hd (xs := ([0, 21, 20] : List Int)) (inner := [.int .i64 0, .int .i64 21, .int .i64 20]) (ok := fun _ => True) (okp := fun _ => True) ?hr ?hp (fun _ hk => hk) trivial (Below.refl _ _) (Nat.le_refl _) (by simp) ?_; (case hd => rfl); (case hg => rfl); (case hr => first | (go_simp; done) | (go_simp; rfl)); (case hp => exact (Reps.one (show Kd.M (Kd.int .i64) _ _ _ 0 [.int .i64 0] from rfl) (Reps.one (show Kd.M (Kd.int .i64) _ _ _ 21 [.int .i64 21] from rfl) (Reps.one (show Kd.M (Kd.int .i64) _ _ _ 20 [.int .i64 20] from rfl) (Reps.none _ _))))); intro v190 w17 ho18 hb hg_ hnew_; clear hg_ hnew_; (first | rw [← Ny189.out] at ho18 | (simp only [Int.reduceToNat] at ho18; rw [← Ny189.out] at ho18)); have n0_ := Aside0.mk (Kd.N_elder' (by (with_reducible repeat (first | apply Kd.N_alloc | apply Kd.N_drewN | apply Kd.N_drew)); exact HO183.out) (Kd.R_base ho18) hb); have n1_ := Aside0.mk (Kd.R_lower (Kd.R_newM (M := fun k_ => (w.heap.size ≤ k_)) ho18 (keep_size (w := w) (g := g) (row := none) (by repeat (first | (with_reducible first | exact HK.out | apply KeepBut.set_ | apply keep_drewN | apply keep_drew | apply keep_alloc) | exact HK.out))) (fun k_ h_ => h_)) (keep_size (w := w) (g := g) (row := none) (by repeat (first | (with_reducible first | exact HK.out | apply KeepBut.set_ | apply keep_drewN | apply keep_drew | apply keep_alloc) | exact HK.out)))); have n2_ := Aside0.mk (IsS97.below (by repeat (first | (with_reducible first | exact HI0.out | apply IsS97.alloc | apply IsS97.drewN | apply IsS97.drew | apply IsS97.set_1) | exact HI0.out)) hb); have n3_ := Aside0.mk (KeepBut.trans (by repeat (first | (with_reducible first | exact HK.out | apply KeepBut.set_ | apply keep_drewN | apply keep_drew | apply keep_alloc) | exact HK.out)) (KeepBut.of_below hb g none) (.inl rfl)); have n4_ := Aside0.mk (below_step (by repeat (first | (with_reducible first | exact HB.out | apply below_alloc | apply pw_below_drewN | apply below_drew1 | refine below_set ?_ (IsS97.ge HI0.out)) | exact HB.out)) hb); clear HO183; clear HI0; clear HK; clear HB; have HO183 := n0_; have HO191 := n1_; have HI0 := n2_; have HK := n3_; have HB := n4_; clear n0_ n1_ n2_ n3_ n4_; clear hb ho18; obtain ⟨Ao19, co19, eo19⟩ := Kd.R_slice HO191.out; subst eo19) | ((with_reducible refine gate_callee (f := 69) rfl ?_); refine goesL_ (some 23) rfl rfl Tryd.func69 (by kernel_rfl) rfl #[.pointer (some ⟨g, 0, none⟩), .slice Ao19 y189.length co19] rfl (by (try simp only [List.map_toArray, List.map_cons, List.map_nil]); first | done | rfl | (simp only [List.length_drop, List.length_take]; rfl)) ?_; (with_reducible refine (spec_reader_one.calls k g s0_0 t188 _ _ y189 t192 t193 w0 _ ?side1 ?side2 ?side3 ?side4 ?side5 A9.out).mono ?_); (case side1 => repeat (first | (with_reducible first | exact HI0.out | apply IsS97.alloc | apply IsS97.drewN | apply IsS97.drew | apply IsS97.set_1) | exact HI0.out)); (case side2 => repeat (first | (with_reducible first | exact HB.out | apply below_alloc | apply pw_below_drewN | apply below_drew1 | refine below_set ?_ (IsS97.ge HI0.out)) | exact HB.out)); (case side3 => repeat (first | exact (Kd.R_reads' HO191.out).2.2 | (with_reducible refine Kd.C_alloc ?_ _) | (with_reducible refine Kd.C_drewN ?_ _) | (with_reducible refine Kd.C_drew ?_))); (case side4 => exact (Kd.R_reads' HO191.out).2.1); (case side5 => exact far_slice (IsS97.own_ne HI0.out HO191.out (by decide))); rintro e w20 ⟨rfl, hi, hb, hk⟩; refine ⟨_, rfl, ?_⟩; have n0_ := Aside0.mk (Kd.N_mono (Kd.N_keep (Kd.N_mono (ok := fun k_ => ((((w.heap.size ≤ k_)) ∧ k_ ≠ g) ∧ some k_ ≠ (.slice Ao19 y189.length co19 : Value).ownBlock)) (by (with_reducible repeat (first | apply Kd.N_alloc | apply Kd.N_drewN | apply Kd.N_drew)); exact HO183.out) (fun k_ hk_ => (⟨hk_, hk_.1.2⟩ : _ ∧ k_ ≠ g))) hk (fun _ h => h.2)) (fun _ h => h.1)); have n1_ := Aside0.mk (Kd.R_mono (Kd.R_keep (IsS97.apart (show IsS97 w0 _ g s0_0 t188 from by repeat (first | (with_reducible first | exact HI0.out | apply IsS97.alloc | apply IsS97.drewN | apply IsS97.drew | apply IsS97.set_1) | exact HI0.out)) (by (with_reducible repeat (first | apply Kd.R_alloc | apply Kd.R_drewN | apply Kd.R_drew)); exact HO191.out) (by decide)) hk (fun _ h => h.2)) (fun _ h => h.1)); have n2_ := Aside0.mk (KeepBut.trans (by repeat (first | (with_reducible first | exact HK.out | apply KeepBut.set_ | apply keep_drewN | apply keep_drew | apply keep_alloc) | exact HK.out)) hk (.inl rfl)); have n3_ := Aside0.mk (hb); have n4_ := Aside0.mk (hi); clear HO183; clear HO191; clear HK; clear HB; clear HI0; have HO183 := n0_; have HO191 := n1_; have HK := n2_; have HB := n3_; have HI0 := n4_; clear n0_ n1_ n2_ n3_ n4_; (try clear hb); (try clear hb2); (try clear hk); (try clear hi); have p12 : 0 ≤ (t185 : Int) := of_decide_eq_true (by first | (with_reducible assumption) | assumption); have q12 : (t185 : Int) < ((t181.length : Int) : Int) := of_decide_eq_true (by first | (with_reducible assumption) | assumption); obtain ⟨go12, co12, eo12, gb12, gl12, cl12, HG12⟩ := Kd.N_form HO183.out (by omega); (first | cases eo12 | (injection eo12 with ea_ en_ ec_; (first | subst ea_ | (injection ea_ with ea_; subst ea_)); subst ec_; clear en_)); have GB12 := Aside0.mk gb12; have GG12 := Aside0.mk HG12; clear gb12 gl12 HG12; obtain ⟨ce12, hcl12, hM12, hcc12, hfr12⟩ := Kd.N_elem HO183.out z39 (t185 : Int) p12 q12; obtain ⟨ua12_1, uc12_1, rfl, ul12_1, ge12_1⟩ := k39_openF hM12; have hx12_0 : w20.cell? ⟨go12, (t185 : Int).toNat * 4, none⟩ = some (.int .i64 ((rd_T39 t181 t185).f0)) := hcc12 0 _ rfl; have hx12_1 : w20.cell? ⟨go12, (t185 : Int).toNat * 4 + 1, none⟩ = some (.slice ua12_1 ((rd_T39 t181 t185).f1).length uc12_1) := hcc12 1 _ rfl; have hx12_2 : w20.cell? ⟨go12, (t185 : Int).toNat * 4 + 2, none⟩ = some (.int .i64 ((rd_T39 t181 t185).f2)) := hcc12 2 _ rfl; have hx12_3 : w20.cell? ⟨go12, (t185 : Int).toNat * 4 + 3, none⟩ = some (.int .i64 ((rd_T39 t181 t185).f3)) := hcc12 3 _ rfl; have hf12_0 : w20.frozen? ⟨go12, (t185 : Int).toNat * 4, none⟩ = false := hfr12 0; have hf12_1 : w20.frozen? ⟨go12, (t185 : Int).toNat * 4 + 1, none⟩ = false := hfr12 1; have hf12_2 : w20.frozen? ⟨go12, (t185 : Int).toNat * 4 + 2, none⟩ = false := hfr12 2; have hf12_3 : w20.frozen? ⟨go12, (t185 : Int).toNat * 4 + 3, none⟩ = false := hfr12 3; clear hcl12 hcc12 hfr12 hM12; replace p12 := eq_true p12; replace q12 := eq_true q12; have n_ := Aside0.mk (Kd.N_mono (ok' := (fun k_ => (w.heap.size ≤ k_) ∧ some k_ ≠ (.slice Ao19 y189.length co19 : Value).ownBlock)) HO183.out (fun k_ hk => ⟨hk.1.1, hk.2⟩)); clear HO183; have HO183 := n_; clear n_; have HX21 := Aside0.mk (show Kd.N k39 39 w20 w.heap.size (fun k_ => (w.heap.size ≤ k_) ∧ some k_ ≠ (.slice Ao19 y189.length co19 : Value).ownBlock) (.slice (some ⟨go12, 0, none⟩) t181.length co14) t181 from (by (with_reducible repeat (first | apply Kd.N_alloc | apply Kd.N_drewN | apply Kd.N_drew)); exact HO183.out)); obtain ⟨ce21, hcl21, hM21, hcc21, hfr21⟩ := Kd.N_elem HX21.out z39 (t185 : Int) (of_decide_eq_true (by first | (with_reducible assumption) | assumption)) (by have h_ : (t185 : Int) < ((t181.length : Int) : Int) := of_decide_eq_true (by first | (with_reducible assumption) | assumption); first | exact h_ | (have e_ := (Kd.N_reads' HO183.out).1; omega) | simpa using h_); obtain ⟨ua21_1, uc21_1, rfl, ul21_1, ge21_1⟩ := k39_openF hM21; have HP21 := Kd.N_seg HX21.out (t185 : Int) (of_decide_eq_true (by first | (with_reducible assumption) | assumption)) (by have h_ : (t185 : Int) < ((t181.length : Int) : Int) := of_decide_eq_true (by first | (with_reducible assumption) | assumption); first | exact h_ | (have e_ := (Kd.N_reads' HO183.out).1; omega) | simpa using h_) (seg := [.int .i64 t192]) (j := 0) hcl21 hcc21 (show 1 ≤ 4 from by decide) (x' := (⟨t192, (rd_T39 t181 t185).f1, (rd_T39 t181 t185).f2, (rd_T39 t181 t185).f3⟩ : S39)) (k39_mkF _ _ (⟨t192, (rd_T39 t181 t185).f1, (rd_T39 t181 t185).f2, (rd_T39 t181 t185).f3⟩ : S39) ul21_1 ge21_1) (fun _ hk => hk); have hx21_0 := hcc21 0 _ rfl; (try simp only [show (k39).sz = 4 from rfl, Nat.mul_one, Nat.add_zero] at hx21_0); have hf21_0 := hfr21 0; (try simp only [show (k39).sz = 4 from rfl, Nat.mul_one, Nat.add_zero] at hf21_0); clear hcl21 hcc21 hfr21 hM21) | ((with_reducible refine gate_store (t := 3) (p := 25) rfl ?_); refine store_event (t := 3) (p := 25) (v := ?vo_w22) (w1 := (w20.setCell ⟨go12, (t185 : Int).toNat * 4, none⟩ (.int .i64 t192))) ?hg ?ho ?hn ?hr ?_; (case ho => rfl); (case hg => rfl); (case hn => rfl); (case hr => first | (go_simp; done) | (go_simp; rfl)); intro w22 hw; have hg : w20.grownBy w22 (some go12) := (by rw [hw]; exact HP21.2); have hp_ : Kd.N k39 39 w22 w.heap.size (fun k_ => (w.heap.size ≤ k_) ∧ some k_ ≠ (.slice Ao19 y189.length co19 : Value).ownBlock) (.slice (some ⟨go12, 0, none⟩) t181.length co14) y194 := (by rw [hw, Ny194.out]; exact HP21.1); clear HP21; have n0_ := Aside0.mk (IsS97.grown (by repeat (first | (with_reducible first | exact HI0.out | apply IsS97.alloc | apply IsS97.drewN | apply IsS97.drew | apply IsS97.set_1) | exact HI0.out)) hg (IsS97.own_neN HI0.out HO183.out (by decide))); have n1_ := Aside0.mk (hp_); have n2_ := Aside0.mk (Kd.R_over' (v := (.slice (some ⟨go12, 0, none⟩) t181.length co14)) (by (with_reducible repeat (first | apply Kd.R_alloc | apply Kd.R_drewN | apply Kd.R_drew)); exact HO191.out) (Kd.N_typed HO183.out) (by decide) hg); have n3_ := Aside0.mk ((by rw [hw]; exact below_set (HB.out) (Nat.le_trans HL.out GB12.out) : Below w0.heap.size w0 w22)); have n4_ := Aside0.mk (KeepBut.trans (by repeat (first | (with_reducible first | exact HK.out | apply KeepBut.set_ | apply keep_drewN | apply keep_drew | apply keep_alloc) | exact HK.out)) (KeepBut.of_grown hg g) (Kd.N_base2 HO183.out)); clear HI0; clear HO183; clear HO191; clear HB; clear HK; have HI0 := n0_; have HO183 := n1_; have HO191 := n2_; have HB := n3_; have HK := n4_; clear n0_ n1_ n2_ n3_ n4_; clear hg hw hp_))
     go_ret
     exact ⟨_, by first | rfl | (simp [errW_none, errW_some] <;> rfl) | (simp [*, errW_none, errW_some] <;> rfl), by (with_reducible repeat (first | apply Kd.N_alloc | apply Kd.N_drewN | apply Kd.N_drew)); exact Kd.N_mono HO183.out (fun _ hk => hk.1), by repeat (first | (with_reducible first | exact HI0.out | apply IsS97.alloc | apply IsS97.drewN | apply IsS97.drew | apply IsS97.set_1) | exact HI0.out), by repeat (first | (with_reducible first | exact HB.out | apply below_alloc | apply pw_below_drewN | apply below_drew1 | refine below_set ?_ (IsS97.ge HI0.out)) | exact HB.out), by repeat (first | (with_reducible first | exact HK.out | apply KeepBut.set_ | apply keep_drewN | apply keep_drew | apply keep_alloc) | exact HK.out)⟩
    ·rw [if_neg c11] at H
     exact absurd H (by simp)
   ·rw [if_neg c10] at H
    exact absurd H (by simp)
  ·rw [if_neg c8] at H
   have c8b0 : (t187 == 0) = false := beq_eq_false_iff_ne.mpr c8
   have c8b1 : (t187 != 0) = true := bne_iff_ne.mpr c8
   by_cases c23 : t187 = 1
   ·rw [if_pos c23] at H
    have c23b0 : (t187 == 1) = true := beq_iff_eq.mpr c23
    have c23b1 : (t187 != 1) = false := bne_eq_false_iff_eq.mpr c23
    clear c23
    by_cases c24 : 0 ≤ t185
    ·rw [if_pos c24] at H
     have c24b0 : decide (0 ≤ t185) = true := decide_eq_true c24
     clear c24
     by_cases c25 : t185 < (t181.length : Int)
     ·rw [if_pos c25] at H
      have c25b0 : decide (t185 < (t181.length : Int)) = true := decide_eq_true c25
      clear c25
      obtain ⟨y196, hy196⟩ : ∃ y_ : List Int, y_ = (rd_T39 t181 t185).f1 := ⟨_, rfl⟩
      replace H : ((spec_reader_pick.f k s0_0 t188 (t181.length : Int)).bind fun bt199 => ((some (([bt199.1] : List Int) : List Int)).bind fun y201 => (if y196.length + y201.length < 17592186044416 then ((spec_reader_spoil.f k s0_0 bt199.2 (y196 ++ y201) 8).bind fun bt207 => (some ((t181.set (t185 : Int).toNat (⟨(rd_T39 t181 t185).f0, bt207.1, (rd_T39 t181 t185).f2, (rd_T39 t181 t185).f3⟩ : S39)), bt207.2))) else (none)))) = some (r1, r2) := by first | (rw [hy196]; with_reducible exact H) | (have H2_ := (Option.bind_some _ _).symm.trans H; rw [hy196]; with_reducible exact H2_) | (have H2_ := (Option.bind_some _ _).symm.trans H; with_reducible exact H2_) | with_reducible exact H | (rw [hy196]; exact H) | exact H
      have Ny196 := Aside0.mk hy196
      clear hy196
      replace H := Option.bind_eq_some_iff.mp H
      obtain ⟨⟨t199, t200⟩, A260, H⟩ := H
      replace H : ((some (([t199] : List Int) : List Int)).bind fun y201 => (if y196.length + y201.length < 17592186044416 then ((spec_reader_spoil.f k s0_0 t200 (y196 ++ y201) 8).bind fun bt207 => (some ((t181.set (t185 : Int).toNat (⟨(rd_T39 t181 t185).f0, bt207.1, (rd_T39 t181 t185).f2, (rd_T39 t181 t185).f3⟩ : S39)), bt207.2))) else (none))) = some (r1, r2) := H
      have A26 := Aside0.mk A260
      clear A260
      obtain ⟨y201, hy201⟩ : ∃ y_ : List Int, y_ = (([t199] : List Int)) := ⟨_, rfl⟩
      replace H : (if y196.length + y201.length < 17592186044416 then ((spec_reader_spoil.f k s0_0 t200 (y196 ++ y201) 8).bind fun bt207 => (some ((t181.set (t185 : Int).toNat (⟨(rd_T39 t181 t185).f0, bt207.1, (rd_T39 t181 t185).f2, (rd_T39 t181 t185).f3⟩ : S39)), bt207.2))) else (none)) = some (r1, r2) := by first | (rw [hy201]; with_reducible exact H) | (have H2_ := (Option.bind_some _ _).symm.trans H; rw [hy201]; with_reducible exact H2_) | (have H2_ := (Option.bind_some _ _).symm.trans H; with_reducible exact H2_) | with_reducible exact H | (rw [hy201]; exact H) | exact H
      have Ny201 := Aside0.mk hy201
      clear hy201
      by_cases c27 : y196.length + y201.length < 17592186044416
      ·rw [if_pos c27] at H
       have LMc27 := Aside0.mk c27
       clear c27
       obtain ⟨y204, hy204⟩ : ∃ y_ : List Int, y_ = (y196 ++ y201) := ⟨_, rfl⟩
       replace H : ((spec_reader_spoil.f k s0_0 t200 y204 8).bind fun bt207 => (some ((t181.set (t185 : Int).toNat (⟨(rd_T39 t181 t185).f0, bt207.1, (rd_T39 t181 t185).f2, (rd_T39 t181 t185).f3⟩ : S39)), bt207.2))) = some (r1, r2) := by first | (rw [hy204]; with_reducible exact H) | (have H2_ := (Option.bind_some _ _).symm.trans H; rw [hy204]; with_reducible exact H2_) | (have H2_ := (Option.bind_some _ _).symm.trans H; with_reducible exact H2_) | with_reducible exact H | (rw [hy204]; exact H) | exact H
       have Ny204 := Aside0.mk hy204
       clear hy204
       replace H := Option.bind_eq_some_iff.mp H
       obtain ⟨⟨t207, t210⟩, A280, H⟩ := H
       replace H : (some ((t181.set (t185 : Int).toNat (⟨(rd_T39 t181 t185).f0, t207, (rd_T39 t181 t185).f2, (rd_T39 t181 t185).f3⟩ : S39)), t210)) = some (r1, r2) := H
       have A28 := Aside0.mk A280
       clear A280
       obtain ⟨y211, hy211⟩ : ∃ y_ : List (S39), y_ = (t181.set (t185 : Int).toNat (⟨(rd_T39 t181 t185).f0, t207, (rd_T39 t181 t185).f2, (rd_T39 t181 t185).f3⟩ : S39)) := ⟨_, rfl⟩
       replace H : (some (y211, t210)) = some (r1, r2) := by first | (rw [hy211]; with_reducible exact H) | (have H2_ := (Option.bind_some _ _).symm.trans H; rw [hy211]; with_reducible exact H2_) | (have H2_ := (Option.bind_some _ _).symm.trans H; with_reducible exact H2_) | with_reducible exact H | (rw [hy211]; exact H) | exact H
       have Ny211 := Aside0.mk hy211
       clear hy211
       simp only [Option.some.injEq, Prod.mk.injEq] at H
       obtain ⟨rfl, rfl⟩ := H
       go_enter Tryd.func56, Tryd.ntmps56
       try go_wp2_with (first | ((with_reducible refine gate_callee (f := 88) rfl ?_); refine goesL_ (some 6) rfl rfl Tryd.func88 (by kernel_rfl) rfl #[.pointer (some ⟨g, 0, none⟩), .int .i64 8] rfl (by (try simp only [List.map_toArray, List.map_cons, List.map_nil]); first | done | rfl | (simp only [List.length_drop, List.length_take]; rfl)) ?_; (with_reducible refine (spec_someGraph.calls k g s0_0 s0_1 8 t181 t184 w0 _ ?side1 ?side2 A2.out).mono ?_); (case side1 => repeat (first | (with_reducible first | exact HI0.out | apply IsS97.alloc | apply IsS97.drewN | apply IsS97.drew | apply IsS97.set_1) | exact HI0.out)); (case side2 => repeat (first | (with_reducible first | exact HB.out | apply below_alloc | apply pw_below_drewN | apply below_drew1 | refine below_set ?_ (IsS97.ge HI0.out)) | exact HB.out)); rintro e w30 ⟨v182, rfl, ho0, hi, hb, hk⟩; refine ⟨_, rfl, ?_⟩; have n0_ := Aside0.mk (Kd.S_lower (Kd.S_mono (ok' := fun k_ => (w.heap.size ≤ k_) ∧ k_ ≠ g) (Kd.S_bound ho0) (fun k_ hk_ => ⟨(Nat.le_trans (keep_size (w := w) (g := g) (row := none) (by repeat (first | (with_reducible first | exact HK.out | apply KeepBut.set_ | apply keep_drewN | apply keep_drew | apply keep_alloc) | exact HK.out))) hk_.2.1), (IsS97.fresh (by repeat (first | (with_reducible first | exact HI0.out | apply IsS97.alloc | apply IsS97.drewN | apply IsS97.drew | apply IsS97.set_1) | exact HI0.out)) k_ hk_.2.1)⟩)) (keep_size (w := w) (g := g) (row := none) (by repeat (first | (with_reducible first | exact HK.out | apply KeepBut.set_ | apply keep_drewN | apply keep_drew | apply keep_alloc) | exact HK.out)))); have n1_ := Aside0.mk (KeepBut.trans (by repeat (first | (with_reducible first | exact HK.out | apply KeepBut.set_ | apply keep_drewN | apply keep_drew | apply keep_alloc) | exact HK.out)) hk (.inl rfl)); have n2_ := Aside0.mk (hb); have n3_ := Aside0.mk (hi); clear HK; clear HB; clear HI0; have HO183 := n0_; have HK := n1_; have HB := n2_; have HI0 := n3_; clear n0_ n1_ n2_ n3_; (try clear hb); (try clear hb2); (try clear hk); (try clear hi); (try clear ho0); obtain ⟨Ao31, co31, eo31⟩ := Kd.S_slice HO183.out; subst eo31) | ((with_reducible refine gate_callee (f := 65) rfl ?_); refine goesL_ (some 14) rfl rfl Tryd.func65 (by kernel_rfl) rfl #[.pointer (some ⟨g, 0, none⟩), .int .i64 (t181.length : Int)] rfl (by (try simp only [List.map_toArray, List.map_cons, List.map_nil]); first | done | rfl | (simp only [List.length_drop, List.length_take]; rfl)) ?_; (with_reducible refine (spec_reader_pick.calls k g s0_0 t184 (t181.length : Int) t185 t186 w0 _ ?side1 ?side2 A6.out).mono ?_); (case side1 => repeat (first | (with_reducible first | exact HI0.out | apply IsS97.alloc | apply IsS97.drewN | apply IsS97.drew | apply IsS97.set_1) | exact HI0.out)); (case side2 => repeat (first | (with_reducible first | exact HB.out | apply below_alloc | apply pw_below_drewN | apply below_drew1 | refine below_set ?_ (IsS97.ge HI0.out)) | exact HB.out)); rintro e w32 ⟨rfl, hi, hb, hk⟩; refine ⟨_, rfl, ?_⟩; have n0_ := Aside0.mk (Kd.S_mono (Kd.S_keep (Kd.S_mono (ok := fun k_ => (((w.heap.size ≤ k_)) ∧ k_ ≠ g)) (by (with_reducible repeat (first | apply Kd.S_alloc | apply Kd.S_drewN | apply Kd.S_drew)); exact HO183.out) (fun k_ hk_ => (⟨hk_, hk_.2⟩ : _ ∧ k_ ≠ g))) hk (fun _ h => h.2)) (fun _ h => h.1)); have n1_ := Aside0.mk (KeepBut.trans (by repeat (first | (with_reducible first | exact HK.out | apply KeepBut.set_ | apply keep_drewN | apply keep_drew | apply keep_alloc) | exact HK.out)) hk (.inl rfl)); have n2_ := Aside0.mk (hb); have n3_ := Aside0.mk (hi); clear HO183; clear HK; clear HB; clear HI0; have HO183 := n0_; have HK := n1_; have HB := n2_; have HI0 := n3_; clear n0_ n1_ n2_ n3_; (try clear hb); (try clear hb2); (try clear hk); (try clear hi)) | ((with_reducible refine gate_callee (f := 65) rfl ?_); refine goesL_ (some 16) rfl rfl Tryd.func65 (by kernel_rfl) rfl #[.pointer (some ⟨g, 0, none⟩), .int .i64 24] rfl (by (try simp only [List.map_toArray, List.map_cons, List.map_nil]); first | done | rfl | (simp only [List.length_drop, List.length_take]; rfl)) ?_; (with_reducible refine (spec_reader_pick.calls k g s0_0 t186 24 t187 t188 w0 _ ?side1 ?side2 A7.out).mono ?_); (case side1 => repeat (first | (with_reducible first | exact HI0.out | apply IsS97.alloc | apply IsS97.drewN | apply IsS97.drew | apply IsS97.set_1) | exact HI0.out)); (case side2 => repeat (first | (with_reducible first | exact HB.out | apply below_alloc | apply pw_below_drewN | apply below_drew1 | refine below_set ?_ (IsS97.ge HI0.out)) | exact HB.out)); rintro e w33 ⟨rfl, hi, hb, hk⟩; refine ⟨_, rfl, ?_⟩; have n0_ := Aside0.mk (Kd.S_mono (Kd.S_keep (Kd.S_mono (ok := fun k_ => (((w.heap.size ≤ k_)) ∧ k_ ≠ g)) (by (with_reducible repeat (first | apply Kd.S_alloc | apply Kd.S_drewN | apply Kd.S_drew)); exact HO183.out) (fun k_ hk_ => (⟨hk_, hk_.2⟩ : _ ∧ k_ ≠ g))) hk (fun _ h => h.2)) (fun _ h => h.1)); have n1_ := Aside0.mk (KeepBut.trans (by repeat (first | (with_reducible first | exact HK.out | apply KeepBut.set_ | apply keep_drewN | apply keep_drew | apply keep_alloc) | exact HK.out)) hk (.inl rfl)); have n2_ := Aside0.mk (hb); have n3_ := Aside0.mk (hi); clear HO183; clear HK; clear HB; clear HI0; have HO183 := n0_; have HK := n1_; have HB := n2_; have HI0 := n3_; clear n0_ n1_ n2_ n3_; (try clear hb); (try clear hb2); (try clear hk); (try clear hi)))
       have n0_ := Aside0.mk (Kd.S_drew HO183.out)
       have n1_ := Aside0.mk (IsS97.drew HI0.out)
       have n2_ := Aside0.mk (keep_drew HK.out)
       have n3_ := Aside0.mk (below_drew1 HB.out)
       clear HO183
       clear HI0
       clear HK
       clear HB
       have HO183 := n0_
       have HI0 := n1_
       have HK := n2_
       have HB := n3_
       clear n0_ n1_ n2_ n3_
       have p195 : 0 ≤ (t185 : Int) := of_decide_eq_true (by first | (with_reducible assumption) | assumption)
       have q195 : t185 < (t181.length : Int) := of_decide_eq_true (by first | (with_reducible assumption) | assumption)
       obtain ⟨ad195, A195_1, c195_1, e195, hx195_0, hx195_1, hx195_2, hx195_3, hl195_1, hi195_1⟩ := at_T39 (Kd.S_reads' HO183.out).2.2 t185 p195 q195
       cases e195
       have HR195_1 := Aside0.mk hi195_1
       have HC195_1 := Aside0.mk hl195_1
       clear hi195_1 hl195_1
       replace p195 := eq_true p195
       replace q195 := eq_true q195
       refine start_ (n := 18) (S := fun w' => w'.cell? (ad195.add ((t185).toNat * 4)) = some (.int .i64 ((rd_T39 t181 t185).f0)) ∧ w'.cell? ⟨(ad195.add ((t185).toNat * 4)).block, (ad195.add ((t185).toNat * 4)).off + 1, none⟩ = some (.slice A195_1 ((rd_T39 t181 t185).f1).length c195_1) ∧ w'.cell? ⟨(ad195.add ((t185).toNat * 4)).block, (ad195.add ((t185).toNat * 4)).off + 2, none⟩ = some (.int .i64 ((rd_T39 t181 t185).f2)) ∧ w'.cell? ⟨(ad195.add ((t185).toNat * 4)).block, (ad195.add ((t185).toNat * 4)).off + 3, none⟩ = some (.int .i64 ((rd_T39 t181 t185).f3))) (ds := [13, 17]) #[false, false, false, false, false, false, false, false, false, false, false, false, false, false, false, false, false, false] (by kernel_rfl) rfl rfl ⟨hx195_0, hx195_1, hx195_2, hx195_3⟩ (fun hHeld => ?_); refine with_tabW spec_anyGraph.tab9 spec_anyGraph.bits9 (fun HT_ HW_ => ?_)
       generalize w33.drew = w34 at HO183 HI0 HK HB hx195_0 hx195_1 hx195_2 hx195_3 hHeld ⊢
       refine pure_ (i := 0) (N := some 28) (v := ?_) (a' := ?_) #[true, false, false, false, false, false, false, false, false, false, false, false, false, false, false, false, false, false] rfl rfl (any_of HT_.out (by kernel_rfl)) (fun _ _ _ h => h) (Or.inl ⟨by rfl, ?_⟩) ?_ ?_
       rotate_left
       ·intro w'
        go_simp
        with_reducible rfl
       rotate_left
       ·simp only [Act.put, List.setIfInBounds_toArray, List.set_cons_zero, List.set_cons_succ, i64_w, i32_w]
        rfl
       refine pure_ (i := 1) (N := some 29) (v := ?_) (a' := ?_) #[true, true, false, false, false, false, false, false, false, false, false, false, false, false, false, false, false, false] rfl rfl (any_of HT_.out (by kernel_rfl)) (fun _ _ _ h => h) (Or.inl ⟨by rfl, ?_⟩) ?_ ?_
       rotate_left
       ·intro w'
        go_simp
        with_reducible rfl
       rotate_left
       ·simp only [Act.put, List.setIfInBounds_toArray, List.set_cons_zero, List.set_cons_succ, i64_w, i32_w]
        rfl
       refine pure_ (i := 2) (N := some 30) (v := ?_) (a' := ?_) #[true, true, true, false, false, false, false, false, false, false, false, false, false, false, false, false, false, false] rfl rfl (any_of HT_.out (by kernel_rfl)) (fun _ _ _ h => h) (Or.inl ⟨by rfl, ?_⟩) ?_ ?_
       rotate_left
       ·intro w'
        go_simp
        with_reducible rfl
       rotate_left
       ·simp only [Act.put, List.setIfInBounds_toArray, List.set_cons_zero, List.set_cons_succ, i64_w, i32_w]
        rfl
       refine pure_ (i := 3) (N := some 31) (v := ?_) (a' := ?_) #[true, true, true, true, false, false, false, false, false, false, false, false, false, false, false, false, false, false] rfl rfl (any_of HT_.out (by kernel_rfl)) (fun _ _ _ h => h) (Or.inl ⟨by rfl, ?_⟩) ?_ ?_
       rotate_left
       ·intro w'
        go_simp
        with_reducible rfl
       rotate_left
       ·simp only [Act.put, List.setIfInBounds_toArray, List.set_cons_zero, List.set_cons_succ, i64_w, i32_w]
        rfl
       refine pure_ (i := 4) (N := some 32) (v := ?_) (a' := ?_) #[true, true, true, true, true, false, false, false, false, false, false, false, false, false, false, false, false, false] rfl rfl (any_of HT_.out (by kernel_rfl)) (fun _ _ _ h => h) (Or.inl ⟨by rfl, ?_⟩) ?_ ?_
       rotate_left
       ·intro w'
        go_simp
        with_reducible rfl
       rotate_left
       ·simp only [Act.put, List.setIfInBounds_toArray, List.set_cons_zero, List.set_cons_succ, i64_w, i32_w]
        rfl
       refine pure_ (i := 5) (N := some 33) (v := ?_) (a' := ?_) #[true, true, true, true, true, true, false, false, false, false, false, false, false, false, false, false, false, false] rfl rfl (any_of HT_.out (by kernel_rfl)) (fun _ _ _ h => h) (Or.inl ⟨by rfl, ?_⟩) ?_ ?_
       rotate_left
       ·intro w'
        go_simp
        with_reducible rfl
       rotate_left
       ·simp only [Act.put, List.setIfInBounds_toArray, List.set_cons_zero, List.set_cons_succ, i64_w, i32_w]
        rfl
       refine pure_ (i := 6) (N := some 34) (v := ?_) (a' := ?_) #[true, true, true, true, true, true, true, false, false, false, false, false, false, false, false, false, false, false] rfl rfl (any_of HT_.out (by kernel_rfl)) (fun _ _ _ h => h) (Or.inl ⟨by rfl, ?_⟩) ?_ ?_
       rotate_left
       ·intro w'
        go_simp
        with_reducible rfl
       rotate_left
       ·simp only [Act.put, List.setIfInBounds_toArray, List.set_cons_zero, List.set_cons_succ, i64_w, i32_w]
        rfl
       refine take_ (i := 7) (N := some 35) (v := ?_) (a' := ?_) #[true, true, true, true, true, true, true, true, false, false, false, false, false, false, false, false, false, false] rfl rfl (take_ofW HT_.out HW_.out (by kernel_rfl)) (fun _ _ _ h => h) (Or.inl ⟨by rfl, ?_⟩) hHeld ?_ ?_
       rotate_left
       ·rintro w' ⟨s0, s1, s2, s3⟩
        go_simp
        with_reducible rfl
       rotate_left
       ·simp only [Act.put, List.setIfInBounds_toArray, List.set_cons_zero, List.set_cons_succ, i64_w, i32_w]
        rfl
       refine pure_ (i := 8) (N := some 36) (v := ?_) (a' := ?_) #[true, true, true, true, true, true, true, true, true, false, false, false, false, false, false, false, false, false] rfl rfl (any_of HT_.out (by kernel_rfl)) (fun _ _ _ h => h) (Or.inl ⟨by rfl, ?_⟩) ?_ ?_
       rotate_left
       ·intro w'
        go_simp
        with_reducible rfl
       rotate_left
       ·simp only [Act.put, List.setIfInBounds_toArray, List.set_cons_zero, List.set_cons_succ, i64_w, i32_w]
        rfl
       refine pure_ (i := 9) (N := some 37) (v := ?_) (a' := ?_) #[true, true, true, true, true, true, true, true, true, true, false, false, false, false, false, false, false, false] rfl rfl (any_of HT_.out (by kernel_rfl)) (fun _ _ _ h => h) (Or.inl ⟨by rfl, ?_⟩) ?_ ?_
       rotate_left
       ·intro w'
        go_simp
        with_reducible rfl
       rotate_left
       ·simp only [Act.put, List.setIfInBounds_toArray, List.set_cons_zero, List.set_cons_succ, i64_w, i32_w]
        rfl
       refine pure_ (i := 10) (N := some 38) (v := ?_) (a' := ?_) #[true, true, true, true, true, true, true, true, true, true, true, false, false, false, false, false, false, false] rfl rfl (any_of HT_.out (by kernel_rfl)) (fun _ _ _ h => h) (Or.inl ⟨by rfl, ?_⟩) ?_ ?_
       rotate_left
       ·intro w'
        go_simp
        with_reducible rfl
       rotate_left
       ·simp only [Act.put, List.setIfInBounds_toArray, List.set_cons_zero, List.set_cons_succ, i64_w, i32_w]
        rfl
       refine one_ (i := 11) (N := some 39) #[true, true, true, true, true, true, true, true, true, true, true, true, false, false, false, false, false, false] rfl rfl (one_of HT_.out (by kernel_rfl)) (by decide) (fun K hK => ?_)
       refine goes_ Tryd.func65 (by kernel_rfl) rfl #[.pointer (some ⟨g, 0, none⟩), .int .i64 (t181.length : Int)] (by rfl) rfl rfl (by (try simp only [List.map_toArray, List.map_cons, List.map_nil]); first | done | rfl | (simp only [List.length_drop, List.length_take]; rfl)) ?_
       with_reducible refine (spec_reader_pick.calls k g s0_0 t188 (t181.length : Int) t199 t200 w0 _ ?side1 ?side2 A26.out).mono ?_
       (case side1 => repeat (first | (with_reducible first | exact HI0.out | apply IsS97.alloc | apply IsS97.drewN | apply IsS97.drew | apply IsS97.set_1) | exact HI0.out))
       (case side2 => repeat (first | (with_reducible first | exact HB.out | apply below_alloc | apply pw_below_drewN | apply below_drew1 | refine below_set ?_ (IsS97.ge HI0.out)) | exact HB.out))
       rintro e w35 ⟨rfl, hi, hb, hk⟩
       have HS0_ := keep_cell hk (hHeld.1) (by first | (rw [add_block]; exact Kd.own_blk (IsS97.own_neS HI0.out HO183.out (by decide))) | (show (Addr.add _ _).block ≠ _; rw [add_block]; exact Kd.own_blk (IsS97.own_neS HI0.out HO183.out (by decide))) | exact Kd.own_blk (IsS97.own_neS HI0.out HO183.out (by decide)))
       have HS1_ := keep_cell hk (hHeld.2.1) (by first | (rw [add_block]; exact Kd.own_blk (IsS97.own_neS HI0.out HO183.out (by decide))) | (show (Addr.add _ _).block ≠ _; rw [add_block]; exact Kd.own_blk (IsS97.own_neS HI0.out HO183.out (by decide))) | exact Kd.own_blk (IsS97.own_neS HI0.out HO183.out (by decide)))
       have HS2_ := keep_cell hk (hHeld.2.2.1) (by first | (rw [add_block]; exact Kd.own_blk (IsS97.own_neS HI0.out HO183.out (by decide))) | (show (Addr.add _ _).block ≠ _; rw [add_block]; exact Kd.own_blk (IsS97.own_neS HI0.out HO183.out (by decide))) | exact Kd.own_blk (IsS97.own_neS HI0.out HO183.out (by decide)))
       have HS3_ := keep_cell hk (hHeld.2.2.2) (by first | (rw [add_block]; exact Kd.own_blk (IsS97.own_neS HI0.out HO183.out (by decide))) | (show (Addr.add _ _).block ≠ _; rw [add_block]; exact Kd.own_blk (IsS97.own_neS HI0.out HO183.out (by decide))) | exact Kd.own_blk (IsS97.own_neS HI0.out HO183.out (by decide)))
       refine ⟨_, rfl, ?_⟩
       have n0_ := Aside0.mk (Kd.S_mono (Kd.S_keep (Kd.S_mono (ok := fun k_ => (((w.heap.size ≤ k_)) ∧ k_ ≠ g)) (by (with_reducible repeat (first | apply Kd.S_alloc | apply Kd.S_drewN | apply Kd.S_drew)); exact HO183.out) (fun k_ hk_ => (⟨hk_, hk_.2⟩ : _ ∧ k_ ≠ g))) hk (fun _ h => h.2)) (fun _ h => h.1))
       have n2_ := Aside0.mk (KeepBut.trans (by repeat (first | (with_reducible first | exact HK.out | apply KeepBut.set_ | apply keep_drewN | apply keep_drew | apply keep_alloc) | exact HK.out)) hk (.inl rfl))
       have n3_ := Aside0.mk (hb)
       have n4_ := Aside0.mk (hi)
       clear HO183
       clear HK
       clear HB
       clear HI0
       have HO183 := n0_
       have HK := n2_
       have HB := n3_
       have HI0 := n4_
       clear n0_ n2_ n3_ n4_
       (try clear hb)
       (try clear hb2)
       (try clear hk)
       (try clear hi)
       refine hK.out _ _ ⟨HS0_, HS1_, HS2_, HS3_⟩ (fun hHeld => ?_)
       clear hK K
       refine norm_ (a' := ?_) ?_ ?_
       rotate_left
       ·show Act.put _ (some 39) _ = _
        simp only [Act.put, List.setIfInBounds_toArray, List.set_cons_zero, List.set_cons_succ, i64_w, i32_w]
        rfl
       refine one_ (i := 12) (N := some 40) #[true, true, true, true, true, true, true, true, true, true, true, true, true, false, false, false, false, false] rfl rfl (one_of HT_.out (by kernel_rfl)) (by decide) (fun K hK => ?_)
       refine Kd.R_lit_step (Kd.int .i64) _ 3 ?hg (N := 40) ?hd (xs := ([t199] : List Int)) (inner := [.int .i64 t199]) (ok := fun _ => True) (okp := fun _ => True) ?hr ?hp (fun _ hk => hk) trivial (Below.refl _ _) (Nat.le_refl _) (by simp) ?_; (case hd => rfl); (case hg => rfl); (case hr => first | (go_simp; done) | (go_simp; rfl)); (case hp => exact (Reps.one (show Kd.M (Kd.int .i64) _ _ _ t199 [.int .i64 t199] from rfl) (Reps.none _ _)))
       intro v202 w36 ho37 hb hg_ hnew_
       have HS0_ := (hb.cell (World.block_lt_of_cell? _ _ (hHeld.1))).trans (hHeld.1)
       have HS1_ := (hb.cell (World.block_lt_of_cell? _ _ (hHeld.2.1))).trans (hHeld.2.1)
       have HS2_ := (hb.cell (World.block_lt_of_cell? _ _ (hHeld.2.2.1))).trans (hHeld.2.2.1)
       have HS3_ := (hb.cell (World.block_lt_of_cell? _ _ (hHeld.2.2.2))).trans (hHeld.2.2.2)
       clear hg_ hnew_
       (first | rw [← Ny201.out] at ho37 | (simp only [Int.reduceToNat] at ho37; rw [← Ny201.out] at ho37))
       have n0_ := Aside0.mk (Kd.S_elder' (by (with_reducible repeat (first | apply Kd.S_alloc | apply Kd.S_drewN | apply Kd.S_drew)); exact HO183.out) (Kd.R_base ho37) hb)
       have n2_ := Aside0.mk (Kd.R_lower (Kd.R_newM (M := fun k_ => (w.heap.size ≤ k_)) ho37 (keep_size (w := w) (g := g) (row := none) (by repeat (first | (with_reducible first | exact HK.out | apply KeepBut.set_ | apply keep_drewN | apply keep_drew | apply keep_alloc) | exact HK.out))) (fun k_ h_ => h_)) (keep_size (w := w) (g := g) (row := none) (by repeat (first | (with_reducible first | exact HK.out | apply KeepBut.set_ | apply keep_drewN | apply keep_drew | apply keep_alloc) | exact HK.out))))
       have n3_ := Aside0.mk (IsS97.below (by repeat (first | (with_reducible first | exact HI0.out | apply IsS97.alloc | apply IsS97.drewN | apply IsS97.drew | apply IsS97.set_1) | exact HI0.out)) hb)
       have n4_ := Aside0.mk (KeepBut.trans (by repeat (first | (with_reducible first | exact HK.out | apply KeepBut.set_ | apply keep_drewN | apply keep_drew | apply keep_alloc) | exact HK.out)) (KeepBut.of_below hb g none) (.inl rfl))
       have n5_ := Aside0.mk (below_step (by repeat (first | (with_reducible first | exact HB.out | apply below_alloc | apply pw_below_drewN | apply below_drew1 | refine below_set ?_ (IsS97.ge HI0.out)) | exact HB.out)) hb)
       clear HO183
       clear HI0
       clear HK
       clear HB
       have HO183 := n0_
       have HO203 := n2_
       have HI0 := n3_
       have HK := n4_
       have HB := n5_
       clear n0_ n2_ n3_ n4_ n5_
       clear hb ho37
       refine hK.out _ _ ⟨HS0_, HS1_, HS2_, HS3_⟩ (fun hHeld => ?_)
       clear hK K
       refine norm_ (a' := ?_) ?_ ?_
       rotate_left
       ·show Act.put _ (some 40) _ = _
        simp only [Act.put, List.setIfInBounds_toArray, List.set_cons_zero, List.set_cons_succ, i64_w, i32_w]
        rfl
       obtain ⟨Ao42, co42, eo42⟩ := Kd.R_slice HO203.out
       (first | subst eo42 | (injection eo42 with f1_ f2_ f3_; have f4_ := f1_.symm; have f5_ := f3_.symm; clear f1_ f2_ f3_; subst f4_; subst f5_))
       have p29 : 0 ≤ (t185 : Int) := of_decide_eq_true (by first | (with_reducible assumption) | assumption)
       have q29 : (t185 : Int) < ((t181.length : Int) : Int) := of_decide_eq_true (by first | (with_reducible assumption) | assumption)
       obtain ⟨go29, co29, eo29, gb29, gl29, cl29, HG29⟩ := Kd.S_form HO183.out (by omega)
       (first | cases eo29 | (injection eo29 with ea_ en_ ec_; (first | subst ea_ | (injection ea_ with ea_; subst ea_)); subst ec_; clear en_))
       have GB29 := Aside0.mk gb29
       have GL29 := Aside0.mk gl29
       simp only [add_plain] at hHeld
       have HGN_ := Aside0.mk (show g ≠ go29 from by have h_ := IsS97.own_neS HI0.out HO183.out (by decide); intro e_; exact h_ (by rw [e_]; rfl))
       have HS2_ := Kd.S_mono (ok' := fun k_ => (w.heap.size ≤ k_ ∧ k_ ≠ g) ∧ k_ < w36.heap.size) (Kd.S_bound HO183.out) (fun k_ hk_ => ⟨⟨hk_.2.1, hk_.1.1.2⟩, hk_.2.2.1⟩)
       obtain ⟨oki_, ce_, hcl_, hM_, hcc_, hoki_, hH_⟩ := Kd.S_lend HS2_ z39 (t185 : Int) p29 q29
       obtain ⟨ve_, rfl, hR1_⟩ := k39_openM hM_
       have hve_ := hcc_ 1 _ rfl
       have hve2_ := Option.some.inj (hve_.symm.trans hHeld.2.1)
       subst hve2_
       have HR1_ := Aside0.mk (show Kd.R (Kd.int .i64) 3 w36 w.heap.size oki_ (.slice A195_1 y196.length c195_1) y196 from by rw [Ny196.out]; exact hR1_)
       have HH_ := Aside0.mk hH_
       have HOK_ := Aside0.mk hoki_
       clear hcl_ hM_ hcc_ hoki_ hH_ hR1_ hve_ HS2_
       refine last_ (i := 13) (N := some 41) #[true, true, true, true, true, true, true, true, true, true, true, true, true, true, false, false, false, false] rfl rfl (one_of HT_.out (by kernel_rfl)) (by decide) (fun K hK => ?_)
       refine Kd.R_append_rows_step (Kd.int .i64) w.heap.size (by rfl) (.tmp 35) (.tmp 40) 24 3 (.int .i64 0) 8 rfl Tryd.underlying24 info3 rfl (by decide) (by omega) (.slice A195_1 y196.length c195_1) y196 y201 _ _ _ (fun k_ => oki_ k_ ∨ w36.heap.size ≤ k_) (fun _ => False) ?aV rfl ?aO ?aR (fun _ _ h => h) (fun _ h => h.elim) (fun _ h => Or.inr h) (Below.refl _ _) ?aS ?aL ?_
       (case aV => rw [Ny196.out]; rfl)
       (case aR => repeat (first | exact (Kd.R_reads' HO203.out).2.2 | (with_reducible refine Kd.C_alloc ?_ _) | (with_reducible refine Kd.C_drewN ?_ _) | (with_reducible refine Kd.C_drew ?_)))
       (case aO => exact Kd.R_mono HR1_.out (fun _ h => Or.inl h))
       (case aS => exact (keep_size (w := w) (g := g) (row := none) (by repeat (first | (with_reducible first | exact HK.out | apply KeepBut.set_ | apply keep_drewN | apply keep_drew | apply keep_alloc) | exact HK.out))))
       (case aL => have := LMc27.out; omega)
       intro v205 w41 ho hb hg hat
       rw [← Ny204.out] at ho
       have n0_ := Aside0.mk (IsS97.grown (by repeat (first | (with_reducible first | exact HI0.out | apply IsS97.alloc | apply IsS97.drewN | apply IsS97.drew | apply IsS97.set_1) | exact HI0.out)) hg (IsS97.own_ne HI0.out HR1_.out (by decide)))
       have n1_ := Aside0.mk (Kd.H_grown HH_.out hg HR1_.out.1)
       have n2_ := Aside0.mk (below_weaken (by repeat (first | (with_reducible first | exact HB.out | apply below_alloc | apply pw_below_drewN | apply below_drew1 | refine below_set ?_ (IsS97.ge HI0.out)) | exact HB.out)) HL.out hb)
       have n3_ := Aside0.mk (KeepBut.trans (by repeat (first | (with_reducible first | exact HK.out | apply KeepBut.set_ | apply keep_drewN | apply keep_drew | apply keep_alloc) | exact HK.out)) (KeepBut.of_grown hg g) (Kd.R_base2 HR1_.out))
       have n4_ := Aside0.mk ho
       have n5_ := Aside0.mk hb.size
       clear HI0 HH_ HB HK
       have HI0 := n0_
       have HH_ := n1_
       have HB := n2_
       have HK := n3_
       have HO206 := n4_
       have HSZ_ := n5_
       clear n0_ n1_ n2_ n3_ n4_ n5_
       clear ho hb hg hat
       obtain ⟨Ao43, co43, eo43⟩ := Kd.R_slice HO206.out
       (first | subst eo43 | (injection eo43 with f1_ f2_ f3_; have f4_ := f1_.symm; have f5_ := f3_.symm; clear f1_ f2_ f3_; subst f4_; subst f5_))
       refine hK.out _ _ ?_
       clear hK K
       refine norm_ (a' := ?_) ?_ ?_
       rotate_left
       ·show Act.put _ (some 41) _ = _
        simp only [Act.put, List.setIfInBounds_toArray, List.set_cons_zero, List.set_cons_succ, i64_w, i32_w]
        rfl
       obtain ⟨rows_, hrl_, hraw_, hrcl_, hrco_, hrcc_, hrback_⟩ := Kd.H_raw HH_.out p29 q29
       have hHeld : w41.cell? ⟨go29, (t185).toNat * 4, none⟩ = some (.int .i64 ((rd_T39 t181 t185).f0)) ∧ w41.cell? ⟨go29, (t185).toNat * 4 + 1, none⟩ = some (.slice A195_1 ((rd_T39 t181 t185).f1).length c195_1) ∧ w41.cell? ⟨go29, (t185).toNat * 4 + 2, none⟩ = some (.int .i64 ((rd_T39 t181 t185).f2)) ∧ w41.cell? ⟨go29, (t185).toNat * 4 + 3, none⟩ = some (.int .i64 ((rd_T39 t181 t185).f3)) := ⟨hrcc_ 0 _ rfl, hrcc_ 1 _ rfl, hrcc_ 2 _ rfl, hrcc_ 3 _ rfl⟩
       clear hrback_ hrcc_ hrco_ hrcl_ hraw_ hrl_
       refine one_ (i := 14) (N := some 42) #[true, true, true, true, true, true, true, true, true, true, true, true, true, true, true, false, false, false] rfl rfl (one_of HT_.out (by kernel_rfl)) (by decide) (fun K hK => ?_)
       refine goes_ Tryd.func68 (by kernel_rfl) rfl #[.pointer (some ⟨g, 0, none⟩), .slice Ao43 y204.length co43, .int .i64 8] (by rfl) rfl rfl (by (try simp only [List.map_toArray, List.map_cons, List.map_nil]); first | done | rfl | (simp only [List.length_drop, List.length_take]; rfl)) ?_
       with_reducible refine (spec_reader_spoil.calls k g s0_0 t200 _ _ y204 8 t207 t210 w0 _ ?side1 ?side2 ?side3 ?side4 ?side5 A28.out).mono ?_
       (case side1 => repeat (first | (with_reducible first | exact HI0.out | apply IsS97.alloc | apply IsS97.drewN | apply IsS97.drew | apply IsS97.set_1) | exact HI0.out))
       (case side2 => repeat (first | (with_reducible first | exact HB.out | apply below_alloc | apply pw_below_drewN | apply below_drew1 | refine below_set ?_ (IsS97.ge HI0.out)) | exact HB.out))
       (case side3 => repeat (first | exact (Kd.R_reads' HO206.out).2.2 | (with_reducible refine Kd.C_alloc ?_ _) | (with_reducible refine Kd.C_drewN ?_ _) | (with_reducible refine Kd.C_drew ?_)))
       (case side4 => exact (Kd.R_reads' HO206.out).2.1)
       (case side5 => exact far_slice (IsS97.own_ne HI0.out HO206.out (by decide)))
       rintro e w44 ⟨v208, rfl, ho0, hi, hb, hk⟩
       have HG_ := Aside0.mk (show (⟨go29, 0, none⟩ : Addr).block ≠ g from fun e_ => by have h_ := HGN_.out; exact h_ e_.symm)
       have HSK_ := Aside0.mk (show w41.heap.size ≤ w44.heap.size from hk.1)
       have n4_ := Aside0.mk (show Kd.Q (Kd.int .i64) 3 w44 w41.heap.size (fun k_ => (w.heap.size ≤ k_ ∧ k_ ≠ g) ∧ some k_ ≠ (Value.slice (some ⟨go29, 0, none⟩) t181.length co31).ownBlock) v208 _ from Kd.Q_mono (Kd.Q_bound ho0) (fun k_ h_ => ⟨⟨Nat.le_trans (keep_size (w := w) (g := g) (row := none) (by repeat (first | (with_reducible first | exact HK.out | apply KeepBut.set_ | apply keep_drewN | apply keep_drew | apply keep_alloc) | exact HK.out))) h_.2.1, IsS97.fresh HI0.out k_ h_.2.1⟩, fun e_ => by have h1_ := GL29.out; have h2_ := HSZ_.out; have h3_ := h_.2.1; have e2_ : k_ = go29 := (by simpa [Value.ownBlock] using e_); omega⟩))
       obtain ⟨Aq_, cq_, eq_, hq_⟩ := Kd.Q_slice n4_.out
       subst eq_
       have n1_ := Aside0.mk (Kd.H_keep HH_.out hk (fun _ h_ => h_.1.2))
       have n5_ := Aside0.mk (KeepBut.trans (by repeat (first | (with_reducible first | exact HK.out | apply KeepBut.set_ | apply keep_drewN | apply keep_drew | apply keep_alloc) | exact HK.out)) hk (.inl rfl))
       have n6_ := Aside0.mk (hb)
       have n7_ := Aside0.mk (hi)
       have HS0_ := keep_cell hk hHeld.1 HG_.out
       have HS1_ := keep_cell hk hHeld.2.1 HG_.out
       have HS2_ := keep_cell hk hHeld.2.2.1 HG_.out
       have HS3_ := keep_cell hk hHeld.2.2.2 HG_.out
       refine ⟨_, rfl, ?_⟩
       clear HH_ HK HB HI0
       have HH_ := n1_
       have HO209 := n4_
       have HK := n5_
       have HB := n6_
       have HI0 := n7_
       have HQC_ := Aside0.mk hq_
       clear n1_ n4_ n5_ n6_ n7_ hb hk hi ho0 hq_
       obtain ⟨rows_, hrl_, hraw_, hrcl_, hrco_, hrcc_, hrback_⟩ := Kd.H_raw HH_.out p29 q29
       have hx29_0 := HS0_
       have hx29_1 := HS1_
       have hx29_2 := HS2_
       have hx29_3 := HS3_
       obtain ⟨_, _, _, _, hfr_⟩ := Kd.R_elem hraw_ [] (t185 : Int) p29 q29
       have hf29_0 : World.frozen? _ ⟨go29, (t185 : Int).toNat * 4, none⟩ = false := hfr_ 0
       have hf29_1 : World.frozen? _ ⟨go29, (t185 : Int).toNat * 4 + 1, none⟩ = false := hfr_ 1
       have hf29_2 : World.frozen? _ ⟨go29, (t185 : Int).toNat * 4 + 2, none⟩ = false := hfr_ 2
       have hf29_3 : World.frozen? _ ⟨go29, (t185 : Int).toNat * 4 + 3, none⟩ = false := hfr_ 3
       clear hrback_ hrcc_ hrco_ hrcl_ hraw_ hrl_ hfr_
       have HP_ := Kd.H_seg HH_.out p29 q29 (seg := [Value.slice Aq_ t207.length cq_]) (j := 1) (show 2 ≤ 4 from by decide) (fun (q_ : Value) h_ => by rw [List.mem_singleton.1 h_]; rfl)
       have HF_ := k39_mkF _ _ (⟨(rd_T39 t181 t185).f0, t207, (rd_T39 t181 t185).f2, (rd_T39 t181 t185).f3⟩ : S39) HQC_.out (Kd.Q_F HO209.out)
       have HF2_ := Kd.FK_grown HF_ HP_.2 (fun k_ h_ e_ => h_.2 (by rw [e_]; rfl))
       have HQ_ := Aside0.mk (Kd.N_mono (Hn.H_N (Kd.H_mono HP_.1 (ok' := fun k_ => w.heap.size ≤ k_ ∧ k_ ≠ g) (fun _ h_ => h_.1)) HF2_) (ok' := fun k_ => w.heap.size ≤ k_) (fun _ h_ => h_.1))
       have HQ2_ := HQ_.out
       rw [← Ny211.out] at HQ2_
       have HQ45 := Aside0.mk HQ2_
       clear HP_ HF_ HF2_ HQ_ HQ2_
       have HN0_go29 := HGN_
       replace p29 := eq_true p29
       replace q29 := eq_true q29
       refine hK.out _ _ (by simp only [add_plain]; exact ⟨HS0_, HS1_, HS2_, HS3_⟩) (fun hHeld => ?_)
       clear hK K
       refine norm_ (a' := ?_) ?_ ?_
       rotate_left
       ·show Act.put _ (some 42) _ = _
        simp only [Act.put, List.setIfInBounds_toArray, List.set_cons_zero, List.set_cons_succ, i64_w, i32_w]
        rfl
       refine pure_ (i := 15) (N := some 43) (v := ?_) (a' := ?_) #[true, true, true, true, true, true, true, true, true, true, true, true, true, true, true, true, false, false] rfl rfl (any_of HT_.out (by kernel_rfl)) (fun _ _ _ h => h) (Or.inl ⟨by rfl, ?_⟩) ?_ ?_
       rotate_left
       ·intro w'
        go_simp
        with_reducible rfl
       rotate_left
       ·simp only [Act.put, List.setIfInBounds_toArray, List.set_cons_zero, List.set_cons_succ, i64_w, i32_w]
        rfl
       refine pure_ (i := 16) (N := some 44) (v := ?_) (a' := ?_) #[true, true, true, true, true, true, true, true, true, true, true, true, true, true, true, true, true, false] rfl rfl (any_of HT_.out (by kernel_rfl)) (fun _ _ _ h => h) (Or.inl ⟨by rfl, ?_⟩) ?_ ?_
       rotate_left
       ·intro w'
        go_simp
        with_reducible rfl
       rotate_left
       ·simp only [Act.put, List.setIfInBounds_toArray, List.set_cons_zero, List.set_cons_succ, i64_w, i32_w]
        rfl
       refine last_ (i := 17) (N := none) #[true, true, true, true, true, true, true, true, true, true, true, true, true, true, true, true, true, true] rfl rfl (one_of HT_.out (by kernel_rfl)) (by decide) (fun K hK => ?_)
       refine skip_ (w1 := ?_) (by rfl) rfl ?_ ?_
       rotate_left
       ·go_simp
        rfl
       refine hK.out _ _ ?_
       clear hK K
       refine done_ (done_of HT_.out (by kernel_rfl)) ?_
       try go_wp2
       go_ret
       exact ⟨_, by first | rfl | (simp [errW_none, errW_some] <;> rfl) | (simp [*, errW_none, errW_some] <;> rfl), by (with_reducible repeat (first | apply Kd.N_alloc | apply Kd.N_drewN | apply Kd.N_drew)); exact Kd.N_mono HQ45.out (fun _ hk => hk), by repeat (first | (with_reducible first | exact HI0.out | apply IsS97.alloc | apply IsS97.drewN | apply IsS97.drew | apply IsS97.set_1 | refine IsS97.far ?_ HN0_go29.out _) | exact HI0.out), by repeat (first | (with_reducible first | exact HB.out | apply below_alloc | apply pw_below_drewN | apply below_drew1 | refine below_set ?_ (Nat.le_trans HL.out GB29.out) | refine below_set ?_ (IsS97.ge HI0.out)) | exact HB.out), by repeat (first | (with_reducible first | exact HK.out | apply KeepBut.set_ | apply keep_drewN | apply keep_drew | apply keep_alloc | refine keep_far ?_ GB29.out _) | exact HK.out)⟩
      ·rw [if_neg c27] at H
       exact absurd H (by simp)
     ·rw [if_neg c25] at H
      exact absurd H (by simp)
    ·rw [if_neg c24] at H
     exact absurd H (by simp)
   ·rw [if_neg c23] at H
    have c23b0 : (t187 == 1) = false := beq_eq_false_iff_ne.mpr c23
    have c23b1 : (t187 != 1) = true := bne_iff_ne.mpr c23
    by_cases c46 : t187 = 2
    ·rw [if_pos c46] at H
     have c46b0 : (t187 == 2) = true := beq_iff_eq.mpr c46
     have c46b1 : (t187 != 2) = false := bne_eq_false_iff_eq.mpr c46
     clear c46
     obtain ⟨y212, hy212⟩ : ∃ y_ : List Int, y_ = (([(-1), 3] : List Int)) := ⟨_, rfl⟩
     replace H : ((spec_reader_one.f k s0_0 t188 y212).bind fun bt215 => (if 0 ≤ t185 then (if t185 < (t181.length : Int) then (some ((t181.set (t185 : Int).toNat (⟨(rd_T39 t181 t185).f0, (rd_T39 t181 t185).f1, bt215.1, (rd_T39 t181 t185).f3⟩ : S39)), bt215.2)) else (none)) else (none))) = some (r1, r2) := by first | (rw [hy212]; with_reducible exact H) | (have H2_ := (Option.bind_some _ _).symm.trans H; rw [hy212]; with_reducible exact H2_) | (have H2_ := (Option.bind_some _ _).symm.trans H; with_reducible exact H2_) | with_reducible exact H | (rw [hy212]; exact H) | exact H
     have Ny212 := Aside0.mk hy212
     clear hy212
     replace H := Option.bind_eq_some_iff.mp H
     obtain ⟨⟨t215, t216⟩, A470, H⟩ := H
     replace H : (if 0 ≤ t185 then (if t185 < (t181.length : Int) then (some ((t181.set (t185 : Int).toNat (⟨(rd_T39 t181 t185).f0, (rd_T39 t181 t185).f1, t215, (rd_T39 t181 t185).f3⟩ : S39)), t216)) else (none)) else (none)) = some (r1, r2) := H
     have A47 := Aside0.mk A470
     clear A470
     by_cases c48 : 0 ≤ t185
     ·rw [if_pos c48] at H
      have c48b0 : decide (0 ≤ t185) = true := decide_eq_true c48
      clear c48
      by_cases c49 : t185 < (t181.length : Int)
      ·rw [if_pos c49] at H
       have c49b0 : decide (t185 < (t181.length : Int)) = true := decide_eq_true c49
       clear c49
       obtain ⟨y217, hy217⟩ : ∃ y_ : List (S39), y_ = (t181.set (t185 : Int).toNat (⟨(rd_T39 t181 t185).f0, (rd_T39 t181 t185).f1, t215, (rd_T39 t181 t185).f3⟩ : S39)) := ⟨_, rfl⟩
       replace H : (some (y217, t216)) = some (r1, r2) := by first | (rw [hy217]; with_reducible exact H) | (have H2_ := (Option.bind_some _ _).symm.trans H; rw [hy217]; with_reducible exact H2_) | (have H2_ := (Option.bind_some _ _).symm.trans H; with_reducible exact H2_) | with_reducible exact H | (rw [hy217]; exact H) | exact H
       have Ny217 := Aside0.mk hy217
       clear hy217
       simp only [Option.some.injEq, Prod.mk.injEq] at H
       obtain ⟨rfl, rfl⟩ := H
       go_enter Tryd.func56, Tryd.ntmps56
       go_wp2_with (first | ((with_reducible refine gate_callee (f := 88) rfl ?_); refine goesL_ (some 6) rfl rfl Tryd.func88 (by kernel_rfl) rfl #[.pointer (some ⟨g, 0, none⟩), .int .i64 8] rfl (by (try simp only [List.map_toArray, List.map_cons, List.map_nil]); first | done | rfl | (simp only [List.length_drop, List.length_take]; rfl)) ?_; (with_reducible refine (spec_someGraph.calls k g s0_0 s0_1 8 t181 t184 w0 _ ?side1 ?side2 A2.out).mono ?_); (case side1 => repeat (first | (with_reducible first | exact HI0.out | apply IsS97.alloc | apply IsS97.drewN | apply IsS97.drew | apply IsS97.set_1) | exact HI0.out)); (case side2 => repeat (first | (with_reducible first | exact HB.out | apply below_alloc | apply pw_below_drewN | apply below_drew1 | refine below_set ?_ (IsS97.ge HI0.out)) | exact HB.out)); rintro e w51 ⟨v182, rfl, ho0, hi, hb, hk⟩; refine ⟨_, rfl, ?_⟩; have n0_ := Aside0.mk (Kd.N_lower (Kd.N_mono (ok' := fun k_ => (w.heap.size ≤ k_) ∧ k_ ≠ g) (Kd.S_N (Kd.S_bound ho0)) (fun k_ hk_ => ⟨(Nat.le_trans (keep_size (w := w) (g := g) (row := none) (by repeat (first | (with_reducible first | exact HK.out | apply KeepBut.set_ | apply keep_drewN | apply keep_drew | apply keep_alloc) | exact HK.out))) hk_.2.1), (IsS97.fresh (by repeat (first | (with_reducible first | exact HI0.out | apply IsS97.alloc | apply IsS97.drewN | apply IsS97.drew | apply IsS97.set_1) | exact HI0.out)) k_ hk_.2.1)⟩)) (keep_size (w := w) (g := g) (row := none) (by repeat (first | (with_reducible first | exact HK.out | apply KeepBut.set_ | apply keep_drewN | apply keep_drew | apply keep_alloc) | exact HK.out)))); have n1_ := Aside0.mk (KeepBut.trans (by repeat (first | (with_reducible first | exact HK.out | apply KeepBut.set_ | apply keep_drewN | apply keep_drew | apply keep_alloc) | exact HK.out)) hk (.inl rfl)); have n2_ := Aside0.mk (hb); have n3_ := Aside0.mk (hi); clear HK; clear HB; clear HI0; have HO183 := n0_; have HK := n1_; have HB := n2_; have HI0 := n3_; clear n0_ n1_ n2_ n3_; (try clear hb); (try clear hb2); (try clear hk); (try clear hi); (try clear ho0); obtain ⟨Ao52, co52, eo52⟩ := Kd.N_slice HO183.out; subst eo52) | ((with_reducible refine gate_callee (f := 65) rfl ?_); refine goesL_ (some 14) rfl rfl Tryd.func65 (by kernel_rfl) rfl #[.pointer (some ⟨g, 0, none⟩), .int .i64 (t181.length : Int)] rfl (by (try simp only [List.map_toArray, List.map_cons, List.map_nil]); first | done | rfl | (simp only [List.length_drop, List.length_take]; rfl)) ?_; (with_reducible refine (spec_reader_pick.calls k g s0_0 t184 (t181.length : Int) t185 t186 w0 _ ?side1 ?side2 A6.out).mono ?_); (case side1 => repeat (first | (with_reducible first | exact HI0.out | apply IsS97.alloc | apply IsS97.drewN | apply IsS97.drew | apply IsS97.set_1) | exact HI0.out)); (case side2 => repeat (first | (with_reducible first | exact HB.out | apply below_alloc | apply pw_below_drewN | apply below_drew1 | refine below_set ?_ (IsS97.ge HI0.out)) | exact HB.out)); rintro e w53 ⟨rfl, hi, hb, hk⟩; refine ⟨_, rfl, ?_⟩; have n0_ := Aside0.mk (Kd.N_mono (Kd.N_keep (Kd.N_mono (ok := fun k_ => (((w.heap.size ≤ k_)) ∧ k_ ≠ g)) (by (with_reducible repeat (first | apply Kd.N_alloc | apply Kd.N_drewN | apply Kd.N_drew)); exact HO183.out) (fun k_ hk_ => (⟨hk_, hk_.2⟩ : _ ∧ k_ ≠ g))) hk (fun _ h => h.2)) (fun _ h => h.1)); have n1_ := Aside0.mk (KeepBut.trans (by repeat (first | (with_reducible first | exact HK.out | apply KeepBut.set_ | apply keep_drewN | apply keep_drew | apply keep_alloc) | exact HK.out)) hk (.inl rfl)); have n2_ := Aside0.mk (hb); have n3_ := Aside0.mk (hi); clear HO183; clear HK; clear HB; clear HI0; have HO183 := n0_; have HK := n1_; have HB := n2_; have HI0 := n3_; clear n0_ n1_ n2_ n3_; (try clear hb); (try clear hb2); (try clear hk); (try clear hi)) | ((with_reducible refine gate_callee (f := 65) rfl ?_); refine goesL_ (some 16) rfl rfl Tryd.func65 (by kernel_rfl) rfl #[.pointer (some ⟨g, 0, none⟩), .int .i64 24] rfl (by (try simp only [List.map_toArray, List.map_cons, List.map_nil]); first | done | rfl | (simp only [List.length_drop, List.length_take]; rfl)) ?_; (with_reducible refine (spec_reader_pick.calls k g s0_0 t186 24 t187 t188 w0 _ ?side1 ?side2 A7.out).mono ?_); (case side1 => repeat (first | (with_reducible first | exact HI0.out | apply IsS97.alloc | apply IsS97.drewN | apply IsS97.drew | apply IsS97.set_1) | exact HI0.out)); (case side2 => repeat (first | (with_reducible first | exact HB.out | apply below_alloc | apply pw_below_drewN | apply below_drew1 | refine below_set ?_ (IsS97.ge HI0.out)) | exact HB.out)); rintro e w54 ⟨rfl, hi, hb, hk⟩; refine ⟨_, rfl, ?_⟩; have n0_ := Aside0.mk (Kd.N_mono (Kd.N_keep (Kd.N_mono (ok := fun k_ => (((w.heap.size ≤ k_)) ∧ k_ ≠ g)) (by (with_reducible repeat (first | apply Kd.N_alloc | apply Kd.N_drewN | apply Kd.N_drew)); exact HO183.out) (fun k_ hk_ => (⟨hk_, hk_.2⟩ : _ ∧ k_ ≠ g))) hk (fun _ h => h.2)) (fun _ h => h.1)); have n1_ := Aside0.mk (KeepBut.trans (by repeat (first | (with_reducible first | exact HK.out | apply KeepBut.set_ | apply keep_drewN | apply keep_drew | apply keep_alloc) | exact HK.out)) hk (.inl rfl)); have n2_ := Aside0.mk (hb); have n3_ := Aside0.mk (hi); clear HO183; clear HK; clear HB; clear HI0; have HO183 := n0_; have HK := n1_; have HB := n2_; have HI0 := n3_; clear n0_ n1_ n2_ n3_; (try clear hb); (try clear hb2); (try clear hk); (try clear hi)) | ((with_reducible refine gate_dst (N := 50) rfl ?_); refine Kd.R_lit (Kd.int .i64) _ 3 ?hg (N := 50) ?hd (xs := ([(-1), 3] : List Int)) (inner := [.int .i64 (-1), .int .i64 3]) (ok := fun _ => True) (okp := fun _ => True) ?hr ?hp (fun _ hk => hk) trivial (Below.refl _ _) (Nat.le_refl _) (by simp) ?_; (case hd => rfl); (case hg => rfl); (case hr => first | (go_simp; done) | (go_simp; rfl)); (case hp => exact (Reps.one (show Kd.M (Kd.int .i64) _ _ _ (-1) [.int .i64 (-1)] from rfl) (Reps.one (show Kd.M (Kd.int .i64) _ _ _ 3 [.int .i64 3] from rfl) (Reps.none _ _)))); intro v213 w55 ho56 hb hg_ hnew_; clear hg_ hnew_; (first | rw [← Ny212.out] at ho56 | (simp only [Int.reduceToNat] at ho56; rw [← Ny212.out] at ho56)); have n0_ := Aside0.mk (Kd.N_elder' (by (with_reducible repeat (first | apply Kd.N_alloc | apply Kd.N_drewN | apply Kd.N_drew)); exact HO183.out) (Kd.R_base ho56) hb); have n1_ := Aside0.mk (Kd.R_lower (Kd.R_newM (M := fun k_ => (w.heap.size ≤ k_)) ho56 (keep_size (w := w) (g := g) (row := none) (by repeat (first | (with_reducible first | exact HK.out | apply KeepBut.set_ | apply keep_drewN | apply keep_drew | apply keep_alloc) | exact HK.out))) (fun k_ h_ => h_)) (keep_size (w := w) (g := g) (row := none) (by repeat (first | (with_reducible first | exact HK.out | apply KeepBut.set_ | apply keep_drewN | apply keep_drew | apply keep_alloc) | exact HK.out)))); have n2_ := Aside0.mk (IsS97.below (by repeat (first | (with_reducible first | exact HI0.out | apply IsS97.alloc | apply IsS97.drewN | apply IsS97.drew | apply IsS97.set_1) | exact HI0.out)) hb); have n3_ := Aside0.mk (KeepBut.trans (by repeat (first | (with_reducible first | exact HK.out | apply KeepBut.set_ | apply keep_drewN | apply keep_drew | apply keep_alloc) | exact HK.out)) (KeepBut.of_below hb g none) (.inl rfl)); have n4_ := Aside0.mk (below_step (by repeat (first | (with_reducible first | exact HB.out | apply below_alloc | apply pw_below_drewN | apply below_drew1 | refine below_set ?_ (IsS97.ge HI0.out)) | exact HB.out)) hb); clear HO183; clear HI0; clear HK; clear HB; have HO183 := n0_; have HO214 := n1_; have HI0 := n2_; have HK := n3_; have HB := n4_; clear n0_ n1_ n2_ n3_ n4_; clear hb ho56; obtain ⟨Ao57, co57, eo57⟩ := Kd.R_slice HO214.out; subst eo57) | ((with_reducible refine gate_callee (f := 69) rfl ?_); refine goesL_ (some 51) rfl rfl Tryd.func69 (by kernel_rfl) rfl #[.pointer (some ⟨g, 0, none⟩), .slice Ao57 y212.length co57] rfl (by (try simp only [List.map_toArray, List.map_cons, List.map_nil]); first | done | rfl | (simp only [List.length_drop, List.length_take]; rfl)) ?_; (with_reducible refine (spec_reader_one.calls k g s0_0 t188 _ _ y212 t215 t216 w0 _ ?side1 ?side2 ?side3 ?side4 ?side5 A47.out).mono ?_); (case side1 => repeat (first | (with_reducible first | exact HI0.out | apply IsS97.alloc | apply IsS97.drewN | apply IsS97.drew | apply IsS97.set_1) | exact HI0.out)); (case side2 => repeat (first | (with_reducible first | exact HB.out | apply below_alloc | apply pw_below_drewN | apply below_drew1 | refine below_set ?_ (IsS97.ge HI0.out)) | exact HB.out)); (case side3 => repeat (first | exact (Kd.R_reads' HO214.out).2.2 | (with_reducible refine Kd.C_alloc ?_ _) | (with_reducible refine Kd.C_drewN ?_ _) | (with_reducible refine Kd.C_drew ?_))); (case side4 => exact (Kd.R_reads' HO214.out).2.1); (case side5 => exact far_slice (IsS97.own_ne HI0.out HO214.out (by decide))); rintro e w58 ⟨rfl, hi, hb, hk⟩; refine ⟨_, rfl, ?_⟩; have n0_ := Aside0.mk (Kd.N_mono (Kd.N_keep (Kd.N_mono (ok := fun k_ => ((((w.heap.size ≤ k_)) ∧ k_ ≠ g) ∧ some k_ ≠ (.slice Ao57 y212.length co57 : Value).ownBlock)) (by (with_reducible repeat (first | apply Kd.N_alloc | apply Kd.N_drewN | apply Kd.N_drew)); exact HO183.out) (fun k_ hk_ => (⟨hk_, hk_.1.2⟩ : _ ∧ k_ ≠ g))) hk (fun _ h => h.2)) (fun _ h => h.1)); have n1_ := Aside0.mk (Kd.R_mono (Kd.R_keep (IsS97.apart (show IsS97 w0 _ g s0_0 t188 from by repeat (first | (with_reducible first | exact HI0.out | apply IsS97.alloc | apply IsS97.drewN | apply IsS97.drew | apply IsS97.set_1) | exact HI0.out)) (by (with_reducible repeat (first | apply Kd.R_alloc | apply Kd.R_drewN | apply Kd.R_drew)); exact HO214.out) (by decide)) hk (fun _ h => h.2)) (fun _ h => h.1)); have n2_ := Aside0.mk (KeepBut.trans (by repeat (first | (with_reducible first | exact HK.out | apply KeepBut.set_ | apply keep_drewN | apply keep_drew | apply keep_alloc) | exact HK.out)) hk (.inl rfl)); have n3_ := Aside0.mk (hb); have n4_ := Aside0.mk (hi); clear HO183; clear HO214; clear HK; clear HB; clear HI0; have HO183 := n0_; have HO214 := n1_; have HK := n2_; have HB := n3_; have HI0 := n4_; clear n0_ n1_ n2_ n3_ n4_; (try clear hb); (try clear hb2); (try clear hk); (try clear hi); have p50 : 0 ≤ (t185 : Int) := of_decide_eq_true (by first | (with_reducible assumption) | assumption); have q50 : (t185 : Int) < ((t181.length : Int) : Int) := of_decide_eq_true (by first | (with_reducible assumption) | assumption); obtain ⟨go50, co50, eo50, gb50, gl50, cl50, HG50⟩ := Kd.N_form HO183.out (by omega); (first | cases eo50 | (injection eo50 with ea_ en_ ec_; (first | subst ea_ | (injection ea_ with ea_; subst ea_)); subst ec_; clear en_)); have GB50 := Aside0.mk gb50; have GG50 := Aside0.mk HG50; clear gb50 gl50 HG50; obtain ⟨ce50, hcl50, hM50, hcc50, hfr50⟩ := Kd.N_elem HO183.out z39 (t185 : Int) p50 q50; obtain ⟨ua50_1, uc50_1, rfl, ul50_1, ge50_1⟩ := k39_openF hM50; have hx50_0 : w58.cell? ⟨go50, (t185 : Int).toNat * 4, none⟩ = some (.int .i64 ((rd_T39 t181 t185).f0)) := hcc50 0 _ rfl; have hx50_1 : w58.cell? ⟨go50, (t185 : Int).toNat * 4 + 1, none⟩ = some (.slice ua50_1 ((rd_T39 t181 t185).f1).length uc50_1) := hcc50 1 _ rfl; have hx50_2 : w58.cell? ⟨go50, (t185 : Int).toNat * 4 + 2, none⟩ = some (.int .i64 ((rd_T39 t181 t185).f2)) := hcc50 2 _ rfl; have hx50_3 : w58.cell? ⟨go50, (t185 : Int).toNat * 4 + 3, none⟩ = some (.int .i64 ((rd_T39 t181 t185).f3)) := hcc50 3 _ rfl; have hf50_0 : w58.frozen? ⟨go50, (t185 : Int).toNat * 4, none⟩ = false := hfr50 0; have hf50_1 : w58.frozen? ⟨go50, (t185 : Int).toNat * 4 + 1, none⟩ = false := hfr50 1; have hf50_2 : w58.frozen? ⟨go50, (t185 : Int).toNat * 4 + 2, none⟩ = false := hfr50 2; have hf50_3 : w58.frozen? ⟨go50, (t185 : Int).toNat * 4 + 3, none⟩ = false := hfr50 3; clear hcl50 hcc50 hfr50 hM50; replace p50 := eq_true p50; replace q50 := eq_true q50; have n_ := Aside0.mk (Kd.N_mono (ok' := (fun k_ => (w.heap.size ≤ k_) ∧ some k_ ≠ (.slice Ao57 y212.length co57 : Value).ownBlock)) HO183.out (fun k_ hk => ⟨hk.1.1, hk.2⟩)); clear HO183; have HO183 := n_; clear n_; have HX59 := Aside0.mk (show Kd.N k39 39 w58 w.heap.size (fun k_ => (w.heap.size ≤ k_) ∧ some k_ ≠ (.slice Ao57 y212.length co57 : Value).ownBlock) (.slice (some ⟨go50, 0, none⟩) t181.length co52) t181 from (by (with_reducible repeat (first | apply Kd.N_alloc | apply Kd.N_drewN | apply Kd.N_drew)); exact HO183.out)); obtain ⟨ce59, hcl59, hM59, hcc59, hfr59⟩ := Kd.N_elem HX59.out z39 (t185 : Int) (of_decide_eq_true (by first | (with_reducible assumption) | assumption)) (by have h_ : (t185 : Int) < ((t181.length : Int) : Int) := of_decide_eq_true (by first | (with_reducible assumption) | assumption); first | exact h_ | (have e_ := (Kd.N_reads' HO183.out).1; omega) | simpa using h_); obtain ⟨ua59_1, uc59_1, rfl, ul59_1, ge59_1⟩ := k39_openF hM59; have HP59 := Kd.N_seg HX59.out (t185 : Int) (of_decide_eq_true (by first | (with_reducible assumption) | assumption)) (by have h_ : (t185 : Int) < ((t181.length : Int) : Int) := of_decide_eq_true (by first | (with_reducible assumption) | assumption); first | exact h_ | (have e_ := (Kd.N_reads' HO183.out).1; omega) | simpa using h_) (seg := [.int .i64 t215]) (j := 2) hcl59 hcc59 (show 3 ≤ 4 from by decide) (x' := (⟨(rd_T39 t181 t185).f0, (rd_T39 t181 t185).f1, t215, (rd_T39 t181 t185).f3⟩ : S39)) (k39_mkF _ _ (⟨(rd_T39 t181 t185).f0, (rd_T39 t181 t185).f1, t215, (rd_T39 t181 t185).f3⟩ : S39) ul59_1 ge59_1) (fun _ hk => hk); have hx59_2 := hcc59 2 _ rfl; (try simp only [show (k39).sz = 4 from rfl, Nat.mul_one, Nat.add_zero] at hx59_2); have hf59_2 := hfr59 2; (try simp only [show (k39).sz = 4 from rfl, Nat.mul_one, Nat.add_zero] at hf59_2); clear hcl59 hcc59 hfr59 hM59) | ((with_reducible refine gate_store (t := 3) (p := 53) rfl ?_); refine store_event (t := 3) (p := 53) (v := ?vo_w60) (w1 := (w58.setCell ⟨go50, (t185 : Int).toNat * 4 + 2, none⟩ (.int .i64 t215))) ?hg ?ho ?hn ?hr ?_; (case ho => rfl); (case hg => rfl); (case hn => rfl); (case hr => first | (go_simp; done) | (go_simp; rfl)); intro w60 hw; have hg : w58.grownBy w60 (some go50) := (by rw [hw]; exact HP59.2); have hp_ : Kd.N k39 39 w60 w.heap.size (fun k_ => (w.heap.size ≤ k_) ∧ some k_ ≠ (.slice Ao57 y212.length co57 : Value).ownBlock) (.slice (some ⟨go50, 0, none⟩) t181.length co52) y217 := (by rw [hw, Ny217.out]; exact HP59.1); clear HP59; have n0_ := Aside0.mk (IsS97.grown (by repeat (first | (with_reducible first | exact HI0.out | apply IsS97.alloc | apply IsS97.drewN | apply IsS97.drew | apply IsS97.set_1) | exact HI0.out)) hg (IsS97.own_neN HI0.out HO183.out (by decide))); have n1_ := Aside0.mk (hp_); have n2_ := Aside0.mk (Kd.R_over' (v := (.slice (some ⟨go50, 0, none⟩) t181.length co52)) (by (with_reducible repeat (first | apply Kd.R_alloc | apply Kd.R_drewN | apply Kd.R_drew)); exact HO214.out) (Kd.N_typed HO183.out) (by decide) hg); have n3_ := Aside0.mk ((by rw [hw]; exact below_set (HB.out) (Nat.le_trans HL.out GB50.out) : Below w0.heap.size w0 w60)); have n4_ := Aside0.mk (KeepBut.trans (by repeat (first | (with_reducible first | exact HK.out | apply KeepBut.set_ | apply keep_drewN | apply keep_drew | apply keep_alloc) | exact HK.out)) (KeepBut.of_grown hg g) (Kd.N_base2 HO183.out)); clear HI0; clear HO183; clear HO214; clear HB; clear HK; have HI0 := n0_; have HO183 := n1_; have HO214 := n2_; have HB := n3_; have HK := n4_; clear n0_ n1_ n2_ n3_ n4_; clear hg hw hp_))
       go_ret
       exact ⟨_, by first | rfl | (simp [errW_none, errW_some] <;> rfl) | (simp [*, errW_none, errW_some] <;> rfl), by (with_reducible repeat (first | apply Kd.N_alloc | apply Kd.N_drewN | apply Kd.N_drew)); exact Kd.N_mono HO183.out (fun _ hk => hk.1), by repeat (first | (with_reducible first | exact HI0.out | apply IsS97.alloc | apply IsS97.drewN | apply IsS97.drew | apply IsS97.set_1) | exact HI0.out), by repeat (first | (with_reducible first | exact HB.out | apply below_alloc | apply pw_below_drewN | apply below_drew1 | refine below_set ?_ (IsS97.ge HI0.out)) | exact HB.out), by repeat (first | (with_reducible first | exact HK.out | apply KeepBut.set_ | apply keep_drewN | apply keep_drew | apply keep_alloc) | exact HK.out)⟩
      ·rw [if_neg c49] at H
       exact absurd H (by simp)
     ·rw [if_neg c48] at H
      exact absurd H (by simp)
    ·rw [if_neg c46] at H
     have c46b0 : (t187 == 2) = false := beq_eq_false_iff_ne.mpr c46
     have c46b1 : (t187 != 2) = true := bne_iff_ne.mpr c46
     by_cases c61 : t187 = 3
     ·rw [if_pos c61] at H
      have c61b0 : (t187 == 3) = true := beq_iff_eq.mpr c61
      have c61b1 : (t187 != 3) = false := bne_eq_false_iff_eq.mpr c61
      clear c61
      obtain ⟨y218, hy218⟩ : ∃ y_ : List Int, y_ = (([0, 5] : List Int)) := ⟨_, rfl⟩
      replace H : ((spec_reader_one.f k s0_0 t188 y218).bind fun bt221 => (if 0 ≤ t185 then (if t185 < (t181.length : Int) then (some ((t181.set (t185 : Int).toNat (⟨(rd_T39 t181 t185).f0, (rd_T39 t181 t185).f1, (rd_T39 t181 t185).f2, bt221.1⟩ : S39)), bt221.2)) else (none)) else (none))) = some (r1, r2) := by first | (rw [hy218]; with_reducible exact H) | (have H2_ := (Option.bind_some _ _).symm.trans H; rw [hy218]; with_reducible exact H2_) | (have H2_ := (Option.bind_some _ _).symm.trans H; with_reducible exact H2_) | with_reducible exact H | (rw [hy218]; exact H) | exact H
      have Ny218 := Aside0.mk hy218
      clear hy218
      replace H := Option.bind_eq_some_iff.mp H
      obtain ⟨⟨t221, t222⟩, A620, H⟩ := H
      replace H : (if 0 ≤ t185 then (if t185 < (t181.length : Int) then (some ((t181.set (t185 : Int).toNat (⟨(rd_T39 t181 t185).f0, (rd_T39 t181 t185).f1, (rd_T39 t181 t185).f2, t221⟩ : S39)), t222)) else (none)) else (none)) = some (r1, r2) := H
      have A62 := Aside0.mk A620
      clear A620
      by_cases c63 : 0 ≤ t185
      ·rw [if_pos c63] at H
       have c63b0 : decide (0 ≤ t185) = true := decide_eq_true c63
       clear c63
       by_cases c64 : t185 < (t181.length : Int)
       ·rw [if_pos c64] at H
        have c64b0 : decide (t185 < (t181.length : Int)) = true := decide_eq_true c64
        clear c64
        obtain ⟨y223, hy223⟩ : ∃ y_ : List (S39), y_ = (t181.set (t185 : Int).toNat (⟨(rd_T39 t181 t185).f0, (rd_T39 t181 t185).f1, (rd_T39 t181 t185).f2, t221⟩ : S39)) := ⟨_, rfl⟩
        replace H : (some (y223, t222)) = some (r1, r2) := by first | (rw [hy223]; with_reducible exact H) | (have H2_ := (Option.bind_some _ _).symm.trans H; rw [hy223]; with_reducible exact H2_) | (have H2_ := (Option.bind_some _ _).symm.trans H; with_reducible exact H2_) | with_reducible exact H | (rw [hy223]; exact H) | exact H
        have Ny223 := Aside0.mk hy223
        clear hy223
        simp only [Option.some.injEq, Prod.mk.injEq] at H
        obtain ⟨rfl, rfl⟩ := H
        go_enter Tryd.func56, Tryd.ntmps56
        go_wp2_with (first | ((with_reducible refine gate_callee (f := 88) rfl ?_); refine goesL_ (some 6) rfl rfl Tryd.func88 (by kernel_rfl) rfl #[.pointer (some ⟨g, 0, none⟩), .int .i64 8] rfl (by (try simp only [List.map_toArray, List.map_cons, List.map_nil]); first | done | rfl | (simp only [List.length_drop, List.length_take]; rfl)) ?_; (with_reducible refine (spec_someGraph.calls k g s0_0 s0_1 8 t181 t184 w0 _ ?side1 ?side2 A2.out).mono ?_); (case side1 => repeat (first | (with_reducible first | exact HI0.out | apply IsS97.alloc | apply IsS97.drewN | apply IsS97.drew | apply IsS97.set_1) | exact HI0.out)); (case side2 => repeat (first | (with_reducible first | exact HB.out | apply below_alloc | apply pw_below_drewN | apply below_drew1 | refine below_set ?_ (IsS97.ge HI0.out)) | exact HB.out)); rintro e w66 ⟨v182, rfl, ho0, hi, hb, hk⟩; refine ⟨_, rfl, ?_⟩; have n0_ := Aside0.mk (Kd.N_lower (Kd.N_mono (ok' := fun k_ => (w.heap.size ≤ k_) ∧ k_ ≠ g) (Kd.S_N (Kd.S_bound ho0)) (fun k_ hk_ => ⟨(Nat.le_trans (keep_size (w := w) (g := g) (row := none) (by repeat (first | (with_reducible first | exact HK.out | apply KeepBut.set_ | apply keep_drewN | apply keep_drew | apply keep_alloc) | exact HK.out))) hk_.2.1), (IsS97.fresh (by repeat (first | (with_reducible first | exact HI0.out | apply IsS97.alloc | apply IsS97.drewN | apply IsS97.drew | apply IsS97.set_1) | exact HI0.out)) k_ hk_.2.1)⟩)) (keep_size (w := w) (g := g) (row := none) (by repeat (first | (with_reducible first | exact HK.out | apply KeepBut.set_ | apply keep_drewN | apply keep_drew | apply keep_alloc) | exact HK.out)))); have n1_ := Aside0.mk (KeepBut.trans (by repeat (first | (with_reducible first | exact HK.out | apply KeepBut.set_ | apply keep_drewN | apply keep_drew | apply keep_alloc) | exact HK.out)) hk (.inl rfl)); have n2_ := Aside0.mk (hb); have n3_ := Aside0.mk (hi); clear HK; clear HB; clear HI0; have HO183 := n0_; have HK := n1_; have HB := n2_; have HI0 := n3_; clear n0_ n1_ n2_ n3_; (try clear hb); (try clear hb2); (try clear hk); (try clear hi); (try clear ho0); obtain ⟨Ao67, co67, eo67⟩ := Kd.N_slice HO183.out; subst eo67) | ((with_reducible refine gate_callee (f := 65) rfl ?_); refine goesL_ (some 14) rfl rfl Tryd.func65 (by kernel_rfl) rfl #[.pointer (some ⟨g, 0, none⟩), .int .i64 (t181.length : Int)] rfl (by (try simp only [List.map_toArray, List.map_cons, List.map_nil]); first | done | rfl | (simp only [List.length_drop, List.length_take]; rfl)) ?_; (with_reducible refine (spec_reader_pick.calls k g s0_0 t184 (t181.length : Int) t185 t186 w0 _ ?side1 ?side2 A6.out).mono ?_); (case side1 => repeat (first | (with_reducible first | exact HI0.out | apply IsS97.alloc | apply IsS97.drewN | apply IsS97.drew | apply IsS97.set_1) | exact HI0.out)); (case side2 => repeat (first | (with_reducible first | exact HB.out | apply below_alloc | apply pw_below_drewN | apply below_drew1 | refine below_set ?_ (IsS97.ge HI0.out)) | exact HB.out)); rintro e w68 ⟨rfl, hi, hb, hk⟩; refine ⟨_, rfl, ?_⟩; have n0_ := Aside0.mk (Kd.N_mono (Kd.N_keep (Kd.N_mono (ok := fun k_ => (((w.heap.size ≤ k_)) ∧ k_ ≠ g)) (by (with_reducible repeat (first | apply Kd.N_alloc | apply Kd.N_drewN | apply Kd.N_drew)); exact HO183.out) (fun k_ hk_ => (⟨hk_, hk_.2⟩ : _ ∧ k_ ≠ g))) hk (fun _ h => h.2)) (fun _ h => h.1)); have n1_ := Aside0.mk (KeepBut.trans (by repeat (first | (with_reducible first | exact HK.out | apply KeepBut.set_ | apply keep_drewN | apply keep_drew | apply keep_alloc) | exact HK.out)) hk (.inl rfl)); have n2_ := Aside0.mk (hb); have n3_ := Aside0.mk (hi); clear HO183; clear HK; clear HB; clear HI0; have HO183 := n0_; have HK := n1_; have HB := n2_; have HI0 := n3_; clear n0_ n1_ n2_ n3_; (try clear hb); (try clear hb2); (try clear hk); (try clear hi)) | ((with_reducible refine gate_callee (f := 65) rfl ?_); refine goesL_ (some 16) rfl rfl Tryd.func65 (by kernel_rfl) rfl #[.pointer (some ⟨g, 0, none⟩), .int .i64 24] rfl (by (try simp only [List.map_toArray, List.map_cons, List.map_nil]); first | done | rfl | (simp only [List.length_drop, List.length_take]; rfl)) ?_; (with_reducible refine (spec_reader_pick.calls k g s0_0 t186 24 t187 t188 w0 _ ?side1 ?side2 A7.out).mono ?_); (case side1 => repeat (first | (with_reducible first | exact HI0.out | apply IsS97.alloc | apply IsS97.drewN | apply IsS97.drew | apply IsS97.set_1) | exact HI0.out)); (case side2 => repeat (first | (with_reducible first | exact HB.out | apply below_alloc | apply pw_below_drewN | apply below_drew1 | refine below_set ?_ (IsS97.ge HI0.out)) | exact HB.out)); rintro e w69 ⟨rfl, hi, hb, hk⟩; refine ⟨_, rfl, ?_⟩; have n0_ := Aside0.mk (Kd.N_mono (Kd.N_keep (Kd.N_mono (ok := fun k_ => (((w.heap.size ≤ k_)) ∧ k_ ≠ g)) (by (with_reducible repeat (first | apply Kd.N_alloc | apply Kd.N_drewN | apply Kd.N_drew)); exact HO183.out) (fun k_ hk_ => (⟨hk_, hk_.2⟩ : _ ∧ k_ ≠ g))) hk (fun _ h => h.2)) (fun _ h => h.1)); have n1_ := Aside0.mk (KeepBut.trans (by repeat (first | (with_reducible first | exact HK.out | apply KeepBut.set_ | apply keep_drewN | apply keep_drew | apply keep_alloc) | exact HK.out)) hk (.inl rfl)); have n2_ := Aside0.mk (hb); have n3_ := Aside0.mk (hi); clear HO183; clear HK; clear HB; clear HI0; have HO183 := n0_; have HK := n1_; have HB := n2_; have HI0 := n3_; clear n0_ n1_ n2_ n3_; (try clear hb); (try clear hb2); (try clear hk); (try clear hi)) | ((with_reducible refine gate_dst (N := 59) rfl ?_); refine Kd.R_lit (Kd.int .i64) _ 3 ?hg (N := 59) ?hd (xs := ([0, 5] : List Int)) (inner := [.int .i64 0, .int .i64 5]) (ok := fun _ => True) (okp := fun _ => True) ?hr ?hp (fun _ hk => hk) trivial (Below.refl _ _) (Nat.le_refl _) (by simp) ?_; (case hd => rfl); (case hg => rfl); (case hr => first | (go_simp; done) | (go_simp; rfl)); (case hp => exact (Reps.one (show Kd.M (Kd.int .i64) _ _ _ 0 [.int .i64 0] from rfl) (Reps.one (show Kd.M (Kd.int .i64) _ _ _ 5 [.int .i64 5] from rfl) (Reps.none _ _)))); intro v219 w70 ho71 hb hg_ hnew_; clear hg_ hnew_; (first | rw [← Ny218.out] at ho71 | (simp only [Int.reduceToNat] at ho71; rw [← Ny218.out] at ho71)); have n0_ := Aside0.mk (Kd.N_elder' (by (with_reducible repeat (first | apply Kd.N_alloc | apply Kd.N_drewN | apply Kd.N_drew)); exact HO183.out) (Kd.R_base ho71) hb); have n1_ := Aside0.mk (Kd.R_lower (Kd.R_newM (M := fun k_ => (w.heap.size ≤ k_)) ho71 (keep_size (w := w) (g := g) (row := none) (by repeat (first | (with_reducible first | exact HK.out | apply KeepBut.set_ | apply keep_drewN | apply keep_drew | apply keep_alloc) | exact HK.out))) (fun k_ h_ => h_)) (keep_size (w := w) (g := g) (row := none) (by repeat (first | (with_reducible first | exact HK.out | apply KeepBut.set_ | apply keep_drewN | apply keep_drew | apply keep_alloc) | exact HK.out)))); have n2_ := Aside0.mk (IsS97.below (by repeat (first | (with_reducible first | exact HI0.out | apply IsS97.alloc | apply IsS97.drewN | apply IsS97.drew | apply IsS97.set_1) | exact HI0.out)) hb); have n3_ := Aside0.mk (KeepBut.trans (by repeat (first | (with_reducible first | exact HK.out | apply KeepBut.set_ | apply keep_drewN | apply keep_drew | apply keep_alloc) | exact HK.out)) (KeepBut.of_below hb g none) (.inl rfl)); have n4_ := Aside0.mk (below_step (by repeat (first | (with_reducible first | exact HB.out | apply below_alloc | apply pw_below_drewN | apply below_drew1 | refine below_set ?_ (IsS97.ge HI0.out)) | exact HB.out)) hb); clear HO183; clear HI0; clear HK; clear HB; have HO183 := n0_; have HO220 := n1_; have HI0 := n2_; have HK := n3_; have HB := n4_; clear n0_ n1_ n2_ n3_ n4_; clear hb ho71; obtain ⟨Ao72, co72, eo72⟩ := Kd.R_slice HO220.out; subst eo72) | ((with_reducible refine gate_callee (f := 69) rfl ?_); refine goesL_ (some 60) rfl rfl Tryd.func69 (by kernel_rfl) rfl #[.pointer (some ⟨g, 0, none⟩), .slice Ao72 y218.length co72] rfl (by (try simp only [List.map_toArray, List.map_cons, List.map_nil]); first | done | rfl | (simp only [List.length_drop, List.length_take]; rfl)) ?_; (with_reducible refine (spec_reader_one.calls k g s0_0 t188 _ _ y218 t221 t222 w0 _ ?side1 ?side2 ?side3 ?side4 ?side5 A62.out).mono ?_); (case side1 => repeat (first | (with_reducible first | exact HI0.out | apply IsS97.alloc | apply IsS97.drewN | apply IsS97.drew | apply IsS97.set_1) | exact HI0.out)); (case side2 => repeat (first | (with_reducible first | exact HB.out | apply below_alloc | apply pw_below_drewN | apply below_drew1 | refine below_set ?_ (IsS97.ge HI0.out)) | exact HB.out)); (case side3 => repeat (first | exact (Kd.R_reads' HO220.out).2.2 | (with_reducible refine Kd.C_alloc ?_ _) | (with_reducible refine Kd.C_drewN ?_ _) | (with_reducible refine Kd.C_drew ?_))); (case side4 => exact (Kd.R_reads' HO220.out).2.1); (case side5 => exact far_slice (IsS97.own_ne HI0.out HO220.out (by decide))); rintro e w73 ⟨rfl, hi, hb, hk⟩; refine ⟨_, rfl, ?_⟩; have n0_ := Aside0.mk (Kd.N_mono (Kd.N_keep (Kd.N_mono (ok := fun k_ => ((((w.heap.size ≤ k_)) ∧ k_ ≠ g) ∧ some k_ ≠ (.slice Ao72 y218.length co72 : Value).ownBlock)) (by (with_reducible repeat (first | apply Kd.N_alloc | apply Kd.N_drewN | apply Kd.N_drew)); exact HO183.out) (fun k_ hk_ => (⟨hk_, hk_.1.2⟩ : _ ∧ k_ ≠ g))) hk (fun _ h => h.2)) (fun _ h => h.1)); have n1_ := Aside0.mk (Kd.R_mono (Kd.R_keep (IsS97.apart (show IsS97 w0 _ g s0_0 t188 from by repeat (first | (with_reducible first | exact HI0.out | apply IsS97.alloc | apply IsS97.drewN | apply IsS97.drew | apply IsS97.set_1) | exact HI0.out)) (by (with_reducible repeat (first | apply Kd.R_alloc | apply Kd.R_drewN | apply Kd.R_drew)); exact HO220.out) (by decide)) hk (fun _ h => h.2)) (fun _ h => h.1)); have n2_ := Aside0.mk (KeepBut.trans (by repeat (first | (with_reducible first | exact HK.out | apply KeepBut.set_ | apply keep_drewN | apply keep_drew | apply keep_alloc) | exact HK.out)) hk (.inl rfl)); have n3_ := Aside0.mk (hb); have n4_ := Aside0.mk (hi); clear HO183; clear HO220; clear HK; clear HB; clear HI0; have HO183 := n0_; have HO220 := n1_; have HK := n2_; have HB := n3_; have HI0 := n4_; clear n0_ n1_ n2_ n3_ n4_; (try clear hb); (try clear hb2); (try clear hk); (try clear hi); have p65 : 0 ≤ (t185 : Int) := of_decide_eq_true (by first | (with_reducible assumption) | assumption); have q65 : (t185 : Int) < ((t181.length : Int) : Int) := of_decide_eq_true (by first | (with_reducible assumption) | assumption); obtain ⟨go65, co65, eo65, gb65, gl65, cl65, HG65⟩ := Kd.N_form HO183.out (by omega); (first | cases eo65 | (injection eo65 with ea_ en_ ec_; (first | subst ea_ | (injection ea_ with ea_; subst ea_)); subst ec_; clear en_)); have GB65 := Aside0.mk gb65; have GG65 := Aside0.mk HG65; clear gb65 gl65 HG65; obtain ⟨ce65, hcl65, hM65, hcc65, hfr65⟩ := Kd.N_elem HO183.out z39 (t185 : Int) p65 q65; obtain ⟨ua65_1, uc65_1, rfl, ul65_1, ge65_1⟩ := k39_openF hM65; have hx65_0 : w73.cell? ⟨go65, (t185 : Int).toNat * 4, none⟩ = some (.int .i64 ((rd_T39 t181 t185).f0)) := hcc65 0 _ rfl; have hx65_1 : w73.cell? ⟨go65, (t185 : Int).toNat * 4 + 1, none⟩ = some (.slice ua65_1 ((rd_T39 t181 t185).f1).length uc65_1) := hcc65 1 _ rfl; have hx65_2 : w73.cell? ⟨go65, (t185 : Int).toNat * 4 + 2, none⟩ = some (.int .i64 ((rd_T39 t181 t185).f2)) := hcc65 2 _ rfl; have hx65_3 : w73.cell? ⟨go65, (t185 : Int).toNat * 4 + 3, none⟩ = some (.int .i64 ((rd_T39 t181 t185).f3)) := hcc65 3 _ rfl; have hf65_0 : w73.frozen? ⟨go65, (t185 : Int).toNat * 4, none⟩ = false := hfr65 0; have hf65_1 : w73.frozen? ⟨go65, (t185 : Int).toNat * 4 + 1, none⟩ = false := hfr65 1; have hf65_2 : w73.frozen? ⟨go65, (t185 : Int).toNat * 4 + 2, none⟩ = false := hfr65 2; have hf65_3 : w73.frozen? ⟨go65, (t185 : Int).toNat * 4 + 3, none⟩ = false := hfr65 3; clear hcl65 hcc65 hfr65 hM65; replace p65 := eq_true p65; replace q65 := eq_true q65; have n_ := Aside0.mk (Kd.N_mono (ok' := (fun k_ => (w.heap.size ≤ k_) ∧ some k_ ≠ (.slice Ao72 y218.length co72 : Value).ownBlock)) HO183.out (fun k_ hk => ⟨hk.1.1, hk.2⟩)); clear HO183; have HO183 := n_; clear n_; have HX74 := Aside0.mk (show Kd.N k39 39 w73 w.heap.size (fun k_ => (w.heap.size ≤ k_) ∧ some k_ ≠ (.slice Ao72 y218.length co72 : Value).ownBlock) (.slice (some ⟨go65, 0, none⟩) t181.length co67) t181 from (by (with_reducible repeat (first | apply Kd.N_alloc | apply Kd.N_drewN | apply Kd.N_drew)); exact HO183.out)); obtain ⟨ce74, hcl74, hM74, hcc74, hfr74⟩ := Kd.N_elem HX74.out z39 (t185 : Int) (of_decide_eq_true (by first | (with_reducible assumption) | assumption)) (by have h_ : (t185 : Int) < ((t181.length : Int) : Int) := of_decide_eq_true (by first | (with_reducible assumption) | assumption); first | exact h_ | (have e_ := (Kd.N_reads' HO183.out).1; omega) | simpa using h_); obtain ⟨ua74_1, uc74_1, rfl, ul74_1, ge74_1⟩ := k39_openF hM74; have HP74 := Kd.N_seg HX74.out (t185 : Int) (of_decide_eq_true (by first | (with_reducible assumption) | assumption)) (by have h_ : (t185 : Int) < ((t181.length : Int) : Int) := of_decide_eq_true (by first | (with_reducible assumption) | assumption); first | exact h_ | (have e_ := (Kd.N_reads' HO183.out).1; omega) | simpa using h_) (seg := [.int .i64 t221]) (j := 3) hcl74 hcc74 (show 4 ≤ 4 from by decide) (x' := (⟨(rd_T39 t181 t185).f0, (rd_T39 t181 t185).f1, (rd_T39 t181 t185).f2, t221⟩ : S39)) (k39_mkF _ _ (⟨(rd_T39 t181 t185).f0, (rd_T39 t181 t185).f1, (rd_T39 t181 t185).f2, t221⟩ : S39) ul74_1 ge74_1) (fun _ hk => hk); have hx74_3 := hcc74 3 _ rfl; (try simp only [show (k39).sz = 4 from rfl, Nat.mul_one, Nat.add_zero] at hx74_3); have hf74_3 := hfr74 3; (try simp only [show (k39).sz = 4 from rfl, Nat.mul_one, Nat.add_zero] at hf74_3); clear hcl74 hcc74 hfr74 hM74) | ((with_reducible refine gate_store (t := 3) (p := 62) rfl ?_); refine store_event (t := 3) (p := 62) (v := ?vo_w75) (w1 := (w73.setCell ⟨go65, (t185 : Int).toNat * 4 + 3, none⟩ (.int .i64 t221))) ?hg ?ho ?hn ?hr ?_; (case ho => rfl); (case hg => rfl); (case hn => rfl); (case hr => first | (go_simp; done) | (go_simp; rfl)); intro w75 hw; have hg : w73.grownBy w75 (some go65) := (by rw [hw]; exact HP74.2); have hp_ : Kd.N k39 39 w75 w.heap.size (fun k_ => (w.heap.size ≤ k_) ∧ some k_ ≠ (.slice Ao72 y218.length co72 : Value).ownBlock) (.slice (some ⟨go65, 0, none⟩) t181.length co67) y223 := (by rw [hw, Ny223.out]; exact HP74.1); clear HP74; have n0_ := Aside0.mk (IsS97.grown (by repeat (first | (with_reducible first | exact HI0.out | apply IsS97.alloc | apply IsS97.drewN | apply IsS97.drew | apply IsS97.set_1) | exact HI0.out)) hg (IsS97.own_neN HI0.out HO183.out (by decide))); have n1_ := Aside0.mk (hp_); have n2_ := Aside0.mk (Kd.R_over' (v := (.slice (some ⟨go65, 0, none⟩) t181.length co67)) (by (with_reducible repeat (first | apply Kd.R_alloc | apply Kd.R_drewN | apply Kd.R_drew)); exact HO220.out) (Kd.N_typed HO183.out) (by decide) hg); have n3_ := Aside0.mk ((by rw [hw]; exact below_set (HB.out) (Nat.le_trans HL.out GB65.out) : Below w0.heap.size w0 w75)); have n4_ := Aside0.mk (KeepBut.trans (by repeat (first | (with_reducible first | exact HK.out | apply KeepBut.set_ | apply keep_drewN | apply keep_drew | apply keep_alloc) | exact HK.out)) (KeepBut.of_grown hg g) (Kd.N_base2 HO183.out)); clear HI0; clear HO183; clear HO220; clear HB; clear HK; have HI0 := n0_; have HO183 := n1_; have HO220 := n2_; have HB := n3_; have HK := n4_; clear n0_ n1_ n2_ n3_ n4_; clear hg hw hp_))
        go_ret
        exact ⟨_, by first | rfl | (simp [errW_none, errW_some] <;> rfl) | (simp [*, errW_none, errW_some] <;> rfl), by (with_reducible repeat (first | apply Kd.N_alloc | apply Kd.N_drewN | apply Kd.N_drew)); exact Kd.N_mono HO183.out (fun _ hk => hk.1), by repeat (first | (with_reducible first | exact HI0.out | apply IsS97.alloc | apply IsS97.drewN | apply IsS97.drew | apply IsS97.set_1) | exact HI0.out), by repeat (first | (with_reducible first | exact HB.out | apply below_alloc | apply pw_below_drewN | apply below_drew1 | refine below_set ?_ (IsS97.ge HI0.out)) | exact HB.out), by repeat (first | (with_reducible first | exact HK.out | apply KeepBut.set_ | apply keep_drewN | apply keep_drew | apply keep_alloc) | exact HK.out)⟩
       ·rw [if_neg c64] at H
        exact absurd H (by simp)
      ·rw [if_neg c63] at H
       exact absurd H (by simp)
     ·rw [if_neg c61] at H
      have c61b0 : (t187 == 3) = false := beq_eq_false_iff_ne.mpr c61
      have c61b1 : (t187 != 3) = true := bne_iff_ne.mpr c61
      by_cases c76 : t187 = 4
      ·rw [if_pos c76] at H
       have c76b0 : (t187 == 4) = true := beq_iff_eq.mpr c76
       have c76b1 : (t187 != 4) = false := bne_eq_false_iff_eq.mpr c76
       clear c76
       replace H := Option.bind_eq_some_iff.mp H
       obtain ⟨⟨t224, t227⟩, A770, H⟩ := H
       replace H : (if t181.length + t224.length < 2932031007402 then (some ((t181 ++ t224), t227)) else (none)) = some (r1, r2) := H
       have A77 := Aside0.mk A770
       clear A770
       by_cases c78 : t181.length + t224.length < 2932031007402
       ·rw [if_pos c78] at H
        have LMc78 := Aside0.mk c78
        clear c78
        obtain ⟨y228, hy228⟩ : ∃ y_ : List (S39), y_ = (t181 ++ t224) := ⟨_, rfl⟩
        replace H : (some (y228, t227)) = some (r1, r2) := by first | (rw [hy228]; with_reducible exact H) | (have H2_ := (Option.bind_some _ _).symm.trans H; rw [hy228]; with_reducible exact H2_) | (have H2_ := (Option.bind_some _ _).symm.trans H; with_reducible exact H2_) | with_reducible exact H | (rw [hy228]; exact H) | exact H
        have Ny228 := Aside0.mk hy228
        clear hy228
        simp only [Option.some.injEq, Prod.mk.injEq] at H
        obtain ⟨rfl, rfl⟩ := H
        go_enter Tryd.func56, Tryd.ntmps56
        go_wp2_with (first | ((with_reducible refine gate_callee (f := 88) rfl ?_); refine goesL_ (some 6) rfl rfl Tryd.func88 (by kernel_rfl) rfl #[.pointer (some ⟨g, 0, none⟩), .int .i64 8] rfl (by (try simp only [List.map_toArray, List.map_cons, List.map_nil]); first | done | rfl | (simp only [List.length_drop, List.length_take]; rfl)) ?_; (with_reducible refine (spec_someGraph.calls k g s0_0 s0_1 8 t181 t184 w0 _ ?side1 ?side2 A2.out).mono ?_); (case side1 => repeat (first | (with_reducible first | exact HI0.out | apply IsS97.alloc | apply IsS97.drewN | apply IsS97.drew | apply IsS97.set_1) | exact HI0.out)); (case side2 => repeat (first | (with_reducible first | exact HB.out | apply below_alloc | apply pw_below_drewN | apply below_drew1 | refine below_set ?_ (IsS97.ge HI0.out)) | exact HB.out)); rintro e w79 ⟨v182, rfl, ho0, hi, hb, hk⟩; refine ⟨_, rfl, ?_⟩; have n0_ := Aside0.mk (Kd.N_lower (Kd.N_mono (ok' := fun k_ => (w.heap.size ≤ k_) ∧ k_ ≠ g) (Kd.S_N (Kd.S_bound ho0)) (fun k_ hk_ => ⟨(Nat.le_trans (keep_size (w := w) (g := g) (row := none) (by repeat (first | (with_reducible first | exact HK.out | apply KeepBut.set_ | apply keep_drewN | apply keep_drew | apply keep_alloc) | exact HK.out))) hk_.2.1), (IsS97.fresh (by repeat (first | (with_reducible first | exact HI0.out | apply IsS97.alloc | apply IsS97.drewN | apply IsS97.drew | apply IsS97.set_1) | exact HI0.out)) k_ hk_.2.1)⟩)) (keep_size (w := w) (g := g) (row := none) (by repeat (first | (with_reducible first | exact HK.out | apply KeepBut.set_ | apply keep_drewN | apply keep_drew | apply keep_alloc) | exact HK.out)))); have n1_ := Aside0.mk (KeepBut.trans (by repeat (first | (with_reducible first | exact HK.out | apply KeepBut.set_ | apply keep_drewN | apply keep_drew | apply keep_alloc) | exact HK.out)) hk (.inl rfl)); have n2_ := Aside0.mk (hb); have n3_ := Aside0.mk (hi); clear HK; clear HB; clear HI0; have HO183 := n0_; have HK := n1_; have HB := n2_; have HI0 := n3_; clear n0_ n1_ n2_ n3_; (try clear hb); (try clear hb2); (try clear hk); (try clear hi); (try clear ho0); obtain ⟨Ao80, co80, eo80⟩ := Kd.N_slice HO183.out; subst eo80) | ((with_reducible refine gate_callee (f := 65) rfl ?_); refine goesL_ (some 14) rfl rfl Tryd.func65 (by kernel_rfl) rfl #[.pointer (some ⟨g, 0, none⟩), .int .i64 (t181.length : Int)] rfl (by (try simp only [List.map_toArray, List.map_cons, List.map_nil]); first | done | rfl | (simp only [List.length_drop, List.length_take]; rfl)) ?_; (with_reducible refine (spec_reader_pick.calls k g s0_0 t184 (t181.length : Int) t185 t186 w0 _ ?side1 ?side2 A6.out).mono ?_); (case side1 => repeat (first | (with_reducible first | exact HI0.out | apply IsS97.alloc | apply IsS97.drewN | apply IsS97.drew | apply IsS97.set_1) | exact HI0.out)); (case side2 => repeat (first | (with_reducible first | exact HB.out | apply below_alloc | apply pw_below_drewN | apply below_drew1 | refine below_set ?_ (IsS97.ge HI0.out)) | exact HB.out)); rintro e w81 ⟨rfl, hi, hb, hk⟩; refine ⟨_, rfl, ?_⟩; have n0_ := Aside0.mk (Kd.N_mono (Kd.N_keep (Kd.N_mono (ok := fun k_ => (((w.heap.size ≤ k_)) ∧ k_ ≠ g)) (by (with_reducible repeat (first | apply Kd.N_alloc | apply Kd.N_drewN | apply Kd.N_drew)); exact HO183.out) (fun k_ hk_ => (⟨hk_, hk_.2⟩ : _ ∧ k_ ≠ g))) hk (fun _ h => h.2)) (fun _ h => h.1)); have n1_ := Aside0.mk (KeepBut.trans (by repeat (first | (with_reducible first | exact HK.out | apply KeepBut.set_ | apply keep_drewN | apply keep_drew | apply keep_alloc) | exact HK.out)) hk (.inl rfl)); have n2_ := Aside0.mk (hb); have n3_ := Aside0.mk (hi); clear HO183; clear HK; clear HB; clear HI0; have HO183 := n0_; have HK := n1_; have HB := n2_; have HI0 := n3_; clear n0_ n1_ n2_ n3_; (try clear hb); (try clear hb2); (try clear hk); (try clear hi)) | ((with_reducible refine gate_callee (f := 65) rfl ?_); refine goesL_ (some 16) rfl rfl Tryd.func65 (by kernel_rfl) rfl #[.pointer (some ⟨g, 0, none⟩), .int .i64 24] rfl (by (try simp only [List.map_toArray, List.map_cons, List.map_nil]); first | done | rfl | (simp only [List.length_drop, List.length_take]; rfl)) ?_; (with_reducible refine (spec_reader_pick.calls k g s0_0 t186 24 t187 t188 w0 _ ?side1 ?side2 A7.out).mono ?_); (case side1 => repeat (first | (with_reducible first | exact HI0.out | apply IsS97.alloc | apply IsS97.drewN | apply IsS97.drew | apply IsS97.set_1) | exact HI0.out)); (case side2 => repeat (first | (with_reducible first | exact HB.out | apply below_alloc | apply pw_below_drewN | apply below_drew1 | refine below_set ?_ (IsS97.ge HI0.out)) | exact HB.out)); rintro e w82 ⟨rfl, hi, hb, hk⟩; refine ⟨_, rfl, ?_⟩; have n0_ := Aside0.mk (Kd.N_mono (Kd.N_keep (Kd.N_mono (ok := fun k_ => (((w.heap.size ≤ k_)) ∧ k_ ≠ g)) (by (with_reducible repeat (first | apply Kd.N_alloc | apply Kd.N_drewN | apply Kd.N_drew)); exact HO183.out) (fun k_ hk_ => (⟨hk_, hk_.2⟩ : _ ∧ k_ ≠ g))) hk (fun _ h => h.2)) (fun _ h => h.1)); have n1_ := Aside0.mk (KeepBut.trans (by repeat (first | (with_reducible first | exact HK.out | apply KeepBut.set_ | apply keep_drewN | apply keep_drew | apply keep_alloc) | exact HK.out)) hk (.inl rfl)); have n2_ := Aside0.mk (hb); have n3_ := Aside0.mk (hi); clear HO183; clear HK; clear HB; clear HI0; have HO183 := n0_; have HK := n1_; have HB := n2_; have HI0 := n3_; clear n0_ n1_ n2_ n3_; (try clear hb); (try clear hb2); (try clear hk); (try clear hi)) | ((with_reducible refine gate_callee (f := 88) rfl ?_); refine goesL_ (some 67) rfl rfl Tryd.func88 (by kernel_rfl) rfl #[.pointer (some ⟨g, 0, none⟩), .int .i64 8] rfl (by (try simp only [List.map_toArray, List.map_cons, List.map_nil]); first | done | rfl | (simp only [List.length_drop, List.length_take]; rfl)) ?_; (with_reducible refine (spec_someGraph.calls k g s0_0 t188 8 t224 t227 w0 _ ?side1 ?side2 A77.out).mono ?_); (case side1 => repeat (first | (with_reducible first | exact HI0.out | apply IsS97.alloc | apply IsS97.drewN | apply IsS97.drew | apply IsS97.set_1) | exact HI0.out)); (case side2 => repeat (first | (with_reducible first | exact HB.out | apply below_alloc | apply pw_below_drewN | apply below_drew1 | refine below_set ?_ (IsS97.ge HI0.out)) | exact HB.out)); rintro e w83 ⟨v225, rfl, ho0, hi, hb, hk⟩; refine ⟨_, rfl, ?_⟩; have n0_ := Aside0.mk (Kd.N_mono (Kd.N_told (Kd.N_oldK (Kd.N_mono (ok := fun k_ => (((w.heap.size ≤ k_)) ∧ k_ ≠ g)) (by (with_reducible repeat (first | apply Kd.N_alloc | apply Kd.N_drewN | apply Kd.N_drew)); exact HO183.out) (fun k_ hk_ => (⟨hk_, hk_.2⟩ : _ ∧ k_ ≠ g))) hk) (Kd.S_base ho0)) (fun _ h_ => h_.1)); have n1_ := Aside0.mk (Kd.N_lower (Kd.N_mono (ok' := fun k_ => (w.heap.size ≤ k_) ∧ some k_ ≠ (.slice Ao80 t181.length co80 : Value).ownBlock ∧ k_ ≠ g) (Kd.S_N (Kd.S_bound ho0)) (fun k_ hk_ => ⟨(Nat.le_trans (keep_size (w := w) (g := g) (row := none) (by repeat (first | (with_reducible first | exact HK.out | apply KeepBut.set_ | apply keep_drewN | apply keep_drew | apply keep_alloc) | exact HK.out))) hk_.2.1), (Kd.fresh' (Kd.N_lt (by (with_reducible repeat (first | apply Kd.N_alloc | apply Kd.N_drewN | apply Kd.N_drew)); exact HO183.out)) k_ hk_.2.1), (IsS97.fresh (by repeat (first | (with_reducible first | exact HI0.out | apply IsS97.alloc | apply IsS97.drewN | apply IsS97.drew | apply IsS97.set_1) | exact HI0.out)) k_ hk_.2.1)⟩)) (keep_size (w := w) (g := g) (row := none) (by repeat (first | (with_reducible first | exact HK.out | apply KeepBut.set_ | apply keep_drewN | apply keep_drew | apply keep_alloc) | exact HK.out)))); have n2_ := Aside0.mk (KeepBut.trans (by repeat (first | (with_reducible first | exact HK.out | apply KeepBut.set_ | apply keep_drewN | apply keep_drew | apply keep_alloc) | exact HK.out)) hk (.inl rfl)); have n3_ := Aside0.mk (hb); have n4_ := Aside0.mk (hi); clear HO183; clear HK; clear HB; clear HI0; have HO183 := n0_; have HO226 := n1_; have HK := n2_; have HB := n3_; have HI0 := n4_; clear n0_ n1_ n2_ n3_ n4_; (try clear hb); (try clear hb2); (try clear hk); (try clear hi); (try clear ho0); obtain ⟨Ao85, co85, eo85⟩ := Kd.N_slice HO226.out; subst eo85) | ((with_reducible refine gate_builtin (b := .append) (xs := #[.tmp 65, .tmp 67]) rfl ?_); at_builtin; refine Kd.N_append_rows k39 w.heap.size rfl (.tmp 65) (.tmp 67) 23 39 (.agg #[(.int .i64 0), (.slice none 0 0), (.int .i64 0), (.int .i64 0)]) 48 rfl Tryd.underlying23 info39 rfl (by decide) (by omega) (.slice Ao80 t181.length co80) t181 t224 _ _ _ (fun k_ => (w.heap.size ≤ k_) ∧ k_ ≠ g) (fun k_ => ((fun k_ => (w.heap.size ≤ k_) ∧ k_ ≠ g)) k_ ∧ some k_ ≠ (.slice Ao80 t181.length co80 : Value).ownBlock) rfl rfl ?aO ?aR (fun _ hk => hk) ?aF (Below.refl _ _) ?aS ?aL ?_; (case aR => exact (by skip; exact Kd.N_F (Kd.N_mono (ok' := (fun k_ => ((fun k_ => (w.heap.size ≤ k_) ∧ k_ ≠ g)) k_ ∧ some k_ ≠ (.slice Ao80 t181.length co80 : Value).ownBlock)) (HO226.out) (fun k_ hk => ⟨⟨hk.1, hk.2.2⟩, hk.2.1⟩)))); (case aF => exact (fun k_ hk => ⟨(Nat.le_trans (keep_size (w := w) (g := g) (row := none) (by repeat (first | (with_reducible first | exact HK.out | apply KeepBut.set_ | apply keep_drewN | apply keep_drew | apply keep_alloc) | exact HK.out))) hk), IsS97.fresh (by repeat (first | (with_reducible first | exact HI0.out | apply IsS97.alloc | apply IsS97.drewN | apply IsS97.drew | apply IsS97.set_1) | exact HI0.out)) k_ hk⟩)); (case aO => exact (by (with_reducible repeat (first | apply Kd.N_alloc | apply Kd.N_drewN | apply Kd.N_drew)); exact Kd.N_mono HO183.out (fun _ hk => ⟨hk.1.1, hk.1.2⟩))); (case aS => exact (keep_size (w := w) (g := g) (row := none) (by repeat (first | (with_reducible first | exact HK.out | apply KeepBut.set_ | apply keep_drewN | apply keep_drew | apply keep_alloc) | exact HK.out)))); (case aL => have := LMc78.out; omega); intro v229 w84 ho hb hg hat; rw [← Ny228.out] at ho; have n0_ := Aside0.mk (IsS97.grown (by repeat (first | (with_reducible first | exact HI0.out | apply IsS97.alloc | apply IsS97.drewN | apply IsS97.drew | apply IsS97.set_1) | exact HI0.out)) hg (IsS97.own_neN HI0.out HO183.out (by decide))); have n1_ := Aside0.mk (Kd.N_afterv (ok := (fun k_ => (w.heap.size ≤ k_) ∧ k_ ≠ g)) (by (with_reducible repeat (first | apply Kd.N_alloc | apply Kd.N_drewN | apply Kd.N_drew)); exact Kd.N_mono HO226.out (fun _ hk => ⟨⟨hk.1, hk.2.2⟩, hk.2.1⟩)) hg hat); have n2_ := Aside0.mk (below_weaken (by repeat (first | (with_reducible first | exact HB.out | apply below_alloc | apply pw_below_drewN | apply below_drew1 | refine below_set ?_ (IsS97.ge HI0.out)) | exact HB.out)) HL.out hb); have n3_ := Aside0.mk (KeepBut.trans (by repeat (first | (with_reducible first | exact HK.out | apply KeepBut.set_ | apply keep_drewN | apply keep_drew | apply keep_alloc) | exact HK.out)) (KeepBut.of_grown hg g) (Kd.N_base2 HO183.out)); have n4_ := Aside0.mk (ho); clear HI0; clear HO226; clear HB; clear HK; clear HO183; have HI0 := n0_; have HO226 := n1_; have HB := n2_; have HK := n3_; have HO230 := n4_; clear n0_ n1_ n2_ n3_ n4_; clear ho hb hg hat))
        go_ret
        exact ⟨_, by first | rfl | (simp [errW_none, errW_some] <;> rfl) | (simp [*, errW_none, errW_some] <;> rfl), by (with_reducible repeat (first | apply Kd.N_alloc | apply Kd.N_drewN | apply Kd.N_drew)); exact Kd.N_mono HO230.out (fun _ hk => hk.1), by repeat (first | (with_reducible first | exact HI0.out | apply IsS97.alloc | apply IsS97.drewN | apply IsS97.drew | apply IsS97.set_1) | exact HI0.out), by repeat (first | (with_reducible first | exact HB.out | apply below_alloc | apply pw_below_drewN | apply below_drew1 | refine below_set ?_ (IsS97.ge HI0.out)) | exact HB.out), by repeat (first | (with_reducible first | exact HK.out | apply KeepBut.set_ | apply keep_drewN | apply keep_drew | apply keep_alloc) | exact HK.out)⟩
       ·rw [if_neg c78] at H
        exact absurd H (by simp)
      ·rw [if_neg c76] at H
       have c76b0 : (t187 == 4) = false := beq_eq_false_iff_ne.mpr c76
       have c76b1 : (t187 != 4) = true := bne_iff_ne.mpr c76
       simp only [Option.some.injEq, Prod.mk.injEq] at H
       obtain ⟨rfl, rfl⟩ := H
       go_enter Tryd.func56, Tryd.ntmps56
       go_wp2_with (first | ((with_reducible refine gate_callee (f := 88) rfl ?_); refine goesL_ (some 6) rfl rfl Tryd.func88 (by kernel_rfl) rfl #[.pointer (some ⟨g, 0, none⟩), .int .i64 8] rfl (by (try simp only [List.map_toArray, List.map_cons, List.map_nil]); first | done | rfl | (simp only [List.length_drop, List.length_take]; rfl)) ?_; (with_reducible refine (spec_someGraph.calls k g s0_0 s0_1 8 t181 t184 w0 _ ?side1 ?side2 A2.out).mono ?_); (case side1 => repeat (first | (with_reducible first | exact HI0.out | apply IsS97.alloc | apply IsS97.drewN | apply IsS97.drew | apply IsS97.set_1) | exact HI0.out)); (case side2 => repeat (first | (with_reducible first | exact HB.out | apply below_alloc | apply pw_below_drewN | apply below_drew1 | refine below_set ?_ (IsS97.ge HI0.out)) | exact HB.out)); rintro e w86 ⟨v182, rfl, ho0, hi, hb, hk⟩; refine ⟨_, rfl, ?_⟩; have n0_ := Aside0.mk (Kd.N_lower (Kd.N_mono (ok' := fun k_ => (w.heap.size ≤ k_) ∧ k_ ≠ g) (Kd.S_N (Kd.S_bound ho0)) (fun k_ hk_ => ⟨(Nat.le_trans (keep_size (w := w) (g := g) (row := none) (by repeat (first | (with_reducible first | exact HK.out | apply KeepBut.set_ | apply keep_drewN | apply keep_drew | apply keep_alloc) | exact HK.out))) hk_.2.1), (IsS97.fresh (by repeat (first | (with_reducible first | exact HI0.out | apply IsS97.alloc | apply IsS97.drewN | apply IsS97.drew | apply IsS97.set_1) | exact HI0.out)) k_ hk_.2.1)⟩)) (keep_size (w := w) (g := g) (row := none) (by repeat (first | (with_reducible first | exact HK.out | apply KeepBut.set_ | apply keep_drewN | apply keep_drew | apply keep_alloc) | exact HK.out)))); have n1_ := Aside0.mk (KeepBut.trans (by repeat (first | (with_reducible first | exact HK.out | apply KeepBut.set_ | apply keep_drewN | apply keep_drew | apply keep_alloc) | exact HK.out)) hk (.inl rfl)); have n2_ := Aside0.mk (hb); have n3_ := Aside0.mk (hi); clear HK; clear HB; clear HI0; have HO183 := n0_; have HK := n1_; have HB := n2_; have HI0 := n3_; clear n0_ n1_ n2_ n3_; (try clear hb); (try clear hb2); (try clear hk); (try clear hi); (try clear ho0); obtain ⟨Ao87, co87, eo87⟩ := Kd.N_slice HO183.out; subst eo87) | ((with_reducible refine gate_callee (f := 65) rfl ?_); refine goesL_ (some 14) rfl rfl Tryd.func65 (by kernel_rfl) rfl #[.pointer (some ⟨g, 0, none⟩), .int .i64 (t181.length : Int)] rfl (by (try simp only [List.map_toArray, List.map_cons, List.map_nil]); first | done | rfl | (simp only [List.length_drop, List.length_take]; rfl)) ?_; (with_reducible refine (spec_reader_pick.calls k g s0_0 t184 (t181.length : Int) t185 t186 w0 _ ?side1 ?side2 A6.out).mono ?_); (case side1 => repeat (first | (with_reducible first | exact HI0.out | apply IsS97.alloc | apply IsS97.drewN | apply IsS97.drew | apply IsS97.set_1) | exact HI0.out)); (case side2 => repeat (first | (with_reducible first | exact HB.out | apply below_alloc | apply pw_below_drewN | apply below_drew1 | refine below_set ?_ (IsS97.ge HI0.out)) | exact HB.out)); rintro e w88 ⟨rfl, hi, hb, hk⟩; refine ⟨_, rfl, ?_⟩; have n0_ := Aside0.mk (Kd.N_mono (Kd.N_keep (Kd.N_mono (ok := fun k_ => (((w.heap.size ≤ k_)) ∧ k_ ≠ g)) (by (with_reducible repeat (first | apply Kd.N_alloc | apply Kd.N_drewN | apply Kd.N_drew)); exact HO183.out) (fun k_ hk_ => (⟨hk_, hk_.2⟩ : _ ∧ k_ ≠ g))) hk (fun _ h => h.2)) (fun _ h => h.1)); have n1_ := Aside0.mk (KeepBut.trans (by repeat (first | (with_reducible first | exact HK.out | apply KeepBut.set_ | apply keep_drewN | apply keep_drew | apply keep_alloc) | exact HK.out)) hk (.inl rfl)); have n2_ := Aside0.mk (hb); have n3_ := Aside0.mk (hi); clear HO183; clear HK; clear HB; clear HI0; have HO183 := n0_; have HK := n1_; have HB := n2_; have HI0 := n3_; clear n0_ n1_ n2_ n3_; (try clear hb); (try clear hb2); (try clear hk); (try clear hi)) | ((with_reducible refine gate_callee (f := 65) rfl ?_); refine goesL_ (some 16) rfl rfl Tryd.func65 (by kernel_rfl) rfl #[.pointer (some ⟨g, 0, none⟩), .int .i64 24] rfl (by (try simp only [List.map_toArray, List.map_cons, List.map_nil]); first | done | rfl | (simp only [List.length_drop, List.length_take]; rfl)) ?_; (with_reducible refine (spec_reader_pick.calls k g s0_0 t186 24 t187 t188 w0 _ ?side1 ?side2 A7.out).mono ?_); (case side1 => repeat (first | (with_reducible first | exact HI0.out | apply IsS97.alloc | apply IsS97.drewN | apply IsS97.drew | apply IsS97.set_1) | exact HI0.out)); (case side2 => repeat (first | (with_reducible first | exact HB.out | apply below_alloc | apply pw_below_drewN | apply below_drew1 | refine below_set ?_ (IsS97.ge HI0.out)) | exact HB.out)); rintro e w89 ⟨rfl, hi, hb, hk⟩; refine ⟨_, rfl, ?_⟩; have n0_ := Aside0.mk (Kd.N_mono (Kd.N_keep (Kd.N_mono (ok := fun k_ => (((w.heap.size ≤ k_)) ∧ k_ ≠ g)) (by (with_reducible repeat (first | apply Kd.N_alloc | apply Kd.N_drewN | apply Kd.N_drew)); exact HO183.out) (fun k_ hk_ => (⟨hk_, hk_.2⟩ : _ ∧ k_ ≠ g))) hk (fun _ h => h.2)) (fun _ h => h.1)); have n1_ := Aside0.mk (KeepBut.trans (by repeat (first | (with_reducible first | exact HK.out | apply KeepBut.set_ | apply keep_drewN | apply keep_drew | apply keep_alloc) | exact HK.out)) hk (.inl rfl)); have n2_ := Aside0.mk (hb); have n3_ := Aside0.mk (hi); clear HO183; clear HK; clear HB; clear HI0; have HO183 := n0_; have HK := n1_; have HB := n2_; have HI0 := n3_; clear n0_ n1_ n2_ n3_; (try clear hb); (try clear hb2); (try clear hk); (try clear hi)))
       go_ret
       exact ⟨_, by first | rfl | (simp [errW_none, errW_some] <;> rfl) | (simp [*, errW_none, errW_some] <;> rfl), by (with_reducible repeat (first | apply Kd.N_alloc | apply Kd.N_drewN | apply Kd.N_drew)); exact Kd.N_mono HO183.out (fun _ hk => hk.1), by repeat (first | (with_reducible first | exact HI0.out | apply IsS97.alloc | apply IsS97.drewN | apply IsS97.drew | apply IsS97.set_1) | exact HI0.out), by repeat (first | (with_reducible first | exact HB.out | apply below_alloc | apply pw_below_drewN | apply below_drew1 | refine below_set ?_ (IsS97.ge HI0.out)) | exact HB.out), by repeat (first | (with_reducible first | exact HK.out | apply KeepBut.set_ | apply keep_drewN | apply keep_drew | apply keep_alloc) | exact HK.out)⟩
end Go.Proofs.YtajapkjplgaigaaDoor.P
end
section
namespace Go.Proofs.YtajapkjplgaigaaDoor.P
open Go.RowKit Go.Proofs.YtajapkjplgaigaaDoorW.PrintWords Go.Proofs.YtajapkjplgaigaaDoorW.PrintLast Go.Proofs.YtajapkjplgaigaaDoorW.PrintMore
attribute [local go_sem] max2_int min2_int max_two min_two max_three min_three max_four min_four   -- for this text's walks alone
set_option linter.unusedVariables false
set_option linter.unusedSimpArgs false
def spec_newReader.f (l0 : List Int) : Option (List Int × Int) := if (l0.length : Int) > 2000 then (if 2000 ≤ (l0.length : Int) then (some (l0.take 2000, 0)) else (none)) else (some (l0, 0))
set_option maxHeartbeats 8000000 in
set_option maxRecDepth 100000 in
theorem spec_newReader.calls (A0 : Option Addr) (c0 : Nat) (l0 : List Int) (r1 : List Int) (r2 : Int) (w0 w : World) (hB : Below w0.heap.size w0 w) (hr0 : Kd.C (Kd.int .u8) w0 A0 l0.length l0) (hc0 : l0.length ≤ c0) (h : spec_newReader.f l0 = some (r1, r2)) :
  Calls Tryd.prog 57 #[.slice A0 l0.length c0] w fun e w' => ∃ g_ : Nat, e = .returned (.pointer (some ⟨g_, 0, none⟩)) ∧ IsS97 w0 w' g_ r1 r2 ∧ Below w0.heap.size w0 w' ∧ Below w.heap.size w w' := by
 have hu97 := Tryd.underlying97
 have HR0 := Aside0.mk hr0
 have HC0 := Aside0.mk hc0
 clear hr0 hc0
 have HBW := Aside0.mk (Below.refl w.heap.size w)
 have HW0 := Aside0.mk hB.size
 have HB := Aside0.mk hB
 clear hB
 have H : (if (l0.length : Int) > 2000 then (if 2000 ≤ (l0.length : Int) then (some (l0.take 2000, 0)) else (none)) else (some (l0, 0))) = some (r1, r2) := h
 clear h
 by_cases c2 : (l0.length : Int) > 2000
 ·rw [if_pos c2] at H
  have c2b0 : decide (2000 < (l0.length : Int)) = true := decide_eq_true c2
  have c2b1 : decide (2000 < l0.length) = true := decide_eq_true (by omega)
  clear c2
  by_cases c3 : 2000 ≤ (l0.length : Int)
  ·rw [if_pos c3] at H
   have c3b0 := eq_true c3
   have c3b1 : decide (2000 ≤ (l0.length : Int)) = true := decide_eq_true c3
   clear c3
   simp only [Option.some.injEq, Prod.mk.injEq] at H
   obtain ⟨rfl, rfl⟩ := H
   obtain ⟨i04, hi04, _, hsz4, _⟩ := info_parts info5
   obtain ⟨hcut4, hA4, hC4⟩ := print_take_of (P := Tryd.prog) (Value.int .u8) 0 22 5 .i64 Tryd.underlying22 hi04 hsz4 A0 c0 l0 2000 (by omega) (of_decide_eq_true (by first | (with_reducible assumption) | assumption)) HC0.out
   have HR231 := Aside0.mk (Kd.C_of_reads (h1 := fun _ => rfl) (hA4 _ (Kd.reads_of_C HR0.out)))
   have HC231 := Aside0.mk hC4
   clear hA4 hC4 hi04 hsz4
   go_enter Tryd.func57, Tryd.ntmps57
   go_wp2_with (first | ((with_reducible refine gate_dst (N := 10) rfl ?_); refine box_event ?hg (N := 10) ?hd (cs := #[.slice A0 (l0.take 2000).length c0, .int .i64 0]) (t := 97) ?hr ?_; (case hd => rfl); (case hg => rfl); (case hr => first | (go_simp; done) | (go_simp; rfl)); intro gb232 hg w5 hbox hb; have n0_ := Aside0.mk (below_step HBW.out hb); have n1_ := Aside0.mk (below_step (by repeat (first | (with_reducible first | exact HB.out | apply below_alloc | apply pw_below_drewN | apply below_drew1) | exact HB.out)) hb); have n2_ := Aside0.mk (hbox); have n3_ := Aside0.mk ((by rw [hg]; exact (below_size (by repeat (first | (with_reducible first | exact HBW.out | apply below_alloc | apply pw_below_drewN | apply below_drew1) | exact HBW.out))) : w.heap.size ≤ gb232)); have n4_ := Aside0.mk ((Nat.le_trans HW0.out (by rw [hg]; exact (below_size (by repeat (first | (with_reducible first | exact HBW.out | apply below_alloc | apply pw_below_drewN | apply below_drew1) | exact HBW.out))) : w.heap.size ≤ gb232) : w0.heap.size ≤ gb232)); clear HBW; clear HB; have HBW := n0_; have HB := n1_; have BK232 := n2_; have GW232 := n3_; have GE232 := n4_; clear n0_ n1_ n2_ n3_ n4_; clear hb hbox hg))
   go_ret
   exact ⟨_, rfl, (show IsS97 w0 _ gb232 (l0.take 2000) 0 from ⟨_, _, by (with_reducible repeat (first | refine blk_drewN ?_ _ | refine blk_drew ?_ | refine blk_alloc ?_ _)); exact BK232.out, GE232.out, HR231.out⟩), by repeat (first | (with_reducible first | exact HB.out | apply below_alloc | apply pw_below_drewN | apply below_drew1 | refine below_set ?_ GE232.out) | exact HB.out), by repeat (first | (with_reducible first | exact HBW.out | apply below_alloc | apply pw_below_drewN | apply below_drew1 | refine below_set ?_ GW232.out) | exact HBW.out)⟩
  ·rw [if_neg c3] at H
   exact absurd H (by simp)
 ·rw [if_neg c2] at H
  have c2b0 : decide (2000 < (l0.length : Int)) = false := decide_eq_false c2
  have c2b1 : decide (2000 < l0.length) = false := decide_eq_false (by omega)
  clear c2
  simp only [Option.some.injEq, Prod.mk.injEq] at H
  obtain ⟨rfl, rfl⟩ := H
  go_enter Tryd.func57, Tryd.ntmps57
  go_wp2_with (first | ((with_reducible refine gate_dst (N := 10) rfl ?_); refine box_event ?hg (N := 10) ?hd (cs := #[.slice A0 l0.length c0, .int .i64 0]) (t := 97) ?hr ?_; (case hd => rfl); (case hg => rfl); (case hr => first | (go_simp; done) | (go_simp; rfl)); intro gb233 hg w6 hbox hb; have n0_ := Aside0.mk (below_step HBW.out hb); have n1_ := Aside0.mk (below_step (by repeat (first | (with_reducible first | exact HB.out | apply below_alloc | apply pw_below_drewN | apply below_drew1) | exact HB.out)) hb); have n2_ := Aside0.mk (hbox); have n3_ := Aside0.mk ((by rw [hg]; exact (below_size (by repeat (first | (with_reducible first | exact HBW.out | apply below_alloc | apply pw_below_drewN | apply below_drew1) | exact HBW.out))) : w.heap.size ≤ gb233)); have n4_ := Aside0.mk ((Nat.le_trans HW0.out (by rw [hg]; exact (below_size (by repeat (first | (with_reducible first | exact HBW.out | apply below_alloc | apply pw_below_drewN | apply below_drew1) | exact HBW.out))) : w.heap.size ≤ gb233) : w0.heap.size ≤ gb233)); clear HBW; clear HB; have HBW := n0_; have HB := n1_; have BK233 := n2_; have GW233 := n3_; have GE233 := n4_; clear n0_ n1_ n2_ n3_ n4_; clear hb hbox hg))
  go_ret
  exact ⟨_, rfl, (show IsS97 w0 _ gb233 l0 0 from ⟨_, _, by (with_reducible repeat (first | refine blk_drewN ?_ _ | refine blk_drew ?_ | refine blk_alloc ?_ _)); exact BK233.out, GE233.out, HR0.out⟩), by repeat (first | (with_reducible first | exact HB.out | apply below_alloc | apply pw_below_drewN | apply below_drew1 | refine below_set ?_ GE233.out) | exact HB.out), by repeat (first | (with_reducible first | exact HBW.out | apply below_alloc | apply pw_below_drewN | apply below_drew1 | refine below_set ?_ GW233.out) | exact HBW.out)⟩
end Go.Proofs.YtajapkjplgaigaaDoor.P
end
section
namespace Go.Proofs.YtajapkjplgaigaaDoor.P
open Go.RowKit Go.Proofs.YtajapkjplgaigaaDoorW.PrintWords Go.Proofs.YtajapkjplgaigaaDoorW.PrintLast Go.Proofs.YtajapkjplgaigaaDoorW.PrintMore
attribute [local go_sem] max2_int min2_int max_two min_two max_three min_three max_four min_four   -- for this text's walks alone
set_option linter.unusedVariables false
set_option linter.unusedSimpArgs false
def spec_DrawWithoutUseless.f (k : Nat) (l0 : List Int) : Option ((List (S39))) := (spec_newReader.f l0).bind fun bt524 => ((spec_anyGraph.f k bt524.1 bt524.2).bind fun bt527 => (some bt527.1))
set_option maxHeartbeats 8000000 in
set_option maxRecDepth 100000 in
theorem spec_DrawWithoutUseless.calls (k : Nat) (A0 : Option Addr) (c0 : Nat) (l0 : List Int) (r : List (S39)) (w : World) (hr0 : Kd.C (Kd.int .u8) w A0 l0.length l0) (hc0 : l0.length ≤ c0) (h : spec_DrawWithoutUseless.f k l0 = some r) :
  Calls Tryd.prog 26 #[.slice A0 l0.length c0] w fun e w' => ∃ v0_ : Value, e = .returned (v0_) ∧ Kd.N k39 39 w' w.heap.size (fun k_ => (w.heap.size ≤ k_)) v0_ r ∧ Below w.heap.size w w' := by
 have HR0 := Aside0.mk hr0
 have HC0 := Aside0.mk hc0
 clear hr0 hc0
 have HB := Aside0.mk (Below.refl w.heap.size w)
 have H : ((spec_newReader.f l0).bind fun bt524 => ((spec_anyGraph.f k bt524.1 bt524.2).bind fun bt527 => (some bt527.1))) = some r := h
 clear h
 replace H := Option.bind_eq_some_iff.mp H
 obtain ⟨⟨t524, t525⟩, A20, H⟩ := H
 replace H : ((spec_anyGraph.f k t524 t525).bind fun bt527 => (some bt527.1)) = some r := H
 have A2 := Aside0.mk A20
 clear A20
 replace H := Option.bind_eq_some_iff.mp H
 obtain ⟨⟨t527, t530⟩, A30, H⟩ := H
 replace H : (some t527) = some r := H
 have A3 := Aside0.mk A30
 clear A30
 obtain rfl := Option.some.inj H
 go_enter Tryd.func26, Tryd.ntmps26
 go_wp2_with (first | ((with_reducible refine gate_callee (f := 57) rfl ?_); refine goesL_ (some 4) rfl rfl Tryd.func57 (by kernel_rfl) rfl #[.slice A0 l0.length c0] rfl (by (try simp only [List.map_toArray, List.map_cons, List.map_nil]); first | done | rfl | (simp only [List.length_drop, List.length_take]; rfl)) ?_; (with_reducible refine (spec_newReader.calls _ _ l0 t524 t525 w _ ?side1 ?side2 ?side3 A2.out).mono ?_); (case side1 => repeat (first | (with_reducible first | exact HB.out | apply below_alloc | apply pw_below_drewN | apply below_drew1) | exact HB.out)); (case side2 => exact HR0.out); (case side3 => exact HC0.out); rintro e w4 ⟨g526, rfl, hi, hb, hb2⟩; refine ⟨_, rfl, ?_⟩; have n0_ := Aside0.mk (hb); have n1_ := Aside0.mk (hi); clear HB; have HB := n0_; have HI526 := n1_; clear n0_ n1_; (try clear hb); (try clear hb2); (try clear hk); (try clear hi)) | ((with_reducible refine gate_callee (f := 56) rfl ?_); refine goesL_ (some 5) rfl rfl Tryd.func56 (by kernel_rfl) rfl #[.pointer (some ⟨g526, 0, none⟩)] rfl (by (try simp only [List.map_toArray, List.map_cons, List.map_nil]); first | done | rfl | (simp only [List.length_drop, List.length_take]; rfl)) ?_; (with_reducible refine (spec_anyGraph.calls k g526 t524 t525 t527 t530 w _ ?side1 ?side2 A3.out).mono ?_); (case side1 => repeat (first | (with_reducible first | exact HI526.out | apply IsS97.alloc | apply IsS97.drewN | apply IsS97.drew | apply IsS97.set_1) | exact HI526.out)); (case side2 => repeat (first | (with_reducible first | exact HB.out | apply below_alloc | apply pw_below_drewN | apply below_drew1 | refine below_set ?_ (IsS97.ge HI526.out)) | exact HB.out)); rintro e w5 ⟨v528, rfl, ho0, hi, hb, hk⟩; refine ⟨_, rfl, ?_⟩; have n0_ := Aside0.mk (Kd.N_lower (Kd.N_mono (ok' := fun k_ => (w.heap.size ≤ k_) ∧ k_ ≠ g526) ho0 (fun k_ hk_ => ⟨(Nat.le_trans (below_size (by repeat (first | (with_reducible first | exact HB.out | apply below_alloc | apply pw_below_drewN | apply below_drew1 | refine below_set ?_ (IsS97.ge HI526.out)) | exact HB.out))) hk_), (IsS97.fresh (by repeat (first | (with_reducible first | exact HI526.out | apply IsS97.alloc | apply IsS97.drewN | apply IsS97.drew | apply IsS97.set_1) | exact HI526.out)) k_ hk_)⟩)) (below_size (by repeat (first | (with_reducible first | exact HB.out | apply below_alloc | apply pw_below_drewN | apply below_drew1 | refine below_set ?_ (IsS97.ge HI526.out)) | exact HB.out)))); have n1_ := Aside0.mk (hb); have n2_ := Aside0.mk (hi); clear HB; clear HI526; have HO529 := n0_; have HB := n1_; have HI526 := n2_; clear n0_ n1_ n2_; (try clear hb); (try clear hb2); (try clear hk); (try clear hi); (try clear ho0)))
 go_ret
 exact ⟨_, by first | rfl | (simp [errW_none, errW_some] <;> rfl) | (simp [*, errW_none, errW_some] <;> rfl), by (with_reducible repeat (first | apply Kd.N_alloc | apply Kd.N_drewN | apply Kd.N_drew)); exact Kd.N_mono HO529.out (fun _ hk => hk.1), by repeat (first | (with_reducible first | exact HB.out | apply below_alloc | apply pw_below_drewN | apply below_drew1 | refine below_set ?_ (IsS97.ge HI526.out)) | exact HB.out)⟩
end Go.Proofs.YtajapkjplgaigaaDoor.P
end
section
namespace Go.Proofs.YtajapkjplgaigaaDoor
open Go.RowKit Go.Shelf Go.Proofs.YtajapkjplgaigaaDoorW.PrintWords Go.Proofs.YtajapkjplgaigaaDoorW.PrintLast Go.Proofs.YtajapkjplgaigaaDoorW.PrintMore
attribute [local go_sem] Oper.semAt_some
set_option linter.unusedVariables false
set_option linter.unusedSimpArgs false
def TabOK (w : World) : Prop := ∀ j, j < 32 → w.cell? ⟨0, j, none⟩ = some (.int .u8 (Lib.deBruijn32tab.getD j 0))
theorem TabOK.lt {w : World} (h : TabOK w) : 0 < w.heap.size := by
 have := h 0 (by omega)
 apply Nat.lt_of_not_le
 intro hle
 simp [World.cell?, Array.getElem?_eq_none hle] at this
theorem TabOK.below {w W : World} (h : TabOK w) (hb : Below w.heap.size w W) : TabOK W := fun j hj => (hb.cell (p := ⟨0, j, none⟩) h.lt).trans (h j hj)
theorem wrap_u16' (n : Int) : IntKind.u16.wrap n = n % 65536 := by simp [IntKind.wrap, IntKind.signed, IntKind.bits]
theorem bits_u16_nat (a b : Nat) (ha : a < 65536) (hb : b < 65536) : bits .and .u16 (a : Int) (b : Int) = ((a &&& b : Nat) : Int) := by
 have hx : a &&& b < 2 ^ 16 := Nat.and_lt_two_pow _ (by omega)
 have h1 : (BitVec.ofInt 16 (a : Int)).toNat = a := by
  rw [BitVec.ofInt_natCast, BitVec.toNat_ofNat]; exact Nat.mod_eq_of_lt (by omega)
 have h2 : (BitVec.ofInt 16 (b : Int)).toNat = b := by
  rw [BitVec.ofInt_natCast, BitVec.toNat_ofNat]; exact Nat.mod_eq_of_lt (by omega)
 show IntKind.u16.wrap ((BitVec.ofInt 16 (a : Int) &&& BitVec.ofInt 16 (b : Int)).toNat : Int) = _
 rw [BitVec.toNat_and, h1, h2, wrap_u16']
 omega
set_option maxHeartbeats 1000000 in
theorem tz16_core (x k idx : Nat) (w : World) (hx0 : ((x : Int) == 0) = false)
  (key : bits BinOp.and IntKind.u16 (x : Int) (IntKind.u16.wrap (-(x : Int))) % 4294967296 * 125613361 % 4294967296 / 134217728 = (idx : Int))
  (hi : idx < 32) (hk : k < 32) (hcell : w.cell? ⟨0, idx, none⟩ = some (.int .u8 k)) :
  Calls Tryd.prog 85 #[.int .u16 x] w fun e w' => e = .returned (.int .i64 k) ∧ w' = w := by
 go_enter Tryd.func85, Tryd.ntmps85
 go_wp2_with (simp only [key])
 go_ret
 exact ⟨rfl, rfl⟩
theorem tz16_key (x a : Nat) (hx : x < 65536) (hx0 : x ≠ 0) (hlow : x &&& (65536 - x) = a) :
  bits BinOp.and IntKind.u16 (x : Int) (IntKind.u16.wrap (-(x : Int))) % 4294967296 * 125613361 % 4294967296 / 134217728 = ((a * 125613361 % 4294967296 / 134217728 : Nat) : Int) := by
 have e1 : IntKind.u16.wrap (-(x : Int)) = ((65536 - x : Nat) : Int) := by rw [wrap_u16']; omega
 have ha : a < 65536 := by rw [← hlow]; exact Nat.lt_of_le_of_lt Nat.and_le_left hx
 rw [e1, bits_u16_nat x _ hx (by omega), hlow]
 omega
theorem tz16 (x : Nat) (hx : x < 65536) (hx0 : x ≠ 0) (w : World) (hT : TabOK w) :
  Calls Tryd.prog 85 #[.int .u16 x] w fun e w' => e = .returned (.int .i64 (Lib.ctz 16 x : Nat)) ∧ w' = w := by
 obtain ⟨hlow, hk⟩ := Lib.lowest_bit 16 x hx0 hx
 obtain ⟨hi, htab⟩ := Lib.deBruijn32_at _ (Nat.lt_trans hk (by decide))
 have hcell := hT _ hi
 rw [htab] at hcell
 exact tz16_core x _ _ w (by simp; omega) (tz16_key x _ hx hx0 hlow) hi (Nat.lt_trans hk (by decide)) hcell
end Go.Proofs.YtajapkjplgaigaaDoor
end
section
namespace Go.Proofs.YtajapkjplgaigaaDoor
open Go.RowKit
set_option linter.unusedVariables false
set_option linter.unusedSimpArgs false
section
variable {P : Program} {ops : Array Oper} {md : Region.Mode} {l n : Nat}
def NoDefer (ops : Array Oper) : Prop := ∀ o ∈ ops.toList, ∀ c, o.op ≠ .defer c
def noDeferB (ops : Array Oper) : Bool := ops.toList.all fun o => match o.op with | .defer _ => false | _ => true
theorem NoDefer.of (h : noDeferB ops = true) : NoDefer ops := by
 intro o ho c hc
 simp only [noDeferB, List.all_eq_true] at h
 have := h o ho
 rw [hc] at this
 cases this
theorem wpIn_of_oper {o : Oper} {a : Act} {w : World} {K : Act → World → Prop} {Q : Exit → Act → World → Prop} (hd : ∀ c, o.op ≠ .defer c) (h : o.wp P a w K Q) :
  o.wpIn (Fence.wide.inRound l) n P a w K Q := by
 refine ⟨fun f _ => trivial, ?_⟩
 simp only [Fence.inRound_round]
 rw [Oper.semAt_some l a.eval o hd]
 unfold Oper.wp at h
 generalize (execOp a.eval o).run P w = r at *
 cases r with
 | ok x w' =>
  cases x <;> simp only [Oper.upon, Oper.uponIn] at h ⊢ <;> first | exact h | exact h.elim | skip
  ·exact ⟨fun hh => by simp [Fence.wide] at hh, CallsIn.inRound l ((callsIn_wide (n := n - 1)).2 h)⟩
  ·refine ⟨fun hh => by simp [Fence.wide] at hh, fun c cs _ => ?_⟩
   obtain ⟨v, w'', hr, hs⟩ := h c cs
   exact ⟨v, w'', hr, stepsIn_wide.2 hs⟩
 | halt x w' => cases x <;> simp only [Oper.upon, Oper.uponIn] at h ⊢ <;> first | exact h | exact h.elim
theorem wpOpIn_of {i : Nat} {K : Act → World → Prop} {Q : Exit → Act → World → Prop} {a : Act} {w : World} (hd : NoDefer ops) (hQ : ¬ LetsOut Q) (h : wpOp P ops Q i K a w) :
  wpOpIn (Fence.wide.inRound l) n P ops Q i K a w := by
 unfold wpOp at h
 unfold wpOpIn
 cases ho : ops[i]? with
 | none => simpa [ho] using h
 | some o =>
  simp only [ho] at h ⊢
  have hm : o ∈ ops.toList := by
   obtain ⟨hlt, he⟩ := Array.getElem?_eq_some_iff.1 ho
   rw [← he]; simp
  split
  ·rename_i hw
   simp only [hw, if_true] at h
   rcases h with h | ⟨_, h⟩
   ·exact wpIn_of_oper (hd o hm) h
   ·exact (hQ h).elim
  ·rename_i hw
   simp only [hw] at h
   exact ⟨fun f _ => trivial, h⟩
theorem wpAnyIn_of {Q : Exit → Act → World → Prop} (hd : NoDefer ops) (hQ : ¬ LetsOut Q) : ∀ (fuel : Nat) (listed : Array Bool) (a : Act) (w : World), wpAny P md ops Q fuel listed a w → wpAnyIn (Fence.wide.inRound l) n P md ops Q fuel listed a w
 | 0, _, _, _, h => h
 | fuel + 1, listed, a, w, h => ⟨h.1, fun i hi => wpOpIn_mono (fun a w => wpAnyIn_of hd hQ fuel _ a w) (wpOpIn_of hd hQ (h.2 i hi))⟩
theorem wpIn_region_of_any {id : Nat} {Q : Exit → Act → World → Prop} {a : Act} {w : World} {ol : List Oper} (hQ : ¬ LetsOut Q) (hd : noDeferB ol.toArray = true) (hm : P.follows .mixedOrders = true)
  (h : wpAny P .any ol.toArray Q ol.toArray.size (Array.replicate ol.toArray.size false) a { w with drawn := w.drawn + 1 }) : (Code.region id ol.toArray true).wpIn (Fence.wide.inRound l) n P Q a w :=
 wpIn_region_any hm (wpAnyIn_of (NoDefer.of hd) hQ _ _ _ _ h)
theorem wpIn_region_tail {id : Nat} {Q : Exit → Act → World → Prop} {a : Act} {w : World} {ol : List Oper} (k : Nat) (hQ : ¬ LetsOut Q) (hd : noDeferB ol.toArray = true) (hm : P.follows .mixedOrders = true) (hB : Region.lexTailB .any ol.toArray k = true)
  (h : wpStill P ol.toArray { w with drawn := w.drawn + 1 } (fun a' => wpList P ol.toArray Q (ol.drop k) a' { w with drawn := w.drawn + 1 }) (ol.take k) a) : (Code.region id ol.toArray true).wpIn (Fence.wide.inRound l) n P Q a w := by
 refine wpIn_region_any hm (wpAnyIn_of (NoDefer.of hd) hQ _ _ _ _ ?_)
 simp only [Region.lexTailB, Bool.and_eq_true, decide_eq_true_eq] at hB
 obtain ⟨⟨⟨⟨b1, b2⟩, b3⟩, b4⟩, b5⟩ := hB
 have hk : k < ol.length := by simpa using b2
 have lt : (ol.take k).length = k := List.length_take_of_le (Nat.le_of_lt hk)
 have ld : (ol.drop k).length = ol.toArray.size - k := by simp
 have start : HeadInv .any ol.toArray k (Array.replicate ol.toArray.size false) :=
  ⟨by simp, fun j oj _ hl => absurd hl (by rw [getD_replicate_false]; simp), fun t _ ht => getD_in (by simpa using ht) (getD_replicate_false _ _)⟩
 have head := wpAnyL_lex (md := .any) (g := ol.toArray.size - k) b1 b3 b4 b2 (ol.take k) 0 _ a (fun j hj => by rw [List.getElem?_take]; rw [lt] at hj; simp [hj]) (by rw [lt]; simp) start (by rw [lt]; exact b5) h
 have whole := wpAny_of_head (Q' := Q) (g := ol.toArray.size - k) (fun listed a' hL => by
  have := wpAny_of_seq (md := .any) (Q' := Q) (ol.drop k) k listed a' { w with drawn := w.drawn + 1 } (fun j => by simp [List.getElem?_drop]) (by rw [ld]; exact hL.1) hL.2
  rw [ld] at this
  exact this) _ _ _ head
 have es : (ol.take k).length + (ol.toArray.size - k) = ol.toArray.size := by rw [lt]; simp; omega
 rw [es] at whole
 exact whole
end
end Go.Proofs.YtajapkjplgaigaaDoor
end
section
namespace Go.Proofs.YtajapkjplgaigaaDoor
open Go.RowKit Go.Shelf Go.Proofs.YtajapkjplgaigaaDoorW.PrintWords Go.Proofs.YtajapkjplgaigaaDoorW.PrintLast Go.Proofs.YtajapkjplgaigaaDoorW.PrintMore
attribute [local go_sem] Oper.semAt_some
set_option linter.unusedVariables false
set_option linter.unusedSimpArgs false
abbrev El (s : Nat) := { x : Nat // x < 8 ∧ s.testBit x = true }
def encI {s : Nat} (x : El s) : Array Value := #[Value.int .i64 (x.1 : Int)]
def bitsN (s : Nat) : List Nat := (List.range 8).filter fun i => s.testBit i
theorem mem_bitsN {s x : Nat} : x ∈ bitsN s ↔ x < 8 ∧ s.testBit x = true := by simp [bitsN]
theorem idx_step : ∀ s, s < 256 → s ≠ 0 → bitsN s = Lib.ctz 16 s :: bitsN (s &&& (s - 1)) ∧ (s &&& (s - 1)) < s := by decide +kernel
theorem bitsN_zero : bitsN 0 = [] := by decide +kernel
theorem bitsN_len (s : Nat) : (bitsN s).length ≤ 8 := by
 have h := List.length_filter_le (fun i => s.testBit i) (List.range 8)
 simpa [bitsN] using h
theorem rest_key (r : Nat) (hr : r < 256) (h0 : r ≠ 0) : bits BinOp.and IntKind.u16 (r : Int) ((r : Int) - 1) = ((r &&& (r - 1) : Nat) : Int) := by
 have e : (r : Int) - 1 = ((r - 1 : Nat) : Int) := by omega
 rw [e, bits_u16_nat r _ (by omega) (by omega)]
set_option maxRecDepth 100000 in
set_option maxHeartbeats 2000000 in
theorem all1_in (n l Bs : Nat) (hn : 1 ≤ n) (s : Nat) (hs : s < 256) (J Jx : List (El s) → World → Prop)
  (hY : ∀ (pre : List (El s)) x W, J pre W → pre.length < 8 → YieldAt Fence.wide (n - 1) Tryd.prog l (encI x) W fun e W' =>
   (e = .returned (.bool true) ∧ J (pre ++ [x]) W' ∧ (TabOK W → TabOK W')) ∨ (e = .returned (.bool false) ∧ Jx (pre ++ [x]) W'))
  (W : World) (hT : TabOK W) (hBs : W.cell? ⟨Bs, 0, none⟩ = some (.int .u16 s)) (h0 : J [] W) :
  CallsIn Fence.wide n Tryd.prog 84 #[.func (.yield l) #[] #[], .pointer (some ⟨Bs, 0, none⟩)] W fun e W' => (∃ v, e = .returned v) ∧
   ((∃ ys, ys.map (·.1) = bitsN s ∧ J ys W') ∨ (∃ pre, pre.map (·.1) <+: bitsN s ∧ Jx pre W')) := by
 refine callsIn_of_wp Tryd.func84 rfl trivial ?_ rfl
 simp only [Tryd.ntmps84, List.size_toArray, List.length_cons, List.length_nil, Nat.reduceAdd, Nat.reduceSub, Array.replicate_succ, Array.replicate_zero, List.push_toArray, List.append_toArray, List.nil_append, List.cons_append]
 have hT' := Aside0.mk hT
 clear hT
 gi_wp2
 gi_loopw [3] (fun p wr => ∃ (pre : List (El s)) (r : Nat), p = .int .u16 r ∧ Hid (r < 256 ∧ bitsN s = pre.map (·.1) ++ bitsN r) ∧ J pre wr ∧ Aside0 (TabOK wr)) (fun p _ => (intOf p).toNat)
 case atStart => exact ⟨[], s, rfl, ⟨hs, rfl⟩, h0, hT'⟩
 case round =>
  obtain ⟨pre, r, rfl, hx, hJ, hT⟩ := hrel
  obtain ⟨hr, he⟩ := hx
  by_cases hr0 : r = 0
  ·subst hr0
   rw [bitsN_zero, List.append_nil] at he
   have he' := Aside0.mk he
   clear he
   gi_wp2
   go_end0
   exact ⟨⟨_, rfl⟩, .inl ⟨pre, he'.out.symm, hJ⟩⟩
  ·obtain ⟨hcons, hlt0⟩ := idx_step r hr hr0
   have hmem : Lib.ctz 16 r ∈ bitsN s := by rw [he, hcons]; simp
   have hlen : pre.length < 8 := by have := bitsN_len s; rw [he, hcons] at this; simp at this; omega
   obtain ⟨fn, tmps, assign, body, hy, hR⟩ := hY pre ⟨Lib.ctz 16 r, mem_bitsN.1 hmem⟩ wr hJ hlen
   have key := Aside0.mk (rest_key r hr hr0)
   have hlt := Aside0.mk hlt0
   have he' := Aside0.mk he
   have hcons' := Aside0.mk hcons
   have htz := Aside0.mk (tz16 r (by omega) hr0 wr hT.out)
   clear he hcons hlt0
   have hb : ((r : Int) == 0) = false := by simp; exact hr0
   have hb' : ((r : Int) != 0) = true := by simp; exact hr0
   dsimp only [encI] at hy
   gi_wp2_with (refine ⟨trivial, ?_⟩; gi_at_call 85; refine (callsIn_wide.2 (htz.out)).mono ?_; rintro e w' ⟨rfl, rfl⟩)
   refine hR.mono ?_
   rintro e W3 (⟨rfl, hJ3, hk3⟩ | ⟨rfl, hJx3⟩)
   ·have hT3 := Aside0.mk (hk3 hT.out)
    clear hk3 hT
    gi_wp2_with (simp only [key.out])
    go_roundw
    case rel => exact ⟨pre ++ [⟨Lib.ctz 16 r, mem_bitsN.1 hmem⟩], r &&& (r - 1), rfl, ⟨Nat.lt_of_le_of_lt Nat.and_le_left hr, he'.out.trans (by rw [hcons'.out]; simp)⟩, hJ3, hT3⟩
    case measure => have := hlt.out; simp [intOf]; omega
   ·gi_wp2
    refine bodyPost_ret (results_none rfl _ _ _) rfl ?_
    exact ⟨⟨_, rfl⟩, .inr ⟨pre ++ [⟨Lib.ctz 16 r, mem_bitsN.1 hmem⟩], ⟨bitsN (r &&& (r - 1)), (he'.out.trans (by rw [hcons'.out]; simp)).symm⟩, hJx3⟩⟩
set_option maxHeartbeats 1000000 in
theorem all_calls (s : Int) (w : World) :
  Calls Tryd.prog 54 #[.int .u16 s] w fun e w' => e = .returned (.func (.func 84) #[] #[.pointer (some ⟨w.heap.size, 0, none⟩)]) ∧ w' = w.alloc (.cells #[.int .u16 s] 51) := by
 go_enter Tryd.func54, Tryd.ntmps54
 go_wp2
 go_ret
 exact ⟨rfl, rfl⟩
theorem all_stops (n : Nat) (hn : 1 ≤ n) (Bs s : Nat) (hs : s < 256) (w : World) (hBs : Bs < w.heap.size) (hc : w.cell? ⟨Bs, 0, none⟩ = some (.int .u16 s)) (hT : TabOK w) :
  SeqStopsK Fence.wide n Tryd.prog 84 #[.pointer (some ⟨Bs, 0, none⟩)] (encI (s := s)) (fun A B => TabOK A → TabOK B) (fun ys => ys.map (·.1) = bitsN s) (fun pre => pre.map (·.1) <+: bitsN s) 8 w := fun l J Jx W hW _ _ hY h0 =>
 all1_in n l Bs hn s hs J Jx hY W (hT.below hW) ((hW.cell (p := ⟨Bs, 0, none⟩) hBs).trans hc) h0
end Go.Proofs.YtajapkjplgaigaaDoor
end
section
namespace Go.Proofs.YtajapkjplgaigaaDoor
open Go.RowKit Go.Shelf Go.Proofs.YtajapkjplgaigaaDoorW.PrintWords Go.Proofs.YtajapkjplgaigaaDoorW.PrintLast Go.Proofs.YtajapkjplgaigaaDoorW.PrintMore
set_option linter.unusedVariables false
set_option linter.unusedSimpArgs false
def Bk (xs : List Int) : Type := { p : Int × Int // p.2 ∈ xs }
def encB {xs : List Int} (p : Bk xs) : Array Value := #[.int .i64 p.1.1, .int .i64 p.1.2]
def KpB (w0 : World) (Bs : Nat) (v : Value) (A B : World) : Prop := (Below w0.heap.size w0 A → Below w0.heap.size w0 B) ∧ (A.cell? ⟨Bs, 0, none⟩ = some v → B.cell? ⟨Bs, 0, none⟩ = some v)
theorem KpB.trans {w0 : World} {Bs : Nat} {v : Value} {A B C : World} (h : KpB w0 Bs v A B) (h2 : KpB w0 Bs v B C) : KpB w0 Bs v A C := ⟨fun x => h2.1 (h.1 x), fun x => h2.2 (h.2 x)⟩
set_option maxRecDepth 100000 in
set_option maxHeartbeats 2000000 in
theorem back1_in (n l Bs : Nat) (hn : 1 ≤ n) (xs : List Int) (hxl : xs.length < 1000) (A : Option Addr) (c : Nat) (w0 : World) (hC : Kd.C (Kd.int .i64) w0 A xs.length xs) (J Jx : List (Bk xs) → World → Prop)
  (hY : ∀ (pre : List (Bk xs)) x W, J pre W → pre.length < xs.length → YieldAt Fence.wide (n - 1) Tryd.prog l (encB x) W fun e W' =>
   (e = .returned (.bool true) ∧ J (pre ++ [x]) W' ∧ KpB w0 Bs (.slice A xs.length c) W W') ∨ (e = .returned (.bool false) ∧ Jx (pre ++ [x]) W'))
  (W : World) (hW : Below w0.heap.size w0 W) (hBs : W.cell? ⟨Bs, 0, none⟩ = some (.slice A xs.length c)) (h0 : J [] W) :
  CallsIn Fence.wide n Tryd.prog 100 #[.func (.yield l) #[] #[], .pointer (some ⟨Bs, 0, none⟩)] W fun e W' => (∃ v, e = .returned v) ∧
   ((∃ ys : List (Bk xs), ys.map (·.1.2) = xs.reverse ∧ J ys W') ∨ (∃ pre : List (Bk xs), pre.map (·.1.2) <+: xs.reverse ∧ Jx pre W')) := by
 refine callsIn_of_wp Tryd.func100 rfl trivial ?_ rfl
 simp only [Tryd.ntmps100, List.size_toArray, List.length_cons, List.length_nil, Nat.reduceAdd, Nat.reduceSub, Array.replicate_succ, Array.replicate_zero, List.push_toArray, List.append_toArray, List.nil_append, List.cons_append]
 have hC' := Aside0.mk hC
 have hW' := Aside0.mk hW
 have hB' := Aside0.mk hBs
 have hx' := Aside0.mk hxl
 clear hC hW
 gi_wp2
 gi_loopw [3] (fun p wr => ∃ (pre : List (Bk xs)) (j : Nat), p = .int .i64 ((j : Int) - 1) ∧ Hid (j ≤ xs.length ∧ xs.reverse = pre.map (·.1.2) ++ (xs.take j).reverse) ∧ J pre wr ∧ Aside0 (Below w0.heap.size w0 wr) ∧ Aside0 (wr.cell? ⟨Bs, 0, none⟩ = some (.slice A xs.length c))) (fun p _ => (intOf p + 1).toNat)
 case atStart => exact ⟨[], xs.length, by go_num, ⟨Nat.le_refl _, by simp⟩, h0, hW', hB'⟩
 case round =>
  obtain ⟨pre, j, rfl, hx, hJ, hW, hB⟩ := hrel
  obtain ⟨hj, he⟩ := hx
  have he' := Aside0.mk he
  have hlen := Aside0.mk (show pre.length + j = xs.length by
   have := congrArg List.length he
   simp only [List.length_reverse, List.length_append, List.length_map, List.length_take] at this
   omega)
  clear he
  by_cases hj0 : j = 0
  ·subst hj0
   have hd : decide (((0 : Nat) : Int) - 1 ≥ 0) = false := by decide
   gi_wp2
   go_end0
   exact ⟨⟨_, rfl⟩, .inl ⟨pre, by have := he'.out; simpa using this.symm, hJ⟩⟩
  ·obtain ⟨i, rfl⟩ : ∃ i, j = i + 1 := ⟨j - 1, by omega⟩
   have hi : i < xs.length := by omega
   have e1 : ((i + 1 : Nat) : Int) - 1 = (i : Int) := by omega
   obtain ⟨ad, rfl, hxc⟩ := Kd.at_int (Kd.C_below hC'.out hW.out) (i : Int) (by omega) (by omega)
   obtain ⟨y, hy⟩ : ∃ y, rd xs (i : Int) = y := ⟨_, rfl⟩
   have hym : y ∈ xs := by rw [← hy]; simp [rd, hi]
   rw [hy] at hxc
   simp only [Int.toNat_natCast] at hxc
   obtain ⟨fn, tmps, assign, body, hyl, hR⟩ := hY pre ⟨((i : Int), y), hym⟩ wr hJ (by have := hlen.out; omega)
   have htk : xs.take (i + 1) = xs.take i ++ [y] := by rw [List.take_succ_eq_append_getElem hi, ← hy]; simp [rd, hi]
   have htk' := Aside0.mk htk
   have hd : decide ((i : Int) ≥ 0) = true := decide_eq_true (by omega)
   have hb := hB.out
   clear hy htk
   simp only [e1]
   dsimp only [encB] at hyl
   gi_wp2
   refine hR.mono ?_
   rintro e W3 (⟨rfl, hJ3, hk3⟩ | ⟨rfl, hJx3⟩)
   ·have hW3 := Aside0.mk (hk3.1 hW.out)
    have hB3 := Aside0.mk (hk3.2 hB.out)
    clear hk3
    gi_wp2
    go_roundw
    case rel => exact ⟨pre ++ [⟨((i : Int), y), hym⟩], i, by go_num, ⟨by omega, he'.out.trans (by rw [htk'.out]; simp; rfl)⟩, hJ3, hW3, hB3⟩
    case measure => simp [intOf]
   ·gi_wp2
    refine bodyPost_ret (results_none rfl _ _ _) rfl ?_
    exact ⟨⟨_, rfl⟩, .inr ⟨pre ++ [⟨((i : Int), y), hym⟩], ⟨(xs.take i).reverse, by rw [he'.out, htk'.out]; simp; rfl⟩, hJx3⟩⟩
set_option maxHeartbeats 1000000 in
theorem back_calls (A : Option Addr) (n c : Nat) (w : World) :
  Calls Tryd.prog 83 #[.slice A n c] w fun e w' => e = .returned (.func (.func 100) #[] #[.pointer (some ⟨w.heap.size, 0, none⟩)]) ∧ w' = w.alloc (.cells #[.slice A n c] 24) := by
 go_enter Tryd.func83, Tryd.ntmps83
 go_wp2
 go_ret
 exact ⟨rfl, rfl⟩
theorem back_stops (n : Nat) (hn : 1 ≤ n) (Bs : Nat) (xs : List Int) (hxl : xs.length < 1000) (A : Option Addr) (c : Nat) (w0 w : World) (hC : Kd.C (Kd.int .i64) w0 A xs.length xs) (hw : Below w0.heap.size w0 w) (hBs : Bs < w.heap.size) (hc : w.cell? ⟨Bs, 0, none⟩ = some (.slice A xs.length c)) :
  SeqStopsK Fence.wide n Tryd.prog 100 #[.pointer (some ⟨Bs, 0, none⟩)] (encB (xs := xs)) (KpB w0 Bs (.slice A xs.length c)) (fun ys => ys.map (·.1.2) = xs.reverse) (fun pre => pre.map (·.1.2) <+: xs.reverse) xs.length w := fun l J Jx W hW _ _ hY h0 =>
 back1_in n l Bs hn xs hxl A c w0 hC J Jx hY W (below_step hw hW) ((hW.cell (p := ⟨Bs, 0, none⟩) hBs).trans hc) h0
end Go.Proofs.YtajapkjplgaigaaDoor
end
section
namespace Go.Proofs.YtajapkjplgaigaaDoor
open Go.RowKit Go.Shelf Go.Proofs.YtajapkjplgaigaaDoorW.PrintWords Go.Proofs.YtajapkjplgaigaaDoorW.PrintLast Go.Proofs.YtajapkjplgaigaaDoorW.PrintMore
set_option linter.unusedVariables false
set_option linter.unusedSimpArgs false
def RPost {α : Type} (B : Nat) (I : List α → World → Prop) (Ix : Code → List α → World → Prop) (xs : List α) (W : World) : Exit → Act → World → Prop
 | .normal, _, W' => KeepsFrom B W W' ∧ I xs W'
 | .ret, _, W' => KeepsFrom B W W' ∧ Ix .ret xs W'
 | .exit id, _, W' => KeepsFrom B W W' ∧ Ix (.exit id) xs W'
 | .goto t, _, W' => KeepsFrom B W W' ∧ Ix (.goto t) xs W'
 | .panic _, _, _ => False
 | .outgrown, _, _ => False
abbrev markOf (D : Nat) : Deferred := { target := .collected D, args := #[] }
theorem wp_all1 {g : Operand} {rid : Nat} {o : Oper} {p d : Tmp} {body : Code} {Q : Exit → Act → World → Prop} {tmps : Array Value} {ds : List Deferred} {w : World} (Bs s : Nat) (hs : s < 256)
  (hg : ({ tmps := tmps, defers := ds } : Act).eval g = .func (.func 84) #[] #[.pointer (some ⟨Bs, 0, none⟩)]) (hBs : Bs < w.heap.size) (hc : w.cell? ⟨Bs, 0, none⟩ = some (.int .u16 s)) (hT : TabOK w)
  (ho : o.op = .assign (.tmp p)) (hd : o.dst = some d) (hgd : o.guard = none) (hp : p < tmps.size)
  (I : List Nat → World → Prop) (Ix : Code → List Nat → World → Prop) (hI : OwnFrom w.heap.size I) (hIx : ∀ c, OwnFrom w.heap.size (Ix c)) (h0 : I [] w) (hIT : ∀ pre W, I pre W → TabOK W)
  (hbody : ∀ (l : Nat) (pre : List Nat) (x : Nat) (W : World), x < 8 → s.testBit x = true → I pre W → pre.length < 8 →
   body.wpIn (Fence.wide.inRound l) 7 Tryd.prog (RPost w.heap.size I Ix (pre ++ [x]) W) { tmps := (tmps.setIfInBounds p (.int .i64 (x : Int))).setIfInBounds d (.int .i64 (x : Int)), defers := [] } W)
  (hdone : ∀ (D : Nat) (W : World), w.heap.size ≤ D → I (bitsN s) W → W.heap[D]? = some (.deferred (some [])) → Q .normal { tmps := tmps, defers := markOf D :: ds } W)
  (hstop : ∀ (D : Nat) (c : Code) (pre : List Nat) (W : World), w.heap.size ≤ D → pre <+: bitsN s → Ix c pre W → W.heap[D]? = some (.deferred (some [])) → c.wp Tryd.prog Q { tmps := tmps, defers := markOf D :: ds } W) :
  (Code.rangeFunc g #[p] (.region rid #[o] false) body).wp Tryd.prog Q { tmps := tmps, defers := ds } w := by
 refine (wpIn_wide (n := 9)).1 (wpIn_rangeFunc_ownG (F := Fence.wide) (n := 9) rfl (by omega) hg trivial (enters_of Tryd.func84 (by kernel_rfl) rfl)
  (all_stops (9 - 1) (by omega) Bs s hs w hBs hc hT) (fun h k hA => k (h hA)) (fun W l o o' hl ho hcells _ hTW => ?_) (Below.refl _ _) (fun x => rfl) (fun pre W => I (pre.map (·.1)) W) (fun c pre W => Ix c (pre.map (·.1)) W) (fun s W W' row h => hI (s.map (·.1)) W W' row h) (fun c s W W' row h => hIx c (s.map (·.1)) W W' row h) h0
  (fun x => { tmps := (tmps.setIfInBounds p (.int .i64 (x.1 : Int))).setIfInBounds d (.int .i64 (x.1 : Int)), defers := [] }) ?_ ?_ ?_ ?_)
 ·intro j hj
  exact cell_kept (hTW j hj) (grownBy_putObj' W l o') (fun r e => by cases e; exact ⟨_, ho, hcells⟩)
 ·intro l x W K hK
  refine wpIn_region_list (ops := #[o]) ?_
  show wpListIn _ _ _ _ _ [o] _ _
  refine wpListIn_plain hgd fun K' hK' => ⟨fun _ _ => trivial, ?_⟩
  have he : ({ tmps := (tmps.setIfInBounds p (.int .i64 (x.1 : Int))), defers := [] } : Act).eval (.tmp p) = .int .i64 (x.1 : Int) := by
   simp [Act.eval, hp]
  have hz : ((#[p] : Array Tmp).zip (encI x)).foldl (fun t (p, v) => t.setIfInBounds p v) tmps = tmps.setIfInBounds p (.int .i64 (x.1 : Int)) := by simp [encI]
  simp only [hz]
  rw [show (Fence.wide.inRound l).round = some l from rfl, Oper.semAt_some l _ o (fun c hcc => by rw [ho] at hcc; cases hcc)]
  simp only [execOp, ho, he]
  simp only [Sem.run_pure, Sem.run, Sem.run_bind, Result.andThen, Oper.uponIn]
  refine hK' _ _ ?_
  simp only [wpListIn, Act.put, hd]
  exact hK
 ·intro l pre x W hi hlen
  refine wpIn_mono (hbody l (pre.map (·.1)) x.1 W x.2.1 x.2.2 hi (by simpa using hlen)) ?_
  rintro e a' W' h
  have em : (pre ++ [x]).map (·.1) = pre.map (·.1) ++ [x.1] := by simp
  cases e <;> simp only [ownPostG, RPost, em] at h ⊢ <;> first | exact h | skip
  exact ⟨h.1, fun _ => hIT _ _ h.2, h.2⟩
 ·rintro D xs W hD hxs hi hk
  exact hdone D W hD (by rw [hxs] at hi; exact hi) hk
 ·rintro D c pre W hD hp hi hk
  exact wpIn_wide.2 (hstop D c _ W hD hp hi hk)
def Marks (B : Nat) : List Deferred → World → Prop
 | [], _ => True
 | d :: ds, W => (∃ D, d = markOf D ∧ B ≤ D ∧ W.heap[D]? = some (.deferred (some [])) ∧ ∀ d' ∈ ds, d' ≠ d) ∧ Marks B ds W
theorem Marks.nil (B : Nat) (W : World) : Marks B [] W := trivial
theorem Marks.keeps {B : Nat} : ∀ {ds : List Deferred} {W W' : World}, Marks B ds W → KeepsFrom B W W' → Marks B ds W'
 | [], _, _, _, _ => trivial
 | d :: ds, W, W', ⟨⟨D, he, hB, hD, hn⟩, h⟩, hk => ⟨⟨D, he, hB, hk.same D _ hB hD rfl, hn⟩, Marks.keeps h hk⟩
theorem Marks.lt {B : Nat} : ∀ {ds : List Deferred} {W : World}, Marks B ds W → ∀ d ∈ ds, ∃ D, d = markOf D ∧ D < W.heap.size
 | [], _, _, d, h => by cases h
 | d :: ds, W, ⟨⟨D, he, hB, hD, hn⟩, h⟩, d', hm => by
  rcases List.mem_cons.1 hm with rfl | hm
  ·exact ⟨D, he, (Array.getElem?_eq_some_iff.1 hD).1⟩
  ·exact Marks.lt h d' hm
theorem Marks.shut {B D : Nat} {o : Obj} : ∀ {ds : List Deferred} {W : World}, Marks B ds W → (∀ d ∈ ds, d ≠ markOf D) → Marks B ds (W.putObj D o)
 | [], _, _, _ => trivial
 | d :: ds, W, ⟨⟨D', he, hB, hD, hn⟩, h⟩, hne => ⟨⟨D', he, hB, (World.putObj_heap_other (fun e => hne d List.mem_cons_self (by rw [he, e]))).trans hD, hn⟩, Marks.shut h (fun d' hm => hne d' (List.mem_cons_of_mem _ hm))⟩
theorem leavesM {F : Fence} {n : Nat} {P : Program} {fn : Func} {tmps : Array Value} {R : Ending → World → Prop} {B : Nat} {Φ : World → Prop} (hΦ : OwnFrom B (fun (_ : Unit) W => Φ W))
  (hR : ∀ W, Φ W → ∃ v, (results fn tmps).run P W = .ok v W ∧ R (.returned v) W) : ∀ (ds : List Deferred) (W : World), Marks B ds W → Φ W → LeavesInM F n P fn tmps R ds .returning W
 | [], W, _, h => hR W h
 | d :: ds, W, ⟨⟨D, he, hB, hD, hn⟩, hm⟩, h => ⟨by simp, .inl ⟨D, _, by rw [he], run_takeDeferred hD, leavesM hΦ hR ds _ (Marks.shut hm (fun d' hd' => he ▸ hn d' hd')) (hΦ.putObj (s := ()) _ h hB hD rfl)⟩⟩
theorem retM {n : Nat} {P : Program} {fn : Func} {R : Ending → World → Prop} {B : Nat} {a : Act} {W : World} (Φ : World → Prop) (hΦ : OwnFrom B (fun (_ : Unit) W => Φ W)) (hm : Marks B a.defers W) (h : Φ W)
  (hR : ∀ W, Φ W → ∃ v, (results fn a.tmps).run P W = .ok v W ∧ R (.returned v) W) : bodyPostM Fence.wide n P fn R .ret a W := leavesM hΦ hR a.defers W hm h
theorem calls_of_wpM {f : FuncId} {fn : Func} {c : Code} {args : Array Value} {w : World} {R : Ending → World → Prop} {P : Program} (hf : P.funcs[f]? = some fn) (hb : fn.body = some c)
  (h : c.wp P (bodyPostM Fence.wide 9 P fn R) { tmps := args ++ Array.replicate (fn.ntmps - args.size) undef, defers := [] } w) : Calls P f args w R :=
 callsIn_wide.1 (callsIn_of_wp_marks (F := Fence.wide) (n := 9) hf hb trivial (wpIn_wide.2 h))
theorem own_R {β α : Type} {d : Kd α} {e B base : Nat} (v : β → Value) (xs : β → List α) : OwnFrom B (fun s W => Kd.R d e W base (fun _ => True) (v s) (xs s)) := by
 intro s W W' row h hg hr
 refine Kd.R_mono (Kd.R_grown (Kd.R_bound h) hg ?_) (fun _ _ => trivial)
 rintro k ⟨_, _, _, q, hq, cells, hk⟩ he
 obtain ⟨_, o, ho, hc⟩ := hr k he.symm
 rw [hk] at ho
 cases ho
 cases hc
theorem own_boxrow {β : Type} (n₀ Bx : Nat) (t e : TypeId) (size : Nat) (k : β → Nat) (f : β → List Value) (B : Nat) : OwnFrom B (fun s W => ∃ v, Boxed W Bx t v ∧ W.ownsRow n₀ e size v (k s) (f s)) := by
 intro s W W' row ⟨v, h1, h2⟩ hg hr
 obtain ⟨v', h1', h2', _⟩ := (holdsRow_own n₀ Bx t e size k f (fun _ _ => True)) s W W' row ⟨v, h1, h2, trivial⟩ hg (fun r e => (hr r e).2)
 exact ⟨v', h1', h2'⟩
theorem own_box {β : Type} (B Bx : Nat) (t : TypeId) (f : β → Value) : OwnFrom B (fun s W => Boxed W Bx t (f s)) := (boxed_own Bx t f).from B
end Go.Proofs.YtajapkjplgaigaaDoor
end
section
namespace Go.Proofs.YtajapkjplgaigaaDoor
open Go.RowKit Go.Shelf Go.Proofs.YtajapkjplgaigaaDoorW.PrintWords Go.Proofs.YtajapkjplgaigaaDoorW.PrintLast Go.Proofs.YtajapkjplgaigaaDoorW.PrintMore
attribute [local go_sem] Oper.semAt_some
set_option linter.unusedVariables false
set_option linter.unusedSimpArgs false
def ivs (xs : List Nat) : List Int := xs.map Int.ofNat
theorem ivs_snoc (xs : List Nat) (x : Nat) : ivs (xs ++ [x]) = ivs xs ++ [(x : Int)] := by simp [ivs]
theorem ivs_length (xs : List Nat) : (ivs xs).length = xs.length := by simp [ivs]
theorem infoI : (Tryd.prog.info? 3).map (fun i => (i.zero, i.size, i.bytes)) = some (some (.int .i64 0), 1, 8) := by kernel_rfl
set_option maxRecDepth 100000 in
set_option maxHeartbeats 2000000 in
theorem list_calls (s : Nat) (hs : s < 256) (w : World) (hT : TabOK w) :
  Calls Tryd.prog 47 #[.int .u16 s] w fun e w' => ∃ v : Value, e = .returned v ∧ Kd.R (Kd.int .i64) 3 w' w.heap.size (fun _ => True) v (ivs (bitsN s)) ∧ Below w.heap.size w w' := by
 refine calls_of_wpM Tryd.func47 rfl ?_
 simp only [Tryd.ntmps47, List.size_toArray, List.length_cons, List.length_nil, Nat.reduceAdd, Nat.reduceSub, Array.replicate_succ, Array.replicate_zero, List.push_toArray, List.append_toArray, List.nil_append, List.cons_append]
 have hT' := Aside0.mk hT
 clear hT
 have hmk : ∀ w : World, (Instr.makeSlice 24 (.int .i64 0) (.int .i64 8)).run Tryd.prog w = .ok (.slice (some ⟨w.heap.size, 0, none⟩) 0 8) (w.alloc (.cells (Array.replicate 8 (.int .i64 0)) 3)) := fun _ => by kernel_rfl
 go_wp2_with (go_at_call 54; refine (all_calls _ _).mono ?_; rintro e w' ⟨rfl, rfl⟩)
 clear hmk
 have hT := hT'.out
 obtain ⟨W1, hW1⟩ : ∃ W1, w.alloc (Obj.cells (Array.replicate 8 (Value.int IntKind.i64 0)) 3) = W1 := ⟨_, rfl⟩
 have hs1 : W1.heap.size = w.heap.size + 1 := by rw [← hW1]; simp
 rw [hW1]
 have hr1 : W1.ownsRow w.heap.size 3 1 (.slice (some ⟨w.heap.size, 0, none⟩) 0 8) 0 (encs (Value.int .i64) []) := by
  rw [← hW1]
  exact World.ownsRow_made w _ 8 (Nat.le_refl _) (by unfold maxLen; omega) (by simp)
 rw [← hs1]
 obtain ⟨W2, hW2⟩ : ∃ W2, W1.alloc (Obj.cells #[Value.slice (some { block := w.heap.size, off := 0 }) 0 8] 24) = W2 := ⟨_, rfl⟩
 have hs2 : W2.heap.size = w.heap.size + 1 + 1 := by rw [← hW2]; simp [hs1]
 have hb2 : Boxed W2 W1.heap.size 24 (Value.slice (some { block := w.heap.size, off := 0 }) 0 8) := by rw [← hW2]; exact Boxed.new _ _ _
 have hB2 : Below w.heap.size w W2 := by rw [← hW2, ← hW1]; exact ((Below.refl _ w).alloc (Nat.le_refl _) _).alloc (by simp) _
 rw [hW2]
 rw [show W1.heap.size + 1 = W2.heap.size by omega]
 have hT2 := hT.below hB2
 have hb3 := hb2.alloc (Obj.cells #[Value.int IntKind.u16 s] 51)
 refine wp_all1 W2.heap.size s hs rfl (by simp) (cell_one_new _ _ _ 0 _ rfl) (hT2.below ((Below.refl _ W2).alloc (Nat.le_refl _) _)) rfl rfl rfl (by simp)
  (fun (pre : List Nat) W => (∃ v, Boxed W W1.heap.size 24 v ∧ W.ownsRow w.heap.size 3 1 v pre.length (encs (Value.int .i64) (ivs pre))) ∧ Below w.heap.size w W) (fun _ _ _ => False)
  (OwnFrom.and (own_boxrow (β := List Nat) _ _ _ _ _ _ _ _) (ownFrom_below (Nat.le_refl _) (by simp; omega))) (fun _ _ _ _ _ hs _ _ => hs) ?h0 (fun pre W h => hT.below h.2) ?body ?done ?stop
 case stop => intro D c pre W _ _ h _; exact h.elim
 case h0 =>
  refine ⟨⟨_, hb3, ?_⟩, hB2.alloc (by omega) _⟩
  have := (hr1.alloc (Obj.cells #[Value.slice (some { block := w.heap.size, off := 0 }) 0 8] 24))
  rw [hW2] at this
  exact this.alloc _
 case body =>
  have hle1 : w.heap.size ≤ W1.heap.size := by omega
  clear hW1 hW2 hs1 hs2 hr1 hb2 hb3 hB2 hT2
  rintro l pre x W hx8 hxs ⟨⟨v, hv, hrow⟩, hB⟩ hlen
  simp only [List.setIfInBounds_toArray, List.set_cons_zero, List.set_cons_succ]
  have hc1 := hv.cell
  have hf1 := hv.frozen
  have hle : w.heap.size ≤ W.heap.size := hB.size
  obtain ⟨i0, hi, hz0, hz1, hz2⟩ := info_parts infoI
  have hrow' := Aside0.mk hrow
  have hB' := Aside0.mk hB
  clear hrow hB
  gi_wp2_with (gi_at_builtin; refine wpListIn_append_own _ rfl _ _ 24 rfl w.heap.size 3 i0 (.int .i64 0) 1 8 Tryd.underlying24 hi hz0 hz1 hz2 rfl (by decide) _ _ _ rfl (hrow'.out.alloc _) ⟨W.heap.size, 0, none⟩ 1 1 [.int .i64 (x : Int)] rfl rfl (cell_one_new _ _ _) (by simp [Value.oneCell']) (by unfold maxLen; omega) (by omega) (by simp; omega) ?_; intro v' w1 hown' hgrow _; obtain ⟨g', cap', rfl⟩ := ownsRow_succ hown'; obtain ⟨hv1, hv2, hr2, hk2, hb2⟩ := hv.appended (by decide) hrow'.out hle hle1 hown' hgrow; have hc1 := hv1.cell; have hf1 := hv1.frozen)
  exact ⟨hk2.from _, ⟨_, hv2, by rw [ivs_snoc, encs, List.map_append]; simpa [encs] using hr2⟩, hB'.out.trans hb2⟩
 case done =>
  have hle1 : w.heap.size ≤ W1.heap.size := by omega
  clear hW1 hW2 hr1 hb2 hb3 hB2 hT2
  rintro D W hD ⟨⟨v, hv, hrow⟩, hB⟩ hK
  have hR : Kd.R (Kd.int .i64) 3 W w.heap.size (fun _ => True) v (ivs (bitsN s)) := Kd.R_of_own (by rw [ivs_length]; exact hrow) (fun _ _ => trivial)
  obtain ⟨A, c, rfl, hl, hC⟩ := Kd.R_reads hR
  have hc1 := hv.cell
  have hlt := hv.lt
  have hD' : w.heap.size ≤ D := by simp at hD; omega
  have hle : w.heap.size ≤ W.heap.size := hB.size
  have hlen8 : (ivs (bitsN s)).length ≤ 8 := by rw [ivs_length]; exact bitsN_len s
  have HO := Aside0.mk (Kd.R_of_own (enc := Value.int .i64) (h1 := fun _ => rfl) (e := 3) (xs := []) (ok := fun _ => True) (World.ownsRow_made W #[] 0 hle (by unfold maxLen; omega) rfl) (fun _ _ => trivial))
  have HR := Aside0.mk (Kd.C_alloc hC (.cells #[] 3))
  have HB := Aside0.mk (hB.alloc hle (.cells #[] 3))
  have hrow' := Aside0.mk hrow
  have hK' := Aside0.mk hK
  have hD'' := Aside0.mk hD
  clear hrow hB hK hD hs1 hs2 hR hC hl
  go_wp2_with (at_builtin; refine Kd.R_append_rows (Kd.int .i64) (w0 := w) w.heap.size rfl (.tmp 13) (.tmp 14) 24 3 (.int .i64 0) 8 rfl Tryd.underlying24 infoI rfl (by decide) (by omega) _ [] (ivs (bitsN s)) _ _ _ (fun _ => True) (fun _ => False) rfl rfl HO.out HR.out (fun _ _ h => h) (fun _ h => h.elim) (fun _ _ => trivial) HB.out (by simp; omega) (by simp; omega) ?_; intro v1 w1 ho hb hg hat)
  have hK2 : w1.heap[D]? = some (.deferred (some [])) := by
   have h1 := (Below.heap_alloc W (.cells #[] 3) D (Array.getElem?_eq_some_iff.1 hK'.out).1).trans hK'.out
   exact (hg.block D (Array.getElem?_eq_some_iff.1 h1).1 (show some D ≠ some W.heap.size from fun e => by have := (Array.getElem?_eq_some_iff.1 hK'.out).1; injection e; omega)).trans h1
  refine retM (B := w.heap.size) (fun W => Kd.R (Kd.int .i64) 3 W w.heap.size (fun _ => True) v1 (ivs (bitsN s)) ∧ Below w.heap.size w W) (OwnFrom.and (own_R _ _) (ownFrom_below (Nat.le_refl _) (Nat.le_refl _))) ⟨⟨D, rfl, hD', hK2, by simp⟩, trivial⟩ ⟨by simpa using ho, hb⟩ ?_
  rintro W' ⟨hr, hbb⟩
  exact ⟨v1, (results_tmp (t := 2) rfl _ _ _).trans rfl, v1, rfl, hr, hbb⟩
end Go.Proofs.YtajapkjplgaigaaDoor
end
section
namespace Go.Proofs.YtajapkjplgaigaaDoor.P
open Go.RowKit Go.Shelf Go.Proofs.YtajapkjplgaigaaDoorW.PrintWords Go.Proofs.YtajapkjplgaigaaDoorW.PrintLast Go.Proofs.YtajapkjplgaigaaDoorW.PrintMore
attribute [local go_sem] Oper.semAt_some
set_option linter.unusedVariables false
set_option linter.unusedSimpArgs false
abbrev TT := S39
structure Gr where
 ts : List TT
 nd : List Int
 od : List Int
 bl : List Int
 ab : List Int
def IsG (W : World) (g : Nat) (G : Gr) : Prop := ∃ A0 c0 A1 c1 A2 c2 A3 c3 A4 c4,
 W.heap[g]? = some (.cells #[.slice A0 G.ts.length c0, .slice A1 G.nd.length c1, .slice A2 G.od.length c2, .slice A3 G.bl.length c3, .slice A4 G.ab.length c4] 64 (0, 0)) ∧
 (Kd.C k39 W A0 G.ts.length G.ts ∧ G.ts.length ≤ c0) ∧ (Kd.C (Kd.int .u16) W A1 G.nd.length G.nd ∧ G.nd.length ≤ c1) ∧ (Kd.C (Kd.int .i64) W A2 G.od.length G.od ∧ G.od.length ≤ c2) ∧
 (Kd.C (Kd.int .u16) W A3 G.bl.length G.bl ∧ G.bl.length ≤ c3) ∧ (Kd.C (Kd.int .u16) W A4 G.ab.length G.ab ∧ G.ab.length ≤ c4)
theorem IsG.lt {W : World} {g : Nat} {G : Gr} (h : IsG W g G) : g < W.heap.size := by
 obtain ⟨_, _, _, _, _, _, _, _, _, _, h, _⟩ := h
 exact (Array.getElem?_eq_some_iff.1 h).1
theorem IsG.below {W W1 : World} {g : Nat} {G : Gr} (h : IsG W g G) (hb : Below W.heap.size W W1) : IsG W1 g G := by
 have hlt := h.lt
 obtain ⟨A0, c0, A1, c1, A2, c2, A3, c3, A4, c4, h, ⟨a, a'⟩, ⟨b, b'⟩, ⟨c, c'⟩, ⟨d, d'⟩, ⟨e, e'⟩⟩ := h
 exact ⟨A0, c0, A1, c1, A2, c2, A3, c3, A4, c4, (hb.block g hlt).trans h, ⟨Kd.C_below a hb, a'⟩, ⟨Kd.C_below b hb, b'⟩, ⟨Kd.C_below c hb, c'⟩, ⟨Kd.C_below d hb, d'⟩, ⟨Kd.C_below e hb, e'⟩⟩
theorem box_at (W : World) (t : TypeId) (v : Value) (B : Nat) (hB : W.heap.size = B) : Boxed (W.alloc (.cells #[v] t)) B t v := hB ▸ Boxed.new W t v
def totalP (ts : List TT) (xs : List Nat) : Int := xs.foldl (fun (a : Int) (i : Nat) => wrap64 (a + (rd_T39 ts (i : Int)).f0)) 0
end Go.Proofs.YtajapkjplgaigaaDoor.P
end
section
namespace Go.Proofs.YtajapkjplgaigaaDoor.P
open Go.RowKit Go.Proofs.YtajapkjplgaigaaDoorW.PrintWords Go.Proofs.YtajapkjplgaigaaDoorW.PrintLast Go.Proofs.YtajapkjplgaigaaDoorW.PrintMore
attribute [local go_sem] max2_int min2_int max_two min_two max_three min_three max_four min_four   -- for this text's walks alone
set_option linter.unusedVariables false
set_option linter.unusedSimpArgs false
def impl_set_has.f (a0 : Int) (a1 : Int) : Option (Bool) := if 0 ≤ a1 then (some ((Go.bits .and .u16 (shr .u16 a0 a1) 1) == 1)) else (none)
set_option maxHeartbeats 8000000 in
set_option maxRecDepth 100000 in
theorem impl_set_has.calls (a0 : Int) (a1 : Int) (r : Bool) (w : World) (h : impl_set_has.f a0 a1 = some r) :
  Calls Tryd.prog 49 #[.int .u16 a0, .int .i64 a1] w fun e w' => e = .returned (.bool r) ∧ Drawn0 w w' := by
 have H : (if 0 ≤ a1 then (some ((Go.bits .and .u16 (shr .u16 a0 a1) 1) == 1)) else (none)) = some r := h
 clear h
 by_cases c3 : 0 ≤ a1
 ·rw [if_pos c3] at H
  have c3b0 := eq_true c3
  have c3b1 : decide (0 ≤ a1) = true := decide_eq_true c3
  clear c3
  obtain ⟨ji4, hji4⟩ : ∃ j_ : Int, (shr .u16 a0 a1) = j_ := ⟨_, rfl⟩
  replace H : (some ((Go.bits .and .u16 (ji4) 1) == 1)) = some r := by first | (rw [hji4] at H; exact H) | (simp only [hji4] at H ⊢; exact H)
  have hji4_ : (a0 / 2 ^ min a1.toNat 16) = ji4 := hji4
  have hji4z : a1 ≤ 16 → (a0 / 2 ^ a1.toNat) = ji4 := shr_small hji4
  obtain rfl := Option.some.inj H
  go_enter Tryd.func49, Tryd.ntmps49
  go_wp2
  go_ret
  exact ⟨by first | rfl | (simp; done) | (simp only [← hji4] <;> (first | rfl | simp)) | (simp [*]; done), by repeat (first | exact Drawn0.refl _ | apply Drawn0.step)⟩
 ·rw [if_neg c3] at H
  exact absurd H (by simp)
end Go.Proofs.YtajapkjplgaigaaDoor.P
end
section
namespace Go.Proofs.YtajapkjplgaigaaDoor.P
open Go.RowKit Go.Proofs.YtajapkjplgaigaaDoorW.PrintWords Go.Proofs.YtajapkjplgaigaaDoorW.PrintLast Go.Proofs.YtajapkjplgaigaaDoorW.PrintMore
attribute [local go_sem] max2_int min2_int max_two min_two max_three min_three max_four min_four   -- for this text's walks alone
set_option linter.unusedVariables false
set_option linter.unusedSimpArgs false
def impl_set_with.f (a0 : Int) (a1 : Int) : Option (Int) := if 0 ≤ a1 then (some (Go.bits .or .u16 a0 (shl .u16 1 a1))) else (none)
set_option maxHeartbeats 8000000 in
set_option maxRecDepth 100000 in
theorem impl_set_with.calls (a0 : Int) (a1 : Int) (r : Int) (w : World) (h : impl_set_with.f a0 a1 = some r) :
  Calls Tryd.prog 50 #[.int .u16 a0, .int .i64 a1] w fun e w' => e = .returned (.int .u16 r) ∧ Drawn0 w w' := by
 have H : (if 0 ≤ a1 then (some (Go.bits .or .u16 a0 (shl .u16 1 a1))) else (none)) = some r := h
 clear h
 by_cases c3 : 0 ≤ a1
 ·rw [if_pos c3] at H
  have c3b0 := eq_true c3
  have c3b1 : decide (0 ≤ a1) = true := decide_eq_true c3
  clear c3
  obtain ⟨ji4, hji4⟩ : ∃ j_ : Int, (shl .u16 1 a1) = j_ := ⟨_, rfl⟩
  replace H : (some (Go.bits .or .u16 a0 (ji4))) = some r := by first | (rw [hji4] at H; exact H) | (simp only [hji4] at H ⊢; exact H)
  have hji4_ : (IntKind.u16.wrap (1 * 2 ^ min a1.toNat 16)) = ji4 := hji4
  have hji4z : a1 ≤ 16 → (IntKind.u16.wrap (1 * 2 ^ a1.toNat)) = ji4 := shl_small hji4
  have hji4u : (IntKind.u16.wrap (2 ^ min a1.toNat 16)) = ji4 := by have h_ := hji4_; rw [Int.one_mul] at h_; exact h_
  have hji4v : a1 ≤ 16 → (IntKind.u16.wrap (2 ^ a1.toNat)) = ji4 := fun hle_ => by have h_ := hji4z hle_; rw [Int.one_mul] at h_; exact h_
  obtain rfl := Option.some.inj H
  go_enter Tryd.func50, Tryd.ntmps50
  go_wp2
  go_ret
  exact ⟨by first | rfl | (simp; done) | (simp only [← hji4] <;> (first | rfl | simp)) | (simp [*]; done), by repeat (first | exact Drawn0.refl _ | apply Drawn0.step)⟩
 ·rw [if_neg c3] at H
  exact absurd H (by simp)
end Go.Proofs.YtajapkjplgaigaaDoor.P
end
section
namespace Go.Proofs.YtajapkjplgaigaaDoor.P
open Go.RowKit Go.Shelf Go.Proofs.YtajapkjplgaigaaDoorW.PrintWords Go.Proofs.YtajapkjplgaigaaDoorW.PrintLast Go.Proofs.YtajapkjplgaigaaDoorW.PrintMore
set_option linter.unusedVariables false
set_option linter.unusedSimpArgs false
def hasB (a i : Int) : Bool := Go.bits .and .u16 (shr .u16 a i) 1 == 1
def withI (a i : Int) : Int := Go.bits .or .u16 a (shl .u16 1 i)
def subB (a b : Int) : Bool := Go.bits .andNot .u16 a b == 0
theorem withI_calls (a i : Int) (h : 0 ≤ i) (w : World) : Calls Tryd.prog 50 #[.int .u16 a, .int .i64 i] w fun e w' => e = .returned (.int .u16 (withI a i)) ∧ Drawn0 w w' :=
 impl_set_with.calls a i _ w (by unfold impl_set_with.f; rw [if_pos h]; rfl)
def readyStep (nd : List Int) (done : Int) (out : Int) (i : Nat) : Int := if !(hasB done (i : Int)) && subB (rd nd (i : Int)) done then withI out (i : Int) else out
def readyP (nd : List Int) (done : Int) : Int := (List.range nd.length).foldl (readyStep nd done) 0
end Go.Proofs.YtajapkjplgaigaaDoor.P
end
section
namespace Go.Proofs.YtajapkjplgaigaaDoor.P
open Go.RowKit Go.Shelf Go.Proofs.YtajapkjplgaigaaDoorW.PrintWords Go.Proofs.YtajapkjplgaigaaDoorW.PrintLast Go.Proofs.YtajapkjplgaigaaDoorW.PrintMore
set_option linter.unusedVariables false
set_option linter.unusedSimpArgs false
theorem infoS : (Tryd.prog.info? 51).map (fun i => (i.zero, i.size, i.bytes)) = some (some (.int .u16 0), 1, 2) := by kernel_rfl
theorem infoPG : (Tryd.prog.info? 49).map (fun i => (i.zero, i.size, i.bytes)) = some (some (.pointer none), 1, 8) := by kernel_rfl
theorem mk_sets (n : Nat) (hn : n ≤ 8) (W : World) : (Instr.makeSlice 62 (.int .i64 (n : Int)) (.int .i64 (n : Int))).run Tryd.prog W = .ok (.slice (some ⟨W.heap.size, 0, none⟩) n n) (W.alloc (.cells (Array.replicate n (.int .u16 0)) 51)) := by
 obtain ⟨i0, hi, hz0, hz1, hz2⟩ := info_parts infoS
 have h := run_make (P := Tryd.prog) W 62 51 i0 (.int .u16 0) Tryd.underlying62 hi hz0 .i64 .i64 (n : Int) (n : Int) (by omega) (by omega) (by rw [hz2]; omega) (by omega)
 rw [hz1] at h
 simp only [Int.toNat_natCast] at h
 rw [h]
 have : madeCells (Value.int IntKind.u16 0).cells (n * 1) = Array.replicate n (.int .u16 0) := by
  have e := toList_madeCells_one (.int .u16 0) n
  apply Array.toList_inj.1
  rw [Nat.mul_one, Array.toList_replicate]
  exact e
 rw [this]
section
variable {P : Program} {ops : Array Oper} {Q : Exit → Act → World → Prop} {B : List Nat} {O : List Nat} {I : (Nat → Bool) → Act → World → Prop}
theorem step_val {i : Nat} {oi : Oper} (t : Tmp) (hi : ops[i]? = some oi) (hg : oi.guard = none) (hd : oi.dst = some t)
  (h : ∀ b a w, I b a w → b i = false → (∀ j, (O.contains j && (B.getD i 0).testBit j) = true → b j = true) → (∀ d, (O.contains d && (B.getD d 0).testBit i) = true → b d = false) →
   ∃ v w1, (execOp a.eval oi).run P w = .ok (.value v) w1 ∧ I (up b i) (a.put (some t) v) w1) : StepAt P ops Q B O I i := by
 intro b a w hI hb h1 h2
 obtain ⟨v, w1, hr, hI1⟩ := h b a w hI hb h1 h2
 refine ⟨oi, hi, fun K hK => ?_⟩
 rw [hd]
 exact value_ (by simp [Region.wanted, hg]) hd hr (hK.out _ _ hI1)
theorem step_skip {i : Nat} {oi : Oper} (hi : ops[i]? = some oi) (hg : oi.guard = none) (hd : oi.dst = none)
  (h : ∀ b a w, I b a w → b i = false → (∀ j, (O.contains j && (B.getD i 0).testBit j) = true → b j = true) → (∀ d, (O.contains d && (B.getD d 0).testBit i) = true → b d = false) →
   ∃ w1, (execOp a.eval oi).run P w = .ok .skip w1 ∧ I (up b i) a w1) : StepAt P ops Q B O I i := by
 intro b a w hI hb h1 h2
 obtain ⟨w1, hr, hI1⟩ := h b a w hI hb h1 h2
 refine ⟨oi, hi, fun K hK => ?_⟩
 rw [hd]
 exact skip_ (by simp [Region.wanted, hg]) hd hr (hK.out _ _ hI1)
variable {e : Operand → Value} {oi : Oper} {x y : Operand} {w w1 : World} {v : Value}
theorem op_move (ho : oi.op = .move x) (hx : e x = v) : (execOp e oi).run P w = .ok (.value v) w := by simp [execOp, ho, hx]
theorem op_len {A : Option Addr} {n c : Nat} (t t' : TypeId) (ht : P.underlying t = some (.slice t')) (ho : oi.op = .call { callee := .builtin .len, args := #[x], argTypes := #[t] }) (hx : e x = .slice A n c) : (execOp e oi).run P w = .ok (.value (.int .i64 (n : Int))) w := by
 simp [execOp, ho, hx, resolve, invoke, builtin, Builtin.len_, run_underlying ht, goInt]
theorem op_mkslice {t : TypeId} (ho : oi.op = .makeSlice t x y) (h : (Instr.makeSlice t (e x) (e y)).run P w = .ok v w1) : (execOp e oi).run P w = .ok (.value v) w1 := by simp [execOp, ho, h]
theorem op_build {t : TypeId} {ps : Array (Nat × Operand)} (ho : oi.op = .build t ps) (h : (Instr.build t (ps.map fun x => (x.1, e x.2))).run P w = .ok v w1) : (execOp e oi).run P w = .ok (.value v) w1 := by simp [execOp, ho, h]
theorem op_box {t : TypeId} (ho : oi.op = .box t x) (h : (Instr.box t (e x)).run P w = .ok v w1) : (execOp e oi).run P w = .ok (.value v) w1 := by simp [execOp, ho, h]
theorem op_alloc {t : TypeId} (ho : oi.op = .alloc t) (h : (Instr.alloc t true (.tuple #[])).run P w = .ok v w1) : (execOp e oi).run P w = .ok (.value v) w1 := by simp [execOp, ho, h]
theorem op_store {t : TypeId} {u : Unit} (ho : oi.op = .store t x y) (h : (Instr.storeAt t (e x) (e y)).run P w = .ok u w1) : (execOp e oi).run P w = .ok .skip w1 := by simp [execOp, ho, h]
end
abbrev slv (b n : Nat) : Value := .slice (some ⟨b, 0, none⟩) n n
def L7 (V0 : Value) (V1 V2 : Value) (n b1 b2 b3 b4 : Nat) (v9 : Value) : List (Nat × Tmp × Value) :=
 [(0, 30, V0), (1, 31, V1), (2, 32, V2), (3, 33, V0), (4, 34, .int .i64 (n : Int)), (5, 35, slv b1 n), (6, 36, V0), (7, 37, .int .i64 (n : Int)), (8, 38, slv b2 n), (9, 39, v9), (10, 40, .pointer (some ⟨b3, 0, none⟩)), (11, 8, .pointer (some ⟨b4, 0, none⟩))]
def zrow (n : Nat) : Obj := .cells (Array.replicate n (.int .u16 0)) 51 (0, 0)
structure F7 (V0 V1 V2 : Value) (n : Nat) (w0 : World) (b : Nat → Bool) (w : World) (b1 b2 b3 b4 : Nat) (v9 : Value) : Prop where
 h9 : b 9 = true → v9 = .agg #[V0, V1, V2, slv b1 n, slv b2 n]
 bel : Below w0.heap.size w0 w
 h1 : b 5 = true → w.heap[b1]? = some (zrow n)
 h2 : b 8 = true → w.heap[b2]? = some (zrow n)
 ne : b 5 = true → b 8 = true → b1 ≠ b2
 h3 : b 10 = true → w.heap[b3]? = some (.cells #[V0, V1, V2, slv b1 n, slv b2 n] 64 (0, 0))
 h4 : b 11 = true → b 12 = false → w.heap[b4]? = some (.cells #[.pointer none] 49 (0, 0))
 h5 : b 12 = true → w.heap[b4]? = some (.cells #[.pointer (some ⟨b3, 0, none⟩)] 49 (0, 0))
 g1 : b 5 = true → w0.heap.size ≤ b1
 g2 : b 8 = true → w0.heap.size ≤ b2
 g3 : b 10 = true → w0.heap.size ≤ b3
 g4 : b 11 = true → w0.heap.size ≤ b4
def I7 (V0 V1 V2 : Value) (n : Nat) (w0 : World) (a0 : Act) (b : Nat → Bool) (a : Act) (w : World) : Prop := ∃ b1 b2 b3 b4 v9, a = putSel a0 b (L7 V0 V1 V2 n b1 b2 b3 b4 v9) ∧ F7 V0 V1 V2 n w0 b w b1 b2 b3 b4 v9
theorem F7.same {V0 V1 V2 : Value} {n : Nat} {w0 w : World} {b : Nat → Bool} {b1 b2 b3 b4 : Nat} {v9 : Value} (h : F7 V0 V1 V2 n w0 b w b1 b2 b3 b4 v9) {i : Nat} (hi : i ≠ 5 ∧ i ≠ 8 ∧ i ≠ 9 ∧ i ≠ 10 ∧ i ≠ 11 ∧ i ≠ 12) : F7 V0 V1 V2 n w0 (up b i) w b1 b2 b3 b4 v9 := by
 obtain ⟨i5, i8, i9, i10, i11, i12⟩ := hi
 have e9 := up_ne (b := b) (Ne.symm i9)
 have e5 := up_ne (b := b) (Ne.symm i5)
 have e8 := up_ne (b := b) (Ne.symm i8)
 have e10 := up_ne (b := b) (Ne.symm i10)
 have e11 := up_ne (b := b) (Ne.symm i11)
 have e12 := up_ne (b := b) (Ne.symm i12)
 exact ⟨by rw [e9]; exact h.h9, h.bel, by rw [e5]; exact h.h1, by rw [e8]; exact h.h2, by rw [e5, e8]; exact h.ne, by rw [e10]; exact h.h3, by rw [e11, e12]; exact h.h4, by rw [e12]; exact h.h5, by rw [e5]; exact h.g1, by rw [e8]; exact h.g2, by rw [e10]; exact h.g3, by rw [e11]; exact h.g4⟩
set_option maxRecDepth 100000 in
set_option maxHeartbeats 4000000 in
theorem region7 (A0 A1 A2 : Option Addr) (n n1 n2 c0 c1 c2 : Nat) (a0 : Act) (hsz : 97 ≤ a0.tmps.size) (e0 : a0.tmps[0]? = some (.slice A0 n c0)) (e4 : a0.tmps[4]? = some (.slice A1 n1 c1)) (e6 : a0.tmps[6]? = some (.slice A2 n2 c2)) (hn : n ≤ 8) (w0 w : World) (hw : Below w0.heap.size w0 w)
  (Q : Exit → Act → World → Prop) (hQ : ∀ a' w', I7 (.slice A0 n c0) (.slice A1 n1 c1) (.slice A2 n2 c2) n w0 a0 (fun _ => true) a' w' → Q .normal a' w') :
  (Code.region 7 (opsOf Tryd.f58 7) true).wp Tryd.prog Q a0 w := by
 refine start_ (n := 13) (S := fun _ => True) (ds := []) #[false, false, false, false, false, false, false, false, false, false, false, false, false] (by kernel_rfl) rfl rfl trivial (fun _ => ?_)
 refine inv_ (T := (true, [([], []), ([], []), ([], []), ([], []), ([3], [3]), ([4, 4], [4]), ([], []), ([6], [6]), ([7, 7], [7]), ([0, 1, 2, 5, 8], [0, 1, 2, 5, 8]), ([9], [9]), ([], []), ([11, 10, 0, 1, 2, 3, 4, 5, 6, 7, 8, 9, 10, 11], [10, 11])])) (B := [0, 0, 0, 0, 8, 24, 0, 64, 192, 511, 1023, 0, 4095]) [0, 1, 2, 3, 4, 5, 6, 7, 8, 9, 10, 11, 12]
  (I7 (.slice A0 n c0) (.slice A1 n1 c1) (.slice A2 n2 c2) n w0 a0) (by kernel_rfl) (by kernel_rfl) (by kernel_rfl) (by kernel_rfl) ?h0 ?hs ?hend
 case h0 => exact ⟨0, 0, 0, 0, undef, rfl, ⟨fun h => (by cases h), hw.drew, fun h => (by cases h), fun h => (by cases h), fun h => (by cases h), fun h => (by cases h), fun h => (by cases h), fun h => (by cases h), fun h => (by cases h), fun h => (by cases h), fun h => (by cases h), fun h => (by cases h)⟩⟩
 case hend =>
  rintro b a w h ⟨b1, b2, b3, b4, v9, ha, hF⟩
  have q : ∀ j, j < 13 → b j = true := by
   intro j hj
   refine h j ?_
   have : j = 0 ∨ j = 1 ∨ j = 2 ∨ j = 3 ∨ j = 4 ∨ j = 5 ∨ j = 6 ∨ j = 7 ∨ j = 8 ∨ j = 9 ∨ j = 10 ∨ j = 11 ∨ j = 12 := by omega
   rcases this with rfl | rfl | rfl | rfl | rfl | rfl | rfl | rfl | rfl | rfl | rfl | rfl | rfl <;> rfl
  refine hQ a w ⟨b1, b2, b3, b4, v9, ?_, ⟨fun _ => hF.h9 (q 9 (by omega)), hF.bel, fun _ => hF.h1 (q 5 (by omega)), fun _ => hF.h2 (q 8 (by omega)), fun _ _ => hF.ne (q 5 (by omega)) (q 8 (by omega)), fun _ => hF.h3 (q 10 (by omega)), fun _ h => (by cases h), fun _ => hF.h5 (q 12 (by omega)), fun _ => hF.g1 (q 5 (by omega)), fun _ => hF.g2 (q 8 (by omega)), fun _ => hF.g3 (q 10 (by omega)), fun _ => hF.g4 (q 11 (by omega))⟩⟩
  rw [ha]
  simp only [L7, putSel, q 0 (by omega), q 1 (by omega), q 2 (by omega), q 3 (by omega), q 4 (by omega), q 5 (by omega), q 6 (by omega), q 7 (by omega), q 8 (by omega), q 9 (by omega), q 10 (by omega), q 11 (by omega)]
 case hs =>
  refine steps_cons (step_val 30 rfl rfl rfl ?s0) (steps_cons (step_val 31 rfl rfl rfl ?s1) (steps_cons (step_val 32 rfl rfl rfl ?s2) (steps_cons (step_val 33 rfl rfl rfl ?s3) (steps_cons (step_val 34 rfl rfl rfl ?s4) (steps_cons (step_val 35 rfl rfl rfl ?s5) (steps_cons (step_val 36 rfl rfl rfl ?s6) (steps_cons (step_val 37 rfl rfl rfl ?s7) (steps_cons (step_val 38 rfl rfl rfl ?s8) (steps_cons (step_val 39 rfl rfl rfl ?s9) (steps_cons (step_val 40 rfl rfl rfl ?s10) (steps_cons (step_val 8 rfl rfl rfl ?s11) (steps_cons (step_skip rfl rfl rfl ?s12) steps_nil))))))))))))
  case s0 =>
   rintro b a w ⟨b1, b2, b3, b4, v9, rfl, hF⟩ hb d1 d2
   have v0 : (putSel a0 b (L7 (.slice A0 n c0) (.slice A1 n1 c1) (.slice A2 n2 c2) n b1 b2 b3 b4 v9)).eval (.tmp 0) = .slice A0 n c0 := eval_of ((putSel_off rfl).trans e0)
   exact ⟨_, w, op_move rfl v0, b1, b2, b3, b4, v9, putSel_upk 0 hb rfl rfl rfl, hF.same (by decide)⟩
  case s1 =>
   rintro b a w ⟨b1, b2, b3, b4, v9, rfl, hF⟩ hb d1 d2
   have v0 : (putSel a0 b (L7 (.slice A0 n c0) (.slice A1 n1 c1) (.slice A2 n2 c2) n b1 b2 b3 b4 v9)).eval (.tmp 4) = .slice A1 n1 c1 := eval_of ((putSel_off rfl).trans e4)
   exact ⟨_, w, op_move rfl v0, b1, b2, b3, b4, v9, putSel_upk 1 hb rfl rfl rfl, hF.same (by decide)⟩
  case s2 =>
   rintro b a w ⟨b1, b2, b3, b4, v9, rfl, hF⟩ hb d1 d2
   have v0 : (putSel a0 b (L7 (.slice A0 n c0) (.slice A1 n1 c1) (.slice A2 n2 c2) n b1 b2 b3 b4 v9)).eval (.tmp 6) = .slice A2 n2 c2 := eval_of ((putSel_off rfl).trans e6)
   exact ⟨_, w, op_move rfl v0, b1, b2, b3, b4, v9, putSel_upk 2 hb rfl rfl rfl, hF.same (by decide)⟩
  case s3 =>
   rintro b a w ⟨b1, b2, b3, b4, v9, rfl, hF⟩ hb d1 d2
   have v0 : (putSel a0 b (L7 (.slice A0 n c0) (.slice A1 n1 c1) (.slice A2 n2 c2) n b1 b2 b3 b4 v9)).eval (.tmp 0) = .slice A0 n c0 := eval_of ((putSel_off rfl).trans e0)
   exact ⟨_, w, op_move rfl v0, b1, b2, b3, b4, v9, putSel_upk 3 hb rfl rfl rfl, hF.same (by decide)⟩
  case s6 =>
   rintro b a w ⟨b1, b2, b3, b4, v9, rfl, hF⟩ hb d1 d2
   have v0 : (putSel a0 b (L7 (.slice A0 n c0) (.slice A1 n1 c1) (.slice A2 n2 c2) n b1 b2 b3 b4 v9)).eval (.tmp 0) = .slice A0 n c0 := eval_of ((putSel_off rfl).trans e0)
   exact ⟨_, w, op_move rfl v0, b1, b2, b3, b4, v9, putSel_upk 6 hb rfl rfl rfl, hF.same (by decide)⟩
  case s4 =>
   rintro b a w ⟨b1, b2, b3, b4, v9, rfl, hF⟩ hb d1 d2
   have v0 : (putSel a0 b (L7 (.slice A0 n c0) (.slice A1 n1 c1) (.slice A2 n2 c2) n b1 b2 b3 b4 v9)).eval (.tmp 33) = .slice A0 n c0 := eval_of (putSel_on (e := (3, 33, .slice A0 n c0)) 3 rfl rfl (d1 3 (by decide)) (Nat.ble_eq_true_of_le (Nat.le_trans (show 33 + 1 ≤ 97 by decide) hsz)))
   exact ⟨.int .i64 (n : Int), w, op_len 23 39 Tryd.underlying23 rfl v0, b1, b2, b3, b4, v9, putSel_upk 4 hb rfl rfl rfl, hF.same (by decide)⟩
  case s7 =>
   rintro b a w ⟨b1, b2, b3, b4, v9, rfl, hF⟩ hb d1 d2
   have v0 : (putSel a0 b (L7 (.slice A0 n c0) (.slice A1 n1 c1) (.slice A2 n2 c2) n b1 b2 b3 b4 v9)).eval (.tmp 36) = .slice A0 n c0 := eval_of (putSel_on (e := (6, 36, .slice A0 n c0)) 6 rfl rfl (d1 6 (by decide)) (Nat.ble_eq_true_of_le (Nat.le_trans (show 36 + 1 ≤ 97 by decide) hsz)))
   exact ⟨.int .i64 (n : Int), w, op_len 23 39 Tryd.underlying23 rfl v0, b1, b2, b3, b4, v9, putSel_upk 7 hb rfl rfl rfl, hF.same (by decide)⟩
  case s5 =>
   rintro b a w ⟨b1, b2, b3, b4, v9, rfl, hF⟩ hb d1 d2
   have u34 : (putSel a0 b (L7 (.slice A0 n c0) (.slice A1 n1 c1) (.slice A2 n2 c2) n b1 b2 b3 b4 v9)).eval (.tmp 34) = .int .i64 (n : Int) := eval_of (putSel_on (e := (4, 34, .int .i64 (n : Int))) 4 rfl rfl (d1 4 (by decide)) (Nat.ble_eq_true_of_le (Nat.le_trans (show 34 + 1 ≤ 97 by decide) hsz)))
   have keep : ∀ {x o}, w.heap[x]? = some o → (w.alloc (zrow n)).heap[x]? = some o := fun h => (Below.heap_alloc w _ _ (Array.getElem?_eq_some_iff.1 h).1).trans h
   have hsz2 : w0.heap.size ≤ w.heap.size := hF.bel.size
   refine ⟨slv w.heap.size n, w.alloc (zrow n), op_mkslice rfl (by rw [u34]; exact mk_sets n hn w), w.heap.size, b2, b3, b4, v9, putSel_upk 5 hb rfl rfl rfl, ?_⟩
   exact ⟨fun q => (by rw [up_ne (show 9 ≠ 5 by decide), d2 9 (by decide)] at q; cases q), hF.bel.alloc hsz2 _, fun _ => World.alloc_heap_new w _, by rw [up_ne (show 8 ≠ 5 by decide)]; exact fun q => keep (hF.h2 q), fun q1 q2 => (Nat.ne_of_gt (Array.getElem?_eq_some_iff.1 (hF.h2 (by rw [up_ne (show 8 ≠ 5 by decide)] at q2; exact q2))).1), fun q => (by rw [up_ne (show 10 ≠ 5 by decide), d2 10 (by decide)] at q; cases q), by rw [up_ne (show 11 ≠ 5 by decide), up_ne (show 12 ≠ 5 by decide)]; exact fun q q' => keep (hF.h4 q q'), fun q => (by rw [up_ne (show 12 ≠ 5 by decide), d2 12 (by decide)] at q; cases q), fun _ => hsz2, by rw [up_ne (show 8 ≠ 5 by decide)]; exact hF.g2, fun q => (by rw [up_ne (show 10 ≠ 5 by decide), d2 10 (by decide)] at q; cases q), by rw [up_ne (show 11 ≠ 5 by decide)]; exact hF.g4⟩
  case s8 =>
   rintro b a w ⟨b1, b2, b3, b4, v9, rfl, hF⟩ hb d1 d2
   have u37 : (putSel a0 b (L7 (.slice A0 n c0) (.slice A1 n1 c1) (.slice A2 n2 c2) n b1 b2 b3 b4 v9)).eval (.tmp 37) = .int .i64 (n : Int) := eval_of (putSel_on (e := (7, 37, .int .i64 (n : Int))) 7 rfl rfl (d1 7 (by decide)) (Nat.ble_eq_true_of_le (Nat.le_trans (show 37 + 1 ≤ 97 by decide) hsz)))
   have keep : ∀ {x o}, w.heap[x]? = some o → (w.alloc (zrow n)).heap[x]? = some o := fun h => (Below.heap_alloc w _ _ (Array.getElem?_eq_some_iff.1 h).1).trans h
   have hsz2 : w0.heap.size ≤ w.heap.size := hF.bel.size
   refine ⟨slv w.heap.size n, w.alloc (zrow n), op_mkslice rfl (by rw [u37]; exact mk_sets n hn w), b1, w.heap.size, b3, b4, v9, putSel_upk 8 hb rfl rfl rfl, ?_⟩
   exact ⟨fun q => (by rw [up_ne (show 9 ≠ 8 by decide), d2 9 (by decide)] at q; cases q), hF.bel.alloc hsz2 _, by rw [up_ne (show 5 ≠ 8 by decide)]; exact fun q => keep (hF.h1 q), fun _ => World.alloc_heap_new w _, fun q1 q2 => (Nat.ne_of_lt (Array.getElem?_eq_some_iff.1 (hF.h1 (by rw [up_ne (show 5 ≠ 8 by decide)] at q1; exact q1))).1), fun q => (by rw [up_ne (show 10 ≠ 8 by decide), d2 10 (by decide)] at q; cases q), by rw [up_ne (show 11 ≠ 8 by decide), up_ne (show 12 ≠ 8 by decide)]; exact fun q q' => keep (hF.h4 q q'), fun q => (by rw [up_ne (show 12 ≠ 8 by decide), d2 12 (by decide)] at q; cases q), by rw [up_ne (show 5 ≠ 8 by decide)]; exact hF.g1, fun _ => hsz2, fun q => (by rw [up_ne (show 10 ≠ 8 by decide), d2 10 (by decide)] at q; cases q), by rw [up_ne (show 11 ≠ 8 by decide)]; exact hF.g4⟩
  case s9 =>
   rintro b a w ⟨b1, b2, b3, b4, v9, rfl, hF⟩ hb d1 d2
   have u30 : (putSel a0 b (L7 (.slice A0 n c0) (.slice A1 n1 c1) (.slice A2 n2 c2) n b1 b2 b3 b4 v9)).eval (.tmp 30) = .slice A0 n c0 := eval_of (putSel_on (e := (0, 30, .slice A0 n c0)) 0 rfl rfl (d1 0 (by decide)) (Nat.ble_eq_true_of_le (Nat.le_trans (show 30 + 1 ≤ 97 by decide) hsz)))
   have u31 : (putSel a0 b (L7 (.slice A0 n c0) (.slice A1 n1 c1) (.slice A2 n2 c2) n b1 b2 b3 b4 v9)).eval (.tmp 31) = .slice A1 n1 c1 := eval_of (putSel_on (e := (1, 31, .slice A1 n1 c1)) 1 rfl rfl (d1 1 (by decide)) (Nat.ble_eq_true_of_le (Nat.le_trans (show 31 + 1 ≤ 97 by decide) hsz)))
   have u32 : (putSel a0 b (L7 (.slice A0 n c0) (.slice A1 n1 c1) (.slice A2 n2 c2) n b1 b2 b3 b4 v9)).eval (.tmp 32) = .slice A2 n2 c2 := eval_of (putSel_on (e := (2, 32, .slice A2 n2 c2)) 2 rfl rfl (d1 2 (by decide)) (Nat.ble_eq_true_of_le (Nat.le_trans (show 32 + 1 ≤ 97 by decide) hsz)))
   have u35 : (putSel a0 b (L7 (.slice A0 n c0) (.slice A1 n1 c1) (.slice A2 n2 c2) n b1 b2 b3 b4 v9)).eval (.tmp 35) = slv b1 n := eval_of (putSel_on (e := (5, 35, slv b1 n)) 5 rfl rfl (d1 5 (by decide)) (Nat.ble_eq_true_of_le (Nat.le_trans (show 35 + 1 ≤ 97 by decide) hsz)))
   have u38 : (putSel a0 b (L7 (.slice A0 n c0) (.slice A1 n1 c1) (.slice A2 n2 c2) n b1 b2 b3 b4 v9)).eval (.tmp 38) = slv b2 n := eval_of (putSel_on (e := (8, 38, slv b2 n)) 8 rfl rfl (d1 8 (by decide)) (Nat.ble_eq_true_of_le (Nat.le_trans (show 38 + 1 ≤ 97 by decide) hsz)))
   refine ⟨.agg #[.slice A0 n c0, .slice A1 n1 c1, .slice A2 n2 c2, slv b1 n, slv b2 n], w, op_build rfl ?_, b1, b2, b3, b4, _, putSel_upk 9 hb rfl rfl rfl, ?_⟩
   ·simp only [List.map_toArray, List.map_cons, List.map_nil, u30, u31, u32, u35, u38]
    exact Go.run_build _ _ _ _ (by kernel_rfl)
   ·exact ⟨fun _ => rfl, hF.bel, by rw [up_ne (show 5 ≠ 9 by decide)]; exact hF.h1, by rw [up_ne (show 8 ≠ 9 by decide)]; exact hF.h2, by rw [up_ne (show 5 ≠ 9 by decide), up_ne (show 8 ≠ 9 by decide)]; exact hF.ne, by rw [up_ne (show 10 ≠ 9 by decide)]; exact hF.h3, by rw [up_ne (show 11 ≠ 9 by decide), up_ne (show 12 ≠ 9 by decide)]; exact hF.h4, by rw [up_ne (show 12 ≠ 9 by decide)]; exact hF.h5, by rw [up_ne (show 5 ≠ 9 by decide)]; exact hF.g1, by rw [up_ne (show 8 ≠ 9 by decide)]; exact hF.g2, by rw [up_ne (show 10 ≠ 9 by decide)]; exact hF.g3, by rw [up_ne (show 11 ≠ 9 by decide)]; exact hF.g4⟩
  case s10 =>
   rintro b a w ⟨b1, b2, b3, b4, v9, rfl, hF⟩ hb d1 d2
   have q9 := d1 9 (by decide)
   have u39 : (putSel a0 b (L7 (.slice A0 n c0) (.slice A1 n1 c1) (.slice A2 n2 c2) n b1 b2 b3 b4 v9)).eval (.tmp 39) = v9 := eval_of (putSel_on (e := (9, 39, v9)) 9 rfl rfl q9 (Nat.ble_eq_true_of_le (Nat.le_trans (show 39 + 1 ≤ 97 by decide) hsz)))
   have keep : ∀ {x o}, w.heap[x]? = some o → (w.alloc (.cells #[.slice A0 n c0, .slice A1 n1 c1, .slice A2 n2 c2, slv b1 n, slv b2 n] 64 (0, 0))).heap[x]? = some o := fun h => (Below.heap_alloc w _ _ (Array.getElem?_eq_some_iff.1 h).1).trans h
   have hsz2 : w0.heap.size ≤ w.heap.size := hF.bel.size
   refine ⟨.pointer (some ⟨w.heap.size, 0, none⟩), w.alloc (.cells #[.slice A0 n c0, .slice A1 n1 c1, .slice A2 n2 c2, slv b1 n, slv b2 n] 64 (0, 0)), op_box rfl (by rw [u39, hF.h9 q9]; simp [Instr.box, newVar, newRow, Value.cells]), b1, b2, w.heap.size, b4, v9, putSel_upk 10 hb rfl rfl rfl, ?_⟩
   exact ⟨by rw [up_ne (show 9 ≠ 10 by decide)]; exact hF.h9, hF.bel.alloc hsz2 _, by rw [up_ne (show 5 ≠ 10 by decide)]; exact fun q => keep (hF.h1 q), by rw [up_ne (show 8 ≠ 10 by decide)]; exact fun q => keep (hF.h2 q), by rw [up_ne (show 5 ≠ 10 by decide), up_ne (show 8 ≠ 10 by decide)]; exact hF.ne, fun _ => World.alloc_heap_new w _, by rw [up_ne (show 11 ≠ 10 by decide), up_ne (show 12 ≠ 10 by decide)]; exact fun q q' => keep (hF.h4 q q'), fun q => (by rw [up_ne (show 12 ≠ 10 by decide), d2 12 (by decide)] at q; cases q), by rw [up_ne (show 5 ≠ 10 by decide)]; exact hF.g1, by rw [up_ne (show 8 ≠ 10 by decide)]; exact hF.g2, fun _ => hsz2, by rw [up_ne (show 11 ≠ 10 by decide)]; exact hF.g4⟩
  case s11 =>
   rintro b a w ⟨b1, b2, b3, b4, v9, rfl, hF⟩ hb d1 d2
   have keep : ∀ {x o}, w.heap[x]? = some o → (w.alloc (.cells #[.pointer none] 49 (0, 0))).heap[x]? = some o := fun h => (Below.heap_alloc w _ _ (Array.getElem?_eq_some_iff.1 h).1).trans h
   have hsz2 : w0.heap.size ≤ w.heap.size := hF.bel.size
   refine ⟨.pointer (some ⟨w.heap.size, 0, none⟩), w.alloc (.cells #[.pointer none] 49 (0, 0)), op_alloc rfl ?_, b1, b2, b3, w.heap.size, v9, putSel_upk 11 hb rfl rfl rfl, ?_⟩
   ·obtain ⟨i0, hi, hz0, hz1, hz2⟩ := info_parts infoPG
    simp [Instr.alloc, zeroValue, typeInfo, hi, hz0, newVar, newRow, Value.cells]
   ·exact ⟨by rw [up_ne (show 9 ≠ 11 by decide)]; exact hF.h9, hF.bel.alloc hsz2 _, by rw [up_ne (show 5 ≠ 11 by decide)]; exact fun q => keep (hF.h1 q), by rw [up_ne (show 8 ≠ 11 by decide)]; exact fun q => keep (hF.h2 q), by rw [up_ne (show 5 ≠ 11 by decide), up_ne (show 8 ≠ 11 by decide)]; exact hF.ne, by rw [up_ne (show 10 ≠ 11 by decide)]; exact fun q => keep (hF.h3 q), fun _ _ => World.alloc_heap_new w _, fun q => (by rw [up_ne (show 12 ≠ 11 by decide), d2 12 (by decide)] at q; cases q), by rw [up_ne (show 5 ≠ 11 by decide)]; exact hF.g1, by rw [up_ne (show 8 ≠ 11 by decide)]; exact hF.g2, by rw [up_ne (show 10 ≠ 11 by decide)]; exact hF.g3, fun _ => hsz2⟩
  case s12 =>
   rintro b a w ⟨b1, b2, b3, b4, v9, rfl, hF⟩ hb d1 d2
   have u8 : (putSel a0 b (L7 (.slice A0 n c0) (.slice A1 n1 c1) (.slice A2 n2 c2) n b1 b2 b3 b4 v9)).eval (.tmp 8) = .pointer (some ⟨b4, 0, none⟩) := eval_of (putSel_on (e := (11, 8, .pointer (some ⟨b4, 0, none⟩))) 11 rfl rfl (d1 11 (by decide)) (Nat.ble_eq_true_of_le (Nat.le_trans (show 8 + 1 ≤ 97 by decide) hsz)))
   have u40 : (putSel a0 b (L7 (.slice A0 n c0) (.slice A1 n1 c1) (.slice A2 n2 c2) n b1 b2 b3 b4 v9)).eval (.tmp 40) = .pointer (some ⟨b3, 0, none⟩) := eval_of (putSel_on (e := (10, 40, .pointer (some ⟨b3, 0, none⟩))) 10 rfl rfl (d1 10 (by decide)) (Nat.ble_eq_true_of_le (Nat.le_trans (show 40 + 1 ≤ 97 by decide) hsz)))
   have hb4 := hF.h4 (d1 11 (by decide)) hb
   have hlt := (Array.getElem?_eq_some_iff.1 hb4).1
   have far : ∀ {x o}, w.heap[x]? = some o → x ≠ b4 → (w.setCell ⟨b4, 0, none⟩ (.pointer (some ⟨b3, 0, none⟩))).heap[x]? = some o := fun h hne => (Below.heap_setCell w _ _ _ hne).trans h
   have hsz2 : w0.heap.size ≤ w.heap.size := hF.bel.size
   have n1 : ∀ {x cs t}, w.heap[x]? = some (.cells cs t (0, 0)) → t ≠ 49 → x ≠ b4 := by
    rintro x cs t h ht rfl
    rw [hb4] at h
    injection h with h
    injection h with h1 h2
    exact ht h2.symm
   refine ⟨w.setCell ⟨b4, 0, none⟩ (.pointer (some ⟨b3, 0, none⟩)), op_store (u := ()) rfl ?_, b1, b2, b3, b4, v9, rfl, ?_⟩
   ·rw [u8, u40]
    exact (run_store_run 49 (.pointer (some ⟨b3, 0, none⟩)) [.pointer (some ⟨b3, 0, none⟩)] hb4 rfl (by kernel_rfl) (by simp) (by simp [Value.oneCell'])).trans rfl
   ·exact ⟨by rw [up_ne (show 9 ≠ 12 by decide)]; exact hF.h9, hF.bel.setCell (hF.g4 (d1 11 (by decide))) _, by rw [up_ne (show 5 ≠ 12 by decide)]; exact fun q => far (hF.h1 q) (n1 (hF.h1 q) (by decide)), by rw [up_ne (show 8 ≠ 12 by decide)]; exact fun q => far (hF.h2 q) (n1 (hF.h2 q) (by decide)), by rw [up_ne (show 5 ≠ 12 by decide), up_ne (show 8 ≠ 12 by decide)]; exact hF.ne,
     by rw [up_ne (show 10 ≠ 12 by decide)]; exact fun q => far (hF.h3 q) (n1 (hF.h3 q) (by decide)), fun _ q => (by rw [up_self] at q; cases q), fun _ => (blk_set hb4 0 _).trans rfl, by rw [up_ne (show 5 ≠ 12 by decide)]; exact hF.g1, by rw [up_ne (show 8 ≠ 12 by decide)]; exact hF.g2, by rw [up_ne (show 10 ≠ 12 by decide)]; exact hF.g3, by rw [up_ne (show 11 ≠ 12 by decide)]; exact hF.g4⟩
end Go.Proofs.YtajapkjplgaigaaDoor.P
end
section
namespace Go.Proofs.YtajapkjplgaigaaDoor.P
open Go.RowKit Go.Shelf Go.Proofs.YtajapkjplgaigaaDoorW.PrintWords Go.Proofs.YtajapkjplgaigaaDoorW.PrintLast Go.Proofs.YtajapkjplgaigaaDoorW.PrintMore
set_option linter.unusedVariables false
set_option linter.unusedSimpArgs false
theorem withI_quiet (a i : Int) (h : 0 ≤ i) (w : World) (m : Nat) : Calls Tryd.prog 50 #[.int .u16 a, .int .i64 i] (w.drewN m) fun e w' => e = .returned (.int .u16 (withI a i)) ∧ ∃ m', w' = w.drewN m' := by
 refine (withI_calls a i h (w.drewN m)).mono ?_
 rintro e w' ⟨rfl, ⟨k, rfl⟩⟩
 exact ⟨rfl, m + k, by rw [World.drewN_drewN]⟩
theorem shl_one : ∀ i, i < 8 → shl .u16 1 ((i : Nat) : Int) = ((2 ^ i : Nat) : Int) := by decide +kernel
theorem withI_nat (s i : Nat) (hs : s < 256) (hi : i < 8) : withI (s : Int) (i : Int) = ((s ||| 2 ^ i : Nat) : Int) := by
 unfold withI
 rw [shl_one i hi, u16_or_nat s (2 ^ i) (by omega) (Nat.lt_of_lt_of_le (Nat.pow_lt_pow_right (by omega) hi) (by decide))]
theorem hasB_nat : ∀ s, s < 256 → ∀ i, i < 8 → hasB ((s : Nat) : Int) ((i : Nat) : Int) = s.testBit i := by decide +kernel
theorem orI_nat (a b : Nat) (ha : a < 256) (hb : b < 256) : Go.bits .or .u16 (a : Int) (b : Int) = ((a ||| b : Nat) : Int) := u16_or_nat a b (by omega) (by omega)
theorem andI_nat (a b : Nat) (ha : a < 256) (hb : b < 256) : Go.bits .and .u16 (a : Int) (b : Int) = ((a &&& b : Nat) : Int) := bits_u16_nat a b (by omega) (by omega)
theorem or_lt8 {a b n : Nat} (ha : a < 2 ^ n) (hb : b < 2 ^ n) : a ||| b < 2 ^ n := Nat.or_lt_two_pow ha hb
theorem pow_lt8 {i n : Nat} (h : i < n) : 2 ^ i < 2 ^ n := Nat.pow_lt_pow_right (by omega) h
theorem with_lt {s i n : Nat} (hs : s < 2 ^ n) (hi : i < n) : s ||| 2 ^ i < 2 ^ n := Nat.or_lt_two_pow hs (pow_lt8 hi)
theorem lt256 {s n : Nat} (hs : s < 2 ^ n) (hn : n ≤ 8) : s < 256 := Nat.lt_of_lt_of_le hs (Nat.pow_le_pow_right (by omega) hn)
theorem bit_lt {s n i : Nat} (hs : s < 2 ^ n) (h : s.testBit i = true) : i < n := by
 rcases Nat.lt_or_ge i n with h' | h'
 ·exact h'
 ·rw [Nat.testBit_lt_two_pow (Nat.lt_of_lt_of_le hs (Nat.pow_le_pow_right (by omega) h'))] at h
  cases h
def nI (l : List Nat) : List Int := l.map fun (x : Nat) => (x : Int)
theorem nI_length (l : List Nat) : (nI l).length = l.length := by simp [nI]
theorem rd_nI (l : List Nat) (i : Nat) : rd (nI l) (i : Int) = ((l.getD i 0 : Nat) : Int) := by
 simp only [rd, nI, Int.toNat_natCast, List.getD_eq_getElem?_getD, List.getElem?_map]
 cases l[i]? <;> rfl
theorem nI_append (l m : List Nat) : nI (l ++ m) = nI l ++ nI m := by simp [nI]
theorem cell_alloc {w : World} {a : Addr} {v : Value} (h : w.cell? a = some v) (o : Obj) : (w.alloc o).cell? a = some v :=
 (Below.cell ((Below.refl _ w).alloc (Nat.le_refl _) o) (World.block_lt_of_cell? w a h)).trans h
def rowU (l : List Nat) : Obj := .cells (((nI l).map (Value.int .u16)).toArray) 51 (0, 0)
theorem rowU_get (l : List Nat) (i : Nat) (h : i < l.length) : (((nI l).map (Value.int .u16)).toArray)[i]? = some (.int .u16 ((l.getD i 0 : Nat) : Int)) := by
 simp [nI, List.getD_eq_getElem?_getD, h]
theorem rowU_cell {W : World} {b : Nat} {l : List Nat} (h : W.heap[b]? = some (rowU l)) (i : Nat) (hi : i < l.length) : W.cell? ⟨b, i, none⟩ = some (.int .u16 ((l.getD i 0 : Nat) : Int)) := (blk_cell h i).trans (rowU_get l i hi)
theorem rowU_set {W : World} {b : Nat} {l : List Nat} (h : W.heap[b]? = some (rowU l)) (i x : Nat) : (W.setCell ⟨b, i, none⟩ (.int .u16 (x : Int))).heap[b]? = some (rowU (l.set i x)) := by
 rw [blk_set h i]
 simp [rowU, nI]
theorem rowU_reads {W : World} {b : Nat} {l : List Nat} (h : W.heap[b]? = some (rowU l)) (hl : l.length ≤ 8) : ReadsOf (Value.int .u16) (0 : Int) W (some ⟨b, 0, none⟩) l.length (nI l) := by
 refine ⟨nI_length l, by omega, fun _ => ⟨_, rfl, fun i hi => ?_⟩⟩
 have h1 := rowU_cell h i hi
 have e : (⟨b, 0, none⟩ : Addr).add i = ⟨b, i, none⟩ := by simp [Addr.add]; exact fun h => h.symm
 rw [e, h1]
 have h2 := rd_nI l i
 simp only [rd, Int.toNat_natCast] at h2
 rw [h2]
theorem rowU_zero (n : Nat) : Obj.cells (Array.replicate n (.int .u16 0)) 51 (0, 0) = rowU (List.replicate n 0) := by
 simp [rowU, nI]
end Go.Proofs.YtajapkjplgaigaaDoor.P
end
section
namespace Go.Proofs.YtajapkjplgaigaaDoor
open Go.RowKit Go.Shelf Go.Proofs.YtajapkjplgaigaaDoorW.PrintWords Go.Proofs.YtajapkjplgaigaaDoorW.PrintLast Go.Proofs.YtajapkjplgaigaaDoorW.PrintMore
set_option linter.unusedVariables false
set_option linter.unusedSimpArgs false
def setAll : Array Value → List Tmp → List Value → Array Value
 | T, s :: ss, v :: vs => setAll (T.setIfInBounds s v) ss vs
 | T, _, _ => T
theorem wp_loop_slots {P : Program} {Q : Exit → Act → World → Prop} {T : Array Value} {ds : List Deferred} {w : World} {c : Code} (ss : List Tmp) (vs : List Value) (R : Nat → List Value → List Deferred → World → Prop) (n₀ : Nat)
  (hT : setAll T ss vs = T) (h₀ : R n₀ vs ds w)
  (round : ∀ n vs ds w, R n vs ds w → ∀ K : Act → World → Prop, (∀ n' vs' ds' w', n' < n → R n' vs' ds' w' → K { tmps := setAll T ss vs', defers := ds' } w') → c.wp P (Exit.then K Q) { tmps := setAll T ss vs, defers := ds } w) :
  (Code.loop c).wp P Q { tmps := T, defers := ds } w := by
 refine wp_loop_ghost (fun n a w => ∃ vs ds, a = { tmps := setAll T ss vs, defers := ds } ∧ R n vs ds w) n₀ ⟨vs, ds, by rw [hT], h₀⟩ ?_
 rintro n a w ⟨vs, ds, rfl, h⟩
 exact round n vs ds w h _ (fun n' vs' ds' w' hlt hR => ⟨n', hlt, vs', ds', rfl, hR⟩)
def MarksLt (B : Nat) (ds : List Deferred) : Prop := ∀ d ∈ ds, ∃ D, d = markOf D ∧ D < B
theorem Marks.ltOf {B : Nat} {ds : List Deferred} {W : World} (h : Marks B ds W) : MarksLt W.heap.size ds := h.lt
theorem MarksLt.le {B B' : Nat} {ds : List Deferred} (h : MarksLt B ds) (hle : B ≤ B') : MarksLt B' ds := fun d hd => by
 obtain ⟨D, e, hD⟩ := h d hd
 exact ⟨D, e, by omega⟩
theorem Marks.block {B B1 : Nat} : ∀ {ds : List Deferred} {W W' : World}, Marks B ds W → MarksLt B1 ds → (∀ k, k < B1 → W'.heap[k]? = W.heap[k]?) → Marks B ds W'
 | [], _, _, _, _, _ => trivial
 | d :: ds, W, W', ⟨⟨D, he, hB, hD, hn⟩, h⟩, hl, hk => by
  obtain ⟨D', he', hD'⟩ := hl d List.mem_cons_self
  have : D = D' := by rw [he] at he'; simpa [markOf] using he'
  subst this
  exact ⟨⟨D, he, hB, (hk D hD').trans hD, hn⟩, h.block (fun d' h' => hl d' (List.mem_cons_of_mem _ h')) hk⟩
theorem own_marks {β : Type} (B0 B : Nat) (ds : List Deferred) (hl : MarksLt B ds) : OwnFrom B (fun (_ : β) W => Marks B0 ds W) := by
 intro s W W' row h hg hr
 have hs := h.ltOf
 have : ∀ (ds : List Deferred), Marks B0 ds W → MarksLt B ds → Marks B0 ds W' := by
  intro ds
  induction ds with
  | nil => intro _ _; trivial
  | cons d ds ih =>
   rintro ⟨⟨D, he, hB, hD, hn⟩, h⟩ hl
   obtain ⟨D', he', hD'⟩ := hl d List.mem_cons_self
   have e : D = D' := by rw [he] at he'; simpa [markOf] using he'
   subst e
   refine ⟨⟨D, he, hB, (hg.block D (Array.getElem?_eq_some_iff.1 hD).1 (fun e => ?_)).trans hD, hn⟩, ih h (fun d' h' => hl d' (List.mem_cons_of_mem _ h'))⟩
   have := (hr D e.symm).1
   omega
 exact this ds h hl
theorem Marks.cons {B D : Nat} {ds : List Deferred} {W : World} (h : Marks B ds W) (hB : B ≤ D) (hD : W.heap[D]? = some (.deferred (some []))) (hl : MarksLt D ds) : Marks B (markOf D :: ds) W :=
 ⟨⟨D, rfl, hB, hD, fun d hd e => by
  obtain ⟨D', e', hD'⟩ := hl d hd
  rw [e'] at e
  have : D' = D := by simpa [markOf] using e
  omega⟩, h⟩
theorem own_blk {β : Type} (B b : Nat) (cs : β → Array Value) (t : TypeId) : OwnFrom B (fun s W => W.heap[b]? = some (.cells (cs s) t (0, 0))) := by
 intro s W W' row h hg hr
 refine blk_grown h hg (fun e => ?_)
 obtain ⟨_, o, ho, hc⟩ := hr b e.symm
 rw [h] at ho
 cases ho
 cases hc
end Go.Proofs.YtajapkjplgaigaaDoor
end
section
namespace Go.Proofs.YtajapkjplgaigaaDoor
open Go.RowKit
set_option linter.unusedVariables false
set_option linter.unusedSimpArgs false
section
variable {P : Program} {ops hd : Array Oper} {md : Region.Mode} {C : World → Prop} {n : Nat}
structure Ag (n m : Nat) (lh lf : Array Bool) : Prop where
 sh : lh.size = n
 sf : lf.size = m
 lo : ∀ j, j < n → lf[j]? = lh[j]?
 hi : ∀ t, n ≤ t → t < m → lf[t]? = some false
def headB (md : Region.Mode) (ops : Array Oper) (n : Nat) : Bool :=
 decide (n < ops.size) && ((List.range n).all fun i => match ops[i]? with | some o => o.guard.isNone && o.after.all (fun e => !Region.binds md e || decide (e.on < i)) | none => false) &&
 ((List.range n).all fun i => Region.waitsFor md ops n i) && Region.chainB md ops n && Region.seqB md ops (ops.size - n) n (Array.replicate n true ++ Array.replicate (ops.size - n) false)
theorem getD_of {l : Array Bool} {j : Nat} {d : Bool} : l.getD j d = (l[j]?).getD d := by simp [Array.getD_eq_getD_getElem?]
theorem Ag.put {m i : Nat} {lh lf : Array Bool} (h : Ag n m lh lf) (hi : i < n) (hm : n ≤ m) : Ag n m (lh.setIfInBounds i true) (lf.setIfInBounds i true) := by
 refine ⟨by simp [h.sh], by simp [h.sf], fun j hj => ?_, fun t ht hm' => ?_⟩
 ·simp only [Array.getElem?_setIfInBounds, h.lo j hj, h.sh, h.sf]
  by_cases hij : i = j
  ·simp [hij, hj, show j < m by omega]
  ·simp [hij]
 ·simp only [Array.getElem?_setIfInBounds]
  rw [if_neg (by omega)]
  exact h.hi t ht hm'
theorem wpAny_of_qhead {Q : Act → Prop} {Q' : Exit → Act → World → Prop} {tl : List Oper} (hh : ∀ j, j < n → hd[j]? = ops[j]?) (hs : hd.size = n) (hB : headB md ops n = true)
  (htl : ∀ j, tl[j]? = ops[n + j]?) (hlen : tl.length = ops.size - n) (hQ : ∀ a w, C w → Q a → wpList P ops Q' tl a w) :
  ∀ (f : Nat) (lh lf : Array Bool) (a : Act) (w : World), Ag n ops.size lh lf → lh.toList.count false = f → C w → wpAnyQ P md hd C Q f lh a → wpAny P md ops Q' (f + tl.length) lf a w := by
 simp only [headB, Bool.and_eq_true, decide_eq_true_eq, List.all_eq_true, List.mem_range] at hB
 obtain ⟨⟨⟨⟨hn, hrow⟩, hwait⟩, hchain⟩, hseq⟩ := hB
 have row : ∀ i, i < n → ∃ o, ops[i]? = some o ∧ o.guard = none ∧ ∀ e ∈ o.after, Region.binds md e = true → e.on < i := by
  intro i hi
  have h := hrow i hi
  cases ho : ops[i]? with
  | none => rw [ho] at h; cases h
  | some o =>
   rw [ho] at h
   simp only [Bool.and_eq_true, Option.isNone_iff_eq_none, Array.all_eq_true_iff_forall_mem] at h
   refine ⟨o, rfl, h.1, fun e he hb => ?_⟩
   have h2 := h.2 e he
   simpa [hb] using h2
 intro f
 induction f with
 | zero =>
  intro lh lf a w hA hc hC h
  have all : ∀ j, j < n → lf[j]? = some true := by
   intro j hj
   rw [hA.lo j hj]
   have hj' : j < lh.size := by rw [hA.sh]; exact hj
   rw [Array.getElem?_eq_getElem hj']
   have : lh[j] ∈ lh.toList := by simp
   cases hv : lh[j] with
   | true => rfl
   | false => exact absurd (List.count_eq_zero.1 hc) (by simp only [Classical.not_not]; rw [← hv]; exact this)
  have e : lf = Array.replicate n true ++ Array.replicate (ops.size - n) false := by
   apply Array.ext_getElem?
   intro j
   rw [Array.getElem?_append]
   by_cases hj : j < n
   ·simp [hj, all j hj]
   ·by_cases hj2 : j < ops.size
    ·simp [hj, hA.hi j (by omega) hj2, show j - n < ops.size - n by omega]
    ·simp [hj, show ¬ j - n < ops.size - n by omega]
     rw [hA.sf]; omega
  rw [Nat.zero_add]
  refine wpAny_of_seq tl n lf a w htl ?_ (hQ a w hC h.2)
  rw [hlen, e]
  exact hseq
 | succ f ih =>
  intro lh lf a w hA hc hC h
  rw [show f + 1 + tl.length = (f + tl.length) + 1 by omega]
  -- the first one that is not listed
  have some0 : ∃ k, k < n ∧ lf[k]? = some false ∧ ∀ j, j < k → lf[j]? = some true := by
   have hm : false ∈ lh.toList := List.count_pos_iff.1 (by omega)
   obtain ⟨k, hk, hv⟩ := List.getElem_of_mem hm
   have hk0 : k < n := by rw [← hA.sh]; simpa using hk
   have hk1 : lf[k]? = some false := by rw [hA.lo k hk0, Array.getElem?_eq_getElem (by simpa using hk)]; simpa using hv
   clear hv hk
   induction k using Nat.strongRecOn with
   | _ k ihk =>
    by_cases hx : ∃ j, j < k ∧ lf[j]? = some false
    ·obtain ⟨j, hj, hj2⟩ := hx
     exact ihk j hj (by omega) hj2
    ·refine ⟨k, hk0, hk1, fun j hj => ?_⟩
     have hjs : j < lf.size := by rw [hA.sf]; omega
     rw [Array.getElem?_eq_getElem hjs]
     cases hv : lf[j] with
     | true => rfl
     | false => exact absurd ⟨j, hj, by rw [Array.getElem?_eq_getElem hjs, hv]⟩ hx
  obtain ⟨k, hk, hkf, hkl⟩ := some0
  obtain ⟨ok, hok, _, hkd⟩ := row k hk
  have hkr : k ∈ Region.ready md ops lf := mem_ready.2 ⟨by rw [getD_of, hkf]; rfl, ok, hok, fun e he hb => by rw [getD_of, hkl _ (hkd e he hb)]; rfl⟩
  refine ⟨fun h0 => (by rw [h0] at hkr; cases hkr), fun i hi => ?_⟩
  obtain ⟨hi1, oi, hoi, hid⟩ := mem_ready.1 hi
  have him : i < ops.size := (Array.getElem?_eq_some_iff.1 hoi).1
  -- no other one is ready yet
  have hin : i < n := by
   rcases Nat.lt_or_ge i n with h' | h'
   ·exact h'
   ·exfalso
    by_cases hin : i = n
    ·obtain ⟨o', ho', e, he, hb, hon⟩ := Region.waitsFor_spec (hwait k hk)
     rw [← hin, hoi] at ho'
     cases ho'
     have := hid e he hb
     rw [hon, getD_of, hkf] at this
     cases this
    ·have h1 := List.all_eq_true.1 hchain i (List.mem_range.2 him)
     simp only [Bool.or_eq_true, decide_eq_true_eq] at h1
     rcases h1 with h1 | h1
     ·omega
     ·obtain ⟨o', ho', e, he, hb, hon⟩ := Region.waitsFor_spec h1
      rw [hoi] at ho'
      cases ho'
      have := hid e he hb
      rw [hon, getD_of, hA.hi (i - 1) (by omega) (by omega)] at this
      cases this
  obtain ⟨o', ho', hg, hdep⟩ := row i hin
  rw [hoi] at ho'
  cases ho'
  have hih : i ∈ Region.ready md hd lh := by
   refine mem_ready.2 ⟨?_, oi, (hh i hin).trans hoi, fun e he hb => ?_⟩
   ·rw [getD_of, ← hA.lo i hin, ← getD_of]; exact hi1
   ·have := hid e he hb
    rw [getD_of, hA.lo _ (by have := hdep e he hb; omega), ← getD_of] at this
    exact this
  have hil : i < lh.toList.length := by simp [hA.sh, hin]
  have hif : lh.toList[i] = false := by
   have := (mem_ready.1 hih).1
   rw [getD_of, Array.getElem?_eq_getElem (by simpa using hil)] at this
   simpa using this
  have hq := h.2 i hih
  have step : wpOp P hd Q' i (wpAny P md ops Q' (f + tl.length) (lf.setIfInBounds i true)) a w := by
   refine wpOp_of_qOp hC (fun a' w' hC' hK => ?_) hq
   refine ih _ _ a' w' (hA.put hin (Nat.le_of_lt hn)) ?_ hC' hK
   rw [Array.toList_setIfInBounds, List.count_set hil, hif]
   simp only [beq_self_eq_true, if_true, show (true == false) = false from rfl, Bool.false_eq_true, if_false]
   omega
  unfold wpOp at step ⊢
  rw [hh i hin] at step
  simp only [hoi, Region.wanted, hg] at step ⊢
  exact step
theorem wp_region_qtail {Q : Exit → Act → World → Prop} {a : Act} {w : World} {ol : List Oper} (k : Nat) (hm : P.follows .mixedOrders = true) (hB : headB .any ol.toArray k = true) (hL : Region.lexB .any (ol.take k).toArray = true)
  (h : wpQuiet P (ol.take k).toArray (fun w' => ∃ m, w' = w.drewN m) (fun a' => ∀ w', (∃ m, w' = w.drewN m) → wpList P ol.toArray Q (ol.drop k) a' w') (ol.take k) a) : wpAny P .any ol.toArray Q ol.toArray.size (Array.replicate ol.toArray.size false) a { w with drawn := w.drawn + 1 } := by
 have hk : k < ol.length := by
  have := hB
  simp only [headB, Bool.and_eq_true, decide_eq_true_eq] at this
  simpa using this.1.1.1.1
 have lt : (ol.take k).length = k := List.length_take_of_le (Nat.le_of_lt hk)
 simp only [Region.lexB, Bool.and_eq_true] at hL
 have hq := wpAnyQ_lex (C := fun w' => ∃ m, w' = w.drewN m) (md := .any) hL.1 (ol.take k) 0 (Array.replicate (ol.take k).toArray.size false) a (by simp) (by simpa using hL.2) h
 have := wpAny_of_qhead (P := P) (ops := ol.toArray) (hd := (ol.take k).toArray) (n := k) (tl := ol.drop k) (Q' := Q) (C := fun w' => ∃ m, w' = w.drewN m) (Q := fun a' => ∀ w', (∃ m, w' = w.drewN m) → wpList P ol.toArray Q (ol.drop k) a' w') (fun j hj => by simp [hj]) (by simpa using lt) hB (fun j => by simp [List.getElem?_drop]) (by simp)
  (fun a' w' hC hQ => hQ w' hC) k (Array.replicate k false) (Array.replicate ol.toArray.size false) a { w with drawn := w.drawn + 1 }
  ⟨by simp, by simp, fun j hj => by simp [hj, show j < ol.length by omega], fun t ht ht' => by simp at ht'; simp [ht']⟩ (by simp) ⟨1, rfl⟩ (by simpa [lt] using hq)
 rw [show k + (ol.drop k).length = ol.toArray.size by simp; omega] at this
 exact this
end
section
variable {P : Program} {l n : Nat}
theorem wpIn_region_qtail {id : Nat} {Q : Exit → Act → World → Prop} {a : Act} {w : World} {ol : List Oper} (k : Nat) (hQ : ¬ LetsOut Q) (hd : noDeferB ol.toArray = true) (hm : P.follows .mixedOrders = true) (hB : headB .any ol.toArray k = true) (hL : Region.lexB .any (ol.take k).toArray = true)
  (h : wpQuiet P (ol.take k).toArray (fun w' => ∃ m, w' = w.drewN m) (fun a' => ∀ w', (∃ m, w' = w.drewN m) → wpList P ol.toArray Q (ol.drop k) a' w') (ol.take k) a) : (Code.region id ol.toArray true).wpIn (Fence.wide.inRound l) n P Q a w :=
 wpIn_region_of_any hQ hd hm (wp_region_qtail k hm hB hL h)
end
end Go.Proofs.YtajapkjplgaigaaDoor
end
section
namespace Go.Proofs.YtajapkjplgaigaaDoor
open Go.RowKit Go.Proofs.YtajapkjplgaigaaDoorW.PrintWords Go.Proofs.YtajapkjplgaigaaDoorW.PrintLast Go.Proofs.YtajapkjplgaigaaDoorW.PrintMore
theorem R_makecap {P : Program} {ops : Array Oper} {o : Oper} {a : Act} {Q : Exit → Act → World → Prop} {rest : List Oper} {α : Type} (d : Kd α) {W : World} (e : Nat) (hgd : o.guard = none) (t : TypeId) (x y : Operand) (ho : o.op = .makeSlice t x y)
  (c : Nat) (hx : a.eval x = .int .i64 0) (hy : a.eval y = .int .i64 (c : Int)) (ht : P.underlying t = some (.slice e)) (z : Value) (bytes : Nat) (hinfo : (P.info? e).map (fun i => (i.zero, i.size, i.bytes)) = some (some z, d.sz, bytes)) (hl : bytes * c ≤ 281474976710656) (hc : c ≤ 9223372036854775807)
  (h : ∀ v1 w1, d.R e w1 W.heap.size (fun _ => True) v1 ([] : List α) → Below W.heap.size W w1 → W.grownBy w1 none → (∃ b, v1.ownBlock = some b ∧ W.heap.size ≤ b) → wpList P ops Q rest (a.put o.dst v1) w1) : wpList P ops Q (o :: rest) a W := by
 obtain ⟨i0, hi, hzz⟩ := Option.map_eq_some_iff.1 hinfo
 simp only [Prod.mk.injEq] at hzz
 obtain ⟨hz0, hz1, hz2⟩ := hzz
 obtain ⟨w', hr, hown, hg⟩ := run_make_own (P := P) W W.heap.size t e i0 z d.sz ht hi hz0 hz1 .i64 .i64 c (by rw [hz2]; exact hl) (by simpa [maxLen] using hc) (Nat.le_refl _)
 refine Kd.event_run hgd (v := .slice (some ⟨W.heap.size, 0, none⟩) 0 c) (w1 := w') (by simp [execOp, ho, hx, hy, hr]) (h _ _ ⟨fun _ _ => trivial, [], hown, Reps.none _ _⟩ ((Below.refl _ _).grown hg (Nat.le_refl _) (fun k e => by cases e)) hg ⟨W.heap.size, by simp [Value.ownBlock], Nat.le_refl _⟩)
end Go.Proofs.YtajapkjplgaigaaDoor
end
section
namespace Go.Proofs.YtajapkjplgaigaaDoor.P
open Go.RowKit Go.Proofs.YtajapkjplgaigaaDoorW.PrintWords Go.Proofs.YtajapkjplgaigaaDoorW.PrintLast Go.Proofs.YtajapkjplgaigaaDoorW.PrintMore
attribute [local go_sem] max2_int min2_int max_two min_two max_three min_three max_four min_four   -- for this text's walks alone
set_option linter.unusedVariables false
set_option linter.unusedSimpArgs false
def impl_within.f (a0 : Int) (a1 : Int) (a2 : Int) : Option (Bool) := if a0 ≥ a1 then (some (decide (a0 ≤ a2))) else (some false)
set_option maxHeartbeats 8000000 in
set_option maxRecDepth 100000 in
theorem impl_within.calls (a0 : Int) (a1 : Int) (a2 : Int) (r : Bool) (w : World) (h : impl_within.f a0 a1 a2 = some r) :
  Calls Tryd.prog 48 #[.int .i64 a0, .int .i64 a1, .int .i64 a2] w fun e w' => e = .returned (.bool r) ∧ Drawn0 w w' := by
 have H : (if a0 ≥ a1 then (some (decide (a0 ≤ a2))) else (some false)) = some r := h
 clear h
 by_cases c4 : a0 ≥ a1
 ·rw [if_pos c4] at H
  have c4b0 : decide (a1 ≤ a0) = true := decide_eq_true c4
  clear c4
  obtain rfl := Option.some.inj H
  go_enter Tryd.func48, Tryd.ntmps48
  go_wp2
  go_ret
  exact ⟨by first | rfl | (simp; done) | (simp [*]; done), by repeat (first | exact Drawn0.refl _ | apply Drawn0.step)⟩
 ·rw [if_neg c4] at H
  have c4b0 : decide (a1 ≤ a0) = false := decide_eq_false c4
  clear c4
  obtain rfl := Option.some.inj H
  go_enter Tryd.func48, Tryd.ntmps48
  go_wp2
  go_ret
  exact ⟨by first | rfl | (simp; done) | (simp [*]; done), by repeat (first | exact Drawn0.refl _ | apply Drawn0.step)⟩
end Go.Proofs.YtajapkjplgaigaaDoor.P
end
section
namespace Go.Proofs.YtajapkjplgaigaaDoor.P
open Go.RowKit Go.Proofs.YtajapkjplgaigaaDoorW.PrintWords Go.Proofs.YtajapkjplgaigaaDoorW.PrintLast Go.Proofs.YtajapkjplgaigaaDoorW.PrintMore
attribute [local go_sem] max2_int min2_int max_two min_two max_three min_three max_four min_four   -- for this text's walks alone
set_option linter.unusedVariables false
set_option linter.unusedSimpArgs false
def impl_setOf.l0 : Nat → Int → Int → Int → List Int → Int → Int → Option (Int × Bool)
 | 0, _, _, _, _, _, _ => none
 | k + 1, x1, x6, x7, x10, x11, x12 => if x12 < x11 then (if 0 ≤ x12 then (if x12 < (x10.length : Int) then ((impl_within.f (rd x10 x12) (wrap64 (x7 + 1)) (wrap64 (x1 - 1))).bind fun t333 => (if t333 = true then ((impl_set_with.f x6 (rd x10 x12)).bind fun t334 => (impl_setOf.l0 k x1 t334 (rd x10 x12) x10 x11 (wrap64 (x12 + 1)))) else (some (0, false)))) else (none)) else (none)) else (some (x6, true))
def impl_setOf.f (k : Nat) (l0 : List Int) (a1 : Int) : Option (Int × Bool) := impl_setOf.l0 k a1 0 (-1) l0 (l0.length : Int) 0
set_option maxHeartbeats 8000000 in
set_option maxRecDepth 100000 in
theorem impl_setOf.calls (k : Nat) (A0 : Option Addr) (c0 : Nat) (l0 : List Int) (a1 : Int) (r1 : Int) (r2 : Bool) (w : World) (hr0 : Kd.C (Kd.int .i64) w A0 l0.length l0) (hc0 : l0.length ≤ c0) (h : impl_setOf.f k l0 a1 = some (r1, r2)) :
  Calls Tryd.prog 71 #[.slice A0 l0.length c0, .int .i64 a1] w fun e w' => e = .returned (.tuple #[.int .u16 r1, .bool r2]) ∧ Drawn0 w w' := by
 have HR0 := Aside0.mk hr0
 have HC0 := Aside0.mk hc0
 clear hr0 hc0
 have H : (impl_setOf.l0 k a1 0 (-1) l0 (l0.length : Int) 0) = some (r1, r2) := h
 clear h
 have H' := Aside0.mk H
 clear H
 go_enter Tryd.func71, Tryd.ntmps71
 go_wp2
 go_loopg [6, 7, 12] k (fun kq v6 v7 v12 w' => ∃ (x6_1 : Int) (x7_1 : Int) (x12_1 : Int), v6 = .int .u16 x6_1 ∧ v7 = .int .i64 x7_1 ∧ v12 = .int .i64 x12_1 ∧ Aside0 (impl_setOf.l0 kq a1 x6_1 x7_1 l0 (l0.length : Int) x12_1 = some (r1, r2)) ∧ Aside0 (kq ≤ k) ∧ Drawn0 w w')
 case atStart => exact ⟨(0), ((-1)), (0), (by first | rfl | (simp; done) | (simp [*]; done)), (by first | rfl | (simp; done) | (simp [*]; done)), (by first | rfl | (simp; done) | (simp [*]; done)), H', ⟨Nat.le_refl _⟩, by repeat (first | exact Drawn0.refl _ | apply Drawn0.step)⟩
 case round =>
  clear H'
  try clear p2
  obtain ⟨x6_1, x7_1, x12_1, rfl, rfl, rfl, HA, HK1, ⟨m1, rfl⟩⟩ := hrel
  cases gk with
  | zero => exact absurd HA.out (by simp [impl_setOf.l0])
  | succ k1 =>
   have H := HA.out
   clear HA
   simp only [impl_setOf.l0] at H
   by_cases c3 : x12_1 < (l0.length : Int)
   ·rw [if_pos c3] at H
    have c3b0 : decide (x12_1 < (l0.length : Int)) = true := decide_eq_true c3
    clear c3
    by_cases c4 : 0 ≤ x12_1
    ·rw [if_pos c4] at H
     have c4b0 : decide (0 ≤ x12_1) = true := decide_eq_true c4
     clear c4
     by_cases c5 : x12_1 < (l0.length : Int)
     ·rw [if_pos c5] at H
      have c5b0 : decide (x12_1 < (l0.length : Int)) = true := decide_eq_true c5
      clear c5
      replace H := Option.bind_eq_some_iff.mp H
      obtain ⟨t333, A60, H⟩ := H
      replace H : (if t333 = true then ((impl_set_with.f x6_1 (rd l0 x12_1)).bind fun t334 => (impl_setOf.l0 k1 a1 t334 (rd l0 x12_1) l0 (l0.length : Int) (wrap64 (x12_1 + 1)))) else (some (0, false))) = some (r1, r2) := H
      have A6 := Aside0.mk A60
      clear A60
      by_cases c7 : t333 = true
      ·subst c7
       have H1 : ((impl_set_with.f x6_1 (rd l0 x12_1)).bind fun t334 => (impl_setOf.l0 k1 a1 t334 (rd l0 x12_1) l0 (l0.length : Int) (wrap64 (x12_1 + 1)))) = some (r1, r2) := by rw [if_pos rfl] at H; exact H
       clear H
       have H := H1
       clear H1
       replace H := Option.bind_eq_some_iff.mp H
       obtain ⟨t334, A80, H⟩ := H
       replace H : (impl_setOf.l0 k1 a1 t334 (rd l0 x12_1) l0 (l0.length : Int) (wrap64 (x12_1 + 1))) = some (r1, r2) := H
       have A8 := Aside0.mk A80
       clear A80
       have H' := Aside0.mk H
       clear H
       have p332 : 0 ≤ (x12_1 : Int) := of_decide_eq_true (by first | (with_reducible assumption) | assumption)
       have q332 : x12_1 < (l0.length : Int) := of_decide_eq_true (by first | (with_reducible assumption) | assumption)
       obtain ⟨ad332, e332, hx332_0⟩ := Kd.at_int HR0.out x12_1 p332 q332
       cases e332
       replace p332 := eq_true p332
       replace q332 := eq_true q332
       go_wp2_with (first | ((with_reducible refine gate_callee (f := 48) rfl ?_); refine goesL_ (some 21) rfl rfl Tryd.func48 (by kernel_rfl) rfl #[.int .i64 (rd l0 x12_1), .int .i64 (wrap64 (x7_1 + 1)), .int .i64 (wrap64 (a1 - 1))] rfl (by (try simp only [List.map_toArray, List.map_cons, List.map_nil]); first | done | rfl | (simp only [List.length_drop, List.length_take]; rfl)) ?_; (with_reducible refine (impl_within.calls (rd l0 x12_1) (wrap64 (x7_1 + 1)) (wrap64 (a1 - 1)) true _ A6.out).mono ?_); rintro e w' ⟨rfl, ⟨nd, rfl⟩⟩; refine ⟨_, rfl, ?_⟩) | ((with_reducible refine gate_callee (f := 50) rfl ?_); refine goesL_ (some 25) rfl rfl Tryd.func50 (by kernel_rfl) rfl #[.int .u16 x6_1, .int .i64 (rd l0 x12_1)] rfl (by (try simp only [List.map_toArray, List.map_cons, List.map_nil]); first | done | rfl | (simp only [List.length_drop, List.length_take]; rfl)) ?_; (with_reducible refine (impl_set_with.calls x6_1 (rd l0 x12_1) t334 _ A8.out).mono ?_); rintro e w' ⟨rfl, ⟨nd, rfl⟩⟩; refine ⟨_, rfl, ?_⟩))
       go_roundg k1
       case measure => have := HK1.out; omega
       case rel => exact ⟨(t334), (rd l0 x12_1), (wrap64 (x12_1 + 1)), (by first | rfl | (simp; done) | (simp [*]; done)), (by first | rfl | (simp; done) | (simp [*]; done)), (by first | rfl | (simp; done) | (simp [*]; done)), H', ⟨by have := HK1.out; omega⟩, by repeat (first | exact Drawn0.refl _ | apply Drawn0.step)⟩
      ·replace c7 := Bool.eq_false_iff.mpr c7
       subst c7
       have H1 : (some (0, false)) = some (r1, r2) := by rw [if_neg (show ¬ (false = true) by decide)] at H; exact H
       clear H
       have H := H1
       clear H1
       simp only [Option.some.injEq, Prod.mk.injEq] at H
       obtain ⟨rfl, rfl⟩ := H
       have p332 : 0 ≤ (x12_1 : Int) := of_decide_eq_true (by first | (with_reducible assumption) | assumption)
       have q332 : x12_1 < (l0.length : Int) := of_decide_eq_true (by first | (with_reducible assumption) | assumption)
       obtain ⟨ad332, e332, hx332_0⟩ := Kd.at_int HR0.out x12_1 p332 q332
       cases e332
       replace p332 := eq_true p332
       replace q332 := eq_true q332
       go_wp2_with (first | ((with_reducible refine gate_callee (f := 48) rfl ?_); refine goesL_ (some 21) rfl rfl Tryd.func48 (by kernel_rfl) rfl #[.int .i64 (rd l0 x12_1), .int .i64 (wrap64 (x7_1 + 1)), .int .i64 (wrap64 (a1 - 1))] rfl (by (try simp only [List.map_toArray, List.map_cons, List.map_nil]); first | done | rfl | (simp only [List.length_drop, List.length_take]; rfl)) ?_; (with_reducible refine (impl_within.calls (rd l0 x12_1) (wrap64 (x7_1 + 1)) (wrap64 (a1 - 1)) false _ A6.out).mono ?_); rintro e w' ⟨rfl, ⟨nd, rfl⟩⟩; refine ⟨_, rfl, ?_⟩))
       go_ret2
       exact ⟨by first | rfl | (simp; done) | (simp [*]; done), by repeat (first | exact Drawn0.refl _ | apply Drawn0.step)⟩
     ·rw [if_neg c5] at H
      exact absurd H (by simp)
    ·rw [if_neg c4] at H
     exact absurd H (by simp)
   ·rw [if_neg c3] at H
    have c3b0 : decide (x12_1 < (l0.length : Int)) = false := decide_eq_false c3
    clear c3
    simp only [Option.some.injEq, Prod.mk.injEq] at H
    obtain ⟨rfl, rfl⟩ := H
    go_wp2
    go_ret2
    exact ⟨by first | rfl | (simp; done) | (simp [*]; done), by repeat (first | exact Drawn0.refl _ | apply Drawn0.step)⟩
end Go.Proofs.YtajapkjplgaigaaDoor.P
end
section
namespace Go.Proofs.YtajapkjplgaigaaDoor.P
open Go.RowKit Go.Proofs.YtajapkjplgaigaaDoorW.PrintWords Go.Proofs.YtajapkjplgaigaaDoorW.PrintLast Go.Proofs.YtajapkjplgaigaaDoorW.PrintMore
attribute [local go_sem] max2_int min2_int max_two min_two max_three min_three max_four min_four   -- for this text's walks alone
set_option linter.unusedVariables false
set_option linter.unusedSimpArgs false
def impl_needsOf.l0 : Nat → List (S39) → List Int → List (S39) → Int → Int → Option (List Int × Bool)
 | 0, _, _, _, _, _ => none
 | k + 1, x0, x4, x15, x16, x17 => if x17 < x16 then (if 0 ≤ x17 then (if x17 < (x15.length : Int) then ((impl_setOf.f k ((rd_T39 x15 x17).f1) (x0.length : Int)).bind fun bt340 => (if bt340.2 = true then ((impl_within.f ((rd_T39 x15 x17).f0) 1 20).bind fun t342 => (if t342 = true then ((impl_within.f ((rd_T39 x15 x17).f2) 0 2).bind fun t343 => (if t343 = true then ((impl_within.f ((rd_T39 x15 x17).f3) 1 4).bind fun t344 => (if t344 = true then (if x4.length < 70368744177664 then (impl_needsOf.l0 k x0 (x4 ++ [bt340.1]) x15 x16 (wrap64 (x17 + 1))) else (none)) else (some (([] : List Int), false)))) else (some (([] : List Int), false)))) else (some (([] : List Int), false)))) else (some (([] : List Int), false)))) else (none)) else (none)) else (some (x4, true))
def impl_needsOf.f (k : Nat) (l0 : List (S39)) : Option (List Int × Bool) := if (l0.length : Int) > 8 then (some (([] : List Int), false)) else (impl_needsOf.l0 k l0 (([] : List Int)) l0 (l0.length : Int) 0)
set_option maxHeartbeats 8000000 in
set_option maxRecDepth 100000 in
theorem impl_needsOf.calls (k : Nat) (A0 : Option Addr) (c0 : Nat) (l0 : List (S39)) (r1 : List Int) (r2 : Bool) (w : World) (hr0 : Kd.C k39 w A0 l0.length l0) (hc0 : l0.length ≤ c0) (h : impl_needsOf.f k l0 = some (r1, r2)) :
  Calls Tryd.prog 89 #[.slice A0 l0.length c0] w fun e w' => ∃ v0_ : Value, e = .returned (.tuple #[v0_, .bool r2]) ∧ Kd.R (Kd.int .u16) 51 w' w.heap.size (fun _ => True) v0_ r1 ∧ Below w.heap.size w w' := by
 have hu39 := Tryd.underlying39
 have HR0 := Aside0.mk hr0
 have HC0 := Aside0.mk hc0
 clear hr0 hc0
 have HB := Aside0.mk (Below.refl w.heap.size w)
 have H : (if (l0.length : Int) > 8 then (some (([] : List Int), false)) else (impl_needsOf.l0 k l0 (([] : List Int)) l0 (l0.length : Int) 0)) = some (r1, r2) := h
 clear h
 by_cases c2 : (l0.length : Int) > 8
 ·rw [if_pos c2] at H
  have c2b0 : decide (8 < (l0.length : Int)) = true := decide_eq_true c2
  have c2b1 : decide (8 < l0.length) = true := decide_eq_true (by omega)
  clear c2
  simp only [Option.some.injEq, Prod.mk.injEq] at H
  obtain ⟨rfl, rfl⟩ := H
  go_enter Tryd.func89, Tryd.ntmps89
  go_wp2
  go_ret2
  exact ⟨_, by first | rfl | (simp [errW_none, errW_some] <;> rfl) | (simp [*, errW_none, errW_some] <;> rfl), by first | exact Kd.R_nil _ _ _ _ _ | exact Kd.N_nil _ _ _ _ _ | exact Kd.V_nil _ _ _ _ _ | exact Kd.Q_nil _ _ _ _ _ | exact Kd.S_nil _ _ _ _ _, by repeat (first | (with_reducible first | exact HB.out | apply below_alloc | apply pw_below_drewN | apply below_drew1) | exact HB.out)⟩
 ·rw [if_neg c2] at H
  have c2b0 : decide (8 < (l0.length : Int)) = false := decide_eq_false c2
  have c2b1 : decide (8 < l0.length) = false := decide_eq_false (by omega)
  clear c2
  obtain ⟨y335, hy335⟩ : ∃ y_ : List Int, y_ = (([] : List Int)) := ⟨_, rfl⟩
  replace H : (impl_needsOf.l0 k l0 y335 l0 (l0.length : Int) 0) = some (r1, r2) := by first | (rw [hy335]; with_reducible exact H) | (have H2_ := (Option.bind_some _ _).symm.trans H; rw [hy335]; with_reducible exact H2_) | (have H2_ := (Option.bind_some _ _).symm.trans H; with_reducible exact H2_) | with_reducible exact H | (rw [hy335]; exact H) | exact H
  have Ny335 := Aside0.mk hy335
  clear hy335
  have H' := Aside0.mk H
  clear H
  go_enter Tryd.func89, Tryd.ntmps89
  go_wp2_with (first | ((with_reducible refine gate_dst (N := 14) rfl ?_); refine R_makecap (Kd.int .u16) 51 rfl 62 (.const (.int .i64 0)) (.tmp 13) rfl l0.length rfl rfl Tryd.underlying62 (.int .u16 0) 2 (by kernel_rfl) (by have := of_decide_eq_false c2b1; omega) (by have := of_decide_eq_false c2b1; omega) ?_; intro v336 w3 ho4 hb hg_ hnew_; clear hg_ hnew_; (first | rw [← Ny335.out] at ho4 | (simp only [Int.reduceToNat] at ho4; rw [← Ny335.out] at ho4)); have n0_ := Aside0.mk (Kd.R_lower ho4 (below_size (by repeat (first | (with_reducible first | exact HB.out | apply below_alloc | apply pw_below_drewN | apply below_drew1) | exact HB.out)))); have n1_ := Aside0.mk (below_step (by repeat (first | (with_reducible first | exact HB.out | apply below_alloc | apply pw_below_drewN | apply below_drew1) | exact HB.out)) hb); clear HB; have HO337 := n0_; have HB := n1_; clear n0_ n1_; clear hb ho4))
  go_loopg [4, 17] k (fun kq v4 v17 w' => ∃ (x4_1 : List Int) (x17_1 : Int), v17 = .int .i64 x17_1 ∧ Aside0 (impl_needsOf.l0 kq l0 x4_1 l0 (l0.length : Int) x17_1 = some (r1, r2)) ∧ Aside0 (kq ≤ k) ∧ Aside0 (Kd.R (Kd.int .u16) 51 w' w.heap.size (fun _ => True) v4 x4_1) ∧ Aside0 (Below w.heap.size w w'))
  case atStart => exact ⟨(y335), (0), (by first | rfl | (simp; done) | (simp [*]; done)), H', ⟨Nat.le_refl _⟩, ⟨by (with_reducible repeat (first | apply Kd.R_alloc | apply Kd.R_drewN | apply Kd.R_drew)); exact HO337.out⟩, ⟨by repeat (first | (with_reducible first | exact HB.out | apply below_alloc | apply pw_below_drewN | apply below_drew1) | exact HB.out)⟩⟩
  case round =>
   clear H'
   try clear c2
   try clear c2b0
   try clear c2b1
   try clear p2
   obtain ⟨x4_1, x17_1, rfl, HA, HK1, HO_4, HB⟩ := hrel
   cases gk with
   | zero => exact absurd HA.out (by simp [impl_needsOf.l0])
   | succ k1 =>
    have H := HA.out
    clear HA
    simp only [impl_needsOf.l0] at H
    by_cases c5 : x17_1 < (l0.length : Int)
    ·rw [if_pos c5] at H
     have c5b0 : decide (x17_1 < (l0.length : Int)) = true := decide_eq_true c5
     clear c5
     by_cases c6 : 0 ≤ x17_1
     ·rw [if_pos c6] at H
      have c6b0 : decide (0 ≤ x17_1) = true := decide_eq_true c6
      clear c6
      by_cases c7 : x17_1 < (l0.length : Int)
      ·rw [if_pos c7] at H
       have c7b0 : decide (x17_1 < (l0.length : Int)) = true := decide_eq_true c7
       clear c7
       replace H := Option.bind_eq_some_iff.mp H
       obtain ⟨⟨t340, t341⟩, A80, H⟩ := H
       replace H : (if t341 = true then ((impl_within.f ((rd_T39 l0 x17_1).f0) 1 20).bind fun t342 => (if t342 = true then ((impl_within.f ((rd_T39 l0 x17_1).f2) 0 2).bind fun t343 => (if t343 = true then ((impl_within.f ((rd_T39 l0 x17_1).f3) 1 4).bind fun t344 => (if t344 = true then (if x4_1.length < 70368744177664 then (impl_needsOf.l0 k1 l0 (x4_1 ++ [t340]) l0 (l0.length : Int) (wrap64 (x17_1 + 1))) else (none)) else (some (([] : List Int), false)))) else (some (([] : List Int), false)))) else (some (([] : List Int), false)))) else (some (([] : List Int), false))) = some (r1, r2) := H
       have A8 := Aside0.mk A80
       clear A80
       by_cases c9 : t341 = true
       ·subst c9
        have H1 : ((impl_within.f ((rd_T39 l0 x17_1).f0) 1 20).bind fun t342 => (if t342 = true then ((impl_within.f ((rd_T39 l0 x17_1).f2) 0 2).bind fun t343 => (if t343 = true then ((impl_within.f ((rd_T39 l0 x17_1).f3) 1 4).bind fun t344 => (if t344 = true then (if x4_1.length < 70368744177664 then (impl_needsOf.l0 k1 l0 (x4_1 ++ [t340]) l0 (l0.length : Int) (wrap64 (x17_1 + 1))) else (none)) else (some (([] : List Int), false)))) else (some (([] : List Int), false)))) else (some (([] : List Int), false)))) = some (r1, r2) := by rw [if_pos rfl] at H; exact H
        clear H
        have H := H1
        clear H1
        replace H := Option.bind_eq_some_iff.mp H
        obtain ⟨t342, A100, H⟩ := H
        replace H : (if t342 = true then ((impl_within.f ((rd_T39 l0 x17_1).f2) 0 2).bind fun t343 => (if t343 = true then ((impl_within.f ((rd_T39 l0 x17_1).f3) 1 4).bind fun t344 => (if t344 = true then (if x4_1.length < 70368744177664 then (impl_needsOf.l0 k1 l0 (x4_1 ++ [t340]) l0 (l0.length : Int) (wrap64 (x17_1 + 1))) else (none)) else (some (([] : List Int), false)))) else (some (([] : List Int), false)))) else (some (([] : List Int), false))) = some (r1, r2) := H
        have A10 := Aside0.mk A100
        clear A100
        by_cases c11 : t342 = true
        ·subst c11
         have H1 : ((impl_within.f ((rd_T39 l0 x17_1).f2) 0 2).bind fun t343 => (if t343 = true then ((impl_within.f ((rd_T39 l0 x17_1).f3) 1 4).bind fun t344 => (if t344 = true then (if x4_1.length < 70368744177664 then (impl_needsOf.l0 k1 l0 (x4_1 ++ [t340]) l0 (l0.length : Int) (wrap64 (x17_1 + 1))) else (none)) else (some (([] : List Int), false)))) else (some (([] : List Int), false)))) = some (r1, r2) := by rw [if_pos rfl] at H; exact H
         clear H
         have H := H1
         clear H1
         replace H := Option.bind_eq_some_iff.mp H
         obtain ⟨t343, A120, H⟩ := H
         replace H : (if t343 = true then ((impl_within.f ((rd_T39 l0 x17_1).f3) 1 4).bind fun t344 => (if t344 = true then (if x4_1.length < 70368744177664 then (impl_needsOf.l0 k1 l0 (x4_1 ++ [t340]) l0 (l0.length : Int) (wrap64 (x17_1 + 1))) else (none)) else (some (([] : List Int), false)))) else (some (([] : List Int), false))) = some (r1, r2) := H
         have A12 := Aside0.mk A120
         clear A120
         by_cases c13 : t343 = true
         ·subst c13
          have H1 : ((impl_within.f ((rd_T39 l0 x17_1).f3) 1 4).bind fun t344 => (if t344 = true then (if x4_1.length < 70368744177664 then (impl_needsOf.l0 k1 l0 (x4_1 ++ [t340]) l0 (l0.length : Int) (wrap64 (x17_1 + 1))) else (none)) else (some (([] : List Int), false)))) = some (r1, r2) := by rw [if_pos rfl] at H; exact H
          clear H
          have H := H1
          clear H1
          replace H := Option.bind_eq_some_iff.mp H
          obtain ⟨t344, A140, H⟩ := H
          replace H : (if t344 = true then (if x4_1.length < 70368744177664 then (impl_needsOf.l0 k1 l0 (x4_1 ++ [t340]) l0 (l0.length : Int) (wrap64 (x17_1 + 1))) else (none)) else (some (([] : List Int), false))) = some (r1, r2) := H
          have A14 := Aside0.mk A140
          clear A140
          by_cases c15 : t344 = true
          ·subst c15
           have H1 : (if x4_1.length < 70368744177664 then (impl_needsOf.l0 k1 l0 (x4_1 ++ [t340]) l0 (l0.length : Int) (wrap64 (x17_1 + 1))) else (none)) = some (r1, r2) := by rw [if_pos rfl] at H; exact H
           clear H
           have H := H1
           clear H1
           by_cases c16 : x4_1.length < 70368744177664
           ·rw [if_pos c16] at H
            have LMc16 := Aside0.mk c16
            clear c16
            obtain ⟨y345, hy345⟩ : ∃ y_ : List Int, y_ = (x4_1 ++ [t340]) := ⟨_, rfl⟩
            replace H : (impl_needsOf.l0 k1 l0 y345 l0 (l0.length : Int) (wrap64 (x17_1 + 1))) = some (r1, r2) := by first | (rw [hy345]; with_reducible exact H) | (have H2_ := (Option.bind_some _ _).symm.trans H; rw [hy345]; with_reducible exact H2_) | (have H2_ := (Option.bind_some _ _).symm.trans H; with_reducible exact H2_) | with_reducible exact H | (rw [hy345]; exact H) | exact H
            have Ny345 := Aside0.mk hy345
            clear hy345
            have H' := Aside0.mk H
            clear H
            have p338 : 0 ≤ (x17_1 : Int) := of_decide_eq_true (by first | (with_reducible assumption) | assumption)
            have q338 : x17_1 < (l0.length : Int) := of_decide_eq_true (by first | (with_reducible assumption) | assumption)
            obtain ⟨ad338, A338_1, c338_1, e338, hx338_0, hx338_1, hx338_2, hx338_3, hl338_1, hi338_1⟩ := at_T39 HR0.out x17_1 p338 q338
            cases e338
            replace hx338_0 := (HB.out.cell (World.block_lt_of_cell? w _ hx338_0)).trans hx338_0
            replace hx338_1 := (HB.out.cell (World.block_lt_of_cell? w _ hx338_1)).trans hx338_1
            replace hx338_2 := (HB.out.cell (World.block_lt_of_cell? w _ hx338_2)).trans hx338_2
            replace hx338_3 := (HB.out.cell (World.block_lt_of_cell? w _ hx338_3)).trans hx338_3
            have HR338_1 := Aside0.mk hi338_1
            have HC338_1 := Aside0.mk hl338_1
            clear hi338_1 hl338_1
            replace p338 := eq_true p338
            replace q338 := eq_true q338
            go_wp2_with (first | ((with_reducible refine gate_dst (N := 6) rfl ?_); refine box_event ?hg (N := 6) ?hd (cs := #[.int .i64 0, .slice none 0 0, .int .i64 0, .int .i64 0]) (t := 39) ?hr ?_; (case hd => rfl); (case hg => rfl); (case hr => first | (go_simp; done) | (go_simp; rfl)); intro gb339 hg w17 hbox hb; have n0_ := Aside0.mk (Kd.R_below (by (with_reducible repeat (first | apply Kd.R_alloc | apply Kd.R_drewN | apply Kd.R_drew)); exact HO_4.out) hb); have n1_ := Aside0.mk (below_step (by repeat (first | (with_reducible first | exact HB.out | apply below_alloc | apply pw_below_drewN | apply below_drew1) | exact HB.out)) hb); have n2_ := Aside0.mk (hbox); have n3_ := Aside0.mk ((by rw [hg]; exact (below_size (by repeat (first | (with_reducible first | exact HB.out | apply below_alloc | apply pw_below_drewN | apply below_drew1) | exact HB.out))) : w.heap.size ≤ gb339)); have n4_ := Aside0.mk ((by rw [hg]; exact (below_size (by repeat (first | (with_reducible first | exact HB.out | apply below_alloc | apply pw_below_drewN | apply below_drew1) | exact HB.out))) : w.heap.size ≤ gb339)); clear HO_4; clear HB; have HO_4 := n0_; have HB := n1_; have BK339 := n2_; have GW339 := n3_; have GE339 := n4_; clear n0_ n1_ n2_ n3_ n4_; clear hb hbox hg; have hcz18_0 : w17.cell? ⟨gb339, 0, none⟩ = some (.int .i64 0) := (blk_cell BK339.out 0).trans rfl; have hcz18_1 : w17.cell? ⟨gb339, 1, none⟩ = some (.slice none 0 0) := (blk_cell BK339.out 1).trans rfl; have hcz18_2 : w17.cell? ⟨gb339, 2, none⟩ = some (.int .i64 0) := (blk_cell BK339.out 2).trans rfl; have hcz18_3 : w17.cell? ⟨gb339, 3, none⟩ = some (.int .i64 0) := (blk_cell BK339.out 3).trans rfl; have hfz18_0 := blk_frozen BK339.out 0; have hfz18_1 := blk_frozen BK339.out 1; have hfz18_2 := blk_frozen BK339.out 2; have hfz18_3 := blk_frozen BK339.out 3) | ((with_reducible refine gate_callee (f := 71) rfl ?_); refine goesL_ (some 26) rfl rfl Tryd.func71 (by kernel_rfl) rfl #[.slice A338_1 ((rd_T39 l0 x17_1).f1).length c338_1, .int .i64 (l0.length : Int)] rfl (by (try simp only [List.map_toArray, List.map_cons, List.map_nil]); first | done | rfl | (simp only [List.length_drop, List.length_take]; rfl)) ?_; (with_reducible refine (impl_setOf.calls k1 _ _ ((rd_T39 l0 x17_1).f1) (l0.length : Int) t340 true _ ?side1 ?side2 A8.out).mono ?_); (case side1 => exact Kd.C_below HR338_1.out (by repeat (first | (with_reducible first | exact HB.out | apply below_alloc | apply pw_below_drewN | apply below_drew1 | refine below_set ?_ GE339.out) | exact HB.out))); (case side2 => exact HC338_1.out); rintro e w' ⟨rfl, ⟨nd, rfl⟩⟩; refine ⟨_, rfl, ?_⟩) | (go_at_call 48; (with_reducible refine (impl_within.calls ((rd_T39 l0 x17_1).f0) 1 20 true _ A10.out).mono ?_); rintro e w' ⟨rfl, ⟨nd, rfl⟩⟩) | (go_at_call 48; (with_reducible refine (impl_within.calls ((rd_T39 l0 x17_1).f2) 0 2 true _ A12.out).mono ?_); rintro e w' ⟨rfl, ⟨nd, rfl⟩⟩) | (go_at_call 48; (with_reducible refine (impl_within.calls ((rd_T39 l0 x17_1).f3) 1 4 true _ A14.out).mono ?_); rintro e w' ⟨rfl, ⟨nd, rfl⟩⟩) | ((with_reducible refine gate_builtin (b := .append) (xs := #[.tmp 49, .tmp 51]) rfl ?_); at_builtin; refine Kd.R_append (Kd.int .u16) (w0 := w) w.heap.size rfl (.tmp 49) (.tmp 51) 62 51 (.int .u16 0) 2 rfl Tryd.underlying62 info51 rfl (by decide) (by omega) u4 x4_1 t340 [.int .u16 t340] (fun _ => True) (fun _ => False) rfl (by first | (go_simp; done) | (go_simp; rfl)) ?aP (fun _ hk => hk.elim) ?aF ?aO ?aB ?aS ?aL ?_; (case aP => exact rfl); (case aB => exact (by repeat (first | (with_reducible first | exact HB.out | apply below_alloc | apply pw_below_drewN | apply below_drew1 | refine below_set ?_ GE339.out) | exact HB.out))); (case aF => exact (fun _ _ => trivial)); (case aO => exact (by (with_reducible repeat (first | apply Kd.R_alloc | apply Kd.R_drewN | apply Kd.R_drew)); exact Kd.R_mono (Kd.R_far (p := ⟨gb339, 3, none⟩) (Kd.R_far (p := ⟨gb339, 2, none⟩) (Kd.R_far (p := ⟨gb339, 1, none⟩) (Kd.R_far (p := ⟨gb339, 0, none⟩) (Kd.R_types HO_4.out BK339.out (by decide)) (fun _ hk => hk.2) (.int .i64 ((rd_T39 l0 x17_1).f0))) (fun _ hk => hk.2) (.slice A338_1 ((rd_T39 l0 x17_1).f1).length c338_1)) (fun _ hk => hk.2) (.int .i64 ((rd_T39 l0 x17_1).f2))) (fun _ hk => hk.2) (.int .i64 ((rd_T39 l0 x17_1).f3))) (fun _ hk => trivial))); (case aS => exact (below_size (by repeat (first | (with_reducible first | exact HB.out | apply below_alloc | apply pw_below_drewN | apply below_drew1 | refine below_set ?_ GE339.out) | exact HB.out)))); (case aL => have := LMc16.out; omega); intro v346 w19 ho hb hg hat; rw [← Ny345.out] at ho; have n0_ := Aside0.mk (blk_grown (g := gb339) (o := .cells #[.int .i64 ((rd_T39 l0 x17_1).f0), .slice A338_1 ((rd_T39 l0 x17_1).f1).length c338_1, .int .i64 ((rd_T39 l0 x17_1).f2), .int .i64 ((rd_T39 l0 x17_1).f3)] 39 (0, 0)) (by (with_reducible repeat (first | refine blk_drewN ?_ _ | refine blk_drew ?_ | refine blk_alloc ?_ _)); refine blk_put (cs := #[.int .i64 ((rd_T39 l0 x17_1).f0), .slice A338_1 ((rd_T39 l0 x17_1).f1).length c338_1, .int .i64 ((rd_T39 l0 x17_1).f2), .int .i64 0]) ?_ 3 _ rfl; (with_reducible repeat (first | refine blk_drewN ?_ _ | refine blk_drew ?_ | refine blk_alloc ?_ _)); refine blk_put (cs := #[.int .i64 ((rd_T39 l0 x17_1).f0), .slice A338_1 ((rd_T39 l0 x17_1).f1).length c338_1, .int .i64 0, .int .i64 0]) ?_ 2 _ rfl; (with_reducible repeat (first | refine blk_drewN ?_ _ | refine blk_drew ?_ | refine blk_alloc ?_ _)); refine blk_put (cs := #[.int .i64 ((rd_T39 l0 x17_1).f0), .slice none 0 0, .int .i64 0, .int .i64 0]) ?_ 1 _ rfl; (with_reducible repeat (first | refine blk_drewN ?_ _ | refine blk_drew ?_ | refine blk_alloc ?_ _)); refine blk_put (cs := #[.int .i64 0, .slice none 0 0, .int .i64 0, .int .i64 0]) ?_ 0 _ rfl; (with_reducible repeat (first | refine blk_drewN ?_ _ | refine blk_drew ?_ | refine blk_alloc ?_ _)); exact BK339.out) hg (Kd.R_ne HO_4.out BK339.out (by decide))); have n1_ := Aside0.mk (hb); have n2_ := Aside0.mk (ho); clear BK339; clear HB; clear HO_4; have BK339 := n0_; have HB := n1_; have HO347 := n2_; clear n0_ n1_ n2_; clear ho hb hg hat))
            go_roundg k1
            case measure => have := HK1.out; omega
            case rel => exact ⟨(y345), (wrap64 (x17_1 + 1)), (by first | rfl | (simp; done) | (simp [*]; done)), H', ⟨by have := HK1.out; omega⟩, ⟨by (with_reducible repeat (first | apply Kd.R_alloc | apply Kd.R_drewN | apply Kd.R_drew)); exact HO347.out⟩, ⟨by repeat (first | (with_reducible first | exact HB.out | apply below_alloc | apply pw_below_drewN | apply below_drew1 | refine below_set ?_ GE339.out) | exact HB.out)⟩⟩
           ·rw [if_neg c16] at H
            exact absurd H (by simp)
          ·replace c15 := Bool.eq_false_iff.mpr c15
           subst c15
           have H1 : (some (([] : List Int), false)) = some (r1, r2) := by rw [if_neg (show ¬ (false = true) by decide)] at H; exact H
           clear H
           have H := H1
           clear H1
           simp only [Option.some.injEq, Prod.mk.injEq] at H
           obtain ⟨rfl, rfl⟩ := H
           have p338 : 0 ≤ (x17_1 : Int) := of_decide_eq_true (by first | (with_reducible assumption) | assumption)
           have q338 : x17_1 < (l0.length : Int) := of_decide_eq_true (by first | (with_reducible assumption) | assumption)
           obtain ⟨ad338, A338_1, c338_1, e338, hx338_0, hx338_1, hx338_2, hx338_3, hl338_1, hi338_1⟩ := at_T39 HR0.out x17_1 p338 q338
           cases e338
           replace hx338_0 := (HB.out.cell (World.block_lt_of_cell? w _ hx338_0)).trans hx338_0
           replace hx338_1 := (HB.out.cell (World.block_lt_of_cell? w _ hx338_1)).trans hx338_1
           replace hx338_2 := (HB.out.cell (World.block_lt_of_cell? w _ hx338_2)).trans hx338_2
           replace hx338_3 := (HB.out.cell (World.block_lt_of_cell? w _ hx338_3)).trans hx338_3
           have HR338_1 := Aside0.mk hi338_1
           have HC338_1 := Aside0.mk hl338_1
           clear hi338_1 hl338_1
           replace p338 := eq_true p338
           replace q338 := eq_true q338
           go_wp2_with (first | ((with_reducible refine gate_dst (N := 6) rfl ?_); refine box_event ?hg (N := 6) ?hd (cs := #[.int .i64 0, .slice none 0 0, .int .i64 0, .int .i64 0]) (t := 39) ?hr ?_; (case hd => rfl); (case hg => rfl); (case hr => first | (go_simp; done) | (go_simp; rfl)); intro gb339 hg w20 hbox hb; have n0_ := Aside0.mk (Kd.R_below (by (with_reducible repeat (first | apply Kd.R_alloc | apply Kd.R_drewN | apply Kd.R_drew)); exact HO_4.out) hb); have n1_ := Aside0.mk (below_step (by repeat (first | (with_reducible first | exact HB.out | apply below_alloc | apply pw_below_drewN | apply below_drew1) | exact HB.out)) hb); have n2_ := Aside0.mk (hbox); have n3_ := Aside0.mk ((by rw [hg]; exact (below_size (by repeat (first | (with_reducible first | exact HB.out | apply below_alloc | apply pw_below_drewN | apply below_drew1) | exact HB.out))) : w.heap.size ≤ gb339)); have n4_ := Aside0.mk ((by rw [hg]; exact (below_size (by repeat (first | (with_reducible first | exact HB.out | apply below_alloc | apply pw_below_drewN | apply below_drew1) | exact HB.out))) : w.heap.size ≤ gb339)); clear HO_4; clear HB; have HO_4 := n0_; have HB := n1_; have BK339 := n2_; have GW339 := n3_; have GE339 := n4_; clear n0_ n1_ n2_ n3_ n4_; clear hb hbox hg; have hcz21_0 : w20.cell? ⟨gb339, 0, none⟩ = some (.int .i64 0) := (blk_cell BK339.out 0).trans rfl; have hcz21_1 : w20.cell? ⟨gb339, 1, none⟩ = some (.slice none 0 0) := (blk_cell BK339.out 1).trans rfl; have hcz21_2 : w20.cell? ⟨gb339, 2, none⟩ = some (.int .i64 0) := (blk_cell BK339.out 2).trans rfl; have hcz21_3 : w20.cell? ⟨gb339, 3, none⟩ = some (.int .i64 0) := (blk_cell BK339.out 3).trans rfl; have hfz21_0 := blk_frozen BK339.out 0; have hfz21_1 := blk_frozen BK339.out 1; have hfz21_2 := blk_frozen BK339.out 2; have hfz21_3 := blk_frozen BK339.out 3) | ((with_reducible refine gate_callee (f := 71) rfl ?_); refine goesL_ (some 26) rfl rfl Tryd.func71 (by kernel_rfl) rfl #[.slice A338_1 ((rd_T39 l0 x17_1).f1).length c338_1, .int .i64 (l0.length : Int)] rfl (by (try simp only [List.map_toArray, List.map_cons, List.map_nil]); first | done | rfl | (simp only [List.length_drop, List.length_take]; rfl)) ?_; (with_reducible refine (impl_setOf.calls k1 _ _ ((rd_T39 l0 x17_1).f1) (l0.length : Int) t340 true _ ?side1 ?side2 A8.out).mono ?_); (case side1 => exact Kd.C_below HR338_1.out (by repeat (first | (with_reducible first | exact HB.out | apply below_alloc | apply pw_below_drewN | apply below_drew1 | refine below_set ?_ GE339.out) | exact HB.out))); (case side2 => exact HC338_1.out); rintro e w' ⟨rfl, ⟨nd, rfl⟩⟩; refine ⟨_, rfl, ?_⟩) | (go_at_call 48; (with_reducible refine (impl_within.calls ((rd_T39 l0 x17_1).f0) 1 20 true _ A10.out).mono ?_); rintro e w' ⟨rfl, ⟨nd, rfl⟩⟩) | (go_at_call 48; (with_reducible refine (impl_within.calls ((rd_T39 l0 x17_1).f2) 0 2 true _ A12.out).mono ?_); rintro e w' ⟨rfl, ⟨nd, rfl⟩⟩) | (go_at_call 48; (with_reducible refine (impl_within.calls ((rd_T39 l0 x17_1).f3) 1 4 false _ A14.out).mono ?_); rintro e w' ⟨rfl, ⟨nd, rfl⟩⟩))
           go_ret2
           exact ⟨_, by first | rfl | (simp [errW_none, errW_some] <;> rfl) | (simp [*, errW_none, errW_some] <;> rfl), by first | exact Kd.R_nil _ _ _ _ _ | exact Kd.N_nil _ _ _ _ _ | exact Kd.V_nil _ _ _ _ _ | exact Kd.Q_nil _ _ _ _ _ | exact Kd.S_nil _ _ _ _ _, by repeat (first | (with_reducible first | exact HB.out | apply below_alloc | apply pw_below_drewN | apply below_drew1 | refine below_set ?_ GE339.out) | exact HB.out)⟩
         ·replace c13 := Bool.eq_false_iff.mpr c13
          subst c13
          have H1 : (some (([] : List Int), false)) = some (r1, r2) := by rw [if_neg (show ¬ (false = true) by decide)] at H; exact H
          clear H
          have H := H1
          clear H1
          simp only [Option.some.injEq, Prod.mk.injEq] at H
          obtain ⟨rfl, rfl⟩ := H
          have p338 : 0 ≤ (x17_1 : Int) := of_decide_eq_true (by first | (with_reducible assumption) | assumption)
          have q338 : x17_1 < (l0.length : Int) := of_decide_eq_true (by first | (with_reducible assumption) | assumption)
          obtain ⟨ad338, A338_1, c338_1, e338, hx338_0, hx338_1, hx338_2, hx338_3, hl338_1, hi338_1⟩ := at_T39 HR0.out x17_1 p338 q338
          cases e338
          replace hx338_0 := (HB.out.cell (World.block_lt_of_cell? w _ hx338_0)).trans hx338_0
          replace hx338_1 := (HB.out.cell (World.block_lt_of_cell? w _ hx338_1)).trans hx338_1
          replace hx338_2 := (HB.out.cell (World.block_lt_of_cell? w _ hx338_2)).trans hx338_2
          replace hx338_3 := (HB.out.cell (World.block_lt_of_cell? w _ hx338_3)).trans hx338_3
          have HR338_1 := Aside0.mk hi338_1
          have HC338_1 := Aside0.mk hl338_1
          clear hi338_1 hl338_1
          replace p338 := eq_true p338
          replace q338 := eq_true q338
          go_wp2_with (first | ((with_reducible refine gate_dst (N := 6) rfl ?_); refine box_event ?hg (N := 6) ?hd (cs := #[.int .i64 0, .slice none 0 0, .int .i64 0, .int .i64 0]) (t := 39) ?hr ?_; (case hd => rfl); (case hg => rfl); (case hr => first | (go_simp; done) | (go_simp; rfl)); intro gb339 hg w22 hbox hb; have n0_ := Aside0.mk (Kd.R_below (by (with_reducible repeat (first | apply Kd.R_alloc | apply Kd.R_drewN | apply Kd.R_drew)); exact HO_4.out) hb); have n1_ := Aside0.mk (below_step (by repeat (first | (with_reducible first | exact HB.out | apply below_alloc | apply pw_below_drewN | apply below_drew1) | exact HB.out)) hb); have n2_ := Aside0.mk (hbox); have n3_ := Aside0.mk ((by rw [hg]; exact (below_size (by repeat (first | (with_reducible first | exact HB.out | apply below_alloc | apply pw_below_drewN | apply below_drew1) | exact HB.out))) : w.heap.size ≤ gb339)); have n4_ := Aside0.mk ((by rw [hg]; exact (below_size (by repeat (first | (with_reducible first | exact HB.out | apply below_alloc | apply pw_below_drewN | apply below_drew1) | exact HB.out))) : w.heap.size ≤ gb339)); clear HO_4; clear HB; have HO_4 := n0_; have HB := n1_; have BK339 := n2_; have GW339 := n3_; have GE339 := n4_; clear n0_ n1_ n2_ n3_ n4_; clear hb hbox hg; have hcz23_0 : w22.cell? ⟨gb339, 0, none⟩ = some (.int .i64 0) := (blk_cell BK339.out 0).trans rfl; have hcz23_1 : w22.cell? ⟨gb339, 1, none⟩ = some (.slice none 0 0) := (blk_cell BK339.out 1).trans rfl; have hcz23_2 : w22.cell? ⟨gb339, 2, none⟩ = some (.int .i64 0) := (blk_cell BK339.out 2).trans rfl; have hcz23_3 : w22.cell? ⟨gb339, 3, none⟩ = some (.int .i64 0) := (blk_cell BK339.out 3).trans rfl; have hfz23_0 := blk_frozen BK339.out 0; have hfz23_1 := blk_frozen BK339.out 1; have hfz23_2 := blk_frozen BK339.out 2; have hfz23_3 := blk_frozen BK339.out 3) | ((with_reducible refine gate_callee (f := 71) rfl ?_); refine goesL_ (some 26) rfl rfl Tryd.func71 (by kernel_rfl) rfl #[.slice A338_1 ((rd_T39 l0 x17_1).f1).length c338_1, .int .i64 (l0.length : Int)] rfl (by (try simp only [List.map_toArray, List.map_cons, List.map_nil]); first | done | rfl | (simp only [List.length_drop, List.length_take]; rfl)) ?_; (with_reducible refine (impl_setOf.calls k1 _ _ ((rd_T39 l0 x17_1).f1) (l0.length : Int) t340 true _ ?side1 ?side2 A8.out).mono ?_); (case side1 => exact Kd.C_below HR338_1.out (by repeat (first | (with_reducible first | exact HB.out | apply below_alloc | apply pw_below_drewN | apply below_drew1 | refine below_set ?_ GE339.out) | exact HB.out))); (case side2 => exact HC338_1.out); rintro e w' ⟨rfl, ⟨nd, rfl⟩⟩; refine ⟨_, rfl, ?_⟩) | (go_at_call 48; (with_reducible refine (impl_within.calls ((rd_T39 l0 x17_1).f0) 1 20 true _ A10.out).mono ?_); rintro e w' ⟨rfl, ⟨nd, rfl⟩⟩) | (go_at_call 48; (with_reducible refine (impl_within.calls ((rd_T39 l0 x17_1).f2) 0 2 false _ A12.out).mono ?_); rintro e w' ⟨rfl, ⟨nd, rfl⟩⟩))
          go_ret2
          exact ⟨_, by first | rfl | (simp [errW_none, errW_some] <;> rfl) | (simp [*, errW_none, errW_some] <;> rfl), by first | exact Kd.R_nil _ _ _ _ _ | exact Kd.N_nil _ _ _ _ _ | exact Kd.V_nil _ _ _ _ _ | exact Kd.Q_nil _ _ _ _ _ | exact Kd.S_nil _ _ _ _ _, by repeat (first | (with_reducible first | exact HB.out | apply below_alloc | apply pw_below_drewN | apply below_drew1 | refine below_set ?_ GE339.out) | exact HB.out)⟩
        ·replace c11 := Bool.eq_false_iff.mpr c11
         subst c11
         have H1 : (some (([] : List Int), false)) = some (r1, r2) := by rw [if_neg (show ¬ (false = true) by decide)] at H; exact H
         clear H
         have H := H1
         clear H1
         simp only [Option.some.injEq, Prod.mk.injEq] at H
         obtain ⟨rfl, rfl⟩ := H
         have p338 : 0 ≤ (x17_1 : Int) := of_decide_eq_true (by first | (with_reducible assumption) | assumption)
         have q338 : x17_1 < (l0.length : Int) := of_decide_eq_true (by first | (with_reducible assumption) | assumption)
         obtain ⟨ad338, A338_1, c338_1, e338, hx338_0, hx338_1, hx338_2, hx338_3, hl338_1, hi338_1⟩ := at_T39 HR0.out x17_1 p338 q338
         cases e338
         replace hx338_0 := (HB.out.cell (World.block_lt_of_cell? w _ hx338_0)).trans hx338_0
         replace hx338_1 := (HB.out.cell (World.block_lt_of_cell? w _ hx338_1)).trans hx338_1
         replace hx338_2 := (HB.out.cell (World.block_lt_of_cell? w _ hx338_2)).trans hx338_2
         replace hx338_3 := (HB.out.cell (World.block_lt_of_cell? w _ hx338_3)).trans hx338_3
         have HR338_1 := Aside0.mk hi338_1
         have HC338_1 := Aside0.mk hl338_1
         clear hi338_1 hl338_1
         replace p338 := eq_true p338
         replace q338 := eq_true q338
         go_wp2_with (first | ((with_reducible refine gate_dst (N := 6) rfl ?_); refine box_event ?hg (N := 6) ?hd (cs := #[.int .i64 0, .slice none 0 0, .int .i64 0, .int .i64 0]) (t := 39) ?hr ?_; (case hd => rfl); (case hg => rfl); (case hr => first | (go_simp; done) | (go_simp; rfl)); intro gb339 hg w24 hbox hb; have n0_ := Aside0.mk (Kd.R_below (by (with_reducible repeat (first | apply Kd.R_alloc | apply Kd.R_drewN | apply Kd.R_drew)); exact HO_4.out) hb); have n1_ := Aside0.mk (below_step (by repeat (first | (with_reducible first | exact HB.out | apply below_alloc | apply pw_below_drewN | apply below_drew1) | exact HB.out)) hb); have n2_ := Aside0.mk (hbox); have n3_ := Aside0.mk ((by rw [hg]; exact (below_size (by repeat (first | (with_reducible first | exact HB.out | apply below_alloc | apply pw_below_drewN | apply below_drew1) | exact HB.out))) : w.heap.size ≤ gb339)); have n4_ := Aside0.mk ((by rw [hg]; exact (below_size (by repeat (first | (with_reducible first | exact HB.out | apply below_alloc | apply pw_below_drewN | apply below_drew1) | exact HB.out))) : w.heap.size ≤ gb339)); clear HO_4; clear HB; have HO_4 := n0_; have HB := n1_; have BK339 := n2_; have GW339 := n3_; have GE339 := n4_; clear n0_ n1_ n2_ n3_ n4_; clear hb hbox hg; have hcz25_0 : w24.cell? ⟨gb339, 0, none⟩ = some (.int .i64 0) := (blk_cell BK339.out 0).trans rfl; have hcz25_1 : w24.cell? ⟨gb339, 1, none⟩ = some (.slice none 0 0) := (blk_cell BK339.out 1).trans rfl; have hcz25_2 : w24.cell? ⟨gb339, 2, none⟩ = some (.int .i64 0) := (blk_cell BK339.out 2).trans rfl; have hcz25_3 : w24.cell? ⟨gb339, 3, none⟩ = some (.int .i64 0) := (blk_cell BK339.out 3).trans rfl; have hfz25_0 := blk_frozen BK339.out 0; have hfz25_1 := blk_frozen BK339.out 1; have hfz25_2 := blk_frozen BK339.out 2; have hfz25_3 := blk_frozen BK339.out 3) | ((with_reducible refine gate_callee (f := 71) rfl ?_); refine goesL_ (some 26) rfl rfl Tryd.func71 (by kernel_rfl) rfl #[.slice A338_1 ((rd_T39 l0 x17_1).f1).length c338_1, .int .i64 (l0.length : Int)] rfl (by (try simp only [List.map_toArray, List.map_cons, List.map_nil]); first | done | rfl | (simp only [List.length_drop, List.length_take]; rfl)) ?_; (with_reducible refine (impl_setOf.calls k1 _ _ ((rd_T39 l0 x17_1).f1) (l0.length : Int) t340 true _ ?side1 ?side2 A8.out).mono ?_); (case side1 => exact Kd.C_below HR338_1.out (by repeat (first | (with_reducible first | exact HB.out | apply below_alloc | apply pw_below_drewN | apply below_drew1 | refine below_set ?_ GE339.out) | exact HB.out))); (case side2 => exact HC338_1.out); rintro e w' ⟨rfl, ⟨nd, rfl⟩⟩; refine ⟨_, rfl, ?_⟩) | (go_at_call 48; (with_reducible refine (impl_within.calls ((rd_T39 l0 x17_1).f0) 1 20 false _ A10.out).mono ?_); rintro e w' ⟨rfl, ⟨nd, rfl⟩⟩))
         go_ret2
         exact ⟨_, by first | rfl | (simp [errW_none, errW_some] <;> rfl) | (simp [*, errW_none, errW_some] <;> rfl), by first | exact Kd.R_nil _ _ _ _ _ | exact Kd.N_nil _ _ _ _ _ | exact Kd.V_nil _ _ _ _ _ | exact Kd.Q_nil _ _ _ _ _ | exact Kd.S_nil _ _ _ _ _, by repeat (first | (with_reducible first | exact HB.out | apply below_alloc | apply pw_below_drewN | apply below_drew1 | refine below_set ?_ GE339.out) | exact HB.out)⟩
       ·replace c9 := Bool.eq_false_iff.mpr c9
        subst c9
        have H1 : (some (([] : List Int), false)) = some (r1, r2) := by rw [if_neg (show ¬ (false = true) by decide)] at H; exact H
        clear H
        have H := H1
        clear H1
        simp only [Option.some.injEq, Prod.mk.injEq] at H
        obtain ⟨rfl, rfl⟩ := H
        have p338 : 0 ≤ (x17_1 : Int) := of_decide_eq_true (by first | (with_reducible assumption) | assumption)
        have q338 : x17_1 < (l0.length : Int) := of_decide_eq_true (by first | (with_reducible assumption) | assumption)
        obtain ⟨ad338, A338_1, c338_1, e338, hx338_0, hx338_1, hx338_2, hx338_3, hl338_1, hi338_1⟩ := at_T39 HR0.out x17_1 p338 q338
        cases e338
        replace hx338_0 := (HB.out.cell (World.block_lt_of_cell? w _ hx338_0)).trans hx338_0
        replace hx338_1 := (HB.out.cell (World.block_lt_of_cell? w _ hx338_1)).trans hx338_1
        replace hx338_2 := (HB.out.cell (World.block_lt_of_cell? w _ hx338_2)).trans hx338_2
        replace hx338_3 := (HB.out.cell (World.block_lt_of_cell? w _ hx338_3)).trans hx338_3
        have HR338_1 := Aside0.mk hi338_1
        have HC338_1 := Aside0.mk hl338_1
        clear hi338_1 hl338_1
        replace p338 := eq_true p338
        replace q338 := eq_true q338
        go_wp2_with (first | ((with_reducible refine gate_dst (N := 6) rfl ?_); refine box_event ?hg (N := 6) ?hd (cs := #[.int .i64 0, .slice none 0 0, .int .i64 0, .int .i64 0]) (t := 39) ?hr ?_; (case hd => rfl); (case hg => rfl); (case hr => first | (go_simp; done) | (go_simp; rfl)); intro gb339 hg w26 hbox hb; have n0_ := Aside0.mk (Kd.R_below (by (with_reducible repeat (first | apply Kd.R_alloc | apply Kd.R_drewN | apply Kd.R_drew)); exact HO_4.out) hb); have n1_ := Aside0.mk (below_step (by repeat (first | (with_reducible first | exact HB.out | apply below_alloc | apply pw_below_drewN | apply below_drew1) | exact HB.out)) hb); have n2_ := Aside0.mk (hbox); have n3_ := Aside0.mk ((by rw [hg]; exact (below_size (by repeat (first | (with_reducible first | exact HB.out | apply below_alloc | apply pw_below_drewN | apply below_drew1) | exact HB.out))) : w.heap.size ≤ gb339)); have n4_ := Aside0.mk ((by rw [hg]; exact (below_size (by repeat (first | (with_reducible first | exact HB.out | apply below_alloc | apply pw_below_drewN | apply below_drew1) | exact HB.out))) : w.heap.size ≤ gb339)); clear HO_4; clear HB; have HO_4 := n0_; have HB := n1_; have BK339 := n2_; have GW339 := n3_; have GE339 := n4_; clear n0_ n1_ n2_ n3_ n4_; clear hb hbox hg; have hcz27_0 : w26.cell? ⟨gb339, 0, none⟩ = some (.int .i64 0) := (blk_cell BK339.out 0).trans rfl; have hcz27_1 : w26.cell? ⟨gb339, 1, none⟩ = some (.slice none 0 0) := (blk_cell BK339.out 1).trans rfl; have hcz27_2 : w26.cell? ⟨gb339, 2, none⟩ = some (.int .i64 0) := (blk_cell BK339.out 2).trans rfl; have hcz27_3 : w26.cell? ⟨gb339, 3, none⟩ = some (.int .i64 0) := (blk_cell BK339.out 3).trans rfl; have hfz27_0 := blk_frozen BK339.out 0; have hfz27_1 := blk_frozen BK339.out 1; have hfz27_2 := blk_frozen BK339.out 2; have hfz27_3 := blk_frozen BK339.out 3) | ((with_reducible refine gate_callee (f := 71) rfl ?_); refine goesL_ (some 26) rfl rfl Tryd.func71 (by kernel_rfl) rfl #[.slice A338_1 ((rd_T39 l0 x17_1).f1).length c338_1, .int .i64 (l0.length : Int)] rfl (by (try simp only [List.map_toArray, List.map_cons, List.map_nil]); first | done | rfl | (simp only [List.length_drop, List.length_take]; rfl)) ?_; (with_reducible refine (impl_setOf.calls k1 _ _ ((rd_T39 l0 x17_1).f1) (l0.length : Int) t340 false _ ?side1 ?side2 A8.out).mono ?_); (case side1 => exact Kd.C_below HR338_1.out (by repeat (first | (with_reducible first | exact HB.out | apply below_alloc | apply pw_below_drewN | apply below_drew1 | refine below_set ?_ GE339.out) | exact HB.out))); (case side2 => exact HC338_1.out); rintro e w' ⟨rfl, ⟨nd, rfl⟩⟩; refine ⟨_, rfl, ?_⟩))
        go_ret2
        exact ⟨_, by first | rfl | (simp [errW_none, errW_some] <;> rfl) | (simp [*, errW_none, errW_some] <;> rfl), by first | exact Kd.R_nil _ _ _ _ _ | exact Kd.N_nil _ _ _ _ _ | exact Kd.V_nil _ _ _ _ _ | exact Kd.Q_nil _ _ _ _ _ | exact Kd.S_nil _ _ _ _ _, by repeat (first | (with_reducible first | exact HB.out | apply below_alloc | apply pw_below_drewN | apply below_drew1 | refine below_set ?_ GE339.out) | exact HB.out)⟩
      ·rw [if_neg c7] at H
       exact absurd H (by simp)
     ·rw [if_neg c6] at H
      exact absurd H (by simp)
    ·rw [if_neg c5] at H
     have c5b0 : decide (x17_1 < (l0.length : Int)) = false := decide_eq_false c5
     clear c5
     simp only [Option.some.injEq, Prod.mk.injEq] at H
     obtain ⟨rfl, rfl⟩ := H
     go_wp2
     go_ret2
     exact ⟨_, by first | rfl | (simp [errW_none, errW_some] <;> rfl) | (simp [*, errW_none, errW_some] <;> rfl), by (with_reducible repeat (first | apply Kd.R_alloc | apply Kd.R_drewN | apply Kd.R_drew)); exact HO_4.out, by repeat (first | (with_reducible first | exact HB.out | apply below_alloc | apply pw_below_drewN | apply below_drew1) | exact HB.out)⟩
end Go.Proofs.YtajapkjplgaigaaDoor.P
end
