/- Merged texts of one claim: part 23 of what the statement's proof stands on. No condition. -/
import Derived.Test.YtajapkjplgaigaaDoorProg
import Derived.Below
import Derived.Deep.Draws
import Derived.Deep.AppendLies
import Derived.Maps.AppendAt
import Derived.OwnWalk
import Derived.Laws.BytesArg
import Derived.Laws.MakeOwn
import Derived.Laws.OwnMore
import Derived.Deep.OwnRows
import Derived.Tactics
import Derived.Lib.ConvBytes
import Derived.Laws.Slices
import Derived.WalkKit
import Derived.KernelRfl
import Derived.RowKit3
import Derived.Deep.LoopGhost
import Derived.Deep.QuietTactic
import Derived.BigQuiet
import Derived.WideLaws
import Derived.Deep.DeepCutAuto
import Derived.Deep.CutBlock
import Derived.Deep.RegionHeld3
import Derived.Laws.Rows
import Derived.Lib.AppendStr
import Derived.ArgAppend
import Derived.Laws.IdiomCopy
import Derived.OrdersHeld
import Derived.Laws.BitsLemmas
import Derived.RowKit
import Derived.Test.YtajapkjplgaigaaDoorD1WWords
import Derived.Test.YtajapkjplgaigaaDoorD1WLast
import Derived.Test.YtajapkjplgaigaaDoorD1WTab
import Derived.Test.YtajapkjplgaigaaDoorD1WFour
import Derived.Test.YtajapkjplgaigaaDoorD1WQPut
import Derived.Test.YtajapkjplgaigaaDoorD1WApart
import Derived.Test.YtajapkjplgaigaaDoorD1WArr
import Derived.Test.YtajapkjplgaigaaDoorD1WZeros
import Derived.Test.YtajapkjplgaigaaDoorD1WFoot
import Derived.Test.YtajapkjplgaigaaDoorD1WKept
import Derived.Test.YtajapkjplgaigaaDoorD1WShare
import Derived.Test.YtajapkjplgaigaaDoorD1WN
import Derived.Test.YtajapkjplgaigaaDoorD1WFootNe
import Derived.Test.YtajapkjplgaigaaDoorD1WAt
import Derived.Test.YtajapkjplgaigaaDoorD1WEqStruct
import Derived.Test.YtajapkjplgaigaaDoorD1WRepsOne
import Derived.Test.YtajapkjplgaigaaDoorD1WInv
import Derived.Test.YtajapkjplgaigaaDoorD1WInvWords
import Derived.Test.YtajapkjplgaigaaDoorD1WGuard
import Derived.Test.YtajapkjplgaigaaDoorD1WNEv
import Derived.Test.YtajapkjplgaigaaDoorD1WMore
import Derived.RangeFuncNested
import Derived.RangeFuncBound
import Derived.RangeFuncCalls
import Derived.RangeFuncLeaves
import Derived.OwnWalkIn
import Derived.TacticsInMore
import Derived.LoopNIn
import Derived.LoopIn
import Derived.Lib.TrailingZeros
import Derived.Shelf.Abstract
import Derived.OrdersIn
import Derived.StillTail
import Derived.Deep.Quiet
import Derived.Outline
import Derived.StillTailTactics
import Derived.Laws.BitsAllLaws
import Derived.RegionTactic
import Derived.ChangeAlike
section
namespace Go.Proofs.YtajapkjplgaigaaDoor.P
open Go.RowKit Go.Proofs.YtajapkjplgaigaaDoorW.PrintWords Go.Proofs.YtajapkjplgaigaaDoorW.PrintLast Go.Proofs.YtajapkjplgaigaaDoorW.PrintMore
attribute [local go_sem] max2_int min2_int max_two min_two max_three min_three max_four min_four   -- for this text's walks alone
set_option linter.unusedVariables false
set_option linter.unusedSimpArgs false
def errW : Option Int → Value
 | none => .nilIface
 | some c => .iface 0 (.int .i64 c)
theorem errW_none : errW none = .nilIface := rfl
theorem errW_some (c : Int) : errW (some c) = .iface 0 (.int .i64 c) := rfl
theorem info3 : (Tryd.prog.info? 3).map (fun i => (i.zero, i.size, i.bytes)) = some (some (.int .i64 0), 1, 8) := by kernel_rfl
theorem info5 : (Tryd.prog.info? 5).map (fun i => (i.zero, i.size, i.bytes)) = some (some (.int .u8 0), 1, 1) := by kernel_rfl
theorem info39 : (Tryd.prog.info? 39).map (fun i => (i.zero, i.size, i.bytes)) = some (some (.agg #[(.int .i64 0), (.slice none 0 0), (.int .i64 0), (.int .i64 0)]), 4, 48) := by kernel_rfl
theorem info51 : (Tryd.prog.info? 51).map (fun i => (i.zero, i.size, i.bytes)) = some (some (.int .u16 0), 1, 2) := by kernel_rfl
-- the values' own types
def rd_L2 (xs : List (List Int)) (i : Int) : (List Int) := xs.getD i.toNat ([] : List Int)
structure S39 where
 f0 : Int
 f1 : (List Int)
 f2 : Int
 f3 : Int
def z39 : S39 := ⟨(0 : Int), ([] : List Int), (0 : Int), (0 : Int)⟩
def k39 : Kd S39 := Kd.iso (Kd.pair (Kd.int .i64) (Kd.pair (Kd.slice 3 (Kd.int .i64)) (Kd.pair (Kd.int .i64) (Kd.int .i64)))) (fun x : S39 => (x.f0, x.f1, x.f2, x.f3))
theorem k39_open {w : World} {x : S39} {cs : List Value} (h : k39.K w x cs) : ∃ A1 c1, cs = [.int .i64 x.f0, .slice A1 x.f1.length c1, .int .i64 x.f2, .int .i64 x.f3] ∧ x.f1.length ≤ c1 ∧ (Kd.int .i64).C w A1 x.f1.length x.f1 := by
 obtain ⟨_, _, rfl, rfl, ⟨_, _, rfl, ⟨A1, c1, rfl, l1, g1⟩, ⟨_, _, rfl, rfl, rfl⟩⟩⟩ := h
 exact ⟨A1, c1, rfl, l1, g1⟩
theorem k39_openM {w : World} {base : Nat} {ok : Nat → Prop} {x : S39} {cs : List Value} (h : k39.M w base ok x cs) : ∃ v1, cs = [.int .i64 x.f0, v1, .int .i64 x.f2, .int .i64 x.f3] ∧ (Kd.int .i64).R 3 w base ok v1 x.f1 := by
 obtain ⟨_, _, rfl, rfl, ⟨_, _, rfl, ⟨v1, rfl, g1⟩, ⟨_, _, rfl, rfl, rfl⟩⟩⟩ := h
 exact ⟨v1, rfl, g1⟩
theorem k39_mk (w : World) (x : S39) {A1 : Option Addr} {c1 : Nat} (l1 : x.f1.length ≤ c1) (g1 : (Kd.int .i64).C w A1 x.f1.length x.f1) : k39.K w x [.int .i64 x.f0, .slice A1 x.f1.length c1, .int .i64 x.f2, .int .i64 x.f3] := ⟨[.int .i64 x.f0], [.slice A1 x.f1.length c1, .int .i64 x.f2, .int .i64 x.f3], rfl, rfl, ⟨[.slice A1 x.f1.length c1], [.int .i64 x.f2, .int .i64 x.f3], rfl, ⟨A1, c1, rfl, l1, g1⟩, ⟨[.int .i64 x.f2], [.int .i64 x.f3], rfl, rfl, rfl⟩⟩⟩
theorem k39_mkM (w : World) (base : Nat) (ok : Nat → Prop) (x : S39) {v1 : Value} (g1 : (Kd.int .i64).R 3 w base ok v1 x.f1) : k39.M w base ok x [.int .i64 x.f0, v1, .int .i64 x.f2, .int .i64 x.f3] := ⟨[.int .i64 x.f0], [v1, .int .i64 x.f2, .int .i64 x.f3], rfl, rfl, ⟨[v1], [.int .i64 x.f2, .int .i64 x.f3], rfl, ⟨v1, rfl, g1⟩, ⟨[.int .i64 x.f2], [.int .i64 x.f3], rfl, rfl, rfl⟩⟩⟩
theorem k39_openF {W : World} {ok : Nat → Prop} {x : S39} {cs : List Value} (h : Kd.FK k39 W ok x cs) : ∃ A1 c1, cs = [.int .i64 x.f0, .slice A1 x.f1.length c1, .int .i64 x.f2, .int .i64 x.f3] ∧ x.f1.length ≤ c1 ∧ Kd.F (Kd.int .i64) W ok A1 x.f1.length x.f1 := by
 obtain ⟨A1, c1, rfl, l1, _⟩ := k39_open (Kd.FK_now h)
 exact ⟨A1, c1, rfl, l1, (fun W' hW => by obtain ⟨A1_, c1_, he, l1_, g1_⟩ := k39_open (h W' hW); injection (Option.some.inj (show some (Value.slice A1 x.f1.length c1) = some (Value.slice A1_ x.f1.length c1_) from congrArg (fun l => l[1]?) he)) with ha_ _ _; rw [ha_]; exact g1_)⟩
theorem k39_mkF (W : World) (ok : Nat → Prop) (x : S39) {A1 : Option Addr} {c1 : Nat} (l1 : x.f1.length ≤ c1) (g1 : Kd.F (Kd.int .i64) W ok A1 x.f1.length x.f1) : Kd.FK k39 W ok x [.int .i64 x.f0, .slice A1 x.f1.length c1, .int .i64 x.f2, .int .i64 x.f3] := fun W2 hW => k39_mk W2 x l1 (g1 W2 hW)
def rd_T39 (xs : List S39) (i : Int) : S39 := xs.getD i.toNat z39
theorem at_T39 {w : World} {A : Option Addr} {n : Nat} {xs : List S39} (h : Kd.C k39 w A n xs) (i : Int) (h0 : 0 ≤ i) (h1 : i < n) : ∃ ad A1 c1, A = some ad ∧ w.cell? (ad.add (i.toNat * 4)) = some (.int .i64 (rd_T39 xs i).f0) ∧ w.cell? ⟨(ad.add (i.toNat * 4)).block, (ad.add (i.toNat * 4)).off + 1, none⟩ = some (.slice A1 (rd_T39 xs i).f1.length c1) ∧ w.cell? ⟨(ad.add (i.toNat * 4)).block, (ad.add (i.toNat * 4)).off + 2, none⟩ = some (.int .i64 (rd_T39 xs i).f2) ∧ w.cell? ⟨(ad.add (i.toNat * 4)).block, (ad.add (i.toNat * 4)).off + 3, none⟩ = some (.int .i64 (rd_T39 xs i).f3) ∧ (rd_T39 xs i).f1.length ≤ c1 ∧ (Kd.int .i64).C w A1 (rd_T39 xs i).f1.length (rd_T39 xs i).f1 := by
 obtain ⟨ad, c, e, _, hK, hc0⟩ := Kd.C_get h z39 i h0 h1
 have hc : ∀ j u, c[j]? = some u → w.cell? (ad.add (i.toNat * 4 + j)) = some u := hc0
 obtain ⟨A1, c1, rfl, l1, g1⟩ := k39_open hK
 exact ⟨ad, A1, c1, e, hc 0 _ rfl, by rw [← add_field _ _ 1 (by omega)]; exact hc 1 _ rfl, by rw [← add_field _ _ 2 (by omega)]; exact hc 2 _ rfl, by rw [← add_field _ _ 3 (by omega)]; exact hc 3 _ rfl, l1, g1⟩
end Go.Proofs.YtajapkjplgaigaaDoor.P
end
section
namespace Go.Proofs.YtajapkjplgaigaaDoor
open Go.RowKit Go.Shelf Go.Proofs.YtajapkjplgaigaaDoorW.PrintWords Go.Proofs.YtajapkjplgaigaaDoorW.PrintLast Go.Proofs.YtajapkjplgaigaaDoorW.PrintMore
attribute [local go_sem] Oper.semAt_some
set_option linter.unusedVariables false
set_option linter.unusedSimpArgs false
def TabOK (w : World) : Prop := ∀ j, j < 32 → w.cell? ⟨0, j, none⟩ = some (.int .u8 (Lib.deBruijn32tab.getD j 0))
theorem TabOK.lt {w : World} (h : TabOK w) : 0 < w.heap.size := by
 have := h 0 (by omega)
 apply Nat.lt_of_not_le
 intro hle
 simp [World.cell?, Array.getElem?_eq_none hle] at this
theorem TabOK.below {w W : World} (h : TabOK w) (hb : Below w.heap.size w W) : TabOK W := fun j hj => (hb.cell (p := ⟨0, j, none⟩) h.lt).trans (h j hj)
theorem wrap_u16' (n : Int) : IntKind.u16.wrap n = n % 65536 := by simp [IntKind.wrap, IntKind.signed, IntKind.bits]
theorem bits_u16_nat (a b : Nat) (ha : a < 65536) (hb : b < 65536) : bits .and .u16 (a : Int) (b : Int) = ((a &&& b : Nat) : Int) := by
 have hx : a &&& b < 2 ^ 16 := Nat.and_lt_two_pow _ (by omega)
 have h1 : (BitVec.ofInt 16 (a : Int)).toNat = a := by
  rw [BitVec.ofInt_natCast, BitVec.toNat_ofNat]; exact Nat.mod_eq_of_lt (by omega)
 have h2 : (BitVec.ofInt 16 (b : Int)).toNat = b := by
  rw [BitVec.ofInt_natCast, BitVec.toNat_ofNat]; exact Nat.mod_eq_of_lt (by omega)
 show IntKind.u16.wrap ((BitVec.ofInt 16 (a : Int) &&& BitVec.ofInt 16 (b : Int)).toNat : Int) = _
 rw [BitVec.toNat_and, h1, h2, wrap_u16']
 omega
set_option maxHeartbeats 1000000 in
theorem tz16_core (x k idx : Nat) (w : World) (hx0 : ((x : Int) == 0) = false)
  (key : bits BinOp.and IntKind.u16 (x : Int) (IntKind.u16.wrap (-(x : Int))) % 4294967296 * 125613361 % 4294967296 / 134217728 = (idx : Int))
  (hi : idx < 32) (hk : k < 32) (hcell : w.cell? ⟨0, idx, none⟩ = some (.int .u8 k)) :
  Calls Tryd.prog 85 #[.int .u16 x] w fun e w' => e = .returned (.int .i64 k) ∧ w' = w := by
 go_enter Tryd.func85, Tryd.ntmps85
 go_wp2_with (simp only [key])
 go_ret
 exact ⟨rfl, rfl⟩
theorem tz16_key (x a : Nat) (hx : x < 65536) (hx0 : x ≠ 0) (hlow : x &&& (65536 - x) = a) :
  bits BinOp.and IntKind.u16 (x : Int) (IntKind.u16.wrap (-(x : Int))) % 4294967296 * 125613361 % 4294967296 / 134217728 = ((a * 125613361 % 4294967296 / 134217728 : Nat) : Int) := by
 have e1 : IntKind.u16.wrap (-(x : Int)) = ((65536 - x : Nat) : Int) := by rw [wrap_u16']; omega
 have ha : a < 65536 := by rw [← hlow]; exact Nat.lt_of_le_of_lt Nat.and_le_left hx
 rw [e1, bits_u16_nat x _ hx (by omega), hlow]
 omega
theorem tz16 (x : Nat) (hx : x < 65536) (hx0 : x ≠ 0) (w : World) (hT : TabOK w) :
  Calls Tryd.prog 85 #[.int .u16 x] w fun e w' => e = .returned (.int .i64 (Lib.ctz 16 x : Nat)) ∧ w' = w := by
 obtain ⟨hlow, hk⟩ := Lib.lowest_bit 16 x hx0 hx
 obtain ⟨hi, htab⟩ := Lib.deBruijn32_at _ (Nat.lt_trans hk (by decide))
 have hcell := hT _ hi
 rw [htab] at hcell
 exact tz16_core x _ _ w (by simp; omega) (tz16_key x _ hx hx0 hlow) hi (Nat.lt_trans hk (by decide)) hcell
end Go.Proofs.YtajapkjplgaigaaDoor
end
section
namespace Go.Proofs.YtajapkjplgaigaaDoor
open Go.RowKit
set_option linter.unusedVariables false
set_option linter.unusedSimpArgs false
section
variable {P : Program} {ops : Array Oper} {md : Region.Mode} {l n : Nat}
def NoDefer (ops : Array Oper) : Prop := ∀ o ∈ ops.toList, ∀ c, o.op ≠ .defer c
def noDeferB (ops : Array Oper) : Bool := ops.toList.all fun o => match o.op with | .defer _ => false | _ => true
theorem NoDefer.of (h : noDeferB ops = true) : NoDefer ops := by
 intro o ho c hc
 simp only [noDeferB, List.all_eq_true] at h
 have := h o ho
 rw [hc] at this
 cases this
theorem wpIn_of_oper {o : Oper} {a : Act} {w : World} {K : Act → World → Prop} {Q : Exit → Act → World → Prop} (hd : ∀ c, o.op ≠ .defer c) (h : o.wp P a w K Q) :
  o.wpIn (Fence.wide.inRound l) n P a w K Q := by
 refine ⟨fun f _ => trivial, ?_⟩
 simp only [Fence.inRound_round]
 rw [Oper.semAt_some l a.eval o hd]
 unfold Oper.wp at h
 generalize (execOp a.eval o).run P w = r at *
 cases r with
 | ok x w' =>
  cases x <;> simp only [Oper.upon, Oper.uponIn] at h ⊢ <;> first | exact h | exact h.elim | skip
  ·exact ⟨fun hh => by simp [Fence.wide] at hh, CallsIn.inRound l ((callsIn_wide (n := n - 1)).2 h)⟩
  ·refine ⟨fun hh => by simp [Fence.wide] at hh, fun c cs _ => ?_⟩
   obtain ⟨v, w'', hr, hs⟩ := h c cs
   exact ⟨v, w'', hr, stepsIn_wide.2 hs⟩
 | halt x w' => cases x <;> simp only [Oper.upon, Oper.uponIn] at h ⊢ <;> first | exact h | exact h.elim
theorem wpOpIn_of {i : Nat} {K : Act → World → Prop} {Q : Exit → Act → World → Prop} {a : Act} {w : World} (hd : NoDefer ops) (hQ : ¬ LetsOut Q) (h : wpOp P ops Q i K a w) :
  wpOpIn (Fence.wide.inRound l) n P ops Q i K a w := by
 unfold wpOp at h
 unfold wpOpIn
 cases ho : ops[i]? with
 | none => simpa [ho] using h
 | some o =>
  simp only [ho] at h ⊢
  have hm : o ∈ ops.toList := by
   obtain ⟨hlt, he⟩ := Array.getElem?_eq_some_iff.1 ho
   rw [← he]; simp
  split
  ·rename_i hw
   simp only [hw, if_true] at h
   rcases h with h | ⟨_, h⟩
   ·exact wpIn_of_oper (hd o hm) h
   ·exact (hQ h).elim
  ·rename_i hw
   simp only [hw] at h
   exact ⟨fun f _ => trivial, h⟩
theorem wpAnyIn_of {Q : Exit → Act → World → Prop} (hd : NoDefer ops) (hQ : ¬ LetsOut Q) : ∀ (fuel : Nat) (listed : Array Bool) (a : Act) (w : World), wpAny P md ops Q fuel listed a w → wpAnyIn (Fence.wide.inRound l) n P md ops Q fuel listed a w
 | 0, _, _, _, h => h
 | fuel + 1, listed, a, w, h => ⟨h.1, fun i hi => wpOpIn_mono (fun a w => wpAnyIn_of hd hQ fuel _ a w) (wpOpIn_of hd hQ (h.2 i hi))⟩
theorem wpIn_region_quiet_lit {id : Nat} {Q : Exit → Act → World → Prop} {a : Act} {w : World} {ol : List Oper} (hQ : ¬ LetsOut Q) (hd : noDeferB ol.toArray = true) (hm : P.follows .mixedOrders = true) (hB : Region.lexB .any ol.toArray = true)
  (h : wpQuiet P ol.toArray (fun w' => ∃ n, w' = w.drewN n) (fun a' => ∀ w', (∃ n, w' = w.drewN n) → Q .normal a' w') ol a) : (Code.region id ol.toArray true).wpIn (Fence.wide.inRound l) n P Q a w := by
 simp only [Region.lexB, Bool.and_eq_true] at hB
 refine wpIn_region_any hm (wpAnyIn_of (NoDefer.of hd) hQ _ _ _ _ (wpAny_of_quiet (C := fun w' => ∃ n, w' = w.drewN n) (Q := fun a' => ∀ w', (∃ n, w' = w.drewN n) → Q .normal a' w') (fun _ w' hw' h => h w' hw') _ _ _ _ ⟨1, rfl⟩ ?_))
 have := wpAnyQ_lex (C := fun w' => ∃ n, w' = w.drewN n) (md := .any) hB.1 ol 0 (Array.replicate ol.toArray.size false) a (by simp) (by simpa using hB.2) h
 simpa using this
theorem wpIn_region_of_any {id : Nat} {Q : Exit → Act → World → Prop} {a : Act} {w : World} {ol : List Oper} (hQ : ¬ LetsOut Q) (hd : noDeferB ol.toArray = true) (hm : P.follows .mixedOrders = true)
  (h : wpAny P .any ol.toArray Q ol.toArray.size (Array.replicate ol.toArray.size false) a { w with drawn := w.drawn + 1 }) : (Code.region id ol.toArray true).wpIn (Fence.wide.inRound l) n P Q a w :=
 wpIn_region_any hm (wpAnyIn_of (NoDefer.of hd) hQ _ _ _ _ h)
theorem wpIn_region_tail {id : Nat} {Q : Exit → Act → World → Prop} {a : Act} {w : World} {ol : List Oper} (k : Nat) (hQ : ¬ LetsOut Q) (hd : noDeferB ol.toArray = true) (hm : P.follows .mixedOrders = true) (hB : Region.lexTailB .any ol.toArray k = true)
  (h : wpStill P ol.toArray { w with drawn := w.drawn + 1 } (fun a' => wpList P ol.toArray Q (ol.drop k) a' { w with drawn := w.drawn + 1 }) (ol.take k) a) : (Code.region id ol.toArray true).wpIn (Fence.wide.inRound l) n P Q a w := by
 refine wpIn_region_any hm (wpAnyIn_of (NoDefer.of hd) hQ _ _ _ _ ?_)
 simp only [Region.lexTailB, Bool.and_eq_true, decide_eq_true_eq] at hB
 obtain ⟨⟨⟨⟨b1, b2⟩, b3⟩, b4⟩, b5⟩ := hB
 have hk : k < ol.length := by simpa using b2
 have lt : (ol.take k).length = k := List.length_take_of_le (Nat.le_of_lt hk)
 have ld : (ol.drop k).length = ol.toArray.size - k := by simp
 have start : HeadInv .any ol.toArray k (Array.replicate ol.toArray.size false) :=
  ⟨by simp, fun j oj _ hl => absurd hl (by rw [getD_replicate_false]; simp), fun t _ ht => getD_in (by simpa using ht) (getD_replicate_false _ _)⟩
 have head := wpAnyL_lex (md := .any) (g := ol.toArray.size - k) b1 b3 b4 b2 (ol.take k) 0 _ a (fun j hj => by rw [List.getElem?_take]; rw [lt] at hj; simp [hj]) (by rw [lt]; simp) start (by rw [lt]; exact b5) h
 have whole := wpAny_of_head (Q' := Q) (g := ol.toArray.size - k) (fun listed a' hL => by
  have := wpAny_of_seq (md := .any) (Q' := Q) (ol.drop k) k listed a' { w with drawn := w.drawn + 1 } (fun j => by simp [List.getElem?_drop]) (by rw [ld]; exact hL.1) hL.2
  rw [ld] at this
  exact this) _ _ _ head
 have es : (ol.take k).length + (ol.toArray.size - k) = ol.toArray.size := by rw [lt]; simp; omega
 rw [es] at whole
 exact whole
end
end Go.Proofs.YtajapkjplgaigaaDoor
end
section
namespace Go.Proofs.YtajapkjplgaigaaDoor
open Go.RowKit Go.Shelf Go.Proofs.YtajapkjplgaigaaDoorW.PrintWords Go.Proofs.YtajapkjplgaigaaDoorW.PrintLast Go.Proofs.YtajapkjplgaigaaDoorW.PrintMore
attribute [local go_sem] Oper.semAt_some
set_option linter.unusedVariables false
set_option linter.unusedSimpArgs false
abbrev El (s : Nat) := { x : Nat // x < 8 ∧ s.testBit x = true }
def encI {s : Nat} (x : El s) : Array Value := #[Value.int .i64 (x.1 : Int)]
def bitsN (s : Nat) : List Nat := (List.range 8).filter fun i => s.testBit i
theorem mem_bitsN {s x : Nat} : x ∈ bitsN s ↔ x < 8 ∧ s.testBit x = true := by simp [bitsN]
theorem idx_step : ∀ s, s < 256 → s ≠ 0 → bitsN s = Lib.ctz 16 s :: bitsN (s &&& (s - 1)) ∧ (s &&& (s - 1)) < s := by decide +kernel
theorem bitsN_zero : bitsN 0 = [] := by decide +kernel
theorem bitsN_len (s : Nat) : (bitsN s).length ≤ 8 := by
 have h := List.length_filter_le (fun i => s.testBit i) (List.range 8)
 simpa [bitsN] using h
theorem rest_key (r : Nat) (hr : r < 256) (h0 : r ≠ 0) : bits BinOp.and IntKind.u16 (r : Int) ((r : Int) - 1) = ((r &&& (r - 1) : Nat) : Int) := by
 have e : (r : Int) - 1 = ((r - 1 : Nat) : Int) := by omega
 rw [e, bits_u16_nat r _ (by omega) (by omega)]
set_option maxRecDepth 100000 in
set_option maxHeartbeats 2000000 in
theorem all1_in (n l Bs : Nat) (hn : 1 ≤ n) (s : Nat) (hs : s < 256) (J Jx : List (El s) → World → Prop)
  (hY : ∀ (pre : List (El s)) x W, J pre W → pre.length < 8 → YieldAt Fence.wide (n - 1) Tryd.prog l (encI x) W fun e W' =>
   (e = .returned (.bool true) ∧ J (pre ++ [x]) W' ∧ (TabOK W → TabOK W')) ∨ (e = .returned (.bool false) ∧ Jx (pre ++ [x]) W'))
  (W : World) (hT : TabOK W) (hBs : W.cell? ⟨Bs, 0, none⟩ = some (.int .u16 s)) (h0 : J [] W) :
  CallsIn Fence.wide n Tryd.prog 84 #[.func (.yield l) #[] #[], .pointer (some ⟨Bs, 0, none⟩)] W fun e W' => (∃ v, e = .returned v) ∧
   ((∃ ys, ys.map (·.1) = bitsN s ∧ J ys W') ∨ (∃ pre, pre.map (·.1) <+: bitsN s ∧ Jx pre W')) := by
 refine callsIn_of_wp Tryd.func84 rfl trivial ?_ rfl
 simp only [Tryd.ntmps84, List.size_toArray, List.length_cons, List.length_nil, Nat.reduceAdd, Nat.reduceSub, Array.replicate_succ, Array.replicate_zero, List.push_toArray, List.append_toArray, List.nil_append, List.cons_append]
 have hT' := Aside0.mk hT
 clear hT
 gi_wp2
 gi_loopw [3] (fun p wr => ∃ (pre : List (El s)) (r : Nat), p = .int .u16 r ∧ Hid (r < 256 ∧ bitsN s = pre.map (·.1) ++ bitsN r) ∧ J pre wr ∧ Aside0 (TabOK wr)) (fun p _ => (intOf p).toNat)
 case atStart => exact ⟨[], s, rfl, ⟨hs, rfl⟩, h0, hT'⟩
 case round =>
  obtain ⟨pre, r, rfl, hx, hJ, hT⟩ := hrel
  obtain ⟨hr, he⟩ := hx
  by_cases hr0 : r = 0
  ·subst hr0
   rw [bitsN_zero, List.append_nil] at he
   have he' := Aside0.mk he
   clear he
   gi_wp2
   go_end0
   exact ⟨⟨_, rfl⟩, .inl ⟨pre, he'.out.symm, hJ⟩⟩
  ·obtain ⟨hcons, hlt0⟩ := idx_step r hr hr0
   have hmem : Lib.ctz 16 r ∈ bitsN s := by rw [he, hcons]; simp
   have hlen : pre.length < 8 := by have := bitsN_len s; rw [he, hcons] at this; simp at this; omega
   obtain ⟨fn, tmps, assign, body, hy, hR⟩ := hY pre ⟨Lib.ctz 16 r, mem_bitsN.1 hmem⟩ wr hJ hlen
   have key := Aside0.mk (rest_key r hr hr0)
   have hlt := Aside0.mk hlt0
   have he' := Aside0.mk he
   have hcons' := Aside0.mk hcons
   have htz := Aside0.mk (tz16 r (by omega) hr0 wr hT.out)
   clear he hcons hlt0
   have hb : ((r : Int) == 0) = false := by simp; exact hr0
   have hb' : ((r : Int) != 0) = true := by simp; exact hr0
   dsimp only [encI] at hy
   gi_wp2_with (refine ⟨trivial, ?_⟩; gi_at_call 85; refine (callsIn_wide.2 (htz.out)).mono ?_; rintro e w' ⟨rfl, rfl⟩)
   refine hR.mono ?_
   rintro e W3 (⟨rfl, hJ3, hk3⟩ | ⟨rfl, hJx3⟩)
   ·have hT3 := Aside0.mk (hk3 hT.out)
    clear hk3 hT
    gi_wp2_with (simp only [key.out])
    go_roundw
    case rel => exact ⟨pre ++ [⟨Lib.ctz 16 r, mem_bitsN.1 hmem⟩], r &&& (r - 1), rfl, ⟨Nat.lt_of_le_of_lt Nat.and_le_left hr, he'.out.trans (by rw [hcons'.out]; simp)⟩, hJ3, hT3⟩
    case measure => have := hlt.out; simp [intOf]; omega
   ·gi_wp2
    refine bodyPost_ret (results_none rfl _ _ _) rfl ?_
    exact ⟨⟨_, rfl⟩, .inr ⟨pre ++ [⟨Lib.ctz 16 r, mem_bitsN.1 hmem⟩], ⟨bitsN (r &&& (r - 1)), (he'.out.trans (by rw [hcons'.out]; simp)).symm⟩, hJx3⟩⟩
set_option maxHeartbeats 1000000 in
theorem all_calls (s : Int) (w : World) :
  Calls Tryd.prog 54 #[.int .u16 s] w fun e w' => e = .returned (.func (.func 84) #[] #[.pointer (some ⟨w.heap.size, 0, none⟩)]) ∧ w' = w.alloc (.cells #[.int .u16 s] 51) := by
 go_enter Tryd.func54, Tryd.ntmps54
 go_wp2
 go_ret
 exact ⟨rfl, rfl⟩
theorem all_stops (n : Nat) (hn : 1 ≤ n) (Bs s : Nat) (hs : s < 256) (w : World) (hBs : Bs < w.heap.size) (hc : w.cell? ⟨Bs, 0, none⟩ = some (.int .u16 s)) (hT : TabOK w) :
  SeqStopsK Fence.wide n Tryd.prog 84 #[.pointer (some ⟨Bs, 0, none⟩)] (encI (s := s)) (fun A B => TabOK A → TabOK B) (fun ys => ys.map (·.1) = bitsN s) (fun pre => pre.map (·.1) <+: bitsN s) 8 w := fun l J Jx W hW _ _ hY h0 =>
 all1_in n l Bs hn s hs J Jx hY W (hT.below hW) ((hW.cell (p := ⟨Bs, 0, none⟩) hBs).trans hc) h0
end Go.Proofs.YtajapkjplgaigaaDoor
end
section
namespace Go.Proofs.YtajapkjplgaigaaDoor
open Go.RowKit Go.Shelf Go.Proofs.YtajapkjplgaigaaDoorW.PrintWords Go.Proofs.YtajapkjplgaigaaDoorW.PrintLast Go.Proofs.YtajapkjplgaigaaDoorW.PrintMore
set_option linter.unusedVariables false
set_option linter.unusedSimpArgs false
def RPost {α : Type} (B : Nat) (I : List α → World → Prop) (Ix : Code → List α → World → Prop) (xs : List α) (W : World) : Exit → Act → World → Prop
 | .normal, _, W' => KeepsFrom B W W' ∧ I xs W'
 | .ret, _, W' => KeepsFrom B W W' ∧ Ix .ret xs W'
 | .exit id, _, W' => KeepsFrom B W W' ∧ Ix (.exit id) xs W'
 | .goto t, _, W' => KeepsFrom B W W' ∧ Ix (.goto t) xs W'
 | .panic _, _, _ => False
 | .outgrown, _, _ => False
abbrev markOf (D : Nat) : Deferred := { target := .collected D, args := #[] }
theorem wp_all1 {g : Operand} {rid : Nat} {o : Oper} {p d : Tmp} {body : Code} {Q : Exit → Act → World → Prop} {tmps : Array Value} {ds : List Deferred} {w : World} (Bs s : Nat) (hs : s < 256)
  (hg : ({ tmps := tmps, defers := ds } : Act).eval g = .func (.func 84) #[] #[.pointer (some ⟨Bs, 0, none⟩)]) (hBs : Bs < w.heap.size) (hc : w.cell? ⟨Bs, 0, none⟩ = some (.int .u16 s)) (hT : TabOK w)
  (ho : o.op = .assign (.tmp p)) (hd : o.dst = some d) (hgd : o.guard = none) (hp : p < tmps.size)
  (I : List Nat → World → Prop) (Ix : Code → List Nat → World → Prop) (hI : OwnFrom w.heap.size I) (hIx : ∀ c, OwnFrom w.heap.size (Ix c)) (h0 : I [] w) (hIT : ∀ pre W, I pre W → TabOK W)
  (hbody : ∀ (l : Nat) (pre : List Nat) (x : Nat) (W : World), x < 8 → s.testBit x = true → I pre W → pre.length < 8 →
   body.wpIn (Fence.wide.inRound l) 7 Tryd.prog (RPost w.heap.size I Ix (pre ++ [x]) W) { tmps := (tmps.setIfInBounds p (.int .i64 (x : Int))).setIfInBounds d (.int .i64 (x : Int)), defers := [] } W)
  (hdone : ∀ (D : Nat) (W : World), w.heap.size ≤ D → I (bitsN s) W → W.heap[D]? = some (.deferred (some [])) → Q .normal { tmps := tmps, defers := markOf D :: ds } W)
  (hstop : ∀ (D : Nat) (c : Code) (pre : List Nat) (W : World), w.heap.size ≤ D → pre <+: bitsN s → Ix c pre W → W.heap[D]? = some (.deferred (some [])) → c.wp Tryd.prog Q { tmps := tmps, defers := markOf D :: ds } W) :
  (Code.rangeFunc g #[p] (.region rid #[o] false) body).wp Tryd.prog Q { tmps := tmps, defers := ds } w := by
 refine (wpIn_wide (n := 9)).1 (wpIn_rangeFunc_ownG (F := Fence.wide) (n := 9) rfl (by omega) hg trivial (enters_of Tryd.func84 (by kernel_rfl) rfl)
  (all_stops (9 - 1) (by omega) Bs s hs w hBs hc hT) (fun h k hA => k (h hA)) (fun W l o o' hl ho hcells _ hTW => ?_) (Below.refl _ _) (fun x => rfl) (fun pre W => I (pre.map (·.1)) W) (fun c pre W => Ix c (pre.map (·.1)) W) (fun s W W' row h => hI (s.map (·.1)) W W' row h) (fun c s W W' row h => hIx c (s.map (·.1)) W W' row h) h0
  (fun x => { tmps := (tmps.setIfInBounds p (.int .i64 (x.1 : Int))).setIfInBounds d (.int .i64 (x.1 : Int)), defers := [] }) ?_ ?_ ?_ ?_)
 ·intro j hj
  exact cell_kept (hTW j hj) (grownBy_putObj' W l o') (fun r e => by cases e; exact ⟨_, ho, hcells⟩)
 ·intro l x W K hK
  refine wpIn_region_list (ops := #[o]) ?_
  show wpListIn _ _ _ _ _ [o] _ _
  refine wpListIn_plain hgd fun K' hK' => ⟨fun _ _ => trivial, ?_⟩
  have he : ({ tmps := (tmps.setIfInBounds p (.int .i64 (x.1 : Int))), defers := [] } : Act).eval (.tmp p) = .int .i64 (x.1 : Int) := by
   simp [Act.eval, hp]
  have hz : ((#[p] : Array Tmp).zip (encI x)).foldl (fun t (p, v) => t.setIfInBounds p v) tmps = tmps.setIfInBounds p (.int .i64 (x.1 : Int)) := by simp [encI]
  simp only [hz]
  rw [show (Fence.wide.inRound l).round = some l from rfl, Oper.semAt_some l _ o (fun c hcc => by rw [ho] at hcc; cases hcc)]
  simp only [execOp, ho, he]
  simp only [Sem.run_pure, Sem.run, Sem.run_bind, Result.andThen, Oper.uponIn]
  refine hK' _ _ ?_
  simp only [wpListIn, Act.put, hd]
  exact hK
 ·intro l pre x W hi hlen
  refine wpIn_mono (hbody l (pre.map (·.1)) x.1 W x.2.1 x.2.2 hi (by simpa using hlen)) ?_
  rintro e a' W' h
  have em : (pre ++ [x]).map (·.1) = pre.map (·.1) ++ [x.1] := by simp
  cases e <;> simp only [ownPostG, RPost, em] at h ⊢ <;> first | exact h | skip
  exact ⟨h.1, fun _ => hIT _ _ h.2, h.2⟩
 ·rintro D xs W hD hxs hi hk
  exact hdone D W hD (by rw [hxs] at hi; exact hi) hk
 ·rintro D c pre W hD hp hi hk
  exact wpIn_wide.2 (hstop D c _ W hD hp hi hk)
def Marks (B : Nat) : List Deferred → World → Prop
 | [], _ => True
 | d :: ds, W => (∃ D, d = markOf D ∧ B ≤ D ∧ W.heap[D]? = some (.deferred (some [])) ∧ ∀ d' ∈ ds, d' ≠ d) ∧ Marks B ds W
theorem Marks.nil (B : Nat) (W : World) : Marks B [] W := trivial
theorem Marks.keeps {B : Nat} : ∀ {ds : List Deferred} {W W' : World}, Marks B ds W → KeepsFrom B W W' → Marks B ds W'
 | [], _, _, _, _ => trivial
 | d :: ds, W, W', ⟨⟨D, he, hB, hD, hn⟩, h⟩, hk => ⟨⟨D, he, hB, hk.same D _ hB hD rfl, hn⟩, Marks.keeps h hk⟩
theorem Marks.lt {B : Nat} : ∀ {ds : List Deferred} {W : World}, Marks B ds W → ∀ d ∈ ds, ∃ D, d = markOf D ∧ D < W.heap.size
 | [], _, _, d, h => by cases h
 | d :: ds, W, ⟨⟨D, he, hB, hD, hn⟩, h⟩, d', hm => by
  rcases List.mem_cons.1 hm with rfl | hm
  ·exact ⟨D, he, (Array.getElem?_eq_some_iff.1 hD).1⟩
  ·exact Marks.lt h d' hm
theorem Marks.shut {B D : Nat} {o : Obj} : ∀ {ds : List Deferred} {W : World}, Marks B ds W → (∀ d ∈ ds, d ≠ markOf D) → Marks B ds (W.putObj D o)
 | [], _, _, _ => trivial
 | d :: ds, W, ⟨⟨D', he, hB, hD, hn⟩, h⟩, hne => ⟨⟨D', he, hB, (World.putObj_heap_other (fun e => hne d List.mem_cons_self (by rw [he, e]))).trans hD, hn⟩, Marks.shut h (fun d' hm => hne d' (List.mem_cons_of_mem _ hm))⟩
theorem leavesM {F : Fence} {n : Nat} {P : Program} {fn : Func} {tmps : Array Value} {R : Ending → World → Prop} {B : Nat} {Φ : World → Prop} (hΦ : OwnFrom B (fun (_ : Unit) W => Φ W))
  (hR : ∀ W, Φ W → ∃ v, (results fn tmps).run P W = .ok v W ∧ R (.returned v) W) : ∀ (ds : List Deferred) (W : World), Marks B ds W → Φ W → LeavesInM F n P fn tmps R ds .returning W
 | [], W, _, h => hR W h
 | d :: ds, W, ⟨⟨D, he, hB, hD, hn⟩, hm⟩, h => ⟨by simp, .inl ⟨D, _, by rw [he], run_takeDeferred hD, leavesM hΦ hR ds _ (Marks.shut hm (fun d' hd' => he ▸ hn d' hd')) (hΦ.putObj (s := ()) _ h hB hD rfl)⟩⟩
theorem retM {n : Nat} {P : Program} {fn : Func} {R : Ending → World → Prop} {B : Nat} {a : Act} {W : World} (Φ : World → Prop) (hΦ : OwnFrom B (fun (_ : Unit) W => Φ W)) (hm : Marks B a.defers W) (h : Φ W)
  (hR : ∀ W, Φ W → ∃ v, (results fn a.tmps).run P W = .ok v W ∧ R (.returned v) W) : bodyPostM Fence.wide n P fn R .ret a W := leavesM hΦ hR a.defers W hm h
theorem calls_of_wpM {f : FuncId} {fn : Func} {c : Code} {args : Array Value} {w : World} {R : Ending → World → Prop} {P : Program} (hf : P.funcs[f]? = some fn) (hb : fn.body = some c)
  (h : c.wp P (bodyPostM Fence.wide 9 P fn R) { tmps := args ++ Array.replicate (fn.ntmps - args.size) undef, defers := [] } w) : Calls P f args w R :=
 callsIn_wide.1 (callsIn_of_wp_marks (F := Fence.wide) (n := 9) hf hb trivial (wpIn_wide.2 h))
theorem own_R {β α : Type} {d : Kd α} {e B base : Nat} (v : β → Value) (xs : β → List α) : OwnFrom B (fun s W => Kd.R d e W base (fun _ => True) (v s) (xs s)) := by
 intro s W W' row h hg hr
 refine Kd.R_mono (Kd.R_grown (Kd.R_bound h) hg ?_) (fun _ _ => trivial)
 rintro k ⟨_, _, _, q, hq, cells, hk⟩ he
 obtain ⟨_, o, ho, hc⟩ := hr k he.symm
 rw [hk] at ho
 cases ho
 cases hc
theorem own_boxrow {β : Type} (n₀ Bx : Nat) (t e : TypeId) (size : Nat) (k : β → Nat) (f : β → List Value) (B : Nat) : OwnFrom B (fun s W => ∃ v, Boxed W Bx t v ∧ W.ownsRow n₀ e size v (k s) (f s)) := by
 intro s W W' row ⟨v, h1, h2⟩ hg hr
 obtain ⟨v', h1', h2', _⟩ := (holdsRow_own n₀ Bx t e size k f (fun _ _ => True)) s W W' row ⟨v, h1, h2, trivial⟩ hg (fun r e => (hr r e).2)
 exact ⟨v', h1', h2'⟩
theorem own_box {β : Type} (B Bx : Nat) (t : TypeId) (f : β → Value) : OwnFrom B (fun s W => Boxed W Bx t (f s)) := (boxed_own Bx t f).from B
end Go.Proofs.YtajapkjplgaigaaDoor
end
section
namespace Go.Proofs.YtajapkjplgaigaaDoor
open Go.RowKit Go.Shelf Go.Proofs.YtajapkjplgaigaaDoorW.PrintWords Go.Proofs.YtajapkjplgaigaaDoorW.PrintLast Go.Proofs.YtajapkjplgaigaaDoorW.PrintMore
attribute [local go_sem] Oper.semAt_some
set_option linter.unusedVariables false
set_option linter.unusedSimpArgs false
def ivs (xs : List Nat) : List Int := xs.map Int.ofNat
theorem ivs_snoc (xs : List Nat) (x : Nat) : ivs (xs ++ [x]) = ivs xs ++ [(x : Int)] := by simp [ivs]
theorem ivs_length (xs : List Nat) : (ivs xs).length = xs.length := by simp [ivs]
theorem infoI : (Tryd.prog.info? 3).map (fun i => (i.zero, i.size, i.bytes)) = some (some (.int .i64 0), 1, 8) := by kernel_rfl
set_option maxRecDepth 100000 in
set_option maxHeartbeats 2000000 in
theorem list_calls (s : Nat) (hs : s < 256) (w : World) (hT : TabOK w) :
  Calls Tryd.prog 47 #[.int .u16 s] w fun e w' => ∃ v : Value, e = .returned v ∧ Kd.R (Kd.int .i64) 3 w' w.heap.size (fun _ => True) v (ivs (bitsN s)) ∧ Below w.heap.size w w' := by
 refine calls_of_wpM Tryd.func47 rfl ?_
 simp only [Tryd.ntmps47, List.size_toArray, List.length_cons, List.length_nil, Nat.reduceAdd, Nat.reduceSub, Array.replicate_succ, Array.replicate_zero, List.push_toArray, List.append_toArray, List.nil_append, List.cons_append]
 have hT' := Aside0.mk hT
 clear hT
 have hmk : ∀ w : World, (Instr.makeSlice 24 (.int .i64 0) (.int .i64 8)).run Tryd.prog w = .ok (.slice (some ⟨w.heap.size, 0, none⟩) 0 8) (w.alloc (.cells (Array.replicate 8 (.int .i64 0)) 3)) := fun _ => by kernel_rfl
 go_wp2_with (go_at_call 54; refine (all_calls _ _).mono ?_; rintro e w' ⟨rfl, rfl⟩)
 clear hmk
 have hT := hT'.out
 obtain ⟨W1, hW1⟩ : ∃ W1, w.alloc (Obj.cells (Array.replicate 8 (Value.int IntKind.i64 0)) 3) = W1 := ⟨_, rfl⟩
 have hs1 : W1.heap.size = w.heap.size + 1 := by rw [← hW1]; simp
 rw [hW1]
 have hr1 : W1.ownsRow w.heap.size 3 1 (.slice (some ⟨w.heap.size, 0, none⟩) 0 8) 0 (encs (Value.int .i64) []) := by
  rw [← hW1]
  exact World.ownsRow_made w _ 8 (Nat.le_refl _) (by unfold maxLen; omega) (by simp)
 rw [← hs1]
 obtain ⟨W2, hW2⟩ : ∃ W2, W1.alloc (Obj.cells #[Value.slice (some { block := w.heap.size, off := 0 }) 0 8] 24) = W2 := ⟨_, rfl⟩
 have hs2 : W2.heap.size = w.heap.size + 1 + 1 := by rw [← hW2]; simp [hs1]
 have hb2 : Boxed W2 W1.heap.size 24 (Value.slice (some { block := w.heap.size, off := 0 }) 0 8) := by rw [← hW2]; exact Boxed.new _ _ _
 have hB2 : Below w.heap.size w W2 := by rw [← hW2, ← hW1]; exact ((Below.refl _ w).alloc (Nat.le_refl _) _).alloc (by simp) _
 rw [hW2]
 rw [show W1.heap.size + 1 = W2.heap.size by omega]
 have hT2 := hT.below hB2
 have hb3 := hb2.alloc (Obj.cells #[Value.int IntKind.u16 s] 51)
 refine wp_all1 W2.heap.size s hs rfl (by simp) (cell_one_new _ _ _ 0 _ rfl) (hT2.below ((Below.refl _ W2).alloc (Nat.le_refl _) _)) rfl rfl rfl (by simp)
  (fun (pre : List Nat) W => (∃ v, Boxed W W1.heap.size 24 v ∧ W.ownsRow w.heap.size 3 1 v pre.length (encs (Value.int .i64) (ivs pre))) ∧ Below w.heap.size w W) (fun _ _ _ => False)
  (OwnFrom.and (own_boxrow (β := List Nat) _ _ _ _ _ _ _ _) (ownFrom_below (Nat.le_refl _) (by simp; omega))) (fun _ _ _ _ _ hs _ _ => hs) ?h0 (fun pre W h => hT.below h.2) ?body ?done ?stop
 case stop => intro D c pre W _ _ h _; exact h.elim
 case h0 =>
  refine ⟨⟨_, hb3, ?_⟩, hB2.alloc (by omega) _⟩
  have := (hr1.alloc (Obj.cells #[Value.slice (some { block := w.heap.size, off := 0 }) 0 8] 24))
  rw [hW2] at this
  exact this.alloc _
 case body =>
  have hle1 : w.heap.size ≤ W1.heap.size := by omega
  clear hW1 hW2 hs1 hs2 hr1 hb2 hb3 hB2 hT2
  rintro l pre x W hx8 hxs ⟨⟨v, hv, hrow⟩, hB⟩ hlen
  simp only [List.setIfInBounds_toArray, List.set_cons_zero, List.set_cons_succ]
  have hc1 := hv.cell
  have hf1 := hv.frozen
  have hle : w.heap.size ≤ W.heap.size := hB.size
  obtain ⟨i0, hi, hz0, hz1, hz2⟩ := info_parts infoI
  have hrow' := Aside0.mk hrow
  have hB' := Aside0.mk hB
  clear hrow hB
  gi_wp2_with (gi_at_builtin; refine wpListIn_append_own _ rfl _ _ 24 rfl w.heap.size 3 i0 (.int .i64 0) 1 8 Tryd.underlying24 hi hz0 hz1 hz2 rfl (by decide) _ _ _ rfl (hrow'.out.alloc _) ⟨W.heap.size, 0, none⟩ 1 1 [.int .i64 (x : Int)] rfl rfl (cell_one_new _ _ _) (by simp [Value.oneCell']) (by unfold maxLen; omega) (by omega) (by simp; omega) ?_; intro v' w1 hown' hgrow _; obtain ⟨g', cap', rfl⟩ := ownsRow_succ hown'; obtain ⟨hv1, hv2, hr2, hk2, hb2⟩ := hv.appended (by decide) hrow'.out hle hle1 hown' hgrow; have hc1 := hv1.cell; have hf1 := hv1.frozen)
  exact ⟨hk2.from _, ⟨_, hv2, by rw [ivs_snoc, encs, List.map_append]; simpa [encs] using hr2⟩, hB'.out.trans hb2⟩
 case done =>
  have hle1 : w.heap.size ≤ W1.heap.size := by omega
  clear hW1 hW2 hr1 hb2 hb3 hB2 hT2
  rintro D W hD ⟨⟨v, hv, hrow⟩, hB⟩ hK
  have hR : Kd.R (Kd.int .i64) 3 W w.heap.size (fun _ => True) v (ivs (bitsN s)) := Kd.R_of_own (by rw [ivs_length]; exact hrow) (fun _ _ => trivial)
  obtain ⟨A, c, rfl, hl, hC⟩ := Kd.R_reads hR
  have hc1 := hv.cell
  have hlt := hv.lt
  have hD' : w.heap.size ≤ D := by simp at hD; omega
  have hle : w.heap.size ≤ W.heap.size := hB.size
  have hlen8 : (ivs (bitsN s)).length ≤ 8 := by rw [ivs_length]; exact bitsN_len s
  have HO := Aside0.mk (Kd.R_of_own (enc := Value.int .i64) (h1 := fun _ => rfl) (e := 3) (xs := []) (ok := fun _ => True) (World.ownsRow_made W #[] 0 hle (by unfold maxLen; omega) rfl) (fun _ _ => trivial))
  have HR := Aside0.mk (Kd.C_alloc hC (.cells #[] 3))
  have HB := Aside0.mk (hB.alloc hle (.cells #[] 3))
  have hrow' := Aside0.mk hrow
  have hK' := Aside0.mk hK
  have hD'' := Aside0.mk hD
  clear hrow hB hK hD hs1 hs2 hR hC hl
  go_wp2_with (at_builtin; refine Kd.R_append_rows (Kd.int .i64) (w0 := w) w.heap.size rfl (.tmp 13) (.tmp 14) 24 3 (.int .i64 0) 8 rfl Tryd.underlying24 infoI rfl (by decide) (by omega) _ [] (ivs (bitsN s)) _ _ _ (fun _ => True) (fun _ => False) rfl rfl HO.out HR.out (fun _ _ h => h) (fun _ h => h.elim) (fun _ _ => trivial) HB.out (by simp; omega) (by simp; omega) ?_; intro v1 w1 ho hb hg hat)
  have hK2 : w1.heap[D]? = some (.deferred (some [])) := by
   have h1 := (Below.heap_alloc W (.cells #[] 3) D (Array.getElem?_eq_some_iff.1 hK'.out).1).trans hK'.out
   exact (hg.block D (Array.getElem?_eq_some_iff.1 h1).1 (show some D ≠ some W.heap.size from fun e => by have := (Array.getElem?_eq_some_iff.1 hK'.out).1; injection e; omega)).trans h1
  refine retM (B := w.heap.size) (fun W => Kd.R (Kd.int .i64) 3 W w.heap.size (fun _ => True) v1 (ivs (bitsN s)) ∧ Below w.heap.size w W) (OwnFrom.and (own_R _ _) (ownFrom_below (Nat.le_refl _) (Nat.le_refl _))) ⟨⟨D, rfl, hD', hK2, by simp⟩, trivial⟩ ⟨by simpa using ho, hb⟩ ?_
  rintro W' ⟨hr, hbb⟩
  exact ⟨v1, (results_tmp (t := 2) rfl _ _ _).trans rfl, v1, rfl, hr, hbb⟩
end Go.Proofs.YtajapkjplgaigaaDoor
end
section
namespace Go.Proofs.YtajapkjplgaigaaDoor.P
open Go.RowKit Go.Shelf Go.Proofs.YtajapkjplgaigaaDoorW.PrintWords Go.Proofs.YtajapkjplgaigaaDoorW.PrintLast Go.Proofs.YtajapkjplgaigaaDoorW.PrintMore
attribute [local go_sem] Oper.semAt_some
set_option linter.unusedVariables false
set_option linter.unusedSimpArgs false
abbrev TT := S39
structure Gr where
 ts : List TT
 nd : List Int
 od : List Int
 bl : List Int
 ab : List Int
def IsG (W : World) (g : Nat) (G : Gr) : Prop := ∃ A0 c0 A1 c1 A2 c2 A3 c3 A4 c4,
 W.heap[g]? = some (.cells #[.slice A0 G.ts.length c0, .slice A1 G.nd.length c1, .slice A2 G.od.length c2, .slice A3 G.bl.length c3, .slice A4 G.ab.length c4] 64 (0, 0)) ∧
 (Kd.C k39 W A0 G.ts.length G.ts ∧ G.ts.length ≤ c0) ∧ (Kd.C (Kd.int .u16) W A1 G.nd.length G.nd ∧ G.nd.length ≤ c1) ∧ (Kd.C (Kd.int .i64) W A2 G.od.length G.od ∧ G.od.length ≤ c2) ∧
 (Kd.C (Kd.int .u16) W A3 G.bl.length G.bl ∧ G.bl.length ≤ c3) ∧ (Kd.C (Kd.int .u16) W A4 G.ab.length G.ab ∧ G.ab.length ≤ c4)
theorem IsG.lt {W : World} {g : Nat} {G : Gr} (h : IsG W g G) : g < W.heap.size := by
 obtain ⟨_, _, _, _, _, _, _, _, _, _, h, _⟩ := h
 exact (Array.getElem?_eq_some_iff.1 h).1
theorem IsG.below {W W1 : World} {g : Nat} {G : Gr} (h : IsG W g G) (hb : Below W.heap.size W W1) : IsG W1 g G := by
 have hlt := h.lt
 obtain ⟨A0, c0, A1, c1, A2, c2, A3, c3, A4, c4, h, ⟨a, a'⟩, ⟨b, b'⟩, ⟨c, c'⟩, ⟨d, d'⟩, ⟨e, e'⟩⟩ := h
 exact ⟨A0, c0, A1, c1, A2, c2, A3, c3, A4, c4, (hb.block g hlt).trans h, ⟨Kd.C_below a hb, a'⟩, ⟨Kd.C_below b hb, b'⟩, ⟨Kd.C_below c hb, c'⟩, ⟨Kd.C_below d hb, d'⟩, ⟨Kd.C_below e hb, e'⟩⟩
theorem IsG.drewN {W : World} {g : Nat} {G : Gr} (h : IsG W g G) (m : Nat) : IsG (W.drewN m) g G := h
theorem box_at (W : World) (t : TypeId) (v : Value) (B : Nat) (hB : W.heap.size = B) : Boxed (W.alloc (.cells #[v] t)) B t v := hB ▸ Boxed.new W t v
def totalP (ts : List TT) (xs : List Nat) : Int := xs.foldl (fun (a : Int) (i : Nat) => wrap64 (a + (rd_T39 ts (i : Int)).f0)) 0
end Go.Proofs.YtajapkjplgaigaaDoor.P
end
section
namespace Go.Proofs.YtajapkjplgaigaaDoor.P
open Go.RowKit Go.Proofs.YtajapkjplgaigaaDoorW.PrintWords Go.Proofs.YtajapkjplgaigaaDoorW.PrintLast Go.Proofs.YtajapkjplgaigaaDoorW.PrintMore
attribute [local go_sem] max2_int min2_int max_two min_two max_three min_three max_four min_four   -- for this text's walks alone
set_option linter.unusedVariables false
set_option linter.unusedSimpArgs false
def impl_set_has.f (a0 : Int) (a1 : Int) : Option (Bool) := if 0 ≤ a1 then (some ((Go.bits .and .u16 (shr .u16 a0 a1) 1) == 1)) else (none)
set_option maxHeartbeats 8000000 in
set_option maxRecDepth 100000 in
theorem impl_set_has.calls (a0 : Int) (a1 : Int) (r : Bool) (w : World) (h : impl_set_has.f a0 a1 = some r) :
  Calls Tryd.prog 49 #[.int .u16 a0, .int .i64 a1] w fun e w' => e = .returned (.bool r) ∧ Drawn0 w w' := by
 have H : (if 0 ≤ a1 then (some ((Go.bits .and .u16 (shr .u16 a0 a1) 1) == 1)) else (none)) = some r := h
 clear h
 by_cases c3 : 0 ≤ a1
 ·rw [if_pos c3] at H
  have c3b0 := eq_true c3
  have c3b1 : decide (0 ≤ a1) = true := decide_eq_true c3
  clear c3
  obtain ⟨ji4, hji4⟩ : ∃ j_ : Int, (shr .u16 a0 a1) = j_ := ⟨_, rfl⟩
  replace H : (some ((Go.bits .and .u16 (ji4) 1) == 1)) = some r := by first | (rw [hji4] at H; exact H) | (simp only [hji4] at H ⊢; exact H)
  have hji4_ : (a0 / 2 ^ min a1.toNat 16) = ji4 := hji4
  have hji4z : a1 ≤ 16 → (a0 / 2 ^ a1.toNat) = ji4 := shr_small hji4
  obtain rfl := Option.some.inj H
  go_enter Tryd.func49, Tryd.ntmps49
  go_wp2
  go_ret
  exact ⟨by first | rfl | (simp; done) | (simp only [← hji4] <;> (first | rfl | simp)) | (simp [*]; done), by repeat (first | exact Drawn0.refl _ | apply Drawn0.step)⟩
 ·rw [if_neg c3] at H
  exact absurd H (by simp)
end Go.Proofs.YtajapkjplgaigaaDoor.P
end
section
namespace Go.Proofs.YtajapkjplgaigaaDoor.P
open Go.RowKit Go.Proofs.YtajapkjplgaigaaDoorW.PrintWords Go.Proofs.YtajapkjplgaigaaDoorW.PrintLast Go.Proofs.YtajapkjplgaigaaDoorW.PrintMore
attribute [local go_sem] max2_int min2_int max_two min_two max_three min_three max_four min_four   -- for this text's walks alone
set_option linter.unusedVariables false
set_option linter.unusedSimpArgs false
def impl_set_with.f (a0 : Int) (a1 : Int) : Option (Int) := if 0 ≤ a1 then (some (Go.bits .or .u16 a0 (shl .u16 1 a1))) else (none)
set_option maxHeartbeats 8000000 in
set_option maxRecDepth 100000 in
theorem impl_set_with.calls (a0 : Int) (a1 : Int) (r : Int) (w : World) (h : impl_set_with.f a0 a1 = some r) :
  Calls Tryd.prog 50 #[.int .u16 a0, .int .i64 a1] w fun e w' => e = .returned (.int .u16 r) ∧ Drawn0 w w' := by
 have H : (if 0 ≤ a1 then (some (Go.bits .or .u16 a0 (shl .u16 1 a1))) else (none)) = some r := h
 clear h
 by_cases c3 : 0 ≤ a1
 ·rw [if_pos c3] at H
  have c3b0 := eq_true c3
  have c3b1 : decide (0 ≤ a1) = true := decide_eq_true c3
  clear c3
  obtain ⟨ji4, hji4⟩ : ∃ j_ : Int, (shl .u16 1 a1) = j_ := ⟨_, rfl⟩
  replace H : (some (Go.bits .or .u16 a0 (ji4))) = some r := by first | (rw [hji4] at H; exact H) | (simp only [hji4] at H ⊢; exact H)
  have hji4_ : (IntKind.u16.wrap (1 * 2 ^ min a1.toNat 16)) = ji4 := hji4
  have hji4z : a1 ≤ 16 → (IntKind.u16.wrap (1 * 2 ^ a1.toNat)) = ji4 := shl_small hji4
  have hji4u : (IntKind.u16.wrap (2 ^ min a1.toNat 16)) = ji4 := by have h_ := hji4_; rw [Int.one_mul] at h_; exact h_
  have hji4v : a1 ≤ 16 → (IntKind.u16.wrap (2 ^ a1.toNat)) = ji4 := fun hle_ => by have h_ := hji4z hle_; rw [Int.one_mul] at h_; exact h_
  obtain rfl := Option.some.inj H
  go_enter Tryd.func50, Tryd.ntmps50
  go_wp2
  go_ret
  exact ⟨by first | rfl | (simp; done) | (simp only [← hji4] <;> (first | rfl | simp)) | (simp [*]; done), by repeat (first | exact Drawn0.refl _ | apply Drawn0.step)⟩
 ·rw [if_neg c3] at H
  exact absurd H (by simp)
end Go.Proofs.YtajapkjplgaigaaDoor.P
end
section
namespace Go.Proofs.YtajapkjplgaigaaDoor.P
open Go.RowKit Go.Shelf Go.Proofs.YtajapkjplgaigaaDoorW.PrintWords Go.Proofs.YtajapkjplgaigaaDoorW.PrintLast Go.Proofs.YtajapkjplgaigaaDoorW.PrintMore
set_option linter.unusedVariables false
set_option linter.unusedSimpArgs false
def hasB (a i : Int) : Bool := Go.bits .and .u16 (shr .u16 a i) 1 == 1
def withI (a i : Int) : Int := Go.bits .or .u16 a (shl .u16 1 i)
def subB (a b : Int) : Bool := Go.bits .andNot .u16 a b == 0
theorem hasB_calls (a i : Int) (h : 0 ≤ i) (w : World) : Calls Tryd.prog 49 #[.int .u16 a, .int .i64 i] w fun e w' => e = .returned (.bool (hasB a i)) ∧ Drawn0 w w' :=
 impl_set_has.calls a i _ w (by unfold impl_set_has.f; rw [if_pos h]; rfl)
theorem withI_calls (a i : Int) (h : 0 ≤ i) (w : World) : Calls Tryd.prog 50 #[.int .u16 a, .int .i64 i] w fun e w' => e = .returned (.int .u16 (withI a i)) ∧ Drawn0 w w' :=
 impl_set_with.calls a i _ w (by unfold impl_set_with.f; rw [if_pos h]; rfl)
def readyStep (nd : List Int) (done : Int) (out : Int) (i : Nat) : Int := if !(hasB done (i : Int)) && subB (rd nd (i : Int)) done then withI out (i : Int) else out
def readyP (nd : List Int) (done : Int) : Int := (List.range nd.length).foldl (readyStep nd done) 0
set_option maxRecDepth 100000 in
set_option maxHeartbeats 4000000 in
theorem ready_calls (g : Nat) (G : Gr) (done : Int) (w : World) (hG : IsG w g G) (hlen : G.nd.length < 17592186044416) :
  Calls Tryd.prog 46 #[.pointer (some ⟨g, 0, none⟩), .int .u16 done] w fun e w' => e = .returned (.int .u16 (readyP G.nd done)) ∧ Drawn0 w w' := by
 obtain ⟨A0, c0, A1, c1, A2, c2, A3, c3, A4, c4, hblk, _, ⟨hC1, hl1⟩, _⟩ := hG
 have hg1 : w.cell? ⟨g, 1, none⟩ = some (.slice A1 G.nd.length c1) := (blk_cell hblk 1).trans rfl
 have hC := Aside0.mk hC1
 clear hblk hC1
 go_enter Tryd.func46, Tryd.ntmps46
 go_wp2
 go_loopg [5, 13] G.nd.length (fun kq v5 v13 W => ∃ j m : Nat, v13 = .int .i64 j ∧ v5 = .int .u16 (((List.range j).foldl (readyStep G.nd done) 0)) ∧ Aside0 (kq + j = G.nd.length) ∧ W = w.drewN m)
 case atStart => exact ⟨0, 0, rfl, rfl, ⟨rfl⟩, rfl⟩
 case round =>
  obtain ⟨j, m, rfl, rfl, hk, rfl⟩ := hrel
  by_cases hj : j < G.nd.length
  ·obtain ⟨adn, rfl, hxn⟩ := Kd.at_int hC.out (j : Int) (by omega) (by omega)
   simp only [Int.toNat_natCast] at hxn
   obtain ⟨o, ho⟩ : ∃ o, (List.range j).foldl (readyStep G.nd done) 0 = o := ⟨_, rfl⟩
   have hst : (List.range (j + 1)).foldl (readyStep G.nd done) 0 = readyStep G.nd done o j := by rw [List.range_succ, List.foldl_append, ho]; rfl
   have hst' := Aside0.mk hst
   rw [ho]
   clear hst ho
   cases hb : hasB done (j : Int) with
   | true =>
    have hc := hasB_calls done (j : Int) (by omega) (w.drewN m)
    rw [hb] at hc
    have hc' := Aside0.mk hc
    have hb' := Aside0.mk hb
    clear hc hb
    go_wp2_with (go_at_call 49; refine hc'.out.mono ?_; rintro e w1 ⟨rfl, ⟨nd1, rfl⟩⟩)
    go_roundg (gk - 1)
    case measure => have := hk.out; omega
    case rel => exact ⟨j + 1, m + nd1, by go_num, by rw [hst'.out]; simp [readyStep, hb'.out], ⟨by have := hk.out; omega⟩, by first | rfl | exact World.drewN_congr (by omega)⟩
   | false =>
    have hc := hasB_calls done (j : Int) (by omega) (w.drewN m)
    rw [hb] at hc
    have hc' := Aside0.mk hc
    have hb' := Aside0.mk hb
    clear hc hb
    cases hs : subB (rd G.nd (j : Int)) done with
    | true =>
     have hs' := Aside0.mk hs
     have hs2 : (Go.bits .andNot .u16 (rd G.nd (j : Int)) done == 0) = true := hs
     have hw := Aside0.mk (fun W => withI_calls o (j : Int) (by omega) W)
     clear hs
     go_wp2_with (first | (go_at_call 49; refine hc'.out.mono ?_; rintro e w1 ⟨rfl, ⟨nd1, rfl⟩⟩) | (go_at_call 50; refine (hw.out _).mono ?_; rintro e w1 ⟨rfl, ⟨nd2, rfl⟩⟩))
     go_roundg (gk - 1)
     case measure => have := hk.out; omega
     case rel => exact ⟨j + 1, m + nd1 + nd2, by go_num, by rw [hst'.out]; simp [readyStep, hb'.out, hs'.out], ⟨by have := hk.out; omega⟩, by first | rfl | exact World.drewN_congr (by omega)⟩
    | false =>
     have hs' := Aside0.mk hs
     have hs2 : (Go.bits .andNot .u16 (rd G.nd (j : Int)) done == 0) = false := hs
     clear hs
     go_wp2_with (go_at_call 49; refine hc'.out.mono ?_; rintro e w1 ⟨rfl, ⟨nd1, rfl⟩⟩)
     go_roundg (gk - 1)
     case measure => have := hk.out; omega
     case rel => exact ⟨j + 1, m + nd1, by go_num, by rw [hst'.out]; simp [readyStep, hb'.out, hs'.out], ⟨by have := hk.out; omega⟩, by first | rfl | exact World.drewN_congr (by omega)⟩
  ·obtain rfl : j = G.nd.length := by have := hk.out; omega
   go_wp2
   go_ret
   exact ⟨rfl, ⟨m, rfl⟩⟩
end Go.Proofs.YtajapkjplgaigaaDoor.P
end
section
namespace Go.Proofs.YtajapkjplgaigaaDoor.P
open Go.RowKit Go.Shelf Go.Proofs.YtajapkjplgaigaaDoorW.PrintWords Go.Proofs.YtajapkjplgaigaaDoorW.PrintLast Go.Proofs.YtajapkjplgaigaaDoorW.PrintMore
set_option linter.unusedVariables false
set_option linter.unusedSimpArgs false
theorem infoS : (Tryd.prog.info? 51).map (fun i => (i.zero, i.size, i.bytes)) = some (some (.int .u16 0), 1, 2) := by kernel_rfl
theorem infoPG : (Tryd.prog.info? 49).map (fun i => (i.zero, i.size, i.bytes)) = some (some (.pointer none), 1, 8) := by kernel_rfl
theorem mk_sets (n : Nat) (hn : n ≤ 8) (W : World) : (Instr.makeSlice 62 (.int .i64 (n : Int)) (.int .i64 (n : Int))).run Tryd.prog W = .ok (.slice (some ⟨W.heap.size, 0, none⟩) n n) (W.alloc (.cells (Array.replicate n (.int .u16 0)) 51)) := by
 obtain ⟨i0, hi, hz0, hz1, hz2⟩ := info_parts infoS
 have h := run_make (P := Tryd.prog) W 62 51 i0 (.int .u16 0) Tryd.underlying62 hi hz0 .i64 .i64 (n : Int) (n : Int) (by omega) (by omega) (by rw [hz2]; omega) (by omega)
 rw [hz1] at h
 simp only [Int.toNat_natCast] at h
 rw [h]
 have : madeCells (Value.int IntKind.u16 0).cells (n * 1) = Array.replicate n (.int .u16 0) := by
  have e := toList_madeCells_one (.int .u16 0) n
  apply Array.toList_inj.1
  rw [Nat.mul_one, Array.toList_replicate]
  exact e
 rw [this]
section
variable {P : Program} {ops : Array Oper} {Q : Exit → Act → World → Prop} {B : List Nat} {O : List Nat} {I : (Nat → Bool) → Act → World → Prop}
theorem step_val {i : Nat} {oi : Oper} (t : Tmp) (hi : ops[i]? = some oi) (hg : oi.guard = none) (hd : oi.dst = some t)
  (h : ∀ b a w, I b a w → b i = false → (∀ j, (O.contains j && (B.getD i 0).testBit j) = true → b j = true) → (∀ d, (O.contains d && (B.getD d 0).testBit i) = true → b d = false) →
   ∃ v w1, (execOp a.eval oi).run P w = .ok (.value v) w1 ∧ I (up b i) (a.put (some t) v) w1) : StepAt P ops Q B O I i := by
 intro b a w hI hb h1 h2
 obtain ⟨v, w1, hr, hI1⟩ := h b a w hI hb h1 h2
 refine ⟨oi, hi, fun K hK => ?_⟩
 rw [hd]
 exact value_ (by simp [Region.wanted, hg]) hd hr (hK.out _ _ hI1)
theorem step_skip {i : Nat} {oi : Oper} (hi : ops[i]? = some oi) (hg : oi.guard = none) (hd : oi.dst = none)
  (h : ∀ b a w, I b a w → b i = false → (∀ j, (O.contains j && (B.getD i 0).testBit j) = true → b j = true) → (∀ d, (O.contains d && (B.getD d 0).testBit i) = true → b d = false) →
   ∃ w1, (execOp a.eval oi).run P w = .ok .skip w1 ∧ I (up b i) a w1) : StepAt P ops Q B O I i := by
 intro b a w hI hb h1 h2
 obtain ⟨w1, hr, hI1⟩ := h b a w hI hb h1 h2
 refine ⟨oi, hi, fun K hK => ?_⟩
 rw [hd]
 exact skip_ (by simp [Region.wanted, hg]) hd hr (hK.out _ _ hI1)
variable {e : Operand → Value} {oi : Oper} {x y : Operand} {w w1 : World} {v : Value}
theorem op_move (ho : oi.op = .move x) (hx : e x = v) : (execOp e oi).run P w = .ok (.value v) w := by simp [execOp, ho, hx]
theorem op_len {A : Option Addr} {n c : Nat} (t t' : TypeId) (ht : P.underlying t = some (.slice t')) (ho : oi.op = .call { callee := .builtin .len, args := #[x], argTypes := #[t] }) (hx : e x = .slice A n c) : (execOp e oi).run P w = .ok (.value (.int .i64 (n : Int))) w := by
 simp [execOp, ho, hx, resolve, invoke, builtin, Builtin.len_, run_underlying ht, goInt]
theorem op_mkslice {t : TypeId} (ho : oi.op = .makeSlice t x y) (h : (Instr.makeSlice t (e x) (e y)).run P w = .ok v w1) : (execOp e oi).run P w = .ok (.value v) w1 := by simp [execOp, ho, h]
theorem op_build {t : TypeId} {ps : Array (Nat × Operand)} (ho : oi.op = .build t ps) (h : (Instr.build t (ps.map fun x => (x.1, e x.2))).run P w = .ok v w1) : (execOp e oi).run P w = .ok (.value v) w1 := by simp [execOp, ho, h]
theorem op_box {t : TypeId} (ho : oi.op = .box t x) (h : (Instr.box t (e x)).run P w = .ok v w1) : (execOp e oi).run P w = .ok (.value v) w1 := by simp [execOp, ho, h]
theorem op_alloc {t : TypeId} (ho : oi.op = .alloc t) (h : (Instr.alloc t true (.tuple #[])).run P w = .ok v w1) : (execOp e oi).run P w = .ok (.value v) w1 := by simp [execOp, ho, h]
theorem op_store {t : TypeId} {u : Unit} (ho : oi.op = .store t x y) (h : (Instr.storeAt t (e x) (e y)).run P w = .ok u w1) : (execOp e oi).run P w = .ok .skip w1 := by simp [execOp, ho, h]
end
abbrev slv (b n : Nat) : Value := .slice (some ⟨b, 0, none⟩) n n
def L7 (V0 : Value) (V1 V2 : Value) (n b1 b2 b3 b4 : Nat) (v9 : Value) : List (Nat × Tmp × Value) :=
 [(0, 30, V0), (1, 31, V1), (2, 32, V2), (3, 33, V0), (4, 34, .int .i64 (n : Int)), (5, 35, slv b1 n), (6, 36, V0), (7, 37, .int .i64 (n : Int)), (8, 38, slv b2 n), (9, 39, v9), (10, 40, .pointer (some ⟨b3, 0, none⟩)), (11, 8, .pointer (some ⟨b4, 0, none⟩))]
def zrow (n : Nat) : Obj := .cells (Array.replicate n (.int .u16 0)) 51 (0, 0)
structure F7 (V0 V1 V2 : Value) (n : Nat) (w0 : World) (b : Nat → Bool) (w : World) (b1 b2 b3 b4 : Nat) (v9 : Value) : Prop where
 h9 : b 9 = true → v9 = .agg #[V0, V1, V2, slv b1 n, slv b2 n]
 bel : Below w0.heap.size w0 w
 h1 : b 5 = true → w.heap[b1]? = some (zrow n)
 h2 : b 8 = true → w.heap[b2]? = some (zrow n)
 ne : b 5 = true → b 8 = true → b1 ≠ b2
 h3 : b 10 = true → w.heap[b3]? = some (.cells #[V0, V1, V2, slv b1 n, slv b2 n] 64 (0, 0))
 h4 : b 11 = true → b 12 = false → w.heap[b4]? = some (.cells #[.pointer none] 49 (0, 0))
 h5 : b 12 = true → w.heap[b4]? = some (.cells #[.pointer (some ⟨b3, 0, none⟩)] 49 (0, 0))
 g1 : b 5 = true → w0.heap.size ≤ b1
 g2 : b 8 = true → w0.heap.size ≤ b2
 g3 : b 10 = true → w0.heap.size ≤ b3
 g4 : b 11 = true → w0.heap.size ≤ b4
def I7 (V0 V1 V2 : Value) (n : Nat) (w0 : World) (a0 : Act) (b : Nat → Bool) (a : Act) (w : World) : Prop := ∃ b1 b2 b3 b4 v9, a = putSel a0 b (L7 V0 V1 V2 n b1 b2 b3 b4 v9) ∧ F7 V0 V1 V2 n w0 b w b1 b2 b3 b4 v9
theorem F7.same {V0 V1 V2 : Value} {n : Nat} {w0 w : World} {b : Nat → Bool} {b1 b2 b3 b4 : Nat} {v9 : Value} (h : F7 V0 V1 V2 n w0 b w b1 b2 b3 b4 v9) {i : Nat} (hi : i ≠ 5 ∧ i ≠ 8 ∧ i ≠ 9 ∧ i ≠ 10 ∧ i ≠ 11 ∧ i ≠ 12) : F7 V0 V1 V2 n w0 (up b i) w b1 b2 b3 b4 v9 := by
 obtain ⟨i5, i8, i9, i10, i11, i12⟩ := hi
 have e9 := up_ne (b := b) (Ne.symm i9)
 have e5 := up_ne (b := b) (Ne.symm i5)
 have e8 := up_ne (b := b) (Ne.symm i8)
 have e10 := up_ne (b := b) (Ne.symm i10)
 have e11 := up_ne (b := b) (Ne.symm i11)
 have e12 := up_ne (b := b) (Ne.symm i12)
 exact ⟨by rw [e9]; exact h.h9, h.bel, by rw [e5]; exact h.h1, by rw [e8]; exact h.h2, by rw [e5, e8]; exact h.ne, by rw [e10]; exact h.h3, by rw [e11, e12]; exact h.h4, by rw [e12]; exact h.h5, by rw [e5]; exact h.g1, by rw [e8]; exact h.g2, by rw [e10]; exact h.g3, by rw [e11]; exact h.g4⟩
set_option maxRecDepth 100000 in
set_option maxHeartbeats 4000000 in
theorem region7 (A0 A1 A2 : Option Addr) (n n1 n2 c0 c1 c2 : Nat) (a0 : Act) (hsz : 97 ≤ a0.tmps.size) (e0 : a0.tmps[0]? = some (.slice A0 n c0)) (e4 : a0.tmps[4]? = some (.slice A1 n1 c1)) (e6 : a0.tmps[6]? = some (.slice A2 n2 c2)) (hn : n ≤ 8) (w0 w : World) (hw : Below w0.heap.size w0 w)
  (Q : Exit → Act → World → Prop) (hQ : ∀ a' w', I7 (.slice A0 n c0) (.slice A1 n1 c1) (.slice A2 n2 c2) n w0 a0 (fun _ => true) a' w' → Q .normal a' w') :
  (Code.region 7 (opsOf Tryd.f58 7) true).wp Tryd.prog Q a0 w := by
 refine start_ (n := 13) (S := fun _ => True) (ds := []) #[false, false, false, false, false, false, false, false, false, false, false, false, false] (by kernel_rfl) rfl rfl trivial (fun _ => ?_)
 refine inv_ (T := (true, [([], []), ([], []), ([], []), ([], []), ([3], [3]), ([4, 4], [4]), ([], []), ([6], [6]), ([7, 7], [7]), ([0, 1, 2, 5, 8], [0, 1, 2, 5, 8]), ([9], [9]), ([], []), ([11, 10, 0, 1, 2, 3, 4, 5, 6, 7, 8, 9, 10, 11], [10, 11])])) (B := [0, 0, 0, 0, 8, 24, 0, 64, 192, 511, 1023, 0, 4095]) [0, 1, 2, 3, 4, 5, 6, 7, 8, 9, 10, 11, 12]
  (I7 (.slice A0 n c0) (.slice A1 n1 c1) (.slice A2 n2 c2) n w0 a0) (by kernel_rfl) (by kernel_rfl) (by kernel_rfl) (by kernel_rfl) ?h0 ?hs ?hend
 case h0 => exact ⟨0, 0, 0, 0, undef, rfl, ⟨fun h => (by cases h), hw.drew, fun h => (by cases h), fun h => (by cases h), fun h => (by cases h), fun h => (by cases h), fun h => (by cases h), fun h => (by cases h), fun h => (by cases h), fun h => (by cases h), fun h => (by cases h), fun h => (by cases h)⟩⟩
 case hend =>
  rintro b a w h ⟨b1, b2, b3, b4, v9, ha, hF⟩
  have q : ∀ j, j < 13 → b j = true := by
   intro j hj
   refine h j ?_
   have : j = 0 ∨ j = 1 ∨ j = 2 ∨ j = 3 ∨ j = 4 ∨ j = 5 ∨ j = 6 ∨ j = 7 ∨ j = 8 ∨ j = 9 ∨ j = 10 ∨ j = 11 ∨ j = 12 := by omega
   rcases this with rfl | rfl | rfl | rfl | rfl | rfl | rfl | rfl | rfl | rfl | rfl | rfl | rfl <;> rfl
  refine hQ a w ⟨b1, b2, b3, b4, v9, ?_, ⟨fun _ => hF.h9 (q 9 (by omega)), hF.bel, fun _ => hF.h1 (q 5 (by omega)), fun _ => hF.h2 (q 8 (by omega)), fun _ _ => hF.ne (q 5 (by omega)) (q 8 (by omega)), fun _ => hF.h3 (q 10 (by omega)), fun _ h => (by cases h), fun _ => hF.h5 (q 12 (by omega)), fun _ => hF.g1 (q 5 (by omega)), fun _ => hF.g2 (q 8 (by omega)), fun _ => hF.g3 (q 10 (by omega)), fun _ => hF.g4 (q 11 (by omega))⟩⟩
  rw [ha]
  simp only [L7, putSel, q 0 (by omega), q 1 (by omega), q 2 (by omega), q 3 (by omega), q 4 (by omega), q 5 (by omega), q 6 (by omega), q 7 (by omega), q 8 (by omega), q 9 (by omega), q 10 (by omega), q 11 (by omega)]
 case hs =>
  refine steps_cons (step_val 30 rfl rfl rfl ?s0) (steps_cons (step_val 31 rfl rfl rfl ?s1) (steps_cons (step_val 32 rfl rfl rfl ?s2) (steps_cons (step_val 33 rfl rfl rfl ?s3) (steps_cons (step_val 34 rfl rfl rfl ?s4) (steps_cons (step_val 35 rfl rfl rfl ?s5) (steps_cons (step_val 36 rfl rfl rfl ?s6) (steps_cons (step_val 37 rfl rfl rfl ?s7) (steps_cons (step_val 38 rfl rfl rfl ?s8) (steps_cons (step_val 39 rfl rfl rfl ?s9) (steps_cons (step_val 40 rfl rfl rfl ?s10) (steps_cons (step_val 8 rfl rfl rfl ?s11) (steps_cons (step_skip rfl rfl rfl ?s12) steps_nil))))))))))))
  case s0 =>
   rintro b a w ⟨b1, b2, b3, b4, v9, rfl, hF⟩ hb d1 d2
   have v0 : (putSel a0 b (L7 (.slice A0 n c0) (.slice A1 n1 c1) (.slice A2 n2 c2) n b1 b2 b3 b4 v9)).eval (.tmp 0) = .slice A0 n c0 := eval_of ((putSel_off rfl).trans e0)
   exact ⟨_, w, op_move rfl v0, b1, b2, b3, b4, v9, putSel_upk 0 hb rfl rfl rfl, hF.same (by decide)⟩
  case s1 =>
   rintro b a w ⟨b1, b2, b3, b4, v9, rfl, hF⟩ hb d1 d2
   have v0 : (putSel a0 b (L7 (.slice A0 n c0) (.slice A1 n1 c1) (.slice A2 n2 c2) n b1 b2 b3 b4 v9)).eval (.tmp 4) = .slice A1 n1 c1 := eval_of ((putSel_off rfl).trans e4)
   exact ⟨_, w, op_move rfl v0, b1, b2, b3, b4, v9, putSel_upk 1 hb rfl rfl rfl, hF.same (by decide)⟩
  case s2 =>
   rintro b a w ⟨b1, b2, b3, b4, v9, rfl, hF⟩ hb d1 d2
   have v0 : (putSel a0 b (L7 (.slice A0 n c0) (.slice A1 n1 c1) (.slice A2 n2 c2) n b1 b2 b3 b4 v9)).eval (.tmp 6) = .slice A2 n2 c2 := eval_of ((putSel_off rfl).trans e6)
   exact ⟨_, w, op_move rfl v0, b1, b2, b3, b4, v9, putSel_upk 2 hb rfl rfl rfl, hF.same (by decide)⟩
  case s3 =>
   rintro b a w ⟨b1, b2, b3, b4, v9, rfl, hF⟩ hb d1 d2
   have v0 : (putSel a0 b (L7 (.slice A0 n c0) (.slice A1 n1 c1) (.slice A2 n2 c2) n b1 b2 b3 b4 v9)).eval (.tmp 0) = .slice A0 n c0 := eval_of ((putSel_off rfl).trans e0)
   exact ⟨_, w, op_move rfl v0, b1, b2, b3, b4, v9, putSel_upk 3 hb rfl rfl rfl, hF.same (by decide)⟩
  case s6 =>
   rintro b a w ⟨b1, b2, b3, b4, v9, rfl, hF⟩ hb d1 d2
   have v0 : (putSel a0 b (L7 (.slice A0 n c0) (.slice A1 n1 c1) (.slice A2 n2 c2) n b1 b2 b3 b4 v9)).eval (.tmp 0) = .slice A0 n c0 := eval_of ((putSel_off rfl).trans e0)
   exact ⟨_, w, op_move rfl v0, b1, b2, b3, b4, v9, putSel_upk 6 hb rfl rfl rfl, hF.same (by decide)⟩
  case s4 =>
   rintro b a w ⟨b1, b2, b3, b4, v9, rfl, hF⟩ hb d1 d2
   have v0 : (putSel a0 b (L7 (.slice A0 n c0) (.slice A1 n1 c1) (.slice A2 n2 c2) n b1 b2 b3 b4 v9)).eval (.tmp 33) = .slice A0 n c0 := eval_of (putSel_on (e := (3, 33, .slice A0 n c0)) 3 rfl rfl (d1 3 (by decide)) (Nat.ble_eq_true_of_le (Nat.le_trans (show 33 + 1 ≤ 97 by decide) hsz)))
   exact ⟨.int .i64 (n : Int), w, op_len 23 39 Tryd.underlying23 rfl v0, b1, b2, b3, b4, v9, putSel_upk 4 hb rfl rfl rfl, hF.same (by decide)⟩
  case s7 =>
   rintro b a w ⟨b1, b2, b3, b4, v9, rfl, hF⟩ hb d1 d2
   have v0 : (putSel a0 b (L7 (.slice A0 n c0) (.slice A1 n1 c1) (.slice A2 n2 c2) n b1 b2 b3 b4 v9)).eval (.tmp 36) = .slice A0 n c0 := eval_of (putSel_on (e := (6, 36, .slice A0 n c0)) 6 rfl rfl (d1 6 (by decide)) (Nat.ble_eq_true_of_le (Nat.le_trans (show 36 + 1 ≤ 97 by decide) hsz)))
   exact ⟨.int .i64 (n : Int), w, op_len 23 39 Tryd.underlying23 rfl v0, b1, b2, b3, b4, v9, putSel_upk 7 hb rfl rfl rfl, hF.same (by decide)⟩
  case s5 =>
   rintro b a w ⟨b1, b2, b3, b4, v9, rfl, hF⟩ hb d1 d2
   have u34 : (putSel a0 b (L7 (.slice A0 n c0) (.slice A1 n1 c1) (.slice A2 n2 c2) n b1 b2 b3 b4 v9)).eval (.tmp 34) = .int .i64 (n : Int) := eval_of (putSel_on (e := (4, 34, .int .i64 (n : Int))) 4 rfl rfl (d1 4 (by decide)) (Nat.ble_eq_true_of_le (Nat.le_trans (show 34 + 1 ≤ 97 by decide) hsz)))
   have keep : ∀ {x o}, w.heap[x]? = some o → (w.alloc (zrow n)).heap[x]? = some o := fun h => (Below.heap_alloc w _ _ (Array.getElem?_eq_some_iff.1 h).1).trans h
   have hsz2 : w0.heap.size ≤ w.heap.size := hF.bel.size
   refine ⟨slv w.heap.size n, w.alloc (zrow n), op_mkslice rfl (by rw [u34]; exact mk_sets n hn w), w.heap.size, b2, b3, b4, v9, putSel_upk 5 hb rfl rfl rfl, ?_⟩
   exact ⟨fun q => (by rw [up_ne (show 9 ≠ 5 by decide), d2 9 (by decide)] at q; cases q), hF.bel.alloc hsz2 _, fun _ => World.alloc_heap_new w _, by rw [up_ne (show 8 ≠ 5 by decide)]; exact fun q => keep (hF.h2 q), fun q1 q2 => (Nat.ne_of_gt (Array.getElem?_eq_some_iff.1 (hF.h2 (by rw [up_ne (show 8 ≠ 5 by decide)] at q2; exact q2))).1), fun q => (by rw [up_ne (show 10 ≠ 5 by decide), d2 10 (by decide)] at q; cases q), by rw [up_ne (show 11 ≠ 5 by decide), up_ne (show 12 ≠ 5 by decide)]; exact fun q q' => keep (hF.h4 q q'), fun q => (by rw [up_ne (show 12 ≠ 5 by decide), d2 12 (by decide)] at q; cases q), fun _ => hsz2, by rw [up_ne (show 8 ≠ 5 by decide)]; exact hF.g2, fun q => (by rw [up_ne (show 10 ≠ 5 by decide), d2 10 (by decide)] at q; cases q), by rw [up_ne (show 11 ≠ 5 by decide)]; exact hF.g4⟩
  case s8 =>
   rintro b a w ⟨b1, b2, b3, b4, v9, rfl, hF⟩ hb d1 d2
   have u37 : (putSel a0 b (L7 (.slice A0 n c0) (.slice A1 n1 c1) (.slice A2 n2 c2) n b1 b2 b3 b4 v9)).eval (.tmp 37) = .int .i64 (n : Int) := eval_of (putSel_on (e := (7, 37, .int .i64 (n : Int))) 7 rfl rfl (d1 7 (by decide)) (Nat.ble_eq_true_of_le (Nat.le_trans (show 37 + 1 ≤ 97 by decide) hsz)))
   have keep : ∀ {x o}, w.heap[x]? = some o → (w.alloc (zrow n)).heap[x]? = some o := fun h => (Below.heap_alloc w _ _ (Array.getElem?_eq_some_iff.1 h).1).trans h
   have hsz2 : w0.heap.size ≤ w.heap.size := hF.bel.size
   refine ⟨slv w.heap.size n, w.alloc (zrow n), op_mkslice rfl (by rw [u37]; exact mk_sets n hn w), b1, w.heap.size, b3, b4, v9, putSel_upk 8 hb rfl rfl rfl, ?_⟩
   exact ⟨fun q => (by rw [up_ne (show 9 ≠ 8 by decide), d2 9 (by decide)] at q; cases q), hF.bel.alloc hsz2 _, by rw [up_ne (show 5 ≠ 8 by decide)]; exact fun q => keep (hF.h1 q), fun _ => World.alloc_heap_new w _, fun q1 q2 => (Nat.ne_of_lt (Array.getElem?_eq_some_iff.1 (hF.h1 (by rw [up_ne (show 5 ≠ 8 by decide)] at q1; exact q1))).1), fun q => (by rw [up_ne (show 10 ≠ 8 by decide), d2 10 (by decide)] at q; cases q), by rw [up_ne (show 11 ≠ 8 by decide), up_ne (show 12 ≠ 8 by decide)]; exact fun q q' => keep (hF.h4 q q'), fun q => (by rw [up_ne (show 12 ≠ 8 by decide), d2 12 (by decide)] at q; cases q), by rw [up_ne (show 5 ≠ 8 by decide)]; exact hF.g1, fun _ => hsz2, fun q => (by rw [up_ne (show 10 ≠ 8 by decide), d2 10 (by decide)] at q; cases q), by rw [up_ne (show 11 ≠ 8 by decide)]; exact hF.g4⟩
  case s9 =>
   rintro b a w ⟨b1, b2, b3, b4, v9, rfl, hF⟩ hb d1 d2
   have u30 : (putSel a0 b (L7 (.slice A0 n c0) (.slice A1 n1 c1) (.slice A2 n2 c2) n b1 b2 b3 b4 v9)).eval (.tmp 30) = .slice A0 n c0 := eval_of (putSel_on (e := (0, 30, .slice A0 n c0)) 0 rfl rfl (d1 0 (by decide)) (Nat.ble_eq_true_of_le (Nat.le_trans (show 30 + 1 ≤ 97 by decide) hsz)))
   have u31 : (putSel a0 b (L7 (.slice A0 n c0) (.slice A1 n1 c1) (.slice A2 n2 c2) n b1 b2 b3 b4 v9)).eval (.tmp 31) = .slice A1 n1 c1 := eval_of (putSel_on (e := (1, 31, .slice A1 n1 c1)) 1 rfl rfl (d1 1 (by decide)) (Nat.ble_eq_true_of_le (Nat.le_trans (show 31 + 1 ≤ 97 by decide) hsz)))
   have u32 : (putSel a0 b (L7 (.slice A0 n c0) (.slice A1 n1 c1) (.slice A2 n2 c2) n b1 b2 b3 b4 v9)).eval (.tmp 32) = .slice A2 n2 c2 := eval_of (putSel_on (e := (2, 32, .slice A2 n2 c2)) 2 rfl rfl (d1 2 (by decide)) (Nat.ble_eq_true_of_le (Nat.le_trans (show 32 + 1 ≤ 97 by decide) hsz)))
   have u35 : (putSel a0 b (L7 (.slice A0 n c0) (.slice A1 n1 c1) (.slice A2 n2 c2) n b1 b2 b3 b4 v9)).eval (.tmp 35) = slv b1 n := eval_of (putSel_on (e := (5, 35, slv b1 n)) 5 rfl rfl (d1 5 (by decide)) (Nat.ble_eq_true_of_le (Nat.le_trans (show 35 + 1 ≤ 97 by decide) hsz)))
   have u38 : (putSel a0 b (L7 (.slice A0 n c0) (.slice A1 n1 c1) (.slice A2 n2 c2) n b1 b2 b3 b4 v9)).eval (.tmp 38) = slv b2 n := eval_of (putSel_on (e := (8, 38, slv b2 n)) 8 rfl rfl (d1 8 (by decide)) (Nat.ble_eq_true_of_le (Nat.le_trans (show 38 + 1 ≤ 97 by decide) hsz)))
   refine ⟨.agg #[.slice A0 n c0, .slice A1 n1 c1, .slice A2 n2 c2, slv b1 n, slv b2 n], w, op_build rfl ?_, b1, b2, b3, b4, _, putSel_upk 9 hb rfl rfl rfl, ?_⟩
   ·simp only [List.map_toArray, List.map_cons, List.map_nil, u30, u31, u32, u35, u38]
    exact Go.run_build _ _ _ _ (by kernel_rfl)
   ·exact ⟨fun _ => rfl, hF.bel, by rw [up_ne (show 5 ≠ 9 by decide)]; exact hF.h1, by rw [up_ne (show 8 ≠ 9 by decide)]; exact hF.h2, by rw [up_ne (show 5 ≠ 9 by decide), up_ne (show 8 ≠ 9 by decide)]; exact hF.ne, by rw [up_ne (show 10 ≠ 9 by decide)]; exact hF.h3, by rw [up_ne (show 11 ≠ 9 by decide), up_ne (show 12 ≠ 9 by decide)]; exact hF.h4, by rw [up_ne (show 12 ≠ 9 by decide)]; exact hF.h5, by rw [up_ne (show 5 ≠ 9 by decide)]; exact hF.g1, by rw [up_ne (show 8 ≠ 9 by decide)]; exact hF.g2, by rw [up_ne (show 10 ≠ 9 by decide)]; exact hF.g3, by rw [up_ne (show 11 ≠ 9 by decide)]; exact hF.g4⟩
  case s10 =>
   rintro b a w ⟨b1, b2, b3, b4, v9, rfl, hF⟩ hb d1 d2
   have q9 := d1 9 (by decide)
   have u39 : (putSel a0 b (L7 (.slice A0 n c0) (.slice A1 n1 c1) (.slice A2 n2 c2) n b1 b2 b3 b4 v9)).eval (.tmp 39) = v9 := eval_of (putSel_on (e := (9, 39, v9)) 9 rfl rfl q9 (Nat.ble_eq_true_of_le (Nat.le_trans (show 39 + 1 ≤ 97 by decide) hsz)))
   have keep : ∀ {x o}, w.heap[x]? = some o → (w.alloc (.cells #[.slice A0 n c0, .slice A1 n1 c1, .slice A2 n2 c2, slv b1 n, slv b2 n] 64 (0, 0))).heap[x]? = some o := fun h => (Below.heap_alloc w _ _ (Array.getElem?_eq_some_iff.1 h).1).trans h
   have hsz2 : w0.heap.size ≤ w.heap.size := hF.bel.size
   refine ⟨.pointer (some ⟨w.heap.size, 0, none⟩), w.alloc (.cells #[.slice A0 n c0, .slice A1 n1 c1, .slice A2 n2 c2, slv b1 n, slv b2 n] 64 (0, 0)), op_box rfl (by rw [u39, hF.h9 q9]; simp [Instr.box, newVar, newRow, Value.cells]), b1, b2, w.heap.size, b4, v9, putSel_upk 10 hb rfl rfl rfl, ?_⟩
   exact ⟨by rw [up_ne (show 9 ≠ 10 by decide)]; exact hF.h9, hF.bel.alloc hsz2 _, by rw [up_ne (show 5 ≠ 10 by decide)]; exact fun q => keep (hF.h1 q), by rw [up_ne (show 8 ≠ 10 by decide)]; exact fun q => keep (hF.h2 q), by rw [up_ne (show 5 ≠ 10 by decide), up_ne (show 8 ≠ 10 by decide)]; exact hF.ne, fun _ => World.alloc_heap_new w _, by rw [up_ne (show 11 ≠ 10 by decide), up_ne (show 12 ≠ 10 by decide)]; exact fun q q' => keep (hF.h4 q q'), fun q => (by rw [up_ne (show 12 ≠ 10 by decide), d2 12 (by decide)] at q; cases q), by rw [up_ne (show 5 ≠ 10 by decide)]; exact hF.g1, by rw [up_ne (show 8 ≠ 10 by decide)]; exact hF.g2, fun _ => hsz2, by rw [up_ne (show 11 ≠ 10 by decide)]; exact hF.g4⟩
  case s11 =>
   rintro b a w ⟨b1, b2, b3, b4, v9, rfl, hF⟩ hb d1 d2
   have keep : ∀ {x o}, w.heap[x]? = some o → (w.alloc (.cells #[.pointer none] 49 (0, 0))).heap[x]? = some o := fun h => (Below.heap_alloc w _ _ (Array.getElem?_eq_some_iff.1 h).1).trans h
   have hsz2 : w0.heap.size ≤ w.heap.size := hF.bel.size
   refine ⟨.pointer (some ⟨w.heap.size, 0, none⟩), w.alloc (.cells #[.pointer none] 49 (0, 0)), op_alloc rfl ?_, b1, b2, b3, w.heap.size, v9, putSel_upk 11 hb rfl rfl rfl, ?_⟩
   ·obtain ⟨i0, hi, hz0, hz1, hz2⟩ := info_parts infoPG
    simp [Instr.alloc, zeroValue, typeInfo, hi, hz0, newVar, newRow, Value.cells]
   ·exact ⟨by rw [up_ne (show 9 ≠ 11 by decide)]; exact hF.h9, hF.bel.alloc hsz2 _, by rw [up_ne (show 5 ≠ 11 by decide)]; exact fun q => keep (hF.h1 q), by rw [up_ne (show 8 ≠ 11 by decide)]; exact fun q => keep (hF.h2 q), by rw [up_ne (show 5 ≠ 11 by decide), up_ne (show 8 ≠ 11 by decide)]; exact hF.ne, by rw [up_ne (show 10 ≠ 11 by decide)]; exact fun q => keep (hF.h3 q), fun _ _ => World.alloc_heap_new w _, fun q => (by rw [up_ne (show 12 ≠ 11 by decide), d2 12 (by decide)] at q; cases q), by rw [up_ne (show 5 ≠ 11 by decide)]; exact hF.g1, by rw [up_ne (show 8 ≠ 11 by decide)]; exact hF.g2, by rw [up_ne (show 10 ≠ 11 by decide)]; exact hF.g3, fun _ => hsz2⟩
  case s12 =>
   rintro b a w ⟨b1, b2, b3, b4, v9, rfl, hF⟩ hb d1 d2
   have u8 : (putSel a0 b (L7 (.slice A0 n c0) (.slice A1 n1 c1) (.slice A2 n2 c2) n b1 b2 b3 b4 v9)).eval (.tmp 8) = .pointer (some ⟨b4, 0, none⟩) := eval_of (putSel_on (e := (11, 8, .pointer (some ⟨b4, 0, none⟩))) 11 rfl rfl (d1 11 (by decide)) (Nat.ble_eq_true_of_le (Nat.le_trans (show 8 + 1 ≤ 97 by decide) hsz)))
   have u40 : (putSel a0 b (L7 (.slice A0 n c0) (.slice A1 n1 c1) (.slice A2 n2 c2) n b1 b2 b3 b4 v9)).eval (.tmp 40) = .pointer (some ⟨b3, 0, none⟩) := eval_of (putSel_on (e := (10, 40, .pointer (some ⟨b3, 0, none⟩))) 10 rfl rfl (d1 10 (by decide)) (Nat.ble_eq_true_of_le (Nat.le_trans (show 40 + 1 ≤ 97 by decide) hsz)))
   have hb4 := hF.h4 (d1 11 (by decide)) hb
   have hlt := (Array.getElem?_eq_some_iff.1 hb4).1
   have far : ∀ {x o}, w.heap[x]? = some o → x ≠ b4 → (w.setCell ⟨b4, 0, none⟩ (.pointer (some ⟨b3, 0, none⟩))).heap[x]? = some o := fun h hne => (Below.heap_setCell w _ _ _ hne).trans h
   have hsz2 : w0.heap.size ≤ w.heap.size := hF.bel.size
   have n1 : ∀ {x cs t}, w.heap[x]? = some (.cells cs t (0, 0)) → t ≠ 49 → x ≠ b4 := by
    rintro x cs t h ht rfl
    rw [hb4] at h
    injection h with h
    injection h with h1 h2
    exact ht h2.symm
   refine ⟨w.setCell ⟨b4, 0, none⟩ (.pointer (some ⟨b3, 0, none⟩)), op_store (u := ()) rfl ?_, b1, b2, b3, b4, v9, rfl, ?_⟩
   ·rw [u8, u40]
    exact (run_store_run 49 (.pointer (some ⟨b3, 0, none⟩)) [.pointer (some ⟨b3, 0, none⟩)] hb4 rfl (by kernel_rfl) (by simp) (by simp [Value.oneCell'])).trans rfl
   ·exact ⟨by rw [up_ne (show 9 ≠ 12 by decide)]; exact hF.h9, hF.bel.setCell (hF.g4 (d1 11 (by decide))) _, by rw [up_ne (show 5 ≠ 12 by decide)]; exact fun q => far (hF.h1 q) (n1 (hF.h1 q) (by decide)), by rw [up_ne (show 8 ≠ 12 by decide)]; exact fun q => far (hF.h2 q) (n1 (hF.h2 q) (by decide)), by rw [up_ne (show 5 ≠ 12 by decide), up_ne (show 8 ≠ 12 by decide)]; exact hF.ne,
     by rw [up_ne (show 10 ≠ 12 by decide)]; exact fun q => far (hF.h3 q) (n1 (hF.h3 q) (by decide)), fun _ q => (by rw [up_self] at q; cases q), fun _ => (blk_set hb4 0 _).trans rfl, by rw [up_ne (show 5 ≠ 12 by decide)]; exact hF.g1, by rw [up_ne (show 8 ≠ 12 by decide)]; exact hF.g2, by rw [up_ne (show 10 ≠ 12 by decide)]; exact hF.g3, by rw [up_ne (show 11 ≠ 12 by decide)]; exact hF.g4⟩
end Go.Proofs.YtajapkjplgaigaaDoor.P
end
section
namespace Go.Proofs.YtajapkjplgaigaaDoor.P
open Go.RowKit Go.Shelf Go.Proofs.YtajapkjplgaigaaDoorW.PrintWords Go.Proofs.YtajapkjplgaigaaDoorW.PrintLast Go.Proofs.YtajapkjplgaigaaDoorW.PrintMore
set_option linter.unusedVariables false
set_option linter.unusedSimpArgs false
theorem withI_quiet (a i : Int) (h : 0 ≤ i) (w : World) (m : Nat) : Calls Tryd.prog 50 #[.int .u16 a, .int .i64 i] (w.drewN m) fun e w' => e = .returned (.int .u16 (withI a i)) ∧ ∃ m', w' = w.drewN m' := by
 refine (withI_calls a i h (w.drewN m)).mono ?_
 rintro e w' ⟨rfl, ⟨k, rfl⟩⟩
 exact ⟨rfl, m + k, by rw [World.drewN_drewN]⟩
theorem shl_one : ∀ i, i < 8 → shl .u16 1 ((i : Nat) : Int) = ((2 ^ i : Nat) : Int) := by decide +kernel
theorem withI_nat (s i : Nat) (hs : s < 256) (hi : i < 8) : withI (s : Int) (i : Int) = ((s ||| 2 ^ i : Nat) : Int) := by
 unfold withI
 rw [shl_one i hi, u16_or_nat s (2 ^ i) (by omega) (Nat.lt_of_lt_of_le (Nat.pow_lt_pow_right (by omega) hi) (by decide))]
theorem hasB_nat : ∀ s, s < 256 → ∀ i, i < 8 → hasB ((s : Nat) : Int) ((i : Nat) : Int) = s.testBit i := by decide +kernel
theorem orI_nat (a b : Nat) (ha : a < 256) (hb : b < 256) : Go.bits .or .u16 (a : Int) (b : Int) = ((a ||| b : Nat) : Int) := u16_or_nat a b (by omega) (by omega)
theorem or_lt8 {a b n : Nat} (ha : a < 2 ^ n) (hb : b < 2 ^ n) : a ||| b < 2 ^ n := Nat.or_lt_two_pow ha hb
theorem pow_lt8 {i n : Nat} (h : i < n) : 2 ^ i < 2 ^ n := Nat.pow_lt_pow_right (by omega) h
theorem with_lt {s i n : Nat} (hs : s < 2 ^ n) (hi : i < n) : s ||| 2 ^ i < 2 ^ n := Nat.or_lt_two_pow hs (pow_lt8 hi)
theorem lt256 {s n : Nat} (hs : s < 2 ^ n) (hn : n ≤ 8) : s < 256 := Nat.lt_of_lt_of_le hs (Nat.pow_le_pow_right (by omega) hn)
theorem bit_lt {s n i : Nat} (hs : s < 2 ^ n) (h : s.testBit i = true) : i < n := by
 rcases Nat.lt_or_ge i n with h' | h'
 ·exact h'
 ·rw [Nat.testBit_lt_two_pow (Nat.lt_of_lt_of_le hs (Nat.pow_le_pow_right (by omega) h'))] at h
  cases h
def nI (l : List Nat) : List Int := l.map fun (x : Nat) => (x : Int)
theorem nI_length (l : List Nat) : (nI l).length = l.length := by simp [nI]
theorem rd_nI (l : List Nat) (i : Nat) : rd (nI l) (i : Int) = ((l.getD i 0 : Nat) : Int) := by
 simp only [rd, nI, Int.toNat_natCast, List.getD_eq_getElem?_getD, List.getElem?_map]
 cases l[i]? <;> rfl
theorem nI_append (l m : List Nat) : nI (l ++ m) = nI l ++ nI m := by simp [nI]
theorem cell_alloc {w : World} {a : Addr} {v : Value} (h : w.cell? a = some v) (o : Obj) : (w.alloc o).cell? a = some v :=
 (Below.cell ((Below.refl _ w).alloc (Nat.le_refl _) o) (World.block_lt_of_cell? w a h)).trans h
def rowU (l : List Nat) : Obj := .cells (((nI l).map (Value.int .u16)).toArray) 51 (0, 0)
theorem rowU_get (l : List Nat) (i : Nat) (h : i < l.length) : (((nI l).map (Value.int .u16)).toArray)[i]? = some (.int .u16 ((l.getD i 0 : Nat) : Int)) := by
 simp [nI, List.getD_eq_getElem?_getD, h]
theorem rowU_cell {W : World} {b : Nat} {l : List Nat} (h : W.heap[b]? = some (rowU l)) (i : Nat) (hi : i < l.length) : W.cell? ⟨b, i, none⟩ = some (.int .u16 ((l.getD i 0 : Nat) : Int)) := (blk_cell h i).trans (rowU_get l i hi)
theorem rowU_set {W : World} {b : Nat} {l : List Nat} (h : W.heap[b]? = some (rowU l)) (i x : Nat) : (W.setCell ⟨b, i, none⟩ (.int .u16 (x : Int))).heap[b]? = some (rowU (l.set i x)) := by
 rw [blk_set h i]
 simp [rowU, nI]
theorem rowU_reads {W : World} {b : Nat} {l : List Nat} (h : W.heap[b]? = some (rowU l)) (hl : l.length ≤ 8) : ReadsOf (Value.int .u16) (0 : Int) W (some ⟨b, 0, none⟩) l.length (nI l) := by
 refine ⟨nI_length l, by omega, fun _ => ⟨_, rfl, fun i hi => ?_⟩⟩
 have h1 := rowU_cell h i hi
 have e : (⟨b, 0, none⟩ : Addr).add i = ⟨b, i, none⟩ := by simp [Addr.add]; exact fun h => h.symm
 rw [e, h1]
 have h2 := rd_nI l i
 simp only [rd, Int.toNat_natCast] at h2
 rw [h2]
theorem rowU_zero (n : Nat) : Obj.cells (Array.replicate n (.int .u16 0)) 51 (0, 0) = rowU (List.replicate n 0) := by
 simp [rowU, nI]
end Go.Proofs.YtajapkjplgaigaaDoor.P
end
section
namespace Go.Proofs.YtajapkjplgaigaaDoor
open Go.RowKit Go.Shelf Go.Proofs.YtajapkjplgaigaaDoorW.PrintWords Go.Proofs.YtajapkjplgaigaaDoorW.PrintLast Go.Proofs.YtajapkjplgaigaaDoorW.PrintMore
set_option linter.unusedVariables false
set_option linter.unusedSimpArgs false
def setAll : Array Value → List Tmp → List Value → Array Value
 | T, s :: ss, v :: vs => setAll (T.setIfInBounds s v) ss vs
 | T, _, _ => T
theorem wp_loop_slots {P : Program} {Q : Exit → Act → World → Prop} {T : Array Value} {ds : List Deferred} {w : World} {c : Code} (ss : List Tmp) (vs : List Value) (R : Nat → List Value → List Deferred → World → Prop) (n₀ : Nat)
  (hT : setAll T ss vs = T) (h₀ : R n₀ vs ds w)
  (round : ∀ n vs ds w, R n vs ds w → ∀ K : Act → World → Prop, (∀ n' vs' ds' w', n' < n → R n' vs' ds' w' → K { tmps := setAll T ss vs', defers := ds' } w') → c.wp P (Exit.then K Q) { tmps := setAll T ss vs, defers := ds } w) :
  (Code.loop c).wp P Q { tmps := T, defers := ds } w := by
 refine wp_loop_ghost (fun n a w => ∃ vs ds, a = { tmps := setAll T ss vs, defers := ds } ∧ R n vs ds w) n₀ ⟨vs, ds, by rw [hT], h₀⟩ ?_
 rintro n a w ⟨vs, ds, rfl, h⟩
 exact round n vs ds w h _ (fun n' vs' ds' w' hlt hR => ⟨n', hlt, vs', ds', rfl, hR⟩)
def MarksLt (B : Nat) (ds : List Deferred) : Prop := ∀ d ∈ ds, ∃ D, d = markOf D ∧ D < B
theorem Marks.ltOf {B : Nat} {ds : List Deferred} {W : World} (h : Marks B ds W) : MarksLt W.heap.size ds := h.lt
theorem MarksLt.le {B B' : Nat} {ds : List Deferred} (h : MarksLt B ds) (hle : B ≤ B') : MarksLt B' ds := fun d hd => by
 obtain ⟨D, e, hD⟩ := h d hd
 exact ⟨D, e, by omega⟩
theorem Marks.block {B B1 : Nat} : ∀ {ds : List Deferred} {W W' : World}, Marks B ds W → MarksLt B1 ds → (∀ k, k < B1 → W'.heap[k]? = W.heap[k]?) → Marks B ds W'
 | [], _, _, _, _, _ => trivial
 | d :: ds, W, W', ⟨⟨D, he, hB, hD, hn⟩, h⟩, hl, hk => by
  obtain ⟨D', he', hD'⟩ := hl d List.mem_cons_self
  have : D = D' := by rw [he] at he'; simpa [markOf] using he'
  subst this
  exact ⟨⟨D, he, hB, (hk D hD').trans hD, hn⟩, h.block (fun d' h' => hl d' (List.mem_cons_of_mem _ h')) hk⟩
theorem own_marks {β : Type} (B0 B : Nat) (ds : List Deferred) (hl : MarksLt B ds) : OwnFrom B (fun (_ : β) W => Marks B0 ds W) := by
 intro s W W' row h hg hr
 have hs := h.ltOf
 have : ∀ (ds : List Deferred), Marks B0 ds W → MarksLt B ds → Marks B0 ds W' := by
  intro ds
  induction ds with
  | nil => intro _ _; trivial
  | cons d ds ih =>
   rintro ⟨⟨D, he, hB, hD, hn⟩, h⟩ hl
   obtain ⟨D', he', hD'⟩ := hl d List.mem_cons_self
   have e : D = D' := by rw [he] at he'; simpa [markOf] using he'
   subst e
   refine ⟨⟨D, he, hB, (hg.block D (Array.getElem?_eq_some_iff.1 hD).1 (fun e => ?_)).trans hD, hn⟩, ih h (fun d' h' => hl d' (List.mem_cons_of_mem _ h'))⟩
   have := (hr D e.symm).1
   omega
 exact this ds h hl
theorem Marks.cons {B D : Nat} {ds : List Deferred} {W : World} (h : Marks B ds W) (hB : B ≤ D) (hD : W.heap[D]? = some (.deferred (some []))) (hl : MarksLt D ds) : Marks B (markOf D :: ds) W :=
 ⟨⟨D, rfl, hB, hD, fun d hd e => by
  obtain ⟨D', e', hD'⟩ := hl d hd
  rw [e'] at e
  have : D' = D := by simpa [markOf] using e
  omega⟩, h⟩
theorem own_blk {β : Type} (B b : Nat) (cs : β → Array Value) (t : TypeId) : OwnFrom B (fun s W => W.heap[b]? = some (.cells (cs s) t (0, 0))) := by
 intro s W W' row h hg hr
 refine blk_grown h hg (fun e => ?_)
 obtain ⟨_, o, ho, hc⟩ := hr b e.symm
 rw [h] at ho
 cases ho
 cases hc
end Go.Proofs.YtajapkjplgaigaaDoor
end
section
namespace Go.Proofs.YtajapkjplgaigaaDoor
open Go.RowKit
set_option linter.unusedVariables false
set_option linter.unusedSimpArgs false
section
variable {P : Program} {ops hd : Array Oper} {md : Region.Mode} {C : World → Prop} {n : Nat}
structure Ag (n m : Nat) (lh lf : Array Bool) : Prop where
 sh : lh.size = n
 sf : lf.size = m
 lo : ∀ j, j < n → lf[j]? = lh[j]?
 hi : ∀ t, n ≤ t → t < m → lf[t]? = some false
def headB (md : Region.Mode) (ops : Array Oper) (n : Nat) : Bool :=
 decide (n < ops.size) && ((List.range n).all fun i => match ops[i]? with | some o => o.guard.isNone && o.after.all (fun e => !Region.binds md e || decide (e.on < i)) | none => false) &&
 ((List.range n).all fun i => Region.waitsFor md ops n i) && Region.chainB md ops n && Region.seqB md ops (ops.size - n) n (Array.replicate n true ++ Array.replicate (ops.size - n) false)
theorem getD_of {l : Array Bool} {j : Nat} {d : Bool} : l.getD j d = (l[j]?).getD d := by simp [Array.getD_eq_getD_getElem?]
theorem Ag.put {m i : Nat} {lh lf : Array Bool} (h : Ag n m lh lf) (hi : i < n) (hm : n ≤ m) : Ag n m (lh.setIfInBounds i true) (lf.setIfInBounds i true) := by
 refine ⟨by simp [h.sh], by simp [h.sf], fun j hj => ?_, fun t ht hm' => ?_⟩
 ·simp only [Array.getElem?_setIfInBounds, h.lo j hj, h.sh, h.sf]
  by_cases hij : i = j
  ·simp [hij, hj, show j < m by omega]
  ·simp [hij]
 ·simp only [Array.getElem?_setIfInBounds]
  rw [if_neg (by omega)]
  exact h.hi t ht hm'
theorem wpAny_of_qhead {Q : Act → Prop} {Q' : Exit → Act → World → Prop} {tl : List Oper} (hh : ∀ j, j < n → hd[j]? = ops[j]?) (hs : hd.size = n) (hB : headB md ops n = true)
  (htl : ∀ j, tl[j]? = ops[n + j]?) (hlen : tl.length = ops.size - n) (hQ : ∀ a w, C w → Q a → wpList P ops Q' tl a w) :
  ∀ (f : Nat) (lh lf : Array Bool) (a : Act) (w : World), Ag n ops.size lh lf → lh.toList.count false = f → C w → wpAnyQ P md hd C Q f lh a → wpAny P md ops Q' (f + tl.length) lf a w := by
 simp only [headB, Bool.and_eq_true, decide_eq_true_eq, List.all_eq_true, List.mem_range] at hB
 obtain ⟨⟨⟨⟨hn, hrow⟩, hwait⟩, hchain⟩, hseq⟩ := hB
 have row : ∀ i, i < n → ∃ o, ops[i]? = some o ∧ o.guard = none ∧ ∀ e ∈ o.after, Region.binds md e = true → e.on < i := by
  intro i hi
  have h := hrow i hi
  cases ho : ops[i]? with
  | none => rw [ho] at h; cases h
  | some o =>
   rw [ho] at h
   simp only [Bool.and_eq_true, Option.isNone_iff_eq_none, Array.all_eq_true_iff_forall_mem] at h
   refine ⟨o, rfl, h.1, fun e he hb => ?_⟩
   have h2 := h.2 e he
   simpa [hb] using h2
 intro f
 induction f with
 | zero =>
  intro lh lf a w hA hc hC h
  have all : ∀ j, j < n → lf[j]? = some true := by
   intro j hj
   rw [hA.lo j hj]
   have hj' : j < lh.size := by rw [hA.sh]; exact hj
   rw [Array.getElem?_eq_getElem hj']
   have : lh[j] ∈ lh.toList := by simp
   cases hv : lh[j] with
   | true => rfl
   | false => exact absurd (List.count_eq_zero.1 hc) (by simp only [Classical.not_not]; rw [← hv]; exact this)
  have e : lf = Array.replicate n true ++ Array.replicate (ops.size - n) false := by
   apply Array.ext_getElem?
   intro j
   rw [Array.getElem?_append]
   by_cases hj : j < n
   ·simp [hj, all j hj]
   ·by_cases hj2 : j < ops.size
    ·simp [hj, hA.hi j (by omega) hj2, show j - n < ops.size - n by omega]
    ·simp [hj, show ¬ j - n < ops.size - n by omega]
     rw [hA.sf]; omega
  rw [Nat.zero_add]
  refine wpAny_of_seq tl n lf a w htl ?_ (hQ a w hC h.2)
  rw [hlen, e]
  exact hseq
 | succ f ih =>
  intro lh lf a w hA hc hC h
  rw [show f + 1 + tl.length = (f + tl.length) + 1 by omega]
  -- the first one that is not listed
  have some0 : ∃ k, k < n ∧ lf[k]? = some false ∧ ∀ j, j < k → lf[j]? = some true := by
   have hm : false ∈ lh.toList := List.count_pos_iff.1 (by omega)
   obtain ⟨k, hk, hv⟩ := List.getElem_of_mem hm
   have hk0 : k < n := by rw [← hA.sh]; simpa using hk
   have hk1 : lf[k]? = some false := by rw [hA.lo k hk0, Array.getElem?_eq_getElem (by simpa using hk)]; simpa using hv
   clear hv hk
   induction k using Nat.strongRecOn with
   | _ k ihk =>
    by_cases hx : ∃ j, j < k ∧ lf[j]? = some false
    ·obtain ⟨j, hj, hj2⟩ := hx
     exact ihk j hj (by omega) hj2
    ·refine ⟨k, hk0, hk1, fun j hj => ?_⟩
     have hjs : j < lf.size := by rw [hA.sf]; omega
     rw [Array.getElem?_eq_getElem hjs]
     cases hv : lf[j] with
     | true => rfl
     | false => exact absurd ⟨j, hj, by rw [Array.getElem?_eq_getElem hjs, hv]⟩ hx
  obtain ⟨k, hk, hkf, hkl⟩ := some0
  obtain ⟨ok, hok, _, hkd⟩ := row k hk
  have hkr : k ∈ Region.ready md ops lf := mem_ready.2 ⟨by rw [getD_of, hkf]; rfl, ok, hok, fun e he hb => by rw [getD_of, hkl _ (hkd e he hb)]; rfl⟩
  refine ⟨fun h0 => (by rw [h0] at hkr; cases hkr), fun i hi => ?_⟩
  obtain ⟨hi1, oi, hoi, hid⟩ := mem_ready.1 hi
  have him : i < ops.size := (Array.getElem?_eq_some_iff.1 hoi).1
  -- no other one is ready yet
  have hin : i < n := by
   rcases Nat.lt_or_ge i n with h' | h'
   ·exact h'
   ·exfalso
    by_cases hin : i = n
    ·obtain ⟨o', ho', e, he, hb, hon⟩ := Region.waitsFor_spec (hwait k hk)
     rw [← hin, hoi] at ho'
     cases ho'
     have := hid e he hb
     rw [hon, getD_of, hkf] at this
     cases this
    ·have h1 := List.all_eq_true.1 hchain i (List.mem_range.2 him)
     simp only [Bool.or_eq_true, decide_eq_true_eq] at h1
     rcases h1 with h1 | h1
     ·omega
     ·obtain ⟨o', ho', e, he, hb, hon⟩ := Region.waitsFor_spec h1
      rw [hoi] at ho'
      cases ho'
      have := hid e he hb
      rw [hon, getD_of, hA.hi (i - 1) (by omega) (by omega)] at this
      cases this
  obtain ⟨o', ho', hg, hdep⟩ := row i hin
  rw [hoi] at ho'
  cases ho'
  have hih : i ∈ Region.ready md hd lh := by
   refine mem_ready.2 ⟨?_, oi, (hh i hin).trans hoi, fun e he hb => ?_⟩
   ·rw [getD_of, ← hA.lo i hin, ← getD_of]; exact hi1
   ·have := hid e he hb
    rw [getD_of, hA.lo _ (by have := hdep e he hb; omega), ← getD_of] at this
    exact this
  have hil : i < lh.toList.length := by simp [hA.sh, hin]
  have hif : lh.toList[i] = false := by
   have := (mem_ready.1 hih).1
   rw [getD_of, Array.getElem?_eq_getElem (by simpa using hil)] at this
   simpa using this
  have hq := h.2 i hih
  have step : wpOp P hd Q' i (wpAny P md ops Q' (f + tl.length) (lf.setIfInBounds i true)) a w := by
   refine wpOp_of_qOp hC (fun a' w' hC' hK => ?_) hq
   refine ih _ _ a' w' (hA.put hin (Nat.le_of_lt hn)) ?_ hC' hK
   rw [Array.toList_setIfInBounds, List.count_set hil, hif]
   simp only [beq_self_eq_true, if_true, show (true == false) = false from rfl, Bool.false_eq_true, if_false]
   omega
  unfold wpOp at step ⊢
  rw [hh i hin] at step
  simp only [hoi, Region.wanted, hg] at step ⊢
  exact step
theorem wp_region_qtail {Q : Exit → Act → World → Prop} {a : Act} {w : World} {ol : List Oper} (k : Nat) (hm : P.follows .mixedOrders = true) (hB : headB .any ol.toArray k = true) (hL : Region.lexB .any (ol.take k).toArray = true)
  (h : wpQuiet P (ol.take k).toArray (fun w' => ∃ m, w' = w.drewN m) (fun a' => ∀ w', (∃ m, w' = w.drewN m) → wpList P ol.toArray Q (ol.drop k) a' w') (ol.take k) a) : wpAny P .any ol.toArray Q ol.toArray.size (Array.replicate ol.toArray.size false) a { w with drawn := w.drawn + 1 } := by
 have hk : k < ol.length := by
  have := hB
  simp only [headB, Bool.and_eq_true, decide_eq_true_eq] at this
  simpa using this.1.1.1.1
 have lt : (ol.take k).length = k := List.length_take_of_le (Nat.le_of_lt hk)
 simp only [Region.lexB, Bool.and_eq_true] at hL
 have hq := wpAnyQ_lex (C := fun w' => ∃ m, w' = w.drewN m) (md := .any) hL.1 (ol.take k) 0 (Array.replicate (ol.take k).toArray.size false) a (by simp) (by simpa using hL.2) h
 have := wpAny_of_qhead (P := P) (ops := ol.toArray) (hd := (ol.take k).toArray) (n := k) (tl := ol.drop k) (Q' := Q) (C := fun w' => ∃ m, w' = w.drewN m) (Q := fun a' => ∀ w', (∃ m, w' = w.drewN m) → wpList P ol.toArray Q (ol.drop k) a' w') (fun j hj => by simp [hj]) (by simpa using lt) hB (fun j => by simp [List.getElem?_drop]) (by simp)
  (fun a' w' hC hQ => hQ w' hC) k (Array.replicate k false) (Array.replicate ol.toArray.size false) a { w with drawn := w.drawn + 1 }
  ⟨by simp, by simp, fun j hj => by simp [hj, show j < ol.length by omega], fun t ht ht' => by simp at ht'; simp [ht']⟩ (by simp) ⟨1, rfl⟩ (by simpa [lt] using hq)
 rw [show k + (ol.drop k).length = ol.toArray.size by simp; omega] at this
 exact this
end
section
variable {P : Program} {l n : Nat}
theorem wpIn_region_qtail {id : Nat} {Q : Exit → Act → World → Prop} {a : Act} {w : World} {ol : List Oper} (k : Nat) (hQ : ¬ LetsOut Q) (hd : noDeferB ol.toArray = true) (hm : P.follows .mixedOrders = true) (hB : headB .any ol.toArray k = true) (hL : Region.lexB .any (ol.take k).toArray = true)
  (h : wpQuiet P (ol.take k).toArray (fun w' => ∃ m, w' = w.drewN m) (fun a' => ∀ w', (∃ m, w' = w.drewN m) → wpList P ol.toArray Q (ol.drop k) a' w') (ol.take k) a) : (Code.region id ol.toArray true).wpIn (Fence.wide.inRound l) n P Q a w :=
 wpIn_region_of_any hQ hd hm (wp_region_qtail k hm hB hL h)
end
end Go.Proofs.YtajapkjplgaigaaDoor
end
section
namespace Go.Proofs.YtajapkjplgaigaaDoor
open Go.RowKit Go.Proofs.YtajapkjplgaigaaDoorW.PrintWords Go.Proofs.YtajapkjplgaigaaDoorW.PrintLast Go.Proofs.YtajapkjplgaigaaDoorW.PrintMore
theorem R_makecap {P : Program} {ops : Array Oper} {o : Oper} {a : Act} {Q : Exit → Act → World → Prop} {rest : List Oper} {α : Type} (d : Kd α) {W : World} (e : Nat) (hgd : o.guard = none) (t : TypeId) (x y : Operand) (ho : o.op = .makeSlice t x y)
  (c : Nat) (hx : a.eval x = .int .i64 0) (hy : a.eval y = .int .i64 (c : Int)) (ht : P.underlying t = some (.slice e)) (z : Value) (bytes : Nat) (hinfo : (P.info? e).map (fun i => (i.zero, i.size, i.bytes)) = some (some z, d.sz, bytes)) (hl : bytes * c ≤ 281474976710656) (hc : c ≤ 9223372036854775807)
  (h : ∀ v1 w1, d.R e w1 W.heap.size (fun _ => True) v1 ([] : List α) → Below W.heap.size W w1 → W.grownBy w1 none → (∃ b, v1.ownBlock = some b ∧ W.heap.size ≤ b) → wpList P ops Q rest (a.put o.dst v1) w1) : wpList P ops Q (o :: rest) a W := by
 obtain ⟨i0, hi, hzz⟩ := Option.map_eq_some_iff.1 hinfo
 simp only [Prod.mk.injEq] at hzz
 obtain ⟨hz0, hz1, hz2⟩ := hzz
 obtain ⟨w', hr, hown, hg⟩ := run_make_own (P := P) W W.heap.size t e i0 z d.sz ht hi hz0 hz1 .i64 .i64 c (by rw [hz2]; exact hl) (by simpa [maxLen] using hc) (Nat.le_refl _)
 refine Kd.event_run hgd (v := .slice (some ⟨W.heap.size, 0, none⟩) 0 c) (w1 := w') (by simp [execOp, ho, hx, hy, hr]) (h _ _ ⟨fun _ _ => trivial, [], hown, Reps.none _ _⟩ ((Below.refl _ _).grown hg (Nat.le_refl _) (fun k e => by cases e)) hg ⟨W.heap.size, by simp [Value.ownBlock], Nat.le_refl _⟩)
end Go.Proofs.YtajapkjplgaigaaDoor
end
section
namespace Go.Proofs.YtajapkjplgaigaaDoor.P
open Go.RowKit Go.Proofs.YtajapkjplgaigaaDoorW.PrintWords Go.Proofs.YtajapkjplgaigaaDoorW.PrintLast Go.Proofs.YtajapkjplgaigaaDoorW.PrintMore
attribute [local go_sem] max2_int min2_int max_two min_two max_three min_three max_four min_four   -- for this text's walks alone
set_option linter.unusedVariables false
set_option linter.unusedSimpArgs false
def impl_within.f (a0 : Int) (a1 : Int) (a2 : Int) : Option (Bool) := if a0 ≥ a1 then (some (decide (a0 ≤ a2))) else (some false)
set_option maxHeartbeats 8000000 in
set_option maxRecDepth 100000 in
theorem impl_within.calls (a0 : Int) (a1 : Int) (a2 : Int) (r : Bool) (w : World) (h : impl_within.f a0 a1 a2 = some r) :
  Calls Tryd.prog 48 #[.int .i64 a0, .int .i64 a1, .int .i64 a2] w fun e w' => e = .returned (.bool r) ∧ Drawn0 w w' := by
 have H : (if a0 ≥ a1 then (some (decide (a0 ≤ a2))) else (some false)) = some r := h
 clear h
 by_cases c4 : a0 ≥ a1
 ·rw [if_pos c4] at H
  have c4b0 : decide (a1 ≤ a0) = true := decide_eq_true c4
  clear c4
  obtain rfl := Option.some.inj H
  go_enter Tryd.func48, Tryd.ntmps48
  go_wp2
  go_ret
  exact ⟨by first | rfl | (simp; done) | (simp [*]; done), by repeat (first | exact Drawn0.refl _ | apply Drawn0.step)⟩
 ·rw [if_neg c4] at H
  have c4b0 : decide (a1 ≤ a0) = false := decide_eq_false c4
  clear c4
  obtain rfl := Option.some.inj H
  go_enter Tryd.func48, Tryd.ntmps48
  go_wp2
  go_ret
  exact ⟨by first | rfl | (simp; done) | (simp [*]; done), by repeat (first | exact Drawn0.refl _ | apply Drawn0.step)⟩
end Go.Proofs.YtajapkjplgaigaaDoor.P
end
section
namespace Go.Proofs.YtajapkjplgaigaaDoor.P
open Go.RowKit Go.Proofs.YtajapkjplgaigaaDoorW.PrintWords Go.Proofs.YtajapkjplgaigaaDoorW.PrintLast Go.Proofs.YtajapkjplgaigaaDoorW.PrintMore
attribute [local go_sem] max2_int min2_int max_two min_two max_three min_three max_four min_four   -- for this text's walks alone
set_option linter.unusedVariables false
set_option linter.unusedSimpArgs false
def impl_setOf.l0 : Nat → Int → Int → Int → List Int → Int → Int → Option (Int × Bool)
 | 0, _, _, _, _, _, _ => none
 | k + 1, x1, x6, x7, x10, x11, x12 => if x12 < x11 then (if 0 ≤ x12 then (if x12 < (x10.length : Int) then ((impl_within.f (rd x10 x12) (wrap64 (x7 + 1)) (wrap64 (x1 - 1))).bind fun t333 => (if t333 = true then ((impl_set_with.f x6 (rd x10 x12)).bind fun t334 => (impl_setOf.l0 k x1 t334 (rd x10 x12) x10 x11 (wrap64 (x12 + 1)))) else (some (0, false)))) else (none)) else (none)) else (some (x6, true))
def impl_setOf.f (k : Nat) (l0 : List Int) (a1 : Int) : Option (Int × Bool) := impl_setOf.l0 k a1 0 (-1) l0 (l0.length : Int) 0
set_option maxHeartbeats 8000000 in
set_option maxRecDepth 100000 in
theorem impl_setOf.calls (k : Nat) (A0 : Option Addr) (c0 : Nat) (l0 : List Int) (a1 : Int) (r1 : Int) (r2 : Bool) (w : World) (hr0 : Kd.C (Kd.int .i64) w A0 l0.length l0) (hc0 : l0.length ≤ c0) (h : impl_setOf.f k l0 a1 = some (r1, r2)) :
  Calls Tryd.prog 71 #[.slice A0 l0.length c0, .int .i64 a1] w fun e w' => e = .returned (.tuple #[.int .u16 r1, .bool r2]) ∧ Drawn0 w w' := by
 have HR0 := Aside0.mk hr0
 have HC0 := Aside0.mk hc0
 clear hr0 hc0
 have H : (impl_setOf.l0 k a1 0 (-1) l0 (l0.length : Int) 0) = some (r1, r2) := h
 clear h
 have H' := Aside0.mk H
 clear H
 go_enter Tryd.func71, Tryd.ntmps71
 go_wp2
 go_loopg [6, 7, 12] k (fun kq v6 v7 v12 w' => ∃ (x6_1 : Int) (x7_1 : Int) (x12_1 : Int), v6 = .int .u16 x6_1 ∧ v7 = .int .i64 x7_1 ∧ v12 = .int .i64 x12_1 ∧ Aside0 (impl_setOf.l0 kq a1 x6_1 x7_1 l0 (l0.length : Int) x12_1 = some (r1, r2)) ∧ Aside0 (kq ≤ k) ∧ Drawn0 w w')
 case atStart => exact ⟨(0), ((-1)), (0), (by first | rfl | (simp; done) | (simp [*]; done)), (by first | rfl | (simp; done) | (simp [*]; done)), (by first | rfl | (simp; done) | (simp [*]; done)), H', ⟨Nat.le_refl _⟩, by repeat (first | exact Drawn0.refl _ | apply Drawn0.step)⟩
 case round =>
  clear H'
  try clear p2
  obtain ⟨x6_1, x7_1, x12_1, rfl, rfl, rfl, HA, HK1, ⟨m1, rfl⟩⟩ := hrel
  cases gk with
  | zero => exact absurd HA.out (by simp [impl_setOf.l0])
  | succ k1 =>
   have H := HA.out
   clear HA
   simp only [impl_setOf.l0] at H
   by_cases c3 : x12_1 < (l0.length : Int)
   ·rw [if_pos c3] at H
    have c3b0 : decide (x12_1 < (l0.length : Int)) = true := decide_eq_true c3
    clear c3
    by_cases c4 : 0 ≤ x12_1
    ·rw [if_pos c4] at H
     have c4b0 : decide (0 ≤ x12_1) = true := decide_eq_true c4
     clear c4
     by_cases c5 : x12_1 < (l0.length : Int)
     ·rw [if_pos c5] at H
      have c5b0 : decide (x12_1 < (l0.length : Int)) = true := decide_eq_true c5
      clear c5
      replace H := Option.bind_eq_some_iff.mp H
      obtain ⟨t333, A60, H⟩ := H
      replace H : (if t333 = true then ((impl_set_with.f x6_1 (rd l0 x12_1)).bind fun t334 => (impl_setOf.l0 k1 a1 t334 (rd l0 x12_1) l0 (l0.length : Int) (wrap64 (x12_1 + 1)))) else (some (0, false))) = some (r1, r2) := H
      have A6 := Aside0.mk A60
      clear A60
      by_cases c7 : t333 = true
      ·subst c7
       have H1 : ((impl_set_with.f x6_1 (rd l0 x12_1)).bind fun t334 => (impl_setOf.l0 k1 a1 t334 (rd l0 x12_1) l0 (l0.length : Int) (wrap64 (x12_1 + 1)))) = some (r1, r2) := by rw [if_pos rfl] at H; exact H
       clear H
       have H := H1
       clear H1
       replace H := Option.bind_eq_some_iff.mp H
       obtain ⟨t334, A80, H⟩ := H
       replace H : (impl_setOf.l0 k1 a1 t334 (rd l0 x12_1) l0 (l0.length : Int) (wrap64 (x12_1 + 1))) = some (r1, r2) := H
       have A8 := Aside0.mk A80
       clear A80
       have H' := Aside0.mk H
       clear H
       have p332 : 0 ≤ (x12_1 : Int) := of_decide_eq_true (by first | (with_reducible assumption) | assumption)
       have q332 : x12_1 < (l0.length : Int) := of_decide_eq_true (by first | (with_reducible assumption) | assumption)
       obtain ⟨ad332, e332, hx332_0⟩ := Kd.at_int HR0.out x12_1 p332 q332
       cases e332
       replace p332 := eq_true p332
       replace q332 := eq_true q332
       go_wp2_with (first | ((with_reducible refine gate_callee (f := 48) rfl ?_); refine goesL_ (some 21) rfl rfl Tryd.func48 (by kernel_rfl) rfl #[.int .i64 (rd l0 x12_1), .int .i64 (wrap64 (x7_1 + 1)), .int .i64 (wrap64 (a1 - 1))] rfl (by (try simp only [List.map_toArray, List.map_cons, List.map_nil]); first | done | rfl | (simp only [List.length_drop, List.length_take]; rfl)) ?_; (with_reducible refine (impl_within.calls (rd l0 x12_1) (wrap64 (x7_1 + 1)) (wrap64 (a1 - 1)) true _ A6.out).mono ?_); rintro e w' ⟨rfl, ⟨nd, rfl⟩⟩; refine ⟨_, rfl, ?_⟩) | ((with_reducible refine gate_callee (f := 50) rfl ?_); refine goesL_ (some 25) rfl rfl Tryd.func50 (by kernel_rfl) rfl #[.int .u16 x6_1, .int .i64 (rd l0 x12_1)] rfl (by (try simp only [List.map_toArray, List.map_cons, List.map_nil]); first | done | rfl | (simp only [List.length_drop, List.length_take]; rfl)) ?_; (with_reducible refine (impl_set_with.calls x6_1 (rd l0 x12_1) t334 _ A8.out).mono ?_); rintro e w' ⟨rfl, ⟨nd, rfl⟩⟩; refine ⟨_, rfl, ?_⟩))
       go_roundg k1
       case measure => have := HK1.out; omega
       case rel => exact ⟨(t334), (rd l0 x12_1), (wrap64 (x12_1 + 1)), (by first | rfl | (simp; done) | (simp [*]; done)), (by first | rfl | (simp; done) | (simp [*]; done)), (by first | rfl | (simp; done) | (simp [*]; done)), H', ⟨by have := HK1.out; omega⟩, by repeat (first | exact Drawn0.refl _ | apply Drawn0.step)⟩
      ·replace c7 := Bool.eq_false_iff.mpr c7
       subst c7
       have H1 : (some (0, false)) = some (r1, r2) := by rw [if_neg (show ¬ (false = true) by decide)] at H; exact H
       clear H
       have H := H1
       clear H1
       simp only [Option.some.injEq, Prod.mk.injEq] at H
       obtain ⟨rfl, rfl⟩ := H
       have p332 : 0 ≤ (x12_1 : Int) := of_decide_eq_true (by first | (with_reducible assumption) | assumption)
       have q332 : x12_1 < (l0.length : Int) := of_decide_eq_true (by first | (with_reducible assumption) | assumption)
       obtain ⟨ad332, e332, hx332_0⟩ := Kd.at_int HR0.out x12_1 p332 q332
       cases e332
       replace p332 := eq_true p332
       replace q332 := eq_true q332
       go_wp2_with (first | ((with_reducible refine gate_callee (f := 48) rfl ?_); refine goesL_ (some 21) rfl rfl Tryd.func48 (by kernel_rfl) rfl #[.int .i64 (rd l0 x12_1), .int .i64 (wrap64 (x7_1 + 1)), .int .i64 (wrap64 (a1 - 1))] rfl (by (try simp only [List.map_toArray, List.map_cons, List.map_nil]); first | done | rfl | (simp only [List.length_drop, List.length_take]; rfl)) ?_; (with_reducible refine (impl_within.calls (rd l0 x12_1) (wrap64 (x7_1 + 1)) (wrap64 (a1 - 1)) false _ A6.out).mono ?_); rintro e w' ⟨rfl, ⟨nd, rfl⟩⟩; refine ⟨_, rfl, ?_⟩))
       go_ret2
       exact ⟨by first | rfl | (simp; done) | (simp [*]; done), by repeat (first | exact Drawn0.refl _ | apply Drawn0.step)⟩
     ·rw [if_neg c5] at H
      exact absurd H (by simp)
    ·rw [if_neg c4] at H
     exact absurd H (by simp)
   ·rw [if_neg c3] at H
    have c3b0 : decide (x12_1 < (l0.length : Int)) = false := decide_eq_false c3
    clear c3
    simp only [Option.some.injEq, Prod.mk.injEq] at H
    obtain ⟨rfl, rfl⟩ := H
    go_wp2
    go_ret2
    exact ⟨by first | rfl | (simp; done) | (simp [*]; done), by repeat (first | exact Drawn0.refl _ | apply Drawn0.step)⟩
end Go.Proofs.YtajapkjplgaigaaDoor.P
end
section
namespace Go.Proofs.YtajapkjplgaigaaDoor.P
open Go.RowKit Go.Proofs.YtajapkjplgaigaaDoorW.PrintWords Go.Proofs.YtajapkjplgaigaaDoorW.PrintLast Go.Proofs.YtajapkjplgaigaaDoorW.PrintMore
attribute [local go_sem] max2_int min2_int max_two min_two max_three min_three max_four min_four   -- for this text's walks alone
set_option linter.unusedVariables false
set_option linter.unusedSimpArgs false
def impl_needsOf.l0 : Nat → List (S39) → List Int → List (S39) → Int → Int → Option (List Int × Bool)
 | 0, _, _, _, _, _ => none
 | k + 1, x0, x4, x15, x16, x17 => if x17 < x16 then (if 0 ≤ x17 then (if x17 < (x15.length : Int) then ((impl_setOf.f k ((rd_T39 x15 x17).f1) (x0.length : Int)).bind fun bt340 => (if bt340.2 = true then ((impl_within.f ((rd_T39 x15 x17).f0) 1 20).bind fun t342 => (if t342 = true then ((impl_within.f ((rd_T39 x15 x17).f2) 0 2).bind fun t343 => (if t343 = true then ((impl_within.f ((rd_T39 x15 x17).f3) 1 4).bind fun t344 => (if t344 = true then (if x4.length < 70368744177664 then (impl_needsOf.l0 k x0 (x4 ++ [bt340.1]) x15 x16 (wrap64 (x17 + 1))) else (none)) else (some (([] : List Int), false)))) else (some (([] : List Int), false)))) else (some (([] : List Int), false)))) else (some (([] : List Int), false)))) else (none)) else (none)) else (some (x4, true))
def impl_needsOf.f (k : Nat) (l0 : List (S39)) : Option (List Int × Bool) := if (l0.length : Int) > 8 then (some (([] : List Int), false)) else (impl_needsOf.l0 k l0 (([] : List Int)) l0 (l0.length : Int) 0)
set_option maxHeartbeats 8000000 in
set_option maxRecDepth 100000 in
theorem impl_needsOf.calls (k : Nat) (A0 : Option Addr) (c0 : Nat) (l0 : List (S39)) (r1 : List Int) (r2 : Bool) (w : World) (hr0 : Kd.C k39 w A0 l0.length l0) (hc0 : l0.length ≤ c0) (h : impl_needsOf.f k l0 = some (r1, r2)) :
  Calls Tryd.prog 89 #[.slice A0 l0.length c0] w fun e w' => ∃ v0_ : Value, e = .returned (.tuple #[v0_, .bool r2]) ∧ Kd.R (Kd.int .u16) 51 w' w.heap.size (fun _ => True) v0_ r1 ∧ Below w.heap.size w w' := by
 have hu39 := Tryd.underlying39
 have HR0 := Aside0.mk hr0
 have HC0 := Aside0.mk hc0
 clear hr0 hc0
 have HB := Aside0.mk (Below.refl w.heap.size w)
 have H : (if (l0.length : Int) > 8 then (some (([] : List Int), false)) else (impl_needsOf.l0 k l0 (([] : List Int)) l0 (l0.length : Int) 0)) = some (r1, r2) := h
 clear h
 by_cases c2 : (l0.length : Int) > 8
 ·rw [if_pos c2] at H
  have c2b0 : decide (8 < (l0.length : Int)) = true := decide_eq_true c2
  have c2b1 : decide (8 < l0.length) = true := decide_eq_true (by omega)
  clear c2
  simp only [Option.some.injEq, Prod.mk.injEq] at H
  obtain ⟨rfl, rfl⟩ := H
  go_enter Tryd.func89, Tryd.ntmps89
  go_wp2
  go_ret2
  exact ⟨_, by first | rfl | (simp [errW_none, errW_some] <;> rfl) | (simp [*, errW_none, errW_some] <;> rfl), by first | exact Kd.R_nil _ _ _ _ _ | exact Kd.N_nil _ _ _ _ _ | exact Kd.V_nil _ _ _ _ _ | exact Kd.Q_nil _ _ _ _ _ | exact Kd.S_nil _ _ _ _ _, by repeat (first | (with_reducible first | exact HB.out | apply below_alloc | apply pw_below_drewN | apply below_drew1) | exact HB.out)⟩
 ·rw [if_neg c2] at H
  have c2b0 : decide (8 < (l0.length : Int)) = false := decide_eq_false c2
  have c2b1 : decide (8 < l0.length) = false := decide_eq_false (by omega)
  clear c2
  obtain ⟨y335, hy335⟩ : ∃ y_ : List Int, y_ = (([] : List Int)) := ⟨_, rfl⟩
  replace H : (impl_needsOf.l0 k l0 y335 l0 (l0.length : Int) 0) = some (r1, r2) := by first | (rw [hy335]; with_reducible exact H) | (have H2_ := (Option.bind_some _ _).symm.trans H; rw [hy335]; with_reducible exact H2_) | (have H2_ := (Option.bind_some _ _).symm.trans H; with_reducible exact H2_) | with_reducible exact H | (rw [hy335]; exact H) | exact H
  have Ny335 := Aside0.mk hy335
  clear hy335
  have H' := Aside0.mk H
  clear H
  go_enter Tryd.func89, Tryd.ntmps89
  go_wp2_with (first | ((with_reducible refine gate_dst (N := 14) rfl ?_); refine R_makecap (Kd.int .u16) 51 rfl 62 (.const (.int .i64 0)) (.tmp 13) rfl l0.length rfl rfl Tryd.underlying62 (.int .u16 0) 2 (by kernel_rfl) (by have := of_decide_eq_false c2b1; omega) (by have := of_decide_eq_false c2b1; omega) ?_; intro v336 w3 ho4 hb hg_ hnew_; clear hg_ hnew_; (first | rw [← Ny335.out] at ho4 | (simp only [Int.reduceToNat] at ho4; rw [← Ny335.out] at ho4)); have n0_ := Aside0.mk (Kd.R_lower ho4 (below_size (by repeat (first | (with_reducible first | exact HB.out | apply below_alloc | apply pw_below_drewN | apply below_drew1) | exact HB.out)))); have n1_ := Aside0.mk (below_step (by repeat (first | (with_reducible first | exact HB.out | apply below_alloc | apply pw_below_drewN | apply below_drew1) | exact HB.out)) hb); clear HB; have HO337 := n0_; have HB := n1_; clear n0_ n1_; clear hb ho4))
  go_loopg [4, 17] k (fun kq v4 v17 w' => ∃ (x4_1 : List Int) (x17_1 : Int), v17 = .int .i64 x17_1 ∧ Aside0 (impl_needsOf.l0 kq l0 x4_1 l0 (l0.length : Int) x17_1 = some (r1, r2)) ∧ Aside0 (kq ≤ k) ∧ Aside0 (Kd.R (Kd.int .u16) 51 w' w.heap.size (fun _ => True) v4 x4_1) ∧ Aside0 (Below w.heap.size w w'))
  case atStart => exact ⟨(y335), (0), (by first | rfl | (simp; done) | (simp [*]; done)), H', ⟨Nat.le_refl _⟩, ⟨by (with_reducible repeat (first | apply Kd.R_alloc | apply Kd.R_drewN | apply Kd.R_drew)); exact HO337.out⟩, ⟨by repeat (first | (with_reducible first | exact HB.out | apply below_alloc | apply pw_below_drewN | apply below_drew1) | exact HB.out)⟩⟩
  case round =>
   clear H'
   try clear c2
   try clear c2b0
   try clear c2b1
   try clear p2
   obtain ⟨x4_1, x17_1, rfl, HA, HK1, HO_4, HB⟩ := hrel
   cases gk with
   | zero => exact absurd HA.out (by simp [impl_needsOf.l0])
   | succ k1 =>
    have H := HA.out
    clear HA
    simp only [impl_needsOf.l0] at H
    by_cases c5 : x17_1 < (l0.length : Int)
    ·rw [if_pos c5] at H
     have c5b0 : decide (x17_1 < (l0.length : Int)) = true := decide_eq_true c5
     clear c5
     by_cases c6 : 0 ≤ x17_1
     ·rw [if_pos c6] at H
      have c6b0 : decide (0 ≤ x17_1) = true := decide_eq_true c6
      clear c6
      by_cases c7 : x17_1 < (l0.length : Int)
      ·rw [if_pos c7] at H
       have c7b0 : decide (x17_1 < (l0.length : Int)) = true := decide_eq_true c7
       clear c7
       replace H := Option.bind_eq_some_iff.mp H
       obtain ⟨⟨t340, t341⟩, A80, H⟩ := H
       replace H : (if t341 = true then ((impl_within.f ((rd_T39 l0 x17_1).f0) 1 20).bind fun t342 => (if t342 = true then ((impl_within.f ((rd_T39 l0 x17_1).f2) 0 2).bind fun t343 => (if t343 = true then ((impl_within.f ((rd_T39 l0 x17_1).f3) 1 4).bind fun t344 => (if t344 = true then (if x4_1.length < 70368744177664 then (impl_needsOf.l0 k1 l0 (x4_1 ++ [t340]) l0 (l0.length : Int) (wrap64 (x17_1 + 1))) else (none)) else (some (([] : List Int), false)))) else (some (([] : List Int), false)))) else (some (([] : List Int), false)))) else (some (([] : List Int), false))) = some (r1, r2) := H
       have A8 := Aside0.mk A80
       clear A80
       by_cases c9 : t341 = true
       ·subst c9
        have H1 : ((impl_within.f ((rd_T39 l0 x17_1).f0) 1 20).bind fun t342 => (if t342 = true then ((impl_within.f ((rd_T39 l0 x17_1).f2) 0 2).bind fun t343 => (if t343 = true then ((impl_within.f ((rd_T39 l0 x17_1).f3) 1 4).bind fun t344 => (if t344 = true then (if x4_1.length < 70368744177664 then (impl_needsOf.l0 k1 l0 (x4_1 ++ [t340]) l0 (l0.length : Int) (wrap64 (x17_1 + 1))) else (none)) else (some (([] : List Int), false)))) else (some (([] : List Int), false)))) else (some (([] : List Int), false)))) = some (r1, r2) := by rw [if_pos rfl] at H; exact H
        clear H
        have H := H1
        clear H1
        replace H := Option.bind_eq_some_iff.mp H
        obtain ⟨t342, A100, H⟩ := H
        replace H : (if t342 = true then ((impl_within.f ((rd_T39 l0 x17_1).f2) 0 2).bind fun t343 => (if t343 = true then ((impl_within.f ((rd_T39 l0 x17_1).f3) 1 4).bind fun t344 => (if t344 = true then (if x4_1.length < 70368744177664 then (impl_needsOf.l0 k1 l0 (x4_1 ++ [t340]) l0 (l0.length : Int) (wrap64 (x17_1 + 1))) else (none)) else (some (([] : List Int), false)))) else (some (([] : List Int), false)))) else (some (([] : List Int), false))) = some (r1, r2) := H
        have A10 := Aside0.mk A100
        clear A100
        by_cases c11 : t342 = true
        ·subst c11
         have H1 : ((impl_within.f ((rd_T39 l0 x17_1).f2) 0 2).bind fun t343 => (if t343 = true then ((impl_within.f ((rd_T39 l0 x17_1).f3) 1 4).bind fun t344 => (if t344 = true then (if x4_1.length < 70368744177664 then (impl_needsOf.l0 k1 l0 (x4_1 ++ [t340]) l0 (l0.length : Int) (wrap64 (x17_1 + 1))) else (none)) else (some (([] : List Int), false)))) else (some (([] : List Int), false)))) = some (r1, r2) := by rw [if_pos rfl] at H; exact H
         clear H
         have H := H1
         clear H1
         replace H := Option.bind_eq_some_iff.mp H
         obtain ⟨t343, A120, H⟩ := H
         replace H : (if t343 = true then ((impl_within.f ((rd_T39 l0 x17_1).f3) 1 4).bind fun t344 => (if t344 = true then (if x4_1.length < 70368744177664 then (impl_needsOf.l0 k1 l0 (x4_1 ++ [t340]) l0 (l0.length : Int) (wrap64 (x17_1 + 1))) else (none)) else (some (([] : List Int), false)))) else (some (([] : List Int), false))) = some (r1, r2) := H
         have A12 := Aside0.mk A120
         clear A120
         by_cases c13 : t343 = true
         ·subst c13
          have H1 : ((impl_within.f ((rd_T39 l0 x17_1).f3) 1 4).bind fun t344 => (if t344 = true then (if x4_1.length < 70368744177664 then (impl_needsOf.l0 k1 l0 (x4_1 ++ [t340]) l0 (l0.length : Int) (wrap64 (x17_1 + 1))) else (none)) else (some (([] : List Int), false)))) = some (r1, r2) := by rw [if_pos rfl] at H; exact H
          clear H
          have H := H1
          clear H1
          replace H := Option.bind_eq_some_iff.mp H
          obtain ⟨t344, A140, H⟩ := H
          replace H : (if t344 = true then (if x4_1.length < 70368744177664 then (impl_needsOf.l0 k1 l0 (x4_1 ++ [t340]) l0 (l0.length : Int) (wrap64 (x17_1 + 1))) else (none)) else (some (([] : List Int), false))) = some (r1, r2) := H
          have A14 := Aside0.mk A140
          clear A140
          by_cases c15 : t344 = true
          ·subst c15
           have H1 : (if x4_1.length < 70368744177664 then (impl_needsOf.l0 k1 l0 (x4_1 ++ [t340]) l0 (l0.length : Int) (wrap64 (x17_1 + 1))) else (none)) = some (r1, r2) := by rw [if_pos rfl] at H; exact H
           clear H
           have H := H1
           clear H1
           by_cases c16 : x4_1.length < 70368744177664
           ·rw [if_pos c16] at H
            have LMc16 := Aside0.mk c16
            clear c16
            obtain ⟨y345, hy345⟩ : ∃ y_ : List Int, y_ = (x4_1 ++ [t340]) := ⟨_, rfl⟩
            replace H : (impl_needsOf.l0 k1 l0 y345 l0 (l0.length : Int) (wrap64 (x17_1 + 1))) = some (r1, r2) := by first | (rw [hy345]; with_reducible exact H) | (have H2_ := (Option.bind_some _ _).symm.trans H; rw [hy345]; with_reducible exact H2_) | (have H2_ := (Option.bind_some _ _).symm.trans H; with_reducible exact H2_) | with_reducible exact H | (rw [hy345]; exact H) | exact H
            have Ny345 := Aside0.mk hy345
            clear hy345
            have H' := Aside0.mk H
            clear H
            have p338 : 0 ≤ (x17_1 : Int) := of_decide_eq_true (by first | (with_reducible assumption) | assumption)
            have q338 : x17_1 < (l0.length : Int) := of_decide_eq_true (by first | (with_reducible assumption) | assumption)
            obtain ⟨ad338, A338_1, c338_1, e338, hx338_0, hx338_1, hx338_2, hx338_3, hl338_1, hi338_1⟩ := at_T39 HR0.out x17_1 p338 q338
            cases e338
            replace hx338_0 := (HB.out.cell (World.block_lt_of_cell? w _ hx338_0)).trans hx338_0
            replace hx338_1 := (HB.out.cell (World.block_lt_of_cell? w _ hx338_1)).trans hx338_1
            replace hx338_2 := (HB.out.cell (World.block_lt_of_cell? w _ hx338_2)).trans hx338_2
            replace hx338_3 := (HB.out.cell (World.block_lt_of_cell? w _ hx338_3)).trans hx338_3
            have HR338_1 := Aside0.mk hi338_1
            have HC338_1 := Aside0.mk hl338_1
            clear hi338_1 hl338_1
            replace p338 := eq_true p338
            replace q338 := eq_true q338
            go_wp2_with (first | ((with_reducible refine gate_dst (N := 6) rfl ?_); refine box_event ?hg (N := 6) ?hd (cs := #[.int .i64 0, .slice none 0 0, .int .i64 0, .int .i64 0]) (t := 39) ?hr ?_; (case hd => rfl); (case hg => rfl); (case hr => first | (go_simp; done) | (go_simp; rfl)); intro gb339 hg w17 hbox hb; have n0_ := Aside0.mk (Kd.R_below (by (with_reducible repeat (first | apply Kd.R_alloc | apply Kd.R_drewN | apply Kd.R_drew)); exact HO_4.out) hb); have n1_ := Aside0.mk (below_step (by repeat (first | (with_reducible first | exact HB.out | apply below_alloc | apply pw_below_drewN | apply below_drew1) | exact HB.out)) hb); have n2_ := Aside0.mk (hbox); have n3_ := Aside0.mk ((by rw [hg]; exact (below_size (by repeat (first | (with_reducible first | exact HB.out | apply below_alloc | apply pw_below_drewN | apply below_drew1) | exact HB.out))) : w.heap.size ≤ gb339)); have n4_ := Aside0.mk ((by rw [hg]; exact (below_size (by repeat (first | (with_reducible first | exact HB.out | apply below_alloc | apply pw_below_drewN | apply below_drew1) | exact HB.out))) : w.heap.size ≤ gb339)); clear HO_4; clear HB; have HO_4 := n0_; have HB := n1_; have BK339 := n2_; have GW339 := n3_; have GE339 := n4_; clear n0_ n1_ n2_ n3_ n4_; clear hb hbox hg; have hcz18_0 : w17.cell? ⟨gb339, 0, none⟩ = some (.int .i64 0) := (blk_cell BK339.out 0).trans rfl; have hcz18_1 : w17.cell? ⟨gb339, 1, none⟩ = some (.slice none 0 0) := (blk_cell BK339.out 1).trans rfl; have hcz18_2 : w17.cell? ⟨gb339, 2, none⟩ = some (.int .i64 0) := (blk_cell BK339.out 2).trans rfl; have hcz18_3 : w17.cell? ⟨gb339, 3, none⟩ = some (.int .i64 0) := (blk_cell BK339.out 3).trans rfl; have hfz18_0 := blk_frozen BK339.out 0; have hfz18_1 := blk_frozen BK339.out 1; have hfz18_2 := blk_frozen BK339.out 2; have hfz18_3 := blk_frozen BK339.out 3) | ((with_reducible refine gate_callee (f := 71) rfl ?_); refine goesL_ (some 26) rfl rfl Tryd.func71 (by kernel_rfl) rfl #[.slice A338_1 ((rd_T39 l0 x17_1).f1).length c338_1, .int .i64 (l0.length : Int)] rfl (by (try simp only [List.map_toArray, List.map_cons, List.map_nil]); first | done | rfl | (simp only [List.length_drop, List.length_take]; rfl)) ?_; (with_reducible refine (impl_setOf.calls k1 _ _ ((rd_T39 l0 x17_1).f1) (l0.length : Int) t340 true _ ?side1 ?side2 A8.out).mono ?_); (case side1 => exact Kd.C_below HR338_1.out (by repeat (first | (with_reducible first | exact HB.out | apply below_alloc | apply pw_below_drewN | apply below_drew1 | refine below_set ?_ GE339.out) | exact HB.out))); (case side2 => exact HC338_1.out); rintro e w' ⟨rfl, ⟨nd, rfl⟩⟩; refine ⟨_, rfl, ?_⟩) | (go_at_call 48; (with_reducible refine (impl_within.calls ((rd_T39 l0 x17_1).f0) 1 20 true _ A10.out).mono ?_); rintro e w' ⟨rfl, ⟨nd, rfl⟩⟩) | (go_at_call 48; (with_reducible refine (impl_within.calls ((rd_T39 l0 x17_1).f2) 0 2 true _ A12.out).mono ?_); rintro e w' ⟨rfl, ⟨nd, rfl⟩⟩) | (go_at_call 48; (with_reducible refine (impl_within.calls ((rd_T39 l0 x17_1).f3) 1 4 true _ A14.out).mono ?_); rintro e w' ⟨rfl, ⟨nd, rfl⟩⟩) | ((with_reducible refine gate_builtin (b := .append) (xs := #[.tmp 49, .tmp 51]) rfl ?_); at_builtin; refine Kd.R_append (Kd.int .u16) (w0 := w) w.heap.size rfl (.tmp 49) (.tmp 51) 62 51 (.int .u16 0) 2 rfl Tryd.underlying62 info51 rfl (by decide) (by omega) u4 x4_1 t340 [.int .u16 t340] (fun _ => True) (fun _ => False) rfl (by first | (go_simp; done) | (go_simp; rfl)) ?aP (fun _ hk => hk.elim) ?aF ?aO ?aB ?aS ?aL ?_; (case aP => exact rfl); (case aB => exact (by repeat (first | (with_reducible first | exact HB.out | apply below_alloc | apply pw_below_drewN | apply below_drew1 | refine below_set ?_ GE339.out) | exact HB.out))); (case aF => exact (fun _ _ => trivial)); (case aO => exact (by (with_reducible repeat (first | apply Kd.R_alloc | apply Kd.R_drewN | apply Kd.R_drew)); exact Kd.R_mono (Kd.R_far (p := ⟨gb339, 3, none⟩) (Kd.R_far (p := ⟨gb339, 2, none⟩) (Kd.R_far (p := ⟨gb339, 1, none⟩) (Kd.R_far (p := ⟨gb339, 0, none⟩) (Kd.R_types HO_4.out BK339.out (by decide)) (fun _ hk => hk.2) (.int .i64 ((rd_T39 l0 x17_1).f0))) (fun _ hk => hk.2) (.slice A338_1 ((rd_T39 l0 x17_1).f1).length c338_1)) (fun _ hk => hk.2) (.int .i64 ((rd_T39 l0 x17_1).f2))) (fun _ hk => hk.2) (.int .i64 ((rd_T39 l0 x17_1).f3))) (fun _ hk => trivial))); (case aS => exact (below_size (by repeat (first | (with_reducible first | exact HB.out | apply below_alloc | apply pw_below_drewN | apply below_drew1 | refine below_set ?_ GE339.out) | exact HB.out)))); (case aL => have := LMc16.out; omega); intro v346 w19 ho hb hg hat; rw [← Ny345.out] at ho; have n0_ := Aside0.mk (blk_grown (g := gb339) (o := .cells #[.int .i64 ((rd_T39 l0 x17_1).f0), .slice A338_1 ((rd_T39 l0 x17_1).f1).length c338_1, .int .i64 ((rd_T39 l0 x17_1).f2), .int .i64 ((rd_T39 l0 x17_1).f3)] 39 (0, 0)) (by (with_reducible repeat (first | refine blk_drewN ?_ _ | refine blk_drew ?_ | refine blk_alloc ?_ _)); refine blk_put (cs := #[.int .i64 ((rd_T39 l0 x17_1).f0), .slice A338_1 ((rd_T39 l0 x17_1).f1).length c338_1, .int .i64 ((rd_T39 l0 x17_1).f2), .int .i64 0]) ?_ 3 _ rfl; (with_reducible repeat (first | refine blk_drewN ?_ _ | refine blk_drew ?_ | refine blk_alloc ?_ _)); refine blk_put (cs := #[.int .i64 ((rd_T39 l0 x17_1).f0), .slice A338_1 ((rd_T39 l0 x17_1).f1).length c338_1, .int .i64 0, .int .i64 0]) ?_ 2 _ rfl; (with_reducible repeat (first | refine blk_drewN ?_ _ | refine blk_drew ?_ | refine blk_alloc ?_ _)); refine blk_put (cs := #[.int .i64 ((rd_T39 l0 x17_1).f0), .slice none 0 0, .int .i64 0, .int .i64 0]) ?_ 1 _ rfl; (with_reducible repeat (first | refine blk_drewN ?_ _ | refine blk_drew ?_ | refine blk_alloc ?_ _)); refine blk_put (cs := #[.int .i64 0, .slice none 0 0, .int .i64 0, .int .i64 0]) ?_ 0 _ rfl; (with_reducible repeat (first | refine blk_drewN ?_ _ | refine blk_drew ?_ | refine blk_alloc ?_ _)); exact BK339.out) hg (Kd.R_ne HO_4.out BK339.out (by decide))); have n1_ := Aside0.mk (hb); have n2_ := Aside0.mk (ho); clear BK339; clear HB; clear HO_4; have BK339 := n0_; have HB := n1_; have HO347 := n2_; clear n0_ n1_ n2_; clear ho hb hg hat))
            go_roundg k1
            case measure => have := HK1.out; omega
            case rel => exact ⟨(y345), (wrap64 (x17_1 + 1)), (by first | rfl | (simp; done) | (simp [*]; done)), H', ⟨by have := HK1.out; omega⟩, ⟨by (with_reducible repeat (first | apply Kd.R_alloc | apply Kd.R_drewN | apply Kd.R_drew)); exact HO347.out⟩, ⟨by repeat (first | (with_reducible first | exact HB.out | apply below_alloc | apply pw_below_drewN | apply below_drew1 | refine below_set ?_ GE339.out) | exact HB.out)⟩⟩
           ·rw [if_neg c16] at H
            exact absurd H (by simp)
          ·replace c15 := Bool.eq_false_iff.mpr c15
           subst c15
           have H1 : (some (([] : List Int), false)) = some (r1, r2) := by rw [if_neg (show ¬ (false = true) by decide)] at H; exact H
           clear H
           have H := H1
           clear H1
           simp only [Option.some.injEq, Prod.mk.injEq] at H
           obtain ⟨rfl, rfl⟩ := H
           have p338 : 0 ≤ (x17_1 : Int) := of_decide_eq_true (by first | (with_reducible assumption) | assumption)
           have q338 : x17_1 < (l0.length : Int) := of_decide_eq_true (by first | (with_reducible assumption) | assumption)
           obtain ⟨ad338, A338_1, c338_1, e338, hx338_0, hx338_1, hx338_2, hx338_3, hl338_1, hi338_1⟩ := at_T39 HR0.out x17_1 p338 q338
           cases e338
           replace hx338_0 := (HB.out.cell (World.block_lt_of_cell? w _ hx338_0)).trans hx338_0
           replace hx338_1 := (HB.out.cell (World.block_lt_of_cell? w _ hx338_1)).trans hx338_1
           replace hx338_2 := (HB.out.cell (World.block_lt_of_cell? w _ hx338_2)).trans hx338_2
           replace hx338_3 := (HB.out.cell (World.block_lt_of_cell? w _ hx338_3)).trans hx338_3
           have HR338_1 := Aside0.mk hi338_1
           have HC338_1 := Aside0.mk hl338_1
           clear hi338_1 hl338_1
           replace p338 := eq_true p338
           replace q338 := eq_true q338
           go_wp2_with (first | ((with_reducible refine gate_dst (N := 6) rfl ?_); refine box_event ?hg (N := 6) ?hd (cs := #[.int .i64 0, .slice none 0 0, .int .i64 0, .int .i64 0]) (t := 39) ?hr ?_; (case hd => rfl); (case hg => rfl); (case hr => first | (go_simp; done) | (go_simp; rfl)); intro gb339 hg w20 hbox hb; have n0_ := Aside0.mk (Kd.R_below (by (with_reducible repeat (first | apply Kd.R_alloc | apply Kd.R_drewN | apply Kd.R_drew)); exact HO_4.out) hb); have n1_ := Aside0.mk (below_step (by repeat (first | (with_reducible first | exact HB.out | apply below_alloc | apply pw_below_drewN | apply below_drew1) | exact HB.out)) hb); have n2_ := Aside0.mk (hbox); have n3_ := Aside0.mk ((by rw [hg]; exact (below_size (by repeat (first | (with_reducible first | exact HB.out | apply below_alloc | apply pw_below_drewN | apply below_drew1) | exact HB.out))) : w.heap.size ≤ gb339)); have n4_ := Aside0.mk ((by rw [hg]; exact (below_size (by repeat (first | (with_reducible first | exact HB.out | apply below_alloc | apply pw_below_drewN | apply below_drew1) | exact HB.out))) : w.heap.size ≤ gb339)); clear HO_4; clear HB; have HO_4 := n0_; have HB := n1_; have BK339 := n2_; have GW339 := n3_; have GE339 := n4_; clear n0_ n1_ n2_ n3_ n4_; clear hb hbox hg; have hcz21_0 : w20.cell? ⟨gb339, 0, none⟩ = some (.int .i64 0) := (blk_cell BK339.out 0).trans rfl; have hcz21_1 : w20.cell? ⟨gb339, 1, none⟩ = some (.slice none 0 0) := (blk_cell BK339.out 1).trans rfl; have hcz21_2 : w20.cell? ⟨gb339, 2, none⟩ = some (.int .i64 0) := (blk_cell BK339.out 2).trans rfl; have hcz21_3 : w20.cell? ⟨gb339, 3, none⟩ = some (.int .i64 0) := (blk_cell BK339.out 3).trans rfl; have hfz21_0 := blk_frozen BK339.out 0; have hfz21_1 := blk_frozen BK339.out 1; have hfz21_2 := blk_frozen BK339.out 2; have hfz21_3 := blk_frozen BK339.out 3) | ((with_reducible refine gate_callee (f := 71) rfl ?_); refine goesL_ (some 26) rfl rfl Tryd.func71 (by kernel_rfl) rfl #[.slice A338_1 ((rd_T39 l0 x17_1).f1).length c338_1, .int .i64 (l0.length : Int)] rfl (by (try simp only [List.map_toArray, List.map_cons, List.map_nil]); first | done | rfl | (simp only [List.length_drop, List.length_take]; rfl)) ?_; (with_reducible refine (impl_setOf.calls k1 _ _ ((rd_T39 l0 x17_1).f1) (l0.length : Int) t340 true _ ?side1 ?side2 A8.out).mono ?_); (case side1 => exact Kd.C_below HR338_1.out (by repeat (first | (with_reducible first | exact HB.out | apply below_alloc | apply pw_below_drewN | apply below_drew1 | refine below_set ?_ GE339.out) | exact HB.out))); (case side2 => exact HC338_1.out); rintro e w' ⟨rfl, ⟨nd, rfl⟩⟩; refine ⟨_, rfl, ?_⟩) | (go_at_call 48; (with_reducible refine (impl_within.calls ((rd_T39 l0 x17_1).f0) 1 20 true _ A10.out).mono ?_); rintro e w' ⟨rfl, ⟨nd, rfl⟩⟩) | (go_at_call 48; (with_reducible refine (impl_within.calls ((rd_T39 l0 x17_1).f2) 0 2 true _ A12.out).mono ?_); rintro e w' ⟨rfl, ⟨nd, rfl⟩⟩) | (go_at_call 48; (with_reducible refine (impl_within.calls ((rd_T39 l0 x17_1).f3) 1 4 false _ A14.out).mono ?_); rintro e w' ⟨rfl, ⟨nd, rfl⟩⟩))
           go_ret2
           exact ⟨_, by first | rfl | (simp [errW_none, errW_some] <;> rfl) | (simp [*, errW_none, errW_some] <;> rfl), by first | exact Kd.R_nil _ _ _ _ _ | exact Kd.N_nil _ _ _ _ _ | exact Kd.V_nil _ _ _ _ _ | exact Kd.Q_nil _ _ _ _ _ | exact Kd.S_nil _ _ _ _ _, by repeat (first | (with_reducible first | exact HB.out | apply below_alloc | apply pw_below_drewN | apply below_drew1 | refine below_set ?_ GE339.out) | exact HB.out)⟩
         ·replace c13 := Bool.eq_false_iff.mpr c13
          subst c13
          have H1 : (some (([] : List Int), false)) = some (r1, r2) := by rw [if_neg (show ¬ (false = true) by decide)] at H; exact H
          clear H
          have H := H1
          clear H1
          simp only [Option.some.injEq, Prod.mk.injEq] at H
          obtain ⟨rfl, rfl⟩ := H
          have p338 : 0 ≤ (x17_1 : Int) := of_decide_eq_true (by first | (with_reducible assumption) | assumption)
          have q338 : x17_1 < (l0.length : Int) := of_decide_eq_true (by first | (with_reducible assumption) | assumption)
          obtain ⟨ad338, A338_1, c338_1, e338, hx338_0, hx338_1, hx338_2, hx338_3, hl338_1, hi338_1⟩ := at_T39 HR0.out x17_1 p338 q338
          cases e338
          replace hx338_0 := (HB.out.cell (World.block_lt_of_cell? w _ hx338_0)).trans hx338_0
          replace hx338_1 := (HB.out.cell (World.block_lt_of_cell? w _ hx338_1)).trans hx338_1
          replace hx338_2 := (HB.out.cell (World.block_lt_of_cell? w _ hx338_2)).trans hx338_2
          replace hx338_3 := (HB.out.cell (World.block_lt_of_cell? w _ hx338_3)).trans hx338_3
          have HR338_1 := Aside0.mk hi338_1
          have HC338_1 := Aside0.mk hl338_1
          clear hi338_1 hl338_1
          replace p338 := eq_true p338
          replace q338 := eq_true q338
          go_wp2_with (first | ((with_reducible refine gate_dst (N := 6) rfl ?_); refine box_event ?hg (N := 6) ?hd (cs := #[.int .i64 0, .slice none 0 0, .int .i64 0, .int .i64 0]) (t := 39) ?hr ?_; (case hd => rfl); (case hg => rfl); (case hr => first | (go_simp; done) | (go_simp; rfl)); intro gb339 hg w22 hbox hb; have n0_ := Aside0.mk (Kd.R_below (by (with_reducible repeat (first | apply Kd.R_alloc | apply Kd.R_drewN | apply Kd.R_drew)); exact HO_4.out) hb); have n1_ := Aside0.mk (below_step (by repeat (first | (with_reducible first | exact HB.out | apply below_alloc | apply pw_below_drewN | apply below_drew1) | exact HB.out)) hb); have n2_ := Aside0.mk (hbox); have n3_ := Aside0.mk ((by rw [hg]; exact (below_size (by repeat (first | (with_reducible first | exact HB.out | apply below_alloc | apply pw_below_drewN | apply below_drew1) | exact HB.out))) : w.heap.size ≤ gb339)); have n4_ := Aside0.mk ((by rw [hg]; exact (below_size (by repeat (first | (with_reducible first | exact HB.out | apply below_alloc | apply pw_below_drewN | apply below_drew1) | exact HB.out))) : w.heap.size ≤ gb339)); clear HO_4; clear HB; have HO_4 := n0_; have HB := n1_; have BK339 := n2_; have GW339 := n3_; have GE339 := n4_; clear n0_ n1_ n2_ n3_ n4_; clear hb hbox hg; have hcz23_0 : w22.cell? ⟨gb339, 0, none⟩ = some (.int .i64 0) := (blk_cell BK339.out 0).trans rfl; have hcz23_1 : w22.cell? ⟨gb339, 1, none⟩ = some (.slice none 0 0) := (blk_cell BK339.out 1).trans rfl; have hcz23_2 : w22.cell? ⟨gb339, 2, none⟩ = some (.int .i64 0) := (blk_cell BK339.out 2).trans rfl; have hcz23_3 : w22.cell? ⟨gb339, 3, none⟩ = some (.int .i64 0) := (blk_cell BK339.out 3).trans rfl; have hfz23_0 := blk_frozen BK339.out 0; have hfz23_1 := blk_frozen BK339.out 1; have hfz23_2 := blk_frozen BK339.out 2; have hfz23_3 := blk_frozen BK339.out 3) | ((with_reducible refine gate_callee (f := 71) rfl ?_); refine goesL_ (some 26) rfl rfl Tryd.func71 (by kernel_rfl) rfl #[.slice A338_1 ((rd_T39 l0 x17_1).f1).length c338_1, .int .i64 (l0.length : Int)] rfl (by (try simp only [List.map_toArray, List.map_cons, List.map_nil]); first | done | rfl | (simp only [List.length_drop, List.length_take]; rfl)) ?_; (with_reducible refine (impl_setOf.calls k1 _ _ ((rd_T39 l0 x17_1).f1) (l0.length : Int) t340 true _ ?side1 ?side2 A8.out).mono ?_); (case side1 => exact Kd.C_below HR338_1.out (by repeat (first | (with_reducible first | exact HB.out | apply below_alloc | apply pw_below_drewN | apply below_drew1 | refine below_set ?_ GE339.out) | exact HB.out))); (case side2 => exact HC338_1.out); rintro e w' ⟨rfl, ⟨nd, rfl⟩⟩; refine ⟨_, rfl, ?_⟩) | (go_at_call 48; (with_reducible refine (impl_within.calls ((rd_T39 l0 x17_1).f0) 1 20 true _ A10.out).mono ?_); rintro e w' ⟨rfl, ⟨nd, rfl⟩⟩) | (go_at_call 48; (with_reducible refine (impl_within.calls ((rd_T39 l0 x17_1).f2) 0 2 false _ A12.out).mono ?_); rintro e w' ⟨rfl, ⟨nd, rfl⟩⟩))
          go_ret2
          exact ⟨_, by first | rfl | (simp [errW_none, errW_some] <;> rfl) | (simp [*, errW_none, errW_some] <;> rfl), by first | exact Kd.R_nil _ _ _ _ _ | exact Kd.N_nil _ _ _ _ _ | exact Kd.V_nil _ _ _ _ _ | exact Kd.Q_nil _ _ _ _ _ | exact Kd.S_nil _ _ _ _ _, by repeat (first | (with_reducible first | exact HB.out | apply below_alloc | apply pw_below_drewN | apply below_drew1 | refine below_set ?_ GE339.out) | exact HB.out)⟩
        ·replace c11 := Bool.eq_false_iff.mpr c11
         subst c11
         have H1 : (some (([] : List Int), false)) = some (r1, r2) := by rw [if_neg (show ¬ (false = true) by decide)] at H; exact H
         clear H
         have H := H1
         clear H1
         simp only [Option.some.injEq, Prod.mk.injEq] at H
         obtain ⟨rfl, rfl⟩ := H
         have p338 : 0 ≤ (x17_1 : Int) := of_decide_eq_true (by first | (with_reducible assumption) | assumption)
         have q338 : x17_1 < (l0.length : Int) := of_decide_eq_true (by first | (with_reducible assumption) | assumption)
         obtain ⟨ad338, A338_1, c338_1, e338, hx338_0, hx338_1, hx338_2, hx338_3, hl338_1, hi338_1⟩ := at_T39 HR0.out x17_1 p338 q338
         cases e338
         replace hx338_0 := (HB.out.cell (World.block_lt_of_cell? w _ hx338_0)).trans hx338_0
         replace hx338_1 := (HB.out.cell (World.block_lt_of_cell? w _ hx338_1)).trans hx338_1
         replace hx338_2 := (HB.out.cell (World.block_lt_of_cell? w _ hx338_2)).trans hx338_2
         replace hx338_3 := (HB.out.cell (World.block_lt_of_cell? w _ hx338_3)).trans hx338_3
         have HR338_1 := Aside0.mk hi338_1
         have HC338_1 := Aside0.mk hl338_1
         clear hi338_1 hl338_1
         replace p338 := eq_true p338
         replace q338 := eq_true q338
         go_wp2_with (first | ((with_reducible refine gate_dst (N := 6) rfl ?_); refine box_event ?hg (N := 6) ?hd (cs := #[.int .i64 0, .slice none 0 0, .int .i64 0, .int .i64 0]) (t := 39) ?hr ?_; (case hd => rfl); (case hg => rfl); (case hr => first | (go_simp; done) | (go_simp; rfl)); intro gb339 hg w24 hbox hb; have n0_ := Aside0.mk (Kd.R_below (by (with_reducible repeat (first | apply Kd.R_alloc | apply Kd.R_drewN | apply Kd.R_drew)); exact HO_4.out) hb); have n1_ := Aside0.mk (below_step (by repeat (first | (with_reducible first | exact HB.out | apply below_alloc | apply pw_below_drewN | apply below_drew1) | exact HB.out)) hb); have n2_ := Aside0.mk (hbox); have n3_ := Aside0.mk ((by rw [hg]; exact (below_size (by repeat (first | (with_reducible first | exact HB.out | apply below_alloc | apply pw_below_drewN | apply below_drew1) | exact HB.out))) : w.heap.size ≤ gb339)); have n4_ := Aside0.mk ((by rw [hg]; exact (below_size (by repeat (first | (with_reducible first | exact HB.out | apply below_alloc | apply pw_below_drewN | apply below_drew1) | exact HB.out))) : w.heap.size ≤ gb339)); clear HO_4; clear HB; have HO_4 := n0_; have HB := n1_; have BK339 := n2_; have GW339 := n3_; have GE339 := n4_; clear n0_ n1_ n2_ n3_ n4_; clear hb hbox hg; have hcz25_0 : w24.cell? ⟨gb339, 0, none⟩ = some (.int .i64 0) := (blk_cell BK339.out 0).trans rfl; have hcz25_1 : w24.cell? ⟨gb339, 1, none⟩ = some (.slice none 0 0) := (blk_cell BK339.out 1).trans rfl; have hcz25_2 : w24.cell? ⟨gb339, 2, none⟩ = some (.int .i64 0) := (blk_cell BK339.out 2).trans rfl; have hcz25_3 : w24.cell? ⟨gb339, 3, none⟩ = some (.int .i64 0) := (blk_cell BK339.out 3).trans rfl; have hfz25_0 := blk_frozen BK339.out 0; have hfz25_1 := blk_frozen BK339.out 1; have hfz25_2 := blk_frozen BK339.out 2; have hfz25_3 := blk_frozen BK339.out 3) | ((with_reducible refine gate_callee (f := 71) rfl ?_); refine goesL_ (some 26) rfl rfl Tryd.func71 (by kernel_rfl) rfl #[.slice A338_1 ((rd_T39 l0 x17_1).f1).length c338_1, .int .i64 (l0.length : Int)] rfl (by (try simp only [List.map_toArray, List.map_cons, List.map_nil]); first | done | rfl | (simp only [List.length_drop, List.length_take]; rfl)) ?_; (with_reducible refine (impl_setOf.calls k1 _ _ ((rd_T39 l0 x17_1).f1) (l0.length : Int) t340 true _ ?side1 ?side2 A8.out).mono ?_); (case side1 => exact Kd.C_below HR338_1.out (by repeat (first | (with_reducible first | exact HB.out | apply below_alloc | apply pw_below_drewN | apply below_drew1 | refine below_set ?_ GE339.out) | exact HB.out))); (case side2 => exact HC338_1.out); rintro e w' ⟨rfl, ⟨nd, rfl⟩⟩; refine ⟨_, rfl, ?_⟩) | (go_at_call 48; (with_reducible refine (impl_within.calls ((rd_T39 l0 x17_1).f0) 1 20 false _ A10.out).mono ?_); rintro e w' ⟨rfl, ⟨nd, rfl⟩⟩))
         go_ret2
         exact ⟨_, by first | rfl | (simp [errW_none, errW_some] <;> rfl) | (simp [*, errW_none, errW_some] <;> rfl), by first | exact Kd.R_nil _ _ _ _ _ | exact Kd.N_nil _ _ _ _ _ | exact Kd.V_nil _ _ _ _ _ | exact Kd.Q_nil _ _ _ _ _ | exact Kd.S_nil _ _ _ _ _, by repeat (first | (with_reducible first | exact HB.out | apply below_alloc | apply pw_below_drewN | apply below_drew1 | refine below_set ?_ GE339.out) | exact HB.out)⟩
       ·replace c9 := Bool.eq_false_iff.mpr c9
        subst c9
        have H1 : (some (([] : List Int), false)) = some (r1, r2) := by rw [if_neg (show ¬ (false = true) by decide)] at H; exact H
        clear H
        have H := H1
        clear H1
        simp only [Option.some.injEq, Prod.mk.injEq] at H
        obtain ⟨rfl, rfl⟩ := H
        have p338 : 0 ≤ (x17_1 : Int) := of_decide_eq_true (by first | (with_reducible assumption) | assumption)
        have q338 : x17_1 < (l0.length : Int) := of_decide_eq_true (by first | (with_reducible assumption) | assumption)
        obtain ⟨ad338, A338_1, c338_1, e338, hx338_0, hx338_1, hx338_2, hx338_3, hl338_1, hi338_1⟩ := at_T39 HR0.out x17_1 p338 q338
        cases e338
        replace hx338_0 := (HB.out.cell (World.block_lt_of_cell? w _ hx338_0)).trans hx338_0
        replace hx338_1 := (HB.out.cell (World.block_lt_of_cell? w _ hx338_1)).trans hx338_1
        replace hx338_2 := (HB.out.cell (World.block_lt_of_cell? w _ hx338_2)).trans hx338_2
        replace hx338_3 := (HB.out.cell (World.block_lt_of_cell? w _ hx338_3)).trans hx338_3
        have HR338_1 := Aside0.mk hi338_1
        have HC338_1 := Aside0.mk hl338_1
        clear hi338_1 hl338_1
        replace p338 := eq_true p338
        replace q338 := eq_true q338
        go_wp2_with (first | ((with_reducible refine gate_dst (N := 6) rfl ?_); refine box_event ?hg (N := 6) ?hd (cs := #[.int .i64 0, .slice none 0 0, .int .i64 0, .int .i64 0]) (t := 39) ?hr ?_; (case hd => rfl); (case hg => rfl); (case hr => first | (go_simp; done) | (go_simp; rfl)); intro gb339 hg w26 hbox hb; have n0_ := Aside0.mk (Kd.R_below (by (with_reducible repeat (first | apply Kd.R_alloc | apply Kd.R_drewN | apply Kd.R_drew)); exact HO_4.out) hb); have n1_ := Aside0.mk (below_step (by repeat (first | (with_reducible first | exact HB.out | apply below_alloc | apply pw_below_drewN | apply below_drew1) | exact HB.out)) hb); have n2_ := Aside0.mk (hbox); have n3_ := Aside0.mk ((by rw [hg]; exact (below_size (by repeat (first | (with_reducible first | exact HB.out | apply below_alloc | apply pw_below_drewN | apply below_drew1) | exact HB.out))) : w.heap.size ≤ gb339)); have n4_ := Aside0.mk ((by rw [hg]; exact (below_size (by repeat (first | (with_reducible first | exact HB.out | apply below_alloc | apply pw_below_drewN | apply below_drew1) | exact HB.out))) : w.heap.size ≤ gb339)); clear HO_4; clear HB; have HO_4 := n0_; have HB := n1_; have BK339 := n2_; have GW339 := n3_; have GE339 := n4_; clear n0_ n1_ n2_ n3_ n4_; clear hb hbox hg; have hcz27_0 : w26.cell? ⟨gb339, 0, none⟩ = some (.int .i64 0) := (blk_cell BK339.out 0).trans rfl; have hcz27_1 : w26.cell? ⟨gb339, 1, none⟩ = some (.slice none 0 0) := (blk_cell BK339.out 1).trans rfl; have hcz27_2 : w26.cell? ⟨gb339, 2, none⟩ = some (.int .i64 0) := (blk_cell BK339.out 2).trans rfl; have hcz27_3 : w26.cell? ⟨gb339, 3, none⟩ = some (.int .i64 0) := (blk_cell BK339.out 3).trans rfl; have hfz27_0 := blk_frozen BK339.out 0; have hfz27_1 := blk_frozen BK339.out 1; have hfz27_2 := blk_frozen BK339.out 2; have hfz27_3 := blk_frozen BK339.out 3) | ((with_reducible refine gate_callee (f := 71) rfl ?_); refine goesL_ (some 26) rfl rfl Tryd.func71 (by kernel_rfl) rfl #[.slice A338_1 ((rd_T39 l0 x17_1).f1).length c338_1, .int .i64 (l0.length : Int)] rfl (by (try simp only [List.map_toArray, List.map_cons, List.map_nil]); first | done | rfl | (simp only [List.length_drop, List.length_take]; rfl)) ?_; (with_reducible refine (impl_setOf.calls k1 _ _ ((rd_T39 l0 x17_1).f1) (l0.length : Int) t340 false _ ?side1 ?side2 A8.out).mono ?_); (case side1 => exact Kd.C_below HR338_1.out (by repeat (first | (with_reducible first | exact HB.out | apply below_alloc | apply pw_below_drewN | apply below_drew1 | refine below_set ?_ GE339.out) | exact HB.out))); (case side2 => exact HC338_1.out); rintro e w' ⟨rfl, ⟨nd, rfl⟩⟩; refine ⟨_, rfl, ?_⟩))
        go_ret2
        exact ⟨_, by first | rfl | (simp [errW_none, errW_some] <;> rfl) | (simp [*, errW_none, errW_some] <;> rfl), by first | exact Kd.R_nil _ _ _ _ _ | exact Kd.N_nil _ _ _ _ _ | exact Kd.V_nil _ _ _ _ _ | exact Kd.Q_nil _ _ _ _ _ | exact Kd.S_nil _ _ _ _ _, by repeat (first | (with_reducible first | exact HB.out | apply below_alloc | apply pw_below_drewN | apply below_drew1 | refine below_set ?_ GE339.out) | exact HB.out)⟩
      ·rw [if_neg c7] at H
       exact absurd H (by simp)
     ·rw [if_neg c6] at H
      exact absurd H (by simp)
    ·rw [if_neg c5] at H
     have c5b0 : decide (x17_1 < (l0.length : Int)) = false := decide_eq_false c5
     clear c5
     simp only [Option.some.injEq, Prod.mk.injEq] at H
     obtain ⟨rfl, rfl⟩ := H
     go_wp2
     go_ret2
     exact ⟨_, by first | rfl | (simp [errW_none, errW_some] <;> rfl) | (simp [*, errW_none, errW_some] <;> rfl), by (with_reducible repeat (first | apply Kd.R_alloc | apply Kd.R_drewN | apply Kd.R_drew)); exact HO_4.out, by repeat (first | (with_reducible first | exact HB.out | apply below_alloc | apply pw_below_drewN | apply below_drew1) | exact HB.out)⟩
end Go.Proofs.YtajapkjplgaigaaDoor.P
end
section
namespace Go.Proofs.YtajapkjplgaigaaDoor.P
open Go.RowKit Go.Proofs.YtajapkjplgaigaaDoorW.PrintWords Go.Proofs.YtajapkjplgaigaaDoorW.PrintLast Go.Proofs.YtajapkjplgaigaaDoorW.PrintMore
attribute [local go_sem] max2_int min2_int max_two min_two max_three min_three max_four min_four   -- for this text's walks alone
set_option linter.unusedVariables false
set_option linter.unusedSimpArgs false
mutual
def impl_order.l0 : Nat → List Int → List Int → Int → Int → Int → Option (List Int × Int)
 | 0, _, _, _, _, _ => none
 | k + 1, x0, x4, x5, x10, x11 => if x11 < x10 then (impl_order.l1 k x0 x4 x5 x10 x11 x0 (x0.length : Int) 0) else (some (x4, x5))
def impl_order.l1 : Nat → List Int → List Int → Int → Int → Int → List Int → Int → Int → Option (List Int × Int)
 | 0, _, _, _, _, _, _, _, _ => none
 | k + 1, x0, x4, x5, x10, x11, x13, x14, x15 => if x15 < x14 then (if 0 ≤ x15 then (if x15 < (x13.length : Int) then ((impl_set_has.f x5 x15).bind fun t352 => (if t352 = true then (impl_order.l1 k x0 x4 x5 x10 x11 x13 x14 (wrap64 (x15 + 1))) else (if (Go.bits .andNot .u16 (rd x13 x15) x5) = 0 then (if x4.length < 17592186044416 then ((impl_set_with.f x5 x15).bind fun t356 => (impl_order.l0 k x0 (x4 ++ [x15]) t356 x10 (wrap64 (x11 + 1)))) else (none)) else (impl_order.l1 k x0 x4 x5 x10 x11 x13 x14 (wrap64 (x15 + 1)))))) else (none)) else (none)) else (impl_order.l0 k x0 x4 x5 x10 (wrap64 (x11 + 1)))
end
def impl_order.f (k : Nat) (l0 : List Int) : Option (List Int × Int) := impl_order.l0 k l0 (([] : List Int)) 0 (l0.length : Int) 0
set_option maxHeartbeats 8000000 in
set_option maxRecDepth 100000 in
theorem impl_order.calls (k : Nat) (A0 : Option Addr) (c0 : Nat) (l0 : List Int) (r1 : List Int) (r2 : Int) (w : World) (hr0 : Kd.C (Kd.int .u16) w A0 l0.length l0) (hc0 : l0.length ≤ c0) (h : impl_order.f k l0 = some (r1, r2)) :
  Calls Tryd.prog 90 #[.slice A0 l0.length c0] w fun e w' => ∃ v0_ : Value, e = .returned (.tuple #[v0_, .int .u16 r2]) ∧ Kd.R (Kd.int .i64) 3 w' w.heap.size (fun _ => True) v0_ r1 ∧ Below w.heap.size w w' := by
 have HR0 := Aside0.mk hr0
 have HC0 := Aside0.mk hc0
 clear hr0 hc0
 have HB := Aside0.mk (Below.refl w.heap.size w)
 have H : (impl_order.l0 k l0 (([] : List Int)) 0 (l0.length : Int) 0) = some (r1, r2) := h
 clear h
 obtain ⟨y348, hy348⟩ : ∃ y_ : List Int, y_ = (([] : List Int)) := ⟨_, rfl⟩
 replace H : (impl_order.l0 k l0 y348 0 (l0.length : Int) 0) = some (r1, r2) := by first | (rw [hy348]; with_reducible exact H) | (have H2_ := (Option.bind_some _ _).symm.trans H; rw [hy348]; with_reducible exact H2_) | (have H2_ := (Option.bind_some _ _).symm.trans H; with_reducible exact H2_) | with_reducible exact H | (rw [hy348]; exact H) | exact H
 have Ny348 := Aside0.mk hy348
 clear hy348
 have H' := Aside0.mk H
 clear H
 go_enter Tryd.func90, Tryd.ntmps90
 go_wp2_with (first | ((with_reducible refine gate_dst (N := 8) rfl ?_); refine Kd.R_lit (Kd.int .i64) _ 3 ?hg (N := 8) ?hd (xs := ([] : List Int)) (inner := []) (ok := fun _ => True) (okp := fun _ => True) ?hr ?hp (fun _ hk => hk) trivial (Below.refl _ _) (Nat.le_refl _) (by simp) ?_; (case hd => rfl); (case hg => rfl); (case hr => first | (go_simp; done) | (go_simp; rfl)); (case hp => exact (Reps.none _ _)); intro v349 w2 ho3 hb hg_ hnew_; clear hg_ hnew_; (first | rw [← Ny348.out] at ho3 | (simp only [Int.reduceToNat] at ho3; rw [← Ny348.out] at ho3)); have n0_ := Aside0.mk (Kd.R_lower ho3 (below_size (by repeat (first | (with_reducible first | exact HB.out | apply below_alloc | apply pw_below_drewN | apply below_drew1) | exact HB.out)))); have n1_ := Aside0.mk (below_step (by repeat (first | (with_reducible first | exact HB.out | apply below_alloc | apply pw_below_drewN | apply below_drew1) | exact HB.out)) hb); clear HB; have HO350 := n0_; have HB := n1_; clear n0_ n1_; clear hb ho3))
 go_loopg [4, 5, 11] k (fun kq v4 v5 v11 w' => ∃ (x4_1 : List Int) (x5_1 : Int) (x11_1 : Int), v5 = .int .u16 x5_1 ∧ v11 = .int .i64 x11_1 ∧ Aside0 (impl_order.l0 kq l0 x4_1 x5_1 (l0.length : Int) x11_1 = some (r1, r2)) ∧ Aside0 (kq ≤ k) ∧ Aside0 (Kd.R (Kd.int .i64) 3 w' w.heap.size (fun _ => True) v4 x4_1) ∧ Aside0 (Below w.heap.size w w'))
 case atStart => exact ⟨(y348), (0), (0), (by first | rfl | (simp; done) | (simp [*]; done)), (by first | rfl | (simp; done) | (simp [*]; done)), H', ⟨Nat.le_refl _⟩, ⟨by (with_reducible repeat (first | apply Kd.R_alloc | apply Kd.R_drewN | apply Kd.R_drew)); exact HO350.out⟩, ⟨by repeat (first | (with_reducible first | exact HB.out | apply below_alloc | apply pw_below_drewN | apply below_drew1) | exact HB.out)⟩⟩
 case round =>
  clear H'
  try clear p2
  obtain ⟨x4_1, x5_1, x11_1, rfl, rfl, HA, HK1, HO_4, HB⟩ := hrel
  cases gk with
  | zero => exact absurd HA.out (by simp [impl_order.l0])
  | succ k1 =>
   have H := HA.out
   clear HA
   simp only [impl_order.l0] at H
   by_cases c4 : x11_1 < (l0.length : Int)
   ·rw [if_pos c4] at H
    have c4b0 : decide (x11_1 < (l0.length : Int)) = true := decide_eq_true c4
    clear c4
    have H' := Aside0.mk H
    clear H
    go_wp2
    go_loopg [4, 5, 15] k1 (fun kq v4 v5 v15 w' => ∃ (x4_2 : List Int) (x5_2 : Int) (x15_2 : Int), v5 = .int .u16 x5_2 ∧ v15 = .int .i64 x15_2 ∧ Aside0 (impl_order.l1 kq l0 x4_2 x5_2 (l0.length : Int) x11_1 l0 (l0.length : Int) x15_2 = some (r1, r2)) ∧ Aside0 (kq ≤ k1) ∧ Aside0 (Kd.R (Kd.int .i64) 3 w' w.heap.size (fun _ => True) v4 x4_2) ∧ Aside0 (Below w.heap.size w w'))
    case atStart => exact ⟨(x4_1), (x5_1), (0), (by first | rfl | (simp; done) | (simp [*]; done)), (by first | rfl | (simp; done) | (simp [*]; done)), H', ⟨Nat.le_refl _⟩, ⟨by (with_reducible repeat (first | apply Kd.R_alloc | apply Kd.R_drewN | apply Kd.R_drew)); exact HO_4.out⟩, ⟨by repeat (first | (with_reducible first | exact HB.out | apply below_alloc | apply pw_below_drewN | apply below_drew1) | exact HB.out)⟩⟩
    case round =>
     clear H'
     try clear p2
     try clear c4
     try clear c4b0
     try clear p2
     obtain ⟨x4_2, x5_2, x15_2, rfl, rfl, HA, HK2, HO_4, HB⟩ := hrel
     cases gk with
     | zero => exact absurd HA.out (by simp [impl_order.l1])
     | succ k2 =>
      have H := HA.out
      clear HA
      simp only [impl_order.l1] at H
      by_cases c5 : x15_2 < (l0.length : Int)
      ·rw [if_pos c5] at H
       have c5b0 : decide (x15_2 < (l0.length : Int)) = true := decide_eq_true c5
       clear c5
       by_cases c6 : 0 ≤ x15_2
       ·rw [if_pos c6] at H
        have c6b0 : decide (0 ≤ x15_2) = true := decide_eq_true c6
        clear c6
        by_cases c7 : x15_2 < (l0.length : Int)
        ·rw [if_pos c7] at H
         have c7b0 : decide (x15_2 < (l0.length : Int)) = true := decide_eq_true c7
         clear c7
         replace H := Option.bind_eq_some_iff.mp H
         obtain ⟨t352, A80, H⟩ := H
         replace H : (if t352 = true then (impl_order.l1 k2 l0 x4_2 x5_2 (l0.length : Int) x11_1 l0 (l0.length : Int) (wrap64 (x15_2 + 1))) else (if (Go.bits .andNot .u16 (rd l0 x15_2) x5_2) = 0 then (if x4_2.length < 17592186044416 then ((impl_set_with.f x5_2 x15_2).bind fun t356 => (impl_order.l0 k2 l0 (x4_2 ++ [x15_2]) t356 (l0.length : Int) (wrap64 (x11_1 + 1)))) else (none)) else (impl_order.l1 k2 l0 x4_2 x5_2 (l0.length : Int) x11_1 l0 (l0.length : Int) (wrap64 (x15_2 + 1))))) = some (r1, r2) := H
         have A8 := Aside0.mk A80
         clear A80
         by_cases c9 : t352 = true
         ·subst c9
          have H1 : (impl_order.l1 k2 l0 x4_2 x5_2 (l0.length : Int) x11_1 l0 (l0.length : Int) (wrap64 (x15_2 + 1))) = some (r1, r2) := by rw [if_pos rfl] at H; exact H
          clear H
          have H := H1
          clear H1
          have H' := Aside0.mk H
          clear H
          have p351 : 0 ≤ (x15_2 : Int) := of_decide_eq_true (by first | (with_reducible assumption) | assumption)
          have q351 : x15_2 < (l0.length : Int) := of_decide_eq_true (by first | (with_reducible assumption) | assumption)
          obtain ⟨ad351, e351, hx351_0⟩ := Kd.at_int HR0.out x15_2 p351 q351
          cases e351
          replace hx351_0 := (HB.out.cell (World.block_lt_of_cell? w _ hx351_0)).trans hx351_0
          replace p351 := eq_true p351
          replace q351 := eq_true q351
          go_wp2_with (first | ((with_reducible refine gate_callee (f := 49) rfl ?_); refine goesL_ (some 22) rfl rfl Tryd.func49 (by kernel_rfl) rfl #[.int .u16 x5_2, .int .i64 x15_2] rfl (by (try simp only [List.map_toArray, List.map_cons, List.map_nil]); first | done | rfl | (simp only [List.length_drop, List.length_take]; rfl)) ?_; (with_reducible refine (impl_set_has.calls x5_2 x15_2 true _ A8.out).mono ?_); rintro e w' ⟨rfl, ⟨nd, rfl⟩⟩; refine ⟨_, rfl, ?_⟩))
          go_roundg k2
          case measure => have := HK1.out; have := HK2.out; omega
          case rel => exact ⟨(x4_2), (x5_2), (wrap64 (x15_2 + 1)), (by first | rfl | (simp; done) | (simp [*]; done)), (by first | rfl | (simp; done) | (simp [*]; done)), H', ⟨by have := HK1.out; have := HK2.out; omega⟩, ⟨by (with_reducible repeat (first | apply Kd.R_alloc | apply Kd.R_drewN | apply Kd.R_drew)); exact HO_4.out⟩, ⟨by repeat (first | (with_reducible first | exact HB.out | apply below_alloc | apply pw_below_drewN | apply below_drew1) | exact HB.out)⟩⟩
         ·replace c9 := Bool.eq_false_iff.mpr c9
          subst c9
          have H1 : (if (Go.bits .andNot .u16 (rd l0 x15_2) x5_2) = 0 then (if x4_2.length < 17592186044416 then ((impl_set_with.f x5_2 x15_2).bind fun t356 => (impl_order.l0 k2 l0 (x4_2 ++ [x15_2]) t356 (l0.length : Int) (wrap64 (x11_1 + 1)))) else (none)) else (impl_order.l1 k2 l0 x4_2 x5_2 (l0.length : Int) x11_1 l0 (l0.length : Int) (wrap64 (x15_2 + 1)))) = some (r1, r2) := by rw [if_neg (show ¬ (false = true) by decide)] at H; exact H
          clear H
          have H := H1
          clear H1
          by_cases c10 : (Go.bits .andNot .u16 (rd l0 x15_2) x5_2) = 0
          ·rw [if_pos c10] at H
           have c10b0 : ((Go.bits .andNot .u16 (rd l0 x15_2) x5_2) == 0) = true := beq_iff_eq.mpr c10
           have c10b1 : ((Go.bits .andNot .u16 (rd l0 x15_2) x5_2) != 0) = false := bne_eq_false_iff_eq.mpr c10
           clear c10
           by_cases c11 : x4_2.length < 17592186044416
           ·rw [if_pos c11] at H
            have LMc11 := Aside0.mk c11
            clear c11
            obtain ⟨y353, hy353⟩ : ∃ y_ : List Int, y_ = (x4_2 ++ [x15_2]) := ⟨_, rfl⟩
            replace H : ((impl_set_with.f x5_2 x15_2).bind fun t356 => (impl_order.l0 k2 l0 y353 t356 (l0.length : Int) (wrap64 (x11_1 + 1)))) = some (r1, r2) := by first | (rw [hy353]; with_reducible exact H) | (have H2_ := (Option.bind_some _ _).symm.trans H; rw [hy353]; with_reducible exact H2_) | (have H2_ := (Option.bind_some _ _).symm.trans H; with_reducible exact H2_) | with_reducible exact H | (rw [hy353]; exact H) | exact H
            have Ny353 := Aside0.mk hy353
            clear hy353
            replace H := Option.bind_eq_some_iff.mp H
            obtain ⟨t356, A120, H⟩ := H
            replace H : (impl_order.l0 k2 l0 y353 t356 (l0.length : Int) (wrap64 (x11_1 + 1))) = some (r1, r2) := H
            have A12 := Aside0.mk A120
            clear A120
            have H' := Aside0.mk H
            clear H
            have p351 : 0 ≤ (x15_2 : Int) := of_decide_eq_true (by first | (with_reducible assumption) | assumption)
            have q351 : x15_2 < (l0.length : Int) := of_decide_eq_true (by first | (with_reducible assumption) | assumption)
            obtain ⟨ad351, e351, hx351_0⟩ := Kd.at_int HR0.out x15_2 p351 q351
            cases e351
            replace hx351_0 := (HB.out.cell (World.block_lt_of_cell? w _ hx351_0)).trans hx351_0
            replace p351 := eq_true p351
            replace q351 := eq_true q351
            go_wp2_with (first | ((with_reducible refine gate_callee (f := 49) rfl ?_); refine goesL_ (some 22) rfl rfl Tryd.func49 (by kernel_rfl) rfl #[.int .u16 x5_2, .int .i64 x15_2] rfl (by (try simp only [List.map_toArray, List.map_cons, List.map_nil]); first | done | rfl | (simp only [List.length_drop, List.length_take]; rfl)) ?_; (with_reducible refine (impl_set_has.calls x5_2 x15_2 false _ A8.out).mono ?_); rintro e w' ⟨rfl, ⟨nd, rfl⟩⟩; refine ⟨_, rfl, ?_⟩) | ((with_reducible refine gate_builtin (b := .append) (xs := #[.tmp 30, .tmp 32]) rfl ?_); at_builtin; refine Kd.R_append (Kd.int .i64) (w0 := w) w.heap.size rfl (.tmp 30) (.tmp 32) 24 3 (.int .i64 0) 8 rfl Tryd.underlying24 info3 rfl (by decide) (by omega) u4 x4_2 x15_2 [.int .i64 x15_2] (fun _ => True) (fun _ => False) rfl rfl ?aP (fun _ hk => hk.elim) ?aF ?aO ?aB ?aS ?aL ?_; (case aP => exact rfl); (case aB => exact (by repeat (first | (with_reducible first | exact HB.out | apply below_alloc | apply pw_below_drewN | apply below_drew1) | exact HB.out))); (case aF => exact (fun _ _ => trivial)); (case aO => exact (by (with_reducible repeat (first | apply Kd.R_alloc | apply Kd.R_drewN | apply Kd.R_drew)); exact HO_4.out)); (case aS => exact (below_size (by repeat (first | (with_reducible first | exact HB.out | apply below_alloc | apply pw_below_drewN | apply below_drew1) | exact HB.out)))); (case aL => have := LMc11.out; omega); intro v354 w13 ho hb hg hat; rw [← Ny353.out] at ho; have n0_ := Aside0.mk (hb); have n1_ := Aside0.mk (ho); clear HB; clear HO_4; have HB := n0_; have HO355 := n1_; clear n0_ n1_; clear ho hb hg hat) | ((with_reducible refine gate_callee (f := 50) rfl ?_); refine goesL_ (some 36) rfl rfl Tryd.func50 (by kernel_rfl) rfl #[.int .u16 x5_2, .int .i64 x15_2] rfl (by (try simp only [List.map_toArray, List.map_cons, List.map_nil]); first | done | rfl | (simp only [List.length_drop, List.length_take]; rfl)) ?_; (with_reducible refine (impl_set_with.calls x5_2 x15_2 t356 _ A12.out).mono ?_); rintro e w' ⟨rfl, ⟨nd, rfl⟩⟩; refine ⟨_, rfl, ?_⟩))
            go_roundg k2
            case measure => have := HK1.out; have := HK2.out; omega
            case rel => exact ⟨(y353), (t356), (wrap64 (x11_1 + 1)), (by first | rfl | (simp; done) | (simp [*]; done)), (by first | rfl | (simp; done) | (simp [*]; done)), H', ⟨by have := HK1.out; have := HK2.out; omega⟩, ⟨by (with_reducible repeat (first | apply Kd.R_alloc | apply Kd.R_drewN | apply Kd.R_drew)); exact HO355.out⟩, ⟨by repeat (first | (with_reducible first | exact HB.out | apply below_alloc | apply pw_below_drewN | apply below_drew1) | exact HB.out)⟩⟩
           ·rw [if_neg c11] at H
            exact absurd H (by simp)
          ·rw [if_neg c10] at H
           have c10b0 : ((Go.bits .andNot .u16 (rd l0 x15_2) x5_2) == 0) = false := beq_eq_false_iff_ne.mpr c10
           have c10b1 : ((Go.bits .andNot .u16 (rd l0 x15_2) x5_2) != 0) = true := bne_iff_ne.mpr c10
           have H' := Aside0.mk H
           clear H
           have p351 : 0 ≤ (x15_2 : Int) := of_decide_eq_true (by first | (with_reducible assumption) | assumption)
           have q351 : x15_2 < (l0.length : Int) := of_decide_eq_true (by first | (with_reducible assumption) | assumption)
           obtain ⟨ad351, e351, hx351_0⟩ := Kd.at_int HR0.out x15_2 p351 q351
           cases e351
           replace hx351_0 := (HB.out.cell (World.block_lt_of_cell? w _ hx351_0)).trans hx351_0
           replace p351 := eq_true p351
           replace q351 := eq_true q351
           go_wp2_with (first | ((with_reducible refine gate_callee (f := 49) rfl ?_); refine goesL_ (some 22) rfl rfl Tryd.func49 (by kernel_rfl) rfl #[.int .u16 x5_2, .int .i64 x15_2] rfl (by (try simp only [List.map_toArray, List.map_cons, List.map_nil]); first | done | rfl | (simp only [List.length_drop, List.length_take]; rfl)) ?_; (with_reducible refine (impl_set_has.calls x5_2 x15_2 false _ A8.out).mono ?_); rintro e w' ⟨rfl, ⟨nd, rfl⟩⟩; refine ⟨_, rfl, ?_⟩))
           go_roundg k2
           case measure => have := HK1.out; have := HK2.out; omega
           case rel => exact ⟨(x4_2), (x5_2), (wrap64 (x15_2 + 1)), (by first | rfl | (simp; done) | (simp [*]; done)), (by first | rfl | (simp; done) | (simp [*]; done)), H', ⟨by have := HK1.out; have := HK2.out; omega⟩, ⟨by (with_reducible repeat (first | apply Kd.R_alloc | apply Kd.R_drewN | apply Kd.R_drew)); exact HO_4.out⟩, ⟨by repeat (first | (with_reducible first | exact HB.out | apply below_alloc | apply pw_below_drewN | apply below_drew1) | exact HB.out)⟩⟩
        ·rw [if_neg c7] at H
         exact absurd H (by simp)
       ·rw [if_neg c6] at H
        exact absurd H (by simp)
      ·rw [if_neg c5] at H
       have c5b0 : decide (x15_2 < (l0.length : Int)) = false := decide_eq_false c5
       clear c5
       have H' := Aside0.mk H
       clear H
       go_wp2
       go_roundg k2
       case measure => have := HK1.out; have := HK2.out; omega
       case rel => exact ⟨(x4_2), (x5_2), (wrap64 (x11_1 + 1)), (by first | rfl | (simp; done) | (simp [*]; done)), (by first | rfl | (simp; done) | (simp [*]; done)), H', ⟨by have := HK1.out; have := HK2.out; omega⟩, ⟨by (with_reducible repeat (first | apply Kd.R_alloc | apply Kd.R_drewN | apply Kd.R_drew)); exact HO_4.out⟩, ⟨by repeat (first | (with_reducible first | exact HB.out | apply below_alloc | apply pw_below_drewN | apply below_drew1) | exact HB.out)⟩⟩
   ·rw [if_neg c4] at H
    have c4b0 : decide (x11_1 < (l0.length : Int)) = false := decide_eq_false c4
    clear c4
    simp only [Option.some.injEq, Prod.mk.injEq] at H
    obtain ⟨rfl, rfl⟩ := H
    go_wp2
    go_ret2
    exact ⟨_, by first | rfl | (simp [errW_none, errW_some] <;> rfl) | (simp [*, errW_none, errW_some] <;> rfl), by (with_reducible repeat (first | apply Kd.R_alloc | apply Kd.R_drewN | apply Kd.R_drew)); exact HO_4.out, by repeat (first | (with_reducible first | exact HB.out | apply below_alloc | apply pw_below_drewN | apply below_drew1) | exact HB.out)⟩
end Go.Proofs.YtajapkjplgaigaaDoor.P
end
section
namespace Go.Proofs.YtajapkjplgaigaaDoor.P
open Go.RowKit Go.Proofs.YtajapkjplgaigaaDoorW.PrintWords Go.Proofs.YtajapkjplgaigaaDoorW.PrintLast Go.Proofs.YtajapkjplgaigaaDoorW.PrintMore
attribute [local go_sem] max2_int min2_int max_two min_two max_three min_three max_four min_four   -- for this text's walks alone
set_option linter.unusedVariables false
set_option linter.unusedSimpArgs false
def impl_everything.f (a0 : Int) : Option (Int) := if 0 ≤ a0 then (some (IntKind.u16.wrap ((shl .u16 1 a0) - 1))) else (none)
set_option maxHeartbeats 8000000 in
set_option maxRecDepth 100000 in
theorem impl_everything.calls (a0 : Int) (r : Int) (w : World) (h : impl_everything.f a0 = some r) :
  Calls Tryd.prog 42 #[.int .i64 a0] w fun e w' => e = .returned (.int .u16 r) ∧ Drawn0 w w' := by
 have H : (if 0 ≤ a0 then (some (IntKind.u16.wrap ((shl .u16 1 a0) - 1))) else (none)) = some r := h
 clear h
 by_cases c2 : 0 ≤ a0
 ·rw [if_pos c2] at H
  have c2b0 := eq_true c2
  have c2b1 : decide (0 ≤ a0) = true := decide_eq_true c2
  clear c2
  obtain ⟨ji3, hji3⟩ : ∃ j_ : Int, (shl .u16 1 a0) = j_ := ⟨_, rfl⟩
  replace H : (some (IntKind.u16.wrap ((ji3) - 1))) = some r := by first | (rw [hji3] at H; exact H) | (simp only [hji3] at H ⊢; exact H)
  have hji3_ : (IntKind.u16.wrap (1 * 2 ^ min a0.toNat 16)) = ji3 := hji3
  have hji3z : a0 ≤ 16 → (IntKind.u16.wrap (1 * 2 ^ a0.toNat)) = ji3 := shl_small hji3
  have hji3u : (IntKind.u16.wrap (2 ^ min a0.toNat 16)) = ji3 := by have h_ := hji3_; rw [Int.one_mul] at h_; exact h_
  have hji3v : a0 ≤ 16 → (IntKind.u16.wrap (2 ^ a0.toNat)) = ji3 := fun hle_ => by have h_ := hji3z hle_; rw [Int.one_mul] at h_; exact h_
  obtain rfl := Option.some.inj H
  go_enter Tryd.func42, Tryd.ntmps42
  go_wp2
  go_ret
  exact ⟨by first | rfl | (simp; done) | (simp only [← hji3] <;> (first | rfl | simp)) | (simp [*]; done), by repeat (first | exact Drawn0.refl _ | apply Drawn0.step)⟩
 ·rw [if_neg c2] at H
  exact absurd H (by simp)
end Go.Proofs.YtajapkjplgaigaaDoor.P
end
section
namespace Go.Proofs.YtajapkjplgaigaaDoor.P
open Go.RowKit Go.Shelf Go.Proofs.YtajapkjplgaigaaDoorW.PrintWords Go.Proofs.YtajapkjplgaigaaDoorW.PrintLast Go.Proofs.YtajapkjplgaigaaDoorW.PrintMore
attribute [local go_sem] Oper.semAt_some
set_option linter.unusedVariables false
set_option linter.unusedSimpArgs false
def everyI (n : Nat) : Int := IntKind.u16.wrap ((shl .u16 1 (n : Int)) - 1)
theorem everyI_calls (n : Nat) (w : World) : Calls Tryd.prog 42 #[.int .i64 (n : Int)] w fun e w' => e = .returned (.int .u16 (everyI n)) ∧ Drawn0 w w' :=
 impl_everything.calls (n : Int) _ w (by unfold impl_everything.f; rw [if_pos (by omega)]; rfl)
set_option maxRecDepth 100000 in
set_option maxHeartbeats 4000000 in
theorem graphOf_no1 (k : Nat) (A0 : Option Addr) (c0 : Nat) (l0 : List TT) (nd : List Int) (w : World) (hr0 : Kd.C k39 w A0 l0.length l0) (hc0 : l0.length ≤ c0) (hN : impl_needsOf.f k l0 = some (nd, false)) :
  Calls Tryd.prog 58 #[.slice A0 l0.length c0] w fun e w' => e = .returned (.tuple #[.pointer none, .bool false]) ∧ Below w.heap.size w w' := by
 have nc := Aside0.mk (impl_needsOf.calls k A0 c0 l0 nd false w hr0 hc0 hN)
 clear hr0 hN
 refine calls_of_wpM Tryd.func58 rfl ?_
 simp only [Tryd.ntmps58, List.size_toArray, List.length_cons, List.length_nil, Nat.reduceAdd, Nat.reduceSub, Array.replicate_succ, Array.replicate_zero, List.push_toArray, List.append_toArray, List.nil_append, List.cons_append]
 go_wp2_with (go_at_call 89; refine nc.out.mono ?_; rintro e w1 ⟨v, rfl, hR, hB⟩; have hB' := Aside0.mk hB; clear hB hR)
 refine retM (B := w.heap.size) (fun W => Below w.heap.size w W) (ownFrom_below (Nat.le_refl _) (Nat.le_refl _)) trivial hB'.out ?_
 intro W' hbb
 exact ⟨.tuple #[.pointer none, .bool false], (results_tmp2 (t := 2) (u := 3) rfl _ _ _).trans rfl, rfl, hbb⟩
set_option maxRecDepth 100000 in
set_option maxHeartbeats 4000000 in
theorem graphOf_no2 (k : Nat) (A0 : Option Addr) (c0 : Nat) (l0 : List TT) (nd od : List Int) (dn : Int) (w : World) (hr0 : Kd.C k39 w A0 l0.length l0) (hc0 : l0.length ≤ c0) (hN : impl_needsOf.f k l0 = some (nd, true)) (hO : impl_order.f k nd = some (od, dn))
  (hd : (dn == everyI l0.length) = false) :
  Calls Tryd.prog 58 #[.slice A0 l0.length c0] w fun e w' => e = .returned (.tuple #[.pointer none, .bool false]) ∧ Below w.heap.size w w' := by
 have nc := Aside0.mk (impl_needsOf.calls k A0 c0 l0 nd true w hr0 hc0 hN)
 have hO' := Aside0.mk hO
 clear hr0 hN hO
 have hd2 : (dn != everyI l0.length) = true := by simpa [bne] using hd
 refine calls_of_wpM Tryd.func58 rfl ?_
 simp only [Tryd.ntmps58, List.size_toArray, List.length_cons, List.length_nil, Nat.reduceAdd, Nat.reduceSub, Array.replicate_succ, Array.replicate_zero, List.push_toArray, List.append_toArray, List.nil_append, List.cons_append]
 go_wp2_with (first | (go_at_call 89; refine nc.out.mono ?_; rintro e w1 ⟨v, rfl, hR, hB⟩; have hB' := Aside0.mk hB; obtain ⟨A1, c1, rfl, hl1, hC1⟩ := Kd.R_reads hR; have hC1' := Aside0.mk hC1; have oc := Aside0.mk (impl_order.calls k A1 c1 nd od dn w1 hC1 hl1 hO'.out); clear hB hR hC1) | (go_at_call 90; refine oc.out.mono ?_; rintro e w2 ⟨v2, rfl, hR2, hB2⟩; have hB2' := Aside0.mk (below_step hB'.out hB2); clear hR2 hB2) | (go_at_call 42; refine (everyI_calls l0.length _).mono ?_; rintro e w3 ⟨rfl, ⟨m3, rfl⟩⟩))
 refine retM (B := w.heap.size) (fun W => Below w.heap.size w W) (ownFrom_below (Nat.le_refl _) (Nat.le_refl _)) trivial (pw_below_drewN hB2'.out _) ?_
 intro W' hbb
 exact ⟨.tuple #[.pointer none, .bool false], (results_tmp2 (t := 2) (u := 3) rfl _ _ _).trans rfl, rfl, hbb⟩
def bStep (i : Nat) (bl : List Nat) (k : Nat) : List Nat := bl.set i (bl.getD i 0 ||| (bl.getD k 0 ||| 2 ^ k))
def aStep (i : Nat) (ab : List Nat) (k : Nat) : List Nat := ab.set k (ab.getD k 0 ||| 2 ^ i)
def relStep (nd : List Nat) (s : List Nat × List Nat) (i : Nat) : List Nat × List Nat :=
 ((bitsN (nd.getD i 0)).foldl (bStep i) s.1, (bitsN (((bitsN (nd.getD i 0)).foldl (bStep i) s.1).getD i 0)).foldl (aStep i) s.2)
def relP (nd : List Nat) (od : List Nat) (n : Nat) : List Nat × List Nat := od.foldl (relStep nd) (List.replicate n 0, List.replicate n 0)
def OkU (n : Nat) (l : List Nat) : Prop := l.length = n ∧ ∀ x ∈ l, x < 2 ^ n
theorem OkU.get {n : Nat} {l : List Nat} (h : OkU n l) (i : Nat) : l.getD i 0 < 2 ^ n := by
 rw [List.getD_eq_getElem?_getD]
 cases hi : l[i]? with
 | none => simp [Nat.two_pow_pos]
 | some v => exact h.2 v (List.mem_of_getElem? hi)
theorem OkU.set {n : Nat} {l : List Nat} (h : OkU n l) (i x : Nat) (hx : x < 2 ^ n) : OkU n (l.set i x) :=
 ⟨by simp [h.1], fun y hy => by rcases List.mem_or_eq_of_mem_set hy with h' | rfl; exact h.2 y h'; exact hx⟩
theorem OkU.bStep {n : Nat} {l : List Nat} (h : OkU n l) (i k : Nat) (hk : k < n) : OkU n (bStep i l k) := h.set _ _ (or_lt8 (h.get i) (with_lt (h.get k) hk))
theorem OkU.aStep {n : Nat} {l : List Nat} (h : OkU n l) (i k : Nat) (hi : i < n) : OkU n (aStep i l k) := h.set _ _ (with_lt (h.get k) hi)
theorem OkU.bFold {n : Nat} (i : Nat) : ∀ (ks : List Nat) {l : List Nat}, OkU n l → (∀ k ∈ ks, k < n) → OkU n (ks.foldl (P.bStep i) l)
 | [], _, h, _ => h
 | k :: ks, _, h, hk => OkU.bFold i ks (h.bStep i k (hk k List.mem_cons_self)) (fun k' h' => hk k' (List.mem_cons_of_mem _ h'))
theorem OkU.aFold {n : Nat} (i : Nat) (hi : i < n) : ∀ (ks : List Nat) {l : List Nat}, OkU n l → OkU n (ks.foldl (P.aStep i) l)
 | [], _, h => h
 | k :: ks, _, h => OkU.aFold i hi ks (h.aStep i k hi)
theorem bitsN_lt {s n : Nat} (hs : s < 2 ^ n) : ∀ k ∈ bitsN s, k < n := fun k hk => bit_lt hs (mem_bitsN.1 hk).2
theorem OkU.rel {n : Nat} {nd : List Nat} {s : List Nat × List Nat} (hnd : ∀ i, nd.getD i 0 < 2 ^ n) (h1 : OkU n s.1) (h2 : OkU n s.2) (i : Nat) (hi : i < n) : OkU n (relStep nd s i).1 ∧ OkU n (relStep nd s i).2 :=
 ⟨h1.bFold i _ (bitsN_lt (hnd i)), h2.aFold i hi _⟩
theorem OkU.zero (n : Nat) : OkU n (List.replicate n 0) := ⟨by simp, fun x hx => by rw [(List.mem_replicate.1 hx).2]; exact Nat.two_pow_pos n⟩
theorem OkU.relF {n : Nat} {nd : List Nat} (hnd : ∀ i, nd.getD i 0 < 2 ^ n) : ∀ (od : List Nat) (s : List Nat × List Nat), OkU n s.1 → OkU n s.2 → (∀ i ∈ od, i < n) → OkU n (od.foldl (relStep nd) s).1 ∧ OkU n (od.foldl (relStep nd) s).2
 | [], _, h1, h2, _ => ⟨h1, h2⟩
 | i :: od, s, h1, h2, ho => OkU.relF hnd od (relStep nd s i) (OkU.rel hnd h1 h2 i (ho i List.mem_cons_self)).1 (OkU.rel hnd h1 h2 i (ho i List.mem_cons_self)).2 (fun k hk => ho k (List.mem_cons_of_mem _ hk))
theorem relP_ok {n : Nat} {nd od : List Nat} (hnd : ∀ i, nd.getD i 0 < 2 ^ n) (ho : ∀ i ∈ od, i < n) : OkU n (relP nd od n).1 ∧ OkU n (relP nd od n).2 := OkU.relF hnd od _ (OkU.zero n) (OkU.zero n) ho
structure F8 (n : Nat) (V0 V1 V2 : Value) (w3 : World) (b1 b2 b3 b4 : Nat) (bl ab : List Nat) (W : World) : Prop where
 bel : Below w3.heap.size w3 W
 h1 : W.heap[b1]? = some (rowU bl)
 h2 : W.heap[b2]? = some (rowU ab)
 h3 : W.heap[b3]? = some (.cells #[V0, V1, V2, slv b1 n, slv b2 n] 64 (0, 0))
 h4 : W.heap[b4]? = some (.cells #[.pointer (some ⟨b3, 0, none⟩)] 49 (0, 0))
theorem own_F8 {β : Type} (n : Nat) (V0 V1 V2 : Value) (w3 : World) (b1 b2 b3 b4 : Nat) (bl ab : β → List Nat) (B : Nat) (hB : w3.heap.size ≤ B) : OwnFrom B (fun s W => F8 n V0 V1 V2 w3 b1 b2 b3 b4 (bl s) (ab s) W) := by
 intro s W W' row h hg hr
 exact ⟨(ownFrom_below (Nat.le_refl _) hB) s W W' row h.bel hg hr, own_blk B b1 (fun s => ((nI (bl s)).map (Value.int .u16)).toArray) _ s W W' row h.h1 hg hr, own_blk B b2 (fun s => ((nI (ab s)).map (Value.int .u16)).toArray) _ s W W' row h.h2 hg hr,
  own_blk B b3 (fun _ => _) _ s W W' row h.h3 hg hr, own_blk B b4 (fun _ => _) _ s W W' row h.h4 hg hr⟩
theorem F8.alloc {n : Nat} {V0 V1 V2 : Value} {w3 W : World} {b1 b2 b3 b4 : Nat} {bl ab : List Nat} (h : F8 n V0 V1 V2 w3 b1 b2 b3 b4 bl ab W) (o : Obj) : F8 n V0 V1 V2 w3 b1 b2 b3 b4 bl ab (W.alloc o) :=
 ⟨h.bel.alloc h.bel.size o, blk_alloc h.h1 o, blk_alloc h.h2 o, blk_alloc h.h3 o, blk_alloc h.h4 o⟩
theorem F8.drew {n : Nat} {V0 V1 V2 : Value} {w3 W : World} {b1 b2 b3 b4 : Nat} {bl ab : List Nat} (h : F8 n V0 V1 V2 w3 b1 b2 b3 b4 bl ab W) : F8 n V0 V1 V2 w3 b1 b2 b3 b4 bl ab W.drew :=
 ⟨below_drew h.bel, h.h1, h.h2, h.h3, h.h4⟩
theorem grown_set (W : World) (m b i : Nat) (v : Value) : W.grownBy ((W.drewN m).setCell ⟨b, i, none⟩ v) (some b) :=
 ⟨rfl, rfl, rfl, by simp [World.setCell], fun k _ hne => Below.heap_setCell (W.drewN m) ⟨b, i, none⟩ v k (fun e => hne (by rw [e]))⟩
theorem keeps_set (B : Nat) (W : World) (m : Nat) (a : Addr) (v : Value) : KeepsFrom B W ((W.drewN m).setCell a v) :=
 ⟨((KeepsOthers.setCell (W.drewN m) a v).from B).size, ((KeepsOthers.setCell (W.drewN m) a v).from B).same⟩
theorem F8.setB {n : Nat} {V0 V1 V2 : Value} {w3 W : World} {b1 b2 b3 b4 : Nat} {bl ab : List Nat} (h : F8 n V0 V1 V2 w3 b1 b2 b3 b4 bl ab W) (hge : w3.heap.size ≤ b1) (hne : b1 ≠ b2) (m i x : Nat) :
  F8 n V0 V1 V2 w3 b1 b2 b3 b4 (bl.set i x) ab ((W.drewN m).setCell ⟨b1, i, none⟩ (.int .u16 (x : Int))) := by
 have hg := grown_set W m b1 i (.int .u16 (x : Int))
 exact ⟨(pw_below_drewN h.bel m).setCell hge _, rowU_set (W := W.drewN m) h.h1 i x, blk_grown h.h2 hg (fun e => hne (by injection e with e; exact e.symm)), blk_grown h.h3 hg (fun e => blk_ne h.h1 h.h3 (by decide) (by injection e with e; exact e.symm)), blk_grown h.h4 hg (fun e => blk_ne h.h1 h.h4 (by decide) (by injection e with e; exact e.symm))⟩
theorem F8.setA {n : Nat} {V0 V1 V2 : Value} {w3 W : World} {b1 b2 b3 b4 : Nat} {bl ab : List Nat} (h : F8 n V0 V1 V2 w3 b1 b2 b3 b4 bl ab W) (hge : w3.heap.size ≤ b2) (hne : b1 ≠ b2) (m i x : Nat) :
  F8 n V0 V1 V2 w3 b1 b2 b3 b4 bl (ab.set i x) ((W.drewN m).setCell ⟨b2, i, none⟩ (.int .u16 (x : Int))) := by
 have hg := grown_set W m b2 i (.int .u16 (x : Int))
 exact ⟨(pw_below_drewN h.bel m).setCell hge _, blk_grown h.h1 hg (fun e => hne (by injection e)), rowU_set (W := W.drewN m) h.h2 i x, blk_grown h.h3 hg (fun e => blk_ne h.h2 h.h3 (by decide) (by injection e with e; exact e.symm)), blk_grown h.h4 hg (fun e => blk_ne h.h2 h.h4 (by decide) (by injection e with e; exact e.symm))⟩
theorem own_move {w U : World} {base : Nat} {e : TypeId} {size n : Nat} {v : Value} {xs : List Value} (h : w.ownsRow base e size v n xs) (hk : ∀ k, base ≤ k → k < w.heap.size → U.heap[k]? = w.heap[k]?) : U.ownsRow base e size v n xs := by
 obtain ⟨h1, h2 | ⟨g, cap, cur, e1, e2, e3, h3⟩⟩ := h
 ·exact ⟨h1, .inl h2⟩
 ·exact ⟨h1, .inr ⟨g, cap, cur, e1, e2, (hk g e2 (Array.getElem?_eq_some_iff.1 e3).1).trans e3, h3⟩⟩
theorem C_move {k : IntKind} {e : TypeId} {w U : World} {base n c : Nat} {A : Option Addr} {xs : List Int} (h : w.ownsRow base e 1 (.slice A n c) n (encs (Value.int k) xs)) (hn : n = xs.length) (hk : ∀ k, base ≤ k → k < w.heap.size → U.heap[k]? = w.heap[k]?) : Kd.C (Kd.int k) U A xs.length xs := by
 subst hn
 exact Kd.C_of_reads (d := (0 : Int)) (own_reads_of' (own_move h hk))
set_option maxRecDepth 100000 in
set_option maxHeartbeats 4000000 in
theorem graphOf_yes (k : Nat) (A0 : Option Addr) (c0 : Nat) (l0 : List TT) (nd od : List Int) (dn : Int) (w : World) (hr0 : Kd.C k39 w A0 l0.length l0) (hc0 : l0.length ≤ c0) (hN : impl_needsOf.f k l0 = some (nd, true)) (hO : impl_order.f k nd = some (od, dn))
  (hd : (dn == everyI l0.length) = true) (hlen : l0.length ≤ 8) (nN oN : List Nat) (hnd : nd = nI nN) (hod : od = nI oN) (hnl : nN.length = l0.length) (hns : ∀ x ∈ nN, x < 2 ^ l0.length) (hos : ∀ x ∈ oN, x < l0.length) (hT : TabOK w) :
  Calls Tryd.prog 58 #[.slice A0 l0.length c0] w fun e w' => ∃ g, e = .returned (.tuple #[.pointer (some ⟨g, 0, none⟩), .bool true]) ∧ (∀ U : World, Kd.C k39 U A0 l0.length l0 → (∀ k, w.heap.size ≤ k → k < w'.heap.size → U.heap[k]? = w'.heap[k]?) → IsG U g ⟨l0, nd, od, nI (relP nN oN l0.length).1, nI (relP nN oN l0.length).2⟩) ∧ Below w.heap.size w w' := by
 have nc := Aside0.mk (impl_needsOf.calls k A0 c0 l0 nd true w hr0 hc0 hN)
 have hO' := Aside0.mk hO
 have hr0' := Aside0.mk hr0
 have hc0' := Aside0.mk hc0
 have hT' := Aside0.mk hT
 have hlen' := Aside0.mk hlen
 have hnd' := Aside0.mk hnd
 have hod' := Aside0.mk hod
 have hnl' := Aside0.mk hnl
 have hns' := Aside0.mk hns
 have hos' := Aside0.mk hos
 clear hr0 hN hO hT hlen hnd hod hns hos hc0 hnl
 have hd2 : (dn != everyI l0.length) = false := by simpa [bne] using hd
 refine calls_of_wpM Tryd.func58 rfl ?_
 simp only [Tryd.ntmps58, List.size_toArray, List.length_cons, List.length_nil, Nat.reduceAdd, Nat.reduceSub, Array.replicate_succ, Array.replicate_zero, List.push_toArray, List.append_toArray, List.nil_append, List.cons_append]
 go_wp2_with (first | (go_at_call 89; refine nc.out.mono ?_; rintro e w1 ⟨v, rfl, hR, hB⟩; have hB' := Aside0.mk hB; obtain ⟨A1, c1, rfl, hl1, hC1⟩ := Kd.R_reads hR; have hO1 := Aside0.mk (Kd.own_of_R (enc := Value.int .u16) (h1 := fun _ => rfl) hR); have hC1' := Aside0.mk hC1; have hl1' := Aside0.mk hl1; have oc := Aside0.mk (impl_order.calls k A1 c1 nd od dn w1 hC1 hl1 hO'.out); clear hB hR hC1 hl1) | (go_at_call 90; refine oc.out.mono ?_; rintro e w2 ⟨v2, rfl, hR2, hB2⟩; obtain ⟨A2, c2, rfl, hl2, hC2⟩ := Kd.R_reads hR2; have hO2 := Aside0.mk (Kd.own_of_R (enc := Value.int .i64) (h1 := fun _ => rfl) hR2); have hC2' := Aside0.mk hC2; have hl2' := Aside0.mk hl2; have hB2' := Aside0.mk hB2; clear hR2 hB2 hC2 hl2) | (go_at_call 42; refine (everyI_calls l0.length _).mono ?_; rintro e w3 ⟨rfl, ⟨m3, rfl⟩⟩))
 have hB3' := Aside0.mk (pw_below_drewN (below_step hB'.out hB2'.out) m3)
 have hM1 := Aside0.mk (show ∀ k, k < w1.heap.size → (w2.drewN m3).heap[k]? = w1.heap[k]? from fun k hk => hB2'.out.block k hk)
 have hM2 := Aside0.mk (show ∀ k, k < w2.heap.size → (w2.drewN m3).heap[k]? = w2.heap[k]? from fun k hk => rfl)
 have hM3 := Aside0.mk (show w1.heap.size ≤ (w2.drewN m3).heap.size ∧ w2.heap.size ≤ (w2.drewN m3).heap.size ∧ w.heap.size ≤ w1.heap.size from ⟨hB2'.out.size, Nat.le_refl _, hB'.out.size⟩)
 have hA0 := Aside0.mk (Kd.C_drewN (Kd.C_below (Kd.C_below hr0'.out hB'.out) hB2'.out) m3)
 have hA1 := Aside0.mk (Kd.C_drewN (Kd.C_below hC1'.out hB2'.out) m3)
 have hA2 := Aside0.mk (Kd.C_drewN hC2'.out m3)
 generalize w2.drewN m3 = w3 at *
 have hT3 := Aside0.mk (hT'.out.below hB3'.out)
 clear nc oc hB' hB2' hC1' hC2' hr0' hO'
 obtain ⟨n, hn⟩ : ∃ n, n = l0.length := ⟨_, rfl⟩
 have hn' := Aside0.mk hn
 simp only [← hn]
 clear hn
 show (Code.region 7 (opsOf Tryd.f58 7) true).wp _ _ _ _
 refine region7 A0 A1 A2 n _ _ c0 c1 c2 _ (by simp) (by rfl) (by rfl) (by rfl) (by rw [hn'.out]; exact hlen'.out) w3 w3 (Below.refl _ _) _ ?_
 rintro a' w4 ⟨b1, b2, b3, b4, v9, rfl, hF⟩
 simp only [L7, putSel, if_true, Act.put, List.setIfInBounds_toArray, List.set_cons_zero, List.set_cons_succ]
 have hF8 : F8 n (.slice A0 n c0) (.slice A1 nd.length c1) (.slice A2 od.length c2) w3 b1 b2 b3 b4 (List.replicate n 0) (List.replicate n 0) w4 :=
  ⟨hF.bel, (hF.h1 rfl).trans (by rw [zrow, rowU_zero]), (hF.h2 rfl).trans (by rw [zrow, rowU_zero]), hF.h3 rfl, hF.h5 rfl⟩
 have hge := Aside0.mk (show w3.heap.size ≤ b1 ∧ w3.heap.size ≤ b2 ∧ w3.heap.size ≤ b3 ∧ w3.heap.size ≤ b4 from ⟨hF.g1 rfl, hF.g2 rfl, hF.g3 rfl, hF.g4 rfl⟩)
 have hne := Aside0.mk (show b1 ≠ b2 from hF.ne rfl rfl)
 have hF8' := Aside0.mk hF8
 have hv9 := hF.h9 rfl
 clear hF hF8
 subst hv9
 go_wp2
 refine wp_loop_slots [10, 43, 44, 45, 46, 47, 48, 49, 50, 51, 71, 72, 73, 74, 75, 76, 77, 78, 95] [undef, .int .i64 0, undef, undef, undef, undef, undef, undef, undef, undef, undef, undef, undef, undef, undef, undef, undef, undef, undef] (fun kq vs ds W => ∃ j : Nat, ∃ u10 u44 u45 u46 u47 u48 u49 u50 u51 u71 u72 u73 u74 u75 u76 u77 u78 u95, vs = [u10, .int .i64 (j : Int), u44, u45, u46, u47, u48, u49, u50, u51, u71, u72, u73, u74, u75, u76, u77, u78, u95] ∧ Aside0 (kq + j = od.length) ∧ Aside0 (F8 n (.slice A0 n c0) (.slice A1 nd.length c1) (.slice A2 od.length c2) w3 b1 b2 b3 b4 (relP nN (oN.take j) n).1 (relP nN (oN.take j) n).2 W) ∧ Aside0 (Marks w3.heap.size ds W)) od.length (by simp only [setAll, List.setIfInBounds_toArray, List.set_cons_zero, List.set_cons_succ]) ⟨0, undef, undef, undef, undef, undef, undef, undef, undef, undef, undef, undef, undef, undef, undef, undef, undef, undef, undef, rfl, ⟨by omega⟩, hF8', ⟨Marks.nil _ _⟩⟩ ?_
 rintro gk vs ds W ⟨j, u10, u44, u45, u46, u47, u48, u49, u50, u51, u71, u72, u73, u74, u75, u76, u77, u78, u95, rfl, hk, hG, hM⟩ K hK
 simp only [setAll, List.setIfInBounds_toArray, List.set_cons_zero, List.set_cons_succ]
 have hG' := hG
 by_cases hj : j < od.length
 case neg =>
  obtain rfl : j = od.length := by have := hk.out; omega
  have c4 : W.cell? ⟨b4, 0, none⟩ = some (.pointer (some ⟨b3, 0, none⟩)) := (blk_cell hG.out.h4 0).trans rfl
  clear hK
  go_wp2
  have hnb : ∀ i, nN.getD i 0 < 2 ^ n := fun i => OkU.get ⟨by rw [hnl'.out, hn'.out], fun x hx => by rw [hn'.out]; exact hns'.out x hx⟩ i
  have hall : oN.take od.length = oN := by rw [hod'.out, nI_length, List.take_length]
  have hG2 := hG.out
  rw [hall] at hG2
  obtain ⟨hok1, hok2⟩ := relP_ok hnb (od := oN) (fun i hi => by rw [hn'.out]; exact hos'.out i hi)
  have hbelow : Below w.heap.size w W := below_step hB3'.out hG2.bel
  have hn8 : n ≤ 8 := by rw [hn'.out]; exact hlen'.out
  refine retM (B := w3.heap.size) (fun W => F8 n (.slice A0 n c0) (.slice A1 nd.length c1) (.slice A2 od.length c2) w3 b1 b2 b3 b4 (relP nN oN n).1 (relP nN oN n).2 W) (own_F8 _ _ _ _ _ _ _ _ _ _ _ _ (Nat.le_refl _)) hM.out hG2 ?_
  intro W' hE
  refine ⟨.tuple #[.pointer (some ⟨b3, 0, none⟩), .bool true], (results_tmp2 (t := 2) (u := 3) rfl _ _ _).trans rfl, b3, rfl, ?_, below_step hB3'.out hE.bel⟩
  intro U hU0 hUk
  have g1 : w.heap.size ≤ w3.heap.size := hB3'.out.size
  have keep : ∀ {x o}, w3.heap.size ≤ x → W'.heap[x]? = some o → U.heap[x]? = some o := fun h1 h2 => (hUk _ (by omega) (Array.getElem?_eq_some_iff.1 h2).1).trans h2
  have k1 := keep hge.out.1 hE.h1
  have k2 := keep hge.out.2.1 hE.h2
  have k3 := keep hge.out.2.2.1 hE.h3
  have s3 := hE.bel.size
  refine ⟨A0, c0, A1, c1, A2, c2, some ⟨b1, 0, none⟩, n, some ⟨b2, 0, none⟩, n, ?_, ⟨hU0, hc0'.out⟩, ⟨C_move hO1.out rfl (fun k h1 h2 => ?_), hl1'.out⟩, ⟨C_move hO2.out rfl (fun k h1 h2 => ?_), hl2'.out⟩, ⟨?_, ?_⟩, ⟨?_, ?_⟩⟩
  ·rw [k3]
   simp only [nI_length, hok1.1, hok2.1, ← hn'.out]
  ·rw [hUk k h1 (by have := hM3.out; omega), hE.bel.block k (by have := hM3.out; omega)]
   exact hM1.out k h2
  ·rw [hUk k (by have := hM3.out; omega) (by have := hM3.out; omega), hE.bel.block k (by have := hM3.out; omega)]
   exact hM2.out k h2
  ·simp only [nI_length, ← hn'.out]
   exact Kd.C_of_reads (rowU_reads k1 (by rw [hok1.1]; exact hn8))
  ·simp only [nI_length, ← hn'.out, hok1.1]; exact Nat.le_refl _
  ·simp only [nI_length, ← hn'.out]
   exact Kd.C_of_reads (rowU_reads k2 (by rw [hok2.1]; exact hn8))
  ·simp only [nI_length, ← hn'.out, hok2.1]; exact Nat.le_refl _
 case pos =>
  obtain ⟨o, ho⟩ : ∃ o : Nat, oN[j]? = some o := by
   have hl : j < oN.length := by rw [hod'.out, nI_length] at hj; exact hj
   exact ⟨_, List.getElem?_eq_getElem hl⟩
  have hk1 := Aside0.mk (show gk - 1 < gk by have := hk.out; omega)
  have hk2 := Aside0.mk (show gk - 1 + (j + 1) = od.length by have := hk.out; omega)
  have hmax := Kd.C_max hA2.out
  have hcast' := Aside0.mk (show wrap64 ((j : Int) + 1) = ((j + 1 : Nat) : Int) by rw [IntWalk.wrap64_in _ (by omega)]; omega)
  clear hmax
  have hoo := Aside0.mk (hos'.out o (List.mem_of_getElem? ho))
  obtain ⟨adn, rfl, hxn⟩ := Kd.at_int (Kd.C_below hA2.out hG.out.bel) (j : Int) (by omega) (by omega)
  have ho2 : rd od (j : Int) = (o : Int) := by rw [hod'.out, rd_nI, List.getD_eq_getElem?_getD, ho]; rfl
  simp only [Int.toNat_natCast, ho2] at hxn
  obtain ⟨ad1, hA1e, hx1⟩ := Kd.at_int (Kd.C_below hA1.out hG.out.bel) (o : Int) (by omega) (by rw [hnd'.out, nI_length, hnl'.out]; exact_mod_cast hoo.out)
  subst hA1e
  have hn2 : rd nd (o : Int) = ((nN.getD o 0 : Nat) : Int) := by rw [hnd'.out, rd_nI]
  obtain ⟨sn, hsn⟩ : ∃ sn, nN.getD o 0 = sn := ⟨_, rfl⟩
  simp only [Int.toNat_natCast, hn2, hsn] at hx1
  clear hn2
  have hsn' := Aside0.mk hsn
  clear hsn
  have hol : o < nd.length := by rw [hnd'.out, nI_length, hnl'.out]; exact hoo.out
  have hx1' := cell_alloc hx1 (.cells #[.int .i64 (o : Int)] 3)
  have hK' := Aside0.mk hK
  clear hK hx1
  go_wp2_with (go_at_call 54; refine (all_calls _ _).mono ?_; rintro e w' ⟨rfl, rfl⟩)
  have hnb : ∀ i, nN.getD i 0 < 2 ^ n := fun i => OkU.get ⟨by rw [hnl'.out, hn'.out], fun x hx => by rw [hn'.out]; exact hns'.out x hx⟩ i
  have hsb : sn < 2 ^ n := by rw [← hsn'.out]; exact hnb o
  have hon : o < n := by rw [hn'.out]; exact hoo.out
  have hn8 : n ≤ 8 := by rw [hn'.out]; exact hlen'.out
  obtain ⟨hok1, hok2⟩ := relP_ok hnb (od := oN.take j) (fun i hi => by rw [hn'.out]; exact hos'.out i (List.mem_of_mem_take hi))
  have hstep : relP nN (oN.take (j + 1)) n = relStep nN (relP nN (oN.take j) n) o := by
   unfold relP
   rw [List.take_add_one, ho, Option.toList_some, List.foldl_append]
   rfl
  have hstep' := Aside0.mk hstep
  clear hstep
  have hTW := hT3.out.below hG.out.bel
  generalize hbl : (relP nN (oN.take j) n).1 = bl at *
  generalize hab : (relP nN (oN.take j) n).2 = ab at *
  have hG1 := hG.out.alloc (.cells #[.int .i64 (o : Int)] 3)
  have hq1 := Boxed.new W 3 (.int .i64 (o : Int))
  have hM1 : Marks w3.heap.size ds (W.alloc (.cells #[.int .i64 (o : Int)] 3)) := hM.out.block hM.out.ltOf (fun k hk => Below.heap_alloc W _ k hk)
  have hT1 : TabOK (W.alloc (.cells #[.int .i64 (o : Int)] 3)) := hTW.below ((Below.refl _ W).alloc (Nat.le_refl _) _)
  have hs1 : (W.alloc (.cells #[.int .i64 (o : Int)] 3)).heap.size = W.heap.size + 1 := by simp
  have hlt1 := hM.out.ltOf
  have hqs : w3.heap.size ≤ W.heap.size := hG.out.bel.size
  generalize W.alloc (.cells #[.int .i64 (o : Int)] 3) = W1 at *
  generalize W.heap.size = q at *
  have hG2 := hG1.alloc (.cells #[.int .u16 (sn : Int)] 51)
  have hq2 := hq1.alloc (.cells #[.int .u16 (sn : Int)] 51)
  have hM2 : Marks w3.heap.size ds (W1.alloc (.cells #[.int .u16 (sn : Int)] 51)) := hM1.block (hlt1.le (show q ≤ W1.heap.size by omega)) (fun k hk => Below.heap_alloc W1 _ k hk)
  have hT2 : TabOK (W1.alloc (.cells #[.int .u16 (sn : Int)] 51)) := hT1.below ((Below.refl _ W1).alloc (Nat.le_refl _) _)
  have hk2 := (box_at W1 51 (.int .u16 (sn : Int)) (q + 1) hs1).cell
  have hs2 : (W1.alloc (.cells #[.int .u16 (sn : Int)] 51)).heap.size = q + 1 + 1 := by simp [hs1]
  try simp only [hs1]
  generalize W1.alloc (.cells #[.int .u16 (sn : Int)] 51) = W2 at *
  have hkeep := Aside0.mk hK'
  clear hG1 hq1 hM1 hT1 hs1 hF8' hG' hTW hM hG hx1' hxn hA0 hd hd2
  refine wp_all1 (q + 1) sn (lt256 hsb hn8) rfl (by omega) hk2 hT2 rfl rfl rfl (by simp)
   (fun pre W => ((Boxed W q 3 (.int .i64 (o : Int)) ∧ F8 n (.slice A0 n c0) (.slice (some ad1) nd.length c1) (.slice (some adn) od.length c2) w3 b1 b2 b3 b4 (pre.foldl (bStep o) bl) ab W) ∧ Marks w3.heap.size ds W) ∧ OkU n (pre.foldl (bStep o) bl)) (fun _ _ _ => False)
   (OwnFrom.and (OwnFrom.and (OwnFrom.and (own_box _ _ _ _) (own_F8 _ _ _ _ _ _ _ _ _ _ _ _ (by omega))) (own_marks _ _ _ (hlt1.le (by omega)))) (fun _ _ _ _ h _ _ => h)) (fun _ _ _ _ _ hs _ _ => hs) ⟨⟨⟨hq2, hG2⟩, hM2⟩, hok1⟩ (fun pre W h => hT3.out.below h.1.1.2.bel) ?body ?done ?stop
  case stop => intro D c pre W _ _ h _; exact h.elim
  case body =>
   rintro l pre x W hx8 hxs ⟨⟨⟨hb, hF⟩, hMk⟩, hok⟩ hlen
   simp only [List.setIfInBounds_toArray, List.set_cons_zero, List.set_cons_succ]
   generalize hblp : pre.foldl (bStep o) bl = blp at *
   have hxn2 : x < n := bit_lt hsb hxs
   have c4 : W.cell? ⟨b4, 0, none⟩ = some (.pointer (some ⟨b3, 0, none⟩)) := (blk_cell hF.h4 0).trans rfl
   have c33 : W.cell? ⟨b3, 3, none⟩ = some (slv b1 n) := (blk_cell hF.h3 3).trans rfl
   have cq := hb.cell
   have ci := rowU_cell hF.h1 o (by rw [hok.1]; exact hon)
   have ck := rowU_cell hF.h1 x (by rw [hok.1]; exact hxn2)
   obtain ⟨vi, hvi⟩ : ∃ v, blp.getD o 0 = v := ⟨_, rfl⟩
   obtain ⟨vk, hvk⟩ : ∃ v, blp.getD x 0 = v := ⟨_, rfl⟩
   rw [hvi] at ci
   rw [hvk] at ck
   have hvi' := Aside0.mk hvi
   have hvk' := Aside0.mk hvk
   have hF' := Aside0.mk hF
   have hb' := Aside0.mk hb
   have hMk' := Aside0.mk hMk
   have hok' := Aside0.mk hok
   have hfr : W.frozen? ⟨b1, o, none⟩ = false := blk_frozen hF.h1 o
   clear hvi hvk hF hb hMk hok hK' hkeep hM2 hT2 hk2 hq2 hG2 hs2 hlt1
   try gi_wp2
   refine wpIn_region_qtail 17 (by rintro ⟨_, _, h⟩; exact h) (by kernel_rfl) (by kernel_rfl) (by kernel_rfl) (by kernel_rfl) ?_
   simp only [List.take_succ_cons, List.take_zero, List.drop_succ_cons, List.drop_zero]
   repeat (go_big_quiet_step (exact withI_quiet _ _ (by omega) _ _))
   refine wpQuiet_nil ?_
   rintro _ ⟨nq, rfl⟩
   go_wp2
   have hval : Go.bits .or .u16 (vi : Int) (withI (vk : Int) (x : Int)) = ((vi ||| (vk ||| 2 ^ x) : Nat) : Int) := by
    have l1 := lt256 (hok'.out.get o) hn8
    have l2 := lt256 (hok'.out.get x) hn8
    rw [hvi'.out] at l1
    rw [hvk'.out] at l2
    rw [withI_nat vk x l2 hx8, orI_nat _ _ l1 (lt256 (with_lt (by rw [← hvk'.out]; exact hok'.out.get x) hxn2) hn8)]
   have hfold : (pre ++ [x]).foldl (bStep o) bl = blp.set o (vi ||| (vk ||| 2 ^ x)) := by
    rw [List.foldl_append, hblp, List.foldl_cons, List.foldl_nil, bStep, hvi'.out, hvk'.out]
   rw [hval]
   refine ⟨keeps_set _ _ _ _ _, ⟨⟨hb'.out.kept (grown_set W nq b1 o _) (fun e => ?_), by rw [hfold]; exact hF'.out.setB hge.out.1 hne.out nq o _⟩, hMk'.out.keeps (keeps_set _ _ _ _ _)⟩, by rw [hfold, ← hvi'.out, ← hvk'.out]; exact hok'.out.bStep o x hxn2⟩
   injection e with e
   exact blk_ne hF'.out.h1 hb'.out (by decide) e.symm
  case done =>
   rintro D W hD ⟨⟨⟨hb, hF⟩, hMk⟩, hok⟩ hKD
   clear hG2 hq2 hM2 hT2 hk2
   generalize hblp : (bitsN sn).foldl (bStep o) bl = blp at *
   have c4 : W.cell? ⟨b4, 0, none⟩ = some (.pointer (some ⟨b3, 0, none⟩)) := (blk_cell hF.h4 0).trans rfl
   have c33 : W.cell? ⟨b3, 3, none⟩ = some (slv b1 n) := (blk_cell hF.h3 3).trans rfl
   have cq := hb.cell
   have ci := rowU_cell hF.h1 o (by rw [hok.1]; exact hon)
   obtain ⟨vi, hvi⟩ : ∃ v, blp.getD o 0 = v := ⟨_, rfl⟩
   rw [hvi] at ci
   have hvi' := Aside0.mk hvi
   have hblp' := Aside0.mk hblp
   have hF' := Aside0.mk hF
   have hb' := Aside0.mk hb
   have hMk' := Aside0.mk hMk
   have hok' := Aside0.mk hok
   have hKD' := Aside0.mk hKD
   clear hvi hF hb hMk hok hblp hKD
   go_wp2
   go_still_tail 7, (by kernel_rfl)
   go_wp2_with (go_at_call 54; refine (all_calls _ _).mono ?_; rintro e w' ⟨rfl, rfl⟩)
   have hsb2 : vi < 2 ^ n := by rw [← hvi'.out]; exact hok'.out.get o
   have hMD : Marks w3.heap.size (markOf D :: ds) W := hMk'.out.cons (by omega) hKD'.out (hlt1.le (by omega))
   have hG5 := (hF'.out.alloc (.cells #[.int .u16 (vi : Int)] 51)).drew
   have hq5 : Boxed (W.alloc (.cells #[.int .u16 (vi : Int)] 51)).drew q 3 (.int .i64 (o : Int)) := hb'.out.alloc _
   have hM5 : Marks w3.heap.size (markOf D :: ds) (W.alloc (.cells #[.int .u16 (vi : Int)] 51)).drew := hMD.block hMD.ltOf (fun k hk => Below.heap_alloc W _ k hk)
   have hk5 : (W.alloc (.cells #[.int .u16 (vi : Int)] 51)).drew.cell? ⟨W.heap.size, 0, none⟩ = some (.int .u16 (vi : Int)) := (Boxed.new W 51 (.int .u16 (vi : Int))).cell
   have hs5 : (W.alloc (.cells #[.int .u16 (vi : Int)] 51)).drew.heap.size = W.heap.size + 1 := by simp [World.drew]
   have hlt5 := hMD.ltOf
   have hqs5 : w3.heap.size ≤ W.heap.size := hF'.out.bel.size
   clear c4 c33 cq ci hKD' hb' hMk' hMD hs2 hD
   generalize (W.alloc (.cells #[.int .u16 (vi : Int)] 51)).drew = W5 at *
   generalize W.heap.size = q5 at *
   refine wp_all1 q5 vi (lt256 hsb2 hn8) rfl (by omega) hk5 (hT3.out.below hG5.bel) rfl rfl rfl (by simp)
    (fun pre W => ((Boxed W q 3 (.int .i64 (o : Int)) ∧ F8 n (.slice A0 n c0) (.slice (some ad1) nd.length c1) (.slice (some adn) od.length c2) w3 b1 b2 b3 b4 blp (pre.foldl (aStep o) ab) W) ∧ Marks w3.heap.size (markOf D :: ds) W) ∧ OkU n (pre.foldl (aStep o) ab)) (fun _ _ _ => False)
    (OwnFrom.and (OwnFrom.and (OwnFrom.and (own_box _ _ _ _) (own_F8 _ _ _ _ _ _ _ _ _ _ _ _ (by omega))) (own_marks _ _ _ (hlt5.le (by omega)))) (fun _ _ _ _ h _ _ => h)) (fun _ _ _ _ _ hs _ _ => hs) ⟨⟨⟨hq5, hG5⟩, hM5⟩, hok2⟩ (fun pre W h => hT3.out.below h.1.1.2.bel) ?body2 ?done2 ?stop2
   case stop2 => intro D c pre W _ _ h _; exact h.elim
   case body2 =>
    rintro l pre x W hx8 hxs ⟨⟨⟨hb, hF⟩, hMk⟩, hok⟩ hlen
    simp only [List.setIfInBounds_toArray, List.set_cons_zero, List.set_cons_succ]
    generalize habp : pre.foldl (aStep o) ab = abp at *
    have hxn2 : x < n := bit_lt hsb2 hxs
    have c4 : W.cell? ⟨b4, 0, none⟩ = some (.pointer (some ⟨b3, 0, none⟩)) := (blk_cell hF.h4 0).trans rfl
    have c34 : W.cell? ⟨b3, 4, none⟩ = some (slv b2 n) := (blk_cell hF.h3 4).trans rfl
    have cq := hb.cell
    have ck := rowU_cell hF.h2 x (by rw [hok.1]; exact hxn2)
    obtain ⟨vk, hvk⟩ : ∃ v, abp.getD x 0 = v := ⟨_, rfl⟩
    rw [hvk] at ck
    have hvk' := Aside0.mk hvk
    have hF2' := Aside0.mk hF
    have hb' := Aside0.mk hb
    have hMk' := Aside0.mk hMk
    have hok3' := Aside0.mk hok
    have hfr : W.frozen? ⟨b2, x, none⟩ = false := blk_frozen hF.h2 x
    clear hvk hF hb hMk hok hK' hkeep hG5 hq5 hM5 hk5 hs5 hlt5 hF' hok' hblp' hvi'
    try gi_wp2
    refine wpIn_region_qtail 14 (by rintro ⟨_, _, h⟩; exact h) (by kernel_rfl) (by kernel_rfl) (by kernel_rfl) (by kernel_rfl) ?_
    simp only [List.take_succ_cons, List.take_zero, List.drop_succ_cons, List.drop_zero]
    repeat (go_big_quiet_step (exact withI_quiet _ _ (by omega) _ _))
    refine wpQuiet_nil ?_
    rintro _ ⟨nq, rfl⟩
    go_wp2
    have hval : withI (vk : Int) (o : Int) = ((vk ||| 2 ^ o : Nat) : Int) := by
     have l2 := lt256 (hok3'.out.get x) hn8
     rw [hvk'.out] at l2
     rw [withI_nat vk o l2 (by omega)]
    have hfold : (pre ++ [x]).foldl (aStep o) ab = abp.set x (vk ||| 2 ^ o) := by
     rw [List.foldl_append, habp, List.foldl_cons, List.foldl_nil, aStep, hvk'.out]
    rw [hval]
    refine ⟨keeps_set _ _ _ _ _, ⟨⟨hb'.out.kept (grown_set W nq b2 x _) (fun e => ?_), by rw [hfold]; exact hF2'.out.setA hge.out.2.1 hne.out nq x _⟩, hMk'.out.keeps (keeps_set _ _ _ _ _)⟩, by rw [hfold, ← hvk'.out]; exact hok3'.out.aStep o x hon⟩
    injection e with e
    exact blk_ne hF2'.out.h2 hb'.out (by decide) e.symm
   case done2 =>
    rintro D2 W hD2 ⟨⟨⟨hb, hF⟩, hMk⟩, hok⟩ hKD
    have hF2' := Aside0.mk hF
    have hM6 := Aside0.mk (hMk.cons (D := D2) (by omega) hKD (hlt5.le (by omega)))
    clear hF hb hMk hok hKD hG5 hq5 hM5 hk5 hs5 hlt5 hF' hok'
    go_wp2
    have hcast := hcast'.out
    have hR : Aside0 (F8 n (.slice A0 n c0) (.slice (some ad1) nd.length c1) (.slice (some adn) od.length c2) w3 b1 b2 b3 b4 (relP nN (oN.take (j + 1)) n).1 (relP nN (oN.take (j + 1)) n).2 W) := by
     rw [hstep'.out, relStep, hbl, hab, hsn'.out, hblp'.out, hvi'.out]
     exact hF2'
    have h := fun (u10 u44 u45 u46 u47 u48 u49 u50 u51 u71 u72 u73 u74 u75 u76 u77 u78 u95 : Value) => hK'.out (gk - 1) [u10, .int .i64 ((j + 1 : Nat) : Int), u44, u45, u46, u47, u48, u49, u50, u51, u71, u72, u73, u74, u75, u76, u77, u78, u95] (markOf D2 :: markOf D :: ds) W hk1.out ⟨j + 1, u10, u44, u45, u46, u47, u48, u49, u50, u51, u71, u72, u73, u74, u75, u76, u77, u78, u95, rfl, hk2, hR, hM6⟩
    simp only [setAll, List.setIfInBounds_toArray, List.set_cons_zero, List.set_cons_succ] at h
    rw [hcast]
    exact h _ _ _ _ _ _ _ _ _ _ _ _ _ _ _ _ _ _
end Go.Proofs.YtajapkjplgaigaaDoor.P
end
section
namespace Go.Proofs.YtajapkjplgaigaaDoor.P
open Go.RowKit Go.Shelf Go.Proofs.YtajapkjplgaigaaDoorW.PrintWords Go.Proofs.YtajapkjplgaigaaDoorW.PrintLast Go.Proofs.YtajapkjplgaigaaDoorW.PrintMore
set_option linter.unusedVariables false
set_option linter.unusedSimpArgs false
def setGo (n : Nat) : List Int → Int → Nat → Option Nat
 | [], _, s => some s
 | i :: r, last, s => if last + 1 ≤ i ∧ i < n then setGo n r i (s ||| 2 ^ i.toNat) else none
def setP (l : List Int) (n : Nat) : Option Nat := setGo n l (-1) 0
theorem within_eq (a b c : Int) : impl_within.f a b c = some (decide (b ≤ a ∧ a ≤ c)) := by
 unfold impl_within.f
 by_cases h : a ≥ b
 ·simp [h]
 ·simp [h]
theorem with_eq (s i : Nat) (hs : s < 256) (hi : i < 8) : impl_set_with.f (s : Int) (i : Int) = some ((s ||| 2 ^ i : Nat) : Int) := by
 rw [← withI_nat s i hs hi]
 unfold impl_set_with.f withI
 rw [if_pos (by omega)]
theorem setGo_lt {n : Nat} : ∀ (l : List Int) (last : Int) (s s' : Nat), -1 ≤ last → s < 2 ^ n → setGo n l last s = some s' → s' < 2 ^ n
 | [], _, s, s', _, hs, h => by simp [setGo] at h; omega
 | i :: r, last, s, s', hl, hs, h => by
  unfold setGo at h
  split at h
  ·rename_i hi
   exact setGo_lt r i _ s' (by omega) (with_lt hs (by omega)) h
  ·cases h
theorem setP_lt {l : List Int} {n s : Nat} (h : setP l n = some s) : s < 2 ^ n := setGo_lt l _ _ _ (by omega) (Nat.two_pow_pos n) h
def setR (o : Option Nat) : Int × Bool := match o with | some s => ((s : Int), true) | none => (0, false)
theorem rd_mid (pre : List Int) (x : Int) (r : List Int) : rd (pre ++ x :: r) (pre.length : Int) = x := by simp [rd]
theorem setOf_go {n : Nat} (hn : n ≤ 8) : ∀ (r pre : List Int) (last : Int) (s k : Nat), -1 ≤ last → last < n → (pre.length : Int) ≤ last + 1 → s < 2 ^ n → (n : Int) - last + 1 ≤ k →
  impl_setOf.l0 k (n : Int) (s : Int) last (pre ++ r) ((pre ++ r).length : Int) (pre.length : Int) = some (setR (setGo n r last s))
 | [], pre, last, s, k, h1, h2, h3, hs, hk => by
  obtain ⟨k, rfl⟩ : ∃ j, k = j + 1 := ⟨k - 1, by omega⟩
  simp [impl_setOf.l0, setGo, setR]
 | x :: r, pre, last, s, k, h1, h2, h3, hs, hk => by
  obtain ⟨k, rfl⟩ : ∃ j, k = j + 1 := ⟨k - 1, by omega⟩
  have l1 : (pre.length : Int) < ((pre ++ x :: r).length : Int) := by simp; omega
  have w1 : wrap64 (last + 1) = last + 1 := IntWalk.wrap64_in _ (by omega)
  have w2 : wrap64 ((n : Int) - 1) = (n : Int) - 1 := IntWalk.wrap64_in _ (by omega)
  have w3 : wrap64 ((pre.length : Int) + 1) = ((pre ++ [x]).length : Int) := by rw [IntWalk.wrap64_in _ (by omega)]; simp
  simp only [impl_setOf.l0, if_pos l1, if_pos (show (0 : Int) ≤ (pre.length : Int) by omega), rd_mid, w1, w2, within_eq, Option.bind_some, setGo]
  by_cases hi : last + 1 ≤ x ∧ x < n
  ·have hd : decide (last + 1 ≤ x ∧ x ≤ (n : Int) - 1) = true := decide_eq_true ⟨hi.1, by omega⟩
   obtain ⟨m, rfl⟩ : ∃ m : Nat, x = (m : Int) := ⟨x.toNat, by omega⟩
   rw [if_pos hd, with_eq s m (lt256 hs hn) (by omega), Option.bind_some, w3, if_pos hi]
   have := setOf_go hn r (pre ++ [(m : Int)]) (m : Int) (s ||| 2 ^ m) k (by omega) hi.2 (by simp; omega) (with_lt hs (by omega)) (by omega)
   rw [List.append_assoc] at this
   simpa using this
  ·have hd : decide (last + 1 ≤ x ∧ x ≤ (n : Int) - 1) = false := decide_eq_false (fun h => hi ⟨h.1, by omega⟩)
   rw [if_neg (by rw [hd]; exact Bool.false_ne_true), if_neg hi]
   rfl
theorem setOf_eq (l : List Int) (n k : Nat) (hn : n ≤ 8) (hk : n + 2 ≤ k) : impl_setOf.f k l (n : Int) = some (setR (setP l n)) := by
 have := setOf_go hn l [] (-1) 0 k (by omega) (by omega) (by simp) (Nat.two_pow_pos n) (by omega)
 simpa [impl_setOf.f, setP] using this
def taskP (n : Nat) (t : TT) : Option Nat := match setP t.f1 n with
 | none => none
 | some s => if (1 ≤ t.f0 ∧ t.f0 ≤ 20) ∧ (0 ≤ t.f2 ∧ t.f2 ≤ 2) ∧ (1 ≤ t.f3 ∧ t.f3 ≤ 4) then some s else none
def needsGo (n : Nat) : List TT → List Nat → Option (List Nat)
 | [], acc => some acc
 | t :: r, acc => match taskP n t with
  | none => none
  | some s => needsGo n r (acc ++ [s])
def needsP (ts : List TT) : Option (List Nat) := if ts.length > 8 then none else needsGo ts.length ts []
def needsR (o : Option (List Nat)) : List Int × Bool := match o with | some l => (nI l, true) | none => ([], false)
theorem rdT_mid (pre : List TT) (x : TT) (r : List TT) : rd_T39 (pre ++ x :: r) (pre.length : Int) = x := by simp [rd_T39]
theorem needs_go (ts : List TT) (hn : ts.length ≤ 8) : ∀ (r pre : List TT) (acc : List Nat) (k : Nat), pre ++ r = ts → acc.length = pre.length → r.length + 12 ≤ k →
  impl_needsOf.l0 k ts (nI acc) (pre ++ r) ((pre ++ r).length : Int) (pre.length : Int) = some (needsR (needsGo ts.length r acc))
 | [], pre, acc, k, he, ha, hk => by
  obtain ⟨k, rfl⟩ : ∃ j, k = j + 1 := ⟨k - 1, by omega⟩
  simp [impl_needsOf.l0, needsGo, needsR]
 | x :: r, pre, acc, k, he, ha, hk => by
  obtain ⟨k, rfl⟩ : ∃ j, k = j + 1 := ⟨k - 1, by omega⟩
  simp only [List.length_cons] at hk
  have l1 : (pre.length : Int) < ((pre ++ x :: r).length : Int) := by simp; omega
  have hp : pre.length < ts.length := by rw [← he]; simp
  have w3 : wrap64 ((pre.length : Int) + 1) = ((pre ++ [x]).length : Int) := by rw [IntWalk.wrap64_in _ (by omega)]; simp
  simp only [impl_needsOf.l0, if_pos l1, if_pos (show (0 : Int) ≤ (pre.length : Int) by omega), rdT_mid, setOf_eq x.f1 ts.length k hn (by omega), Option.bind_some, needsGo, taskP]
  cases hs : setP x.f1 ts.length with
  | none => simp [setR, needsR]
  | some s =>
   simp only [setR, if_true, within_eq, Option.bind_some, w3]
   by_cases h1 : 1 ≤ x.f0 ∧ x.f0 ≤ 20
   ·by_cases h2 : 0 ≤ x.f2 ∧ x.f2 ≤ 2
    ·by_cases h3 : 1 ≤ x.f3 ∧ x.f3 ≤ 4
     ·have hl : (nI acc).length < 70368744177664 := by rw [nI_length]; omega
      have hx : (1 ≤ x.f0 ∧ x.f0 ≤ 20) ∧ (0 ≤ x.f2 ∧ x.f2 ≤ 2) ∧ (1 ≤ x.f3 ∧ x.f3 ≤ 4) := ⟨h1, h2, h3⟩
      simp only [decide_eq_true h1, decide_eq_true h2, decide_eq_true h3, if_true, if_pos hl, if_pos hx]
      have := needs_go ts hn r (pre ++ [x]) (acc ++ [s]) k (by rw [List.append_assoc]; exact he) (by simp [ha]) (by omega)
      rw [List.append_assoc, nI_append] at this
      exact this
     ·have hx : ¬ ((1 ≤ x.f0 ∧ x.f0 ≤ 20) ∧ (0 ≤ x.f2 ∧ x.f2 ≤ 2) ∧ (1 ≤ x.f3 ∧ x.f3 ≤ 4)) := fun h => h3 h.2.2
      simp only [decide_eq_true h1, decide_eq_true h2, decide_eq_false h3, if_true, if_neg hx, Bool.false_eq_true, if_false, needsR]
    ·have hx : ¬ ((1 ≤ x.f0 ∧ x.f0 ≤ 20) ∧ (0 ≤ x.f2 ∧ x.f2 ≤ 2) ∧ (1 ≤ x.f3 ∧ x.f3 ≤ 4)) := fun h => h2 h.2.1
     simp only [decide_eq_true h1, decide_eq_false h2, if_true, if_neg hx, Bool.false_eq_true, if_false, needsR]
   ·have hx : ¬ ((1 ≤ x.f0 ∧ x.f0 ≤ 20) ∧ (0 ≤ x.f2 ∧ x.f2 ≤ 2) ∧ (1 ≤ x.f3 ∧ x.f3 ≤ 4)) := fun h => h1 h.1
    simp only [decide_eq_false h1, if_neg hx, Bool.false_eq_true, if_false, needsR]
theorem needs_eq (ts : List TT) (k : Nat) (hk : 100 ≤ k) : impl_needsOf.f k ts = some (needsR (needsP ts)) := by
 unfold impl_needsOf.f needsP
 by_cases h : ts.length > 8
 ·rw [if_pos (by omega), if_pos h]; rfl
 ·rw [if_neg (by omega), if_neg h]
  have := needs_go ts (by omega) ts [] [] k (by simp) rfl (by omega)
  simpa [nI] using this
def canP (nd : List Nat) (done : Nat) (i : Nat) : Bool := !done.testBit i && (nd.getD i 0 &&& done == nd.getD i 0)
def firstP (nd : List Nat) (done : Nat) : Option Nat := (List.range nd.length).find? (canP nd done)
def orderStep (nd : List Nat) (s : List Nat × Nat) : List Nat × Nat := match firstP nd s.2 with
 | none => s
 | some i => (s.1 ++ [i], s.2 ||| 2 ^ i)
def orderGo (nd : List Nat) : Nat → List Nat × Nat → List Nat × Nat
 | 0, s => s
 | m + 1, s => orderGo nd m (orderStep nd s)
def orderP (nd : List Nat) : List Nat × Nat := orderGo nd nd.length ([], 0)
theorem andNot_zero : ∀ a, a < 256 → ∀ b, b < 256 → (Go.bits .andNot .u16 ((a : Nat) : Int) ((b : Nat) : Int) = 0 ↔ a &&& b = a) := by
 intro a ha b hb
 have e1 : (BitVec.ofInt 16 (a : Int)) = BitVec.ofNat 16 a := by simp
 have e2 : (BitVec.ofInt 16 (b : Int)) = BitVec.ofNat 16 b := by simp
 have key : (BitVec.ofNat 16 a &&& ~~~(BitVec.ofNat 16 b)).toNat = 0 ↔ a &&& b = a := by
  rw [BitVec.toNat_and, BitVec.toNat_not, BitVec.toNat_ofNat, BitVec.toNat_ofNat, Nat.mod_eq_of_lt (show a < 2 ^ 16 by omega), Nat.mod_eq_of_lt (show b < 2 ^ 16 by omega)]
  constructor
  ·intro h
   apply Nat.eq_of_testBit_eq
   intro i
   have hi : (a &&& (2 ^ 16 - 1 - b)).testBit i = false := by rw [h]; simp
   rw [Nat.testBit_and] at hi ⊢
   rcases Nat.lt_or_ge i 16 with h16 | h16
   ·rw [show 2 ^ 16 - 1 - b = 2 ^ 16 - (b + 1) by omega, Nat.testBit_two_pow_sub_succ (by omega)] at hi
    cases hA : a.testBit i <;> cases hB : b.testBit i <;> simp [hA, hB, h16] at hi ⊢
   ·rw [Nat.testBit_lt_two_pow (Nat.lt_of_lt_of_le (show a < 2 ^ 16 by omega) (Nat.pow_le_pow_right (by omega) h16))]; rfl
  ·intro h
   apply Nat.eq_of_testBit_eq
   intro i
   rw [Nat.testBit_and, Nat.zero_testBit]
   have hi : (a &&& b).testBit i = a.testBit i := by rw [h]
   rw [Nat.testBit_and] at hi
   rw [show 2 ^ 16 - 1 - b = 2 ^ 16 - (b + 1) by omega, Nat.testBit_two_pow_sub_succ (by omega)]
   cases hA : a.testBit i <;> cases hB : b.testBit i <;> simp [hA, hB] at hi ⊢
 simp only [Go.bits, IntKind.bits, e1, e2]
 have hlt : (BitVec.ofNat 16 a &&& ~~~(BitVec.ofNat 16 b)).toNat < 65536 := (BitVec.ofNat 16 a &&& ~~~(BitVec.ofNat 16 b)).isLt
 rw [wrap_u16', Int.emod_eq_of_lt (by omega) (by omega)]
 exact Iff.trans Int.natCast_eq_zero key
theorem has_eq (s i : Nat) (hs : s < 256) (hi : i < 8) : impl_set_has.f (s : Int) (i : Int) = some (s.testBit i) := by
 rw [← hasB_nat s hs i hi]
 unfold impl_set_has.f hasB
 rw [if_pos (by omega)]
def ordR (s : List Nat × Nat) : List Int × Int := (nI s.1, (s.2 : Int))
def firstFrom (nd : List Nat) (done j : Nat) : Option Nat := ((List.range nd.length).drop j).find? (canP nd done)
theorem firstFrom_step (nd : List Nat) (done j : Nat) (h : j < nd.length) : firstFrom nd done j = if canP nd done j then some j else firstFrom nd done (j + 1) := by
 unfold firstFrom
 rw [List.drop_eq_getElem_cons (by simpa using h), List.find?_cons]
 simp only [List.getElem_range]
 cases canP nd done j <;> rfl
theorem firstFrom_end (nd : List Nat) (done : Nat) : firstFrom nd done nd.length = none := by
 unfold firstFrom
 rw [List.drop_eq_nil_of_le (by simp)]
 rfl
theorem firstP_lt {nd : List Nat} {done i : Nat} (h : firstP nd done = some i) : i < nd.length := by simpa using List.mem_of_find?_eq_some h
theorem order_l1 {n : Nat} (nd : List Nat) (hn : n ≤ 8) (hl : nd.length = n) (hnd : ∀ i, nd.getD i 0 < 2 ^ n) (list : List Nat) (done c : Nat) (hd : done < 2 ^ n) (hll : list.length ≤ 8) : ∀ (m j k : Nat), m + j = n → m + 2 ≤ k →
  impl_order.l1 k (nI nd) (nI list) (done : Int) (n : Int) (c : Int) (nI nd) (n : Int) (j : Int) = match firstFrom nd done j with
   | none => impl_order.l0 (k - m - 1) (nI nd) (nI list) (done : Int) (n : Int) (wrap64 ((c : Int) + 1))
   | some i => impl_order.l0 (k - (i - j) - 1) (nI nd) (nI (list ++ [i])) ((done ||| 2 ^ i : Nat) : Int) (n : Int) (wrap64 ((c : Int) + 1))
 | 0, j, k, hj, hk => by
  obtain ⟨k, rfl⟩ : ∃ k', k = k' + 1 := ⟨k - 1, by omega⟩
  obtain rfl : j = n := by omega
  rw [show firstFrom nd done j = none from by rw [← hl]; exact firstFrom_end nd done]
  simp [impl_order.l1]
 | m + 1, j, k, hj, hk => by
  obtain ⟨k, rfl⟩ : ∃ k', k = k' + 1 := ⟨k - 1, by omega⟩
  have hjl : j < nd.length := by omega
  have ih := order_l1 nd hn hl hnd list done c hd hll m (j + 1) k (by omega) (by omega)
  have w3 : wrap64 ((j : Int) + 1) = ((j + 1 : Nat) : Int) := by rw [IntWalk.wrap64_in _ (by omega)]; omega
  have hll2 : (nI list).length < 17592186044416 := by rw [nI_length]; omega
  have hlen : (j : Int) < ((nI nd).length : Int) := by rw [nI_length]; omega
  simp only [impl_order.l1, if_pos (show (j : Int) < (n : Int) by omega), if_pos (show (0 : Int) ≤ (j : Int) by omega), if_pos hlen, has_eq done j (lt256 hd hn) (by omega), Option.bind_some, rd_nI, with_eq done j (lt256 hd hn) (by omega), if_pos hll2, w3, ih]
  rw [firstFrom_step nd done j hjl]
  have hz := andNot_zero (nd.getD j 0) (lt256 (hnd j) hn) done (lt256 hd hn)
  cases hb : done.testBit j with
  | true =>
   have hc : canP nd done j = false := by simp [canP, hb]
   simp only [if_true, hc, Bool.false_eq_true, if_false]
   cases hf : firstFrom nd done (j + 1) with
   | none => simp only []; congr 1; omega
   | some i =>
    have : j + 1 ≤ i := by
     have := List.mem_of_find?_eq_some hf
     obtain ⟨q, hq, he⟩ := List.mem_iff_getElem.1 this
     simp at he
     omega
    simp only []; congr 1; omega
  | false =>
   by_cases hs : nd.getD j 0 &&& done = nd.getD j 0
   ·have hc : canP nd done j = true := by simp only [canP, hb, hs]; simp
    simp only [Bool.false_eq_true, if_false, if_pos (hz.2 hs), hc, if_true, nI_append]
    rw [show k + 1 - (j - j) - 1 = k by omega]
    rfl
   ·have hc : canP nd done j = false := by simp only [canP, hb, beq_eq_false_iff_ne.2 hs]; rfl
    simp only [Bool.false_eq_true, if_false, if_neg (fun h => hs (hz.1 h)), hc]
    cases hf : firstFrom nd done (j + 1) with
    | none => simp only []; congr 1; omega
    | some i =>
     have : j + 1 ≤ i := by
      have := List.mem_of_find?_eq_some hf
      obtain ⟨q, hq, he⟩ := List.mem_iff_getElem.1 this
      simp at he
      omega
     simp only []; congr 1; omega
theorem orderStep_ok {n : Nat} (nd : List Nat) (hl : nd.length = n) (s : List Nat × Nat) (hd : s.2 < 2 ^ n) : (orderStep nd s).2 < 2 ^ n ∧ (orderStep nd s).1.length ≤ s.1.length + 1 := by
 unfold orderStep
 cases hf : firstP nd s.2 with
 | none => exact ⟨hd, by simp⟩
 | some i => exact ⟨with_lt hd (by have := firstP_lt hf; omega), by simp⟩
theorem order_l0 {n : Nat} (nd : List Nat) (hn : n ≤ 8) (hl : nd.length = n) (hnd : ∀ i, nd.getD i 0 < 2 ^ n) : ∀ (m c k : Nat) (s : List Nat × Nat), m + c = n → s.1.length ≤ c → s.2 < 2 ^ n → m * 11 + 1 ≤ k →
  impl_order.l0 k (nI nd) (nI s.1) (s.2 : Int) (n : Int) (c : Int) = some (ordR (orderGo nd m s))
 | 0, c, k, s, hm, hs, hd, hk => by
  obtain ⟨k, rfl⟩ : ∃ k', k = k' + 1 := ⟨k - 1, by omega⟩
  obtain rfl : c = n := by omega
  simp [impl_order.l0, orderGo, ordR]
 | m + 1, c, k, s, hm, hs, hd, hk => by
  obtain ⟨k, rfl⟩ : ∃ k', k = k' + 1 := ⟨k - 1, by omega⟩
  have w3 : wrap64 ((c : Int) + 1) = ((c + 1 : Nat) : Int) := by rw [IntWalk.wrap64_in _ (by omega)]; omega
  have h1 := order_l1 nd hn hl hnd s.1 s.2 c hd (by omega) n 0 k (by omega) (by omega)
  have e0 : firstFrom nd s.2 0 = firstP nd s.2 := rfl
  have eL : ((nI nd).length : Int) = (n : Int) := by rw [nI_length, hl]
  simp only [impl_order.l0, if_pos (show (c : Int) < (n : Int) by omega), eL]
  have h1' : impl_order.l1 k (nI nd) (nI s.1) (s.2 : Int) (n : Int) (c : Int) (nI nd) (n : Int) 0 = _ := h1
  rw [h1', e0, w3]
  have hok := orderStep_ok nd hl s hd
  simp only [orderGo]
  cases hf : firstP nd s.2 with
  | none =>
   have es : orderStep nd s = s := by unfold orderStep; rw [hf]
   rw [es]
   exact order_l0 nd hn hl hnd m (c + 1) _ s (by omega) (by omega) hd (by omega)
  | some i =>
   have es : orderStep nd s = (s.1 ++ [i], s.2 ||| 2 ^ i) := by unfold orderStep; rw [hf]
   rw [es] at hok ⊢
   have hi := firstP_lt hf
   exact order_l0 nd hn hl hnd m (c + 1) _ (s.1 ++ [i], s.2 ||| 2 ^ i) (by omega) (by simp; omega) hok.1 (by omega)
theorem order_eq {n : Nat} (nd : List Nat) (hn : n ≤ 8) (hl : nd.length = n) (hnd : ∀ i, nd.getD i 0 < 2 ^ n) (k : Nat) (hk : 100 ≤ k) : impl_order.f k (nI nd) = some (ordR (orderP nd)) := by
 unfold impl_order.f orderP
 have := order_l0 nd hn hl hnd n 0 k ([], 0) (by omega) (by simp) (Nat.two_pow_pos n) (by omega)
 rw [nI_length, hl]
 simpa [nI] using this
end Go.Proofs.YtajapkjplgaigaaDoor.P
end
section
namespace Go.Proofs.YtajapkjplgaigaaDoor.P
open Go.RowKit Go.Shelf Go.Proofs.YtajapkjplgaigaaDoorW.PrintWords Go.Proofs.YtajapkjplgaigaaDoorW.PrintLast Go.Proofs.YtajapkjplgaigaaDoorW.PrintMore
set_option linter.unusedVariables false
set_option linter.unusedSimpArgs false
structure GrN where
 ts : List TT
 nd : List Nat
 od : List Nat
 bl : List Nat
 ab : List Nat
def GrN.gr (G : GrN) : Gr := ⟨G.ts, nI G.nd, nI G.od, nI G.bl, nI G.ab⟩
def graphP (ts : List TT) : Option GrN := match needsP ts with
 | none => none
 | some nd => if (orderP nd).2 = 2 ^ ts.length - 1 then some ⟨ts, nd, (orderP nd).1, (relP nd (orderP nd).1 ts.length).1, (relP nd (orderP nd).1 ts.length).2⟩ else none
theorem needsGo_spec (n : Nat) : ∀ (r : List TT) (acc out : List Nat), needsGo n r acc = some out → ∃ l : List Nat, out = acc ++ l ∧ l.length = r.length ∧ ∀ (i : Nat) (t : TT), r[i]? = some t → taskP n t = some (l.getD i 0)
 | [], acc, out, h => by
  simp only [needsGo, Option.some.injEq] at h
  exact ⟨[], by simp [h], rfl, fun i t h => by simp at h⟩
 | x :: r, acc, out, h => by
  simp only [needsGo] at h
  cases ht : taskP n x with
  | none => rw [ht] at h; cases h
  | some s =>
   rw [ht] at h
   obtain ⟨l, h1, h2, h3⟩ := needsGo_spec n r (acc ++ [s]) out h
   refine ⟨s :: l, by simp [h1], by simp [h2], fun i t hi => ?_⟩
   cases i with
   | zero => simp at hi; subst hi; simpa using ht
   | succ i => simpa using h3 i t (by simpa using hi)
theorem needsP_spec {ts : List TT} {nd : List Nat} (h : needsP ts = some nd) : ts.length ≤ 8 ∧ nd.length = ts.length ∧ ∀ (i : Nat) (t : TT), ts[i]? = some t → taskP ts.length t = some (nd.getD i 0) := by
 unfold needsP at h
 split at h
 ·cases h
 ·rename_i hn
  obtain ⟨l, h1, h2, h3⟩ := needsGo_spec _ _ _ _ h
  rw [List.nil_append] at h1
  subst h1
  exact ⟨by omega, h2, h3⟩
theorem taskP_lt {n s : Nat} {t : TT} (h : taskP n t = some s) : s < 2 ^ n ∧ setP t.f1 n = some s ∧ (1 ≤ t.f0 ∧ t.f0 ≤ 20) ∧ (0 ≤ t.f2 ∧ t.f2 ≤ 2) ∧ (1 ≤ t.f3 ∧ t.f3 ≤ 4) := by
 unfold taskP at h
 cases hs : setP t.f1 n with
 | none => rw [hs] at h; cases h
 | some s' =>
  rw [hs] at h
  simp only at h
  split at h
  ·rename_i hc
   injection h with h
   subst h
   exact ⟨setP_lt hs, rfl, hc⟩
  ·cases h
theorem needs_lt {ts : List TT} {nd : List Nat} (h : needsP ts = some nd) (i : Nat) : nd.getD i 0 < 2 ^ ts.length := by
 obtain ⟨h1, h2, h3⟩ := needsP_spec h
 rcases Nat.lt_or_ge i ts.length with hi | hi
 ·exact (taskP_lt (h3 i _ (List.getElem?_eq_getElem hi))).1
 ·rw [List.getD_eq_getElem?_getD, List.getElem?_eq_none (by omega)]; exact Nat.two_pow_pos _
theorem orderGo_mem {nd : List Nat} : ∀ (m : Nat) (s : List Nat × Nat), (∀ i ∈ s.1, i < nd.length) → ∀ i ∈ (orderGo nd m s).1, i < nd.length
 | 0, s, h => h
 | m + 1, s, h => by
  refine orderGo_mem m (orderStep nd s) ?_
  unfold orderStep
  cases hf : firstP nd s.2 with
  | none => exact h
  | some j =>
   intro i hi
   rcases List.mem_append.1 hi with hi | hi
   ·exact h i hi
   ·rw [List.mem_singleton] at hi; subst hi; exact firstP_lt hf
theorem orderP_mem (nd : List Nat) : ∀ i ∈ (orderP nd).1, i < nd.length := orderGo_mem _ _ (fun i hi => by cases hi)
theorem everyI_eq : ∀ n, n ≤ 8 → everyI n = ((2 ^ n - 1 : Nat) : Int) := by decide +kernel
structure GOk (G : GrN) : Prop where
 n8 : G.ts.length ≤ 8
 nl : G.nd.length = G.ts.length
 task : ∀ (i : Nat) (t : TT), G.ts[i]? = some t → taskP G.ts.length t = some (G.nd.getD i 0)
 nlt : ∀ i, G.nd.getD i 0 < 2 ^ G.ts.length
 ord : G.od = (orderP G.nd).1
 full : (orderP G.nd).2 = 2 ^ G.ts.length - 1
 omem : ∀ i ∈ G.od, i < G.ts.length
 blE : G.bl = (relP G.nd G.od G.ts.length).1
 abE : G.ab = (relP G.nd G.od G.ts.length).2
 bl : OkU G.ts.length G.bl
 ab : OkU G.ts.length G.ab
theorem graphP_ok {ts : List TT} {G : GrN} (h : graphP ts = some G) : G.ts = ts ∧ needsP ts = some G.nd ∧ GOk G := by
 unfold graphP at h
 cases hn : needsP ts with
 | none => rw [hn] at h; cases h
 | some nd =>
  rw [hn] at h
  simp only at h
  split at h
  ·rename_i hd
   injection h with h
   obtain ⟨h1, h2, h3⟩ := needsP_spec hn
   have hm : ∀ i ∈ (orderP nd).1, i < ts.length := fun i hi => by rw [← h2]; exact orderP_mem nd i hi
   have hr := relP_ok (n := ts.length) (nd := nd) (od := (orderP nd).1) (needs_lt hn) hm
   subst h
   exact ⟨rfl, rfl, ⟨h1, h2, h3, needs_lt hn, rfl, hd, hm, rfl, rfl, hr.1, hr.2⟩⟩
  ·cases h
theorem graphOf_all (A0 : Option Addr) (c0 : Nat) (l0 : List TT) (w : World) (hr0 : Kd.C k39 w A0 l0.length l0) (hc0 : l0.length ≤ c0) (hT : TabOK w) :
  Calls Tryd.prog 58 #[.slice A0 l0.length c0] w fun e w' => ∃ g b, e = .returned (.tuple #[.pointer g, .bool b]) ∧ Below w.heap.size w w' ∧ (graphP l0 = none → g = none ∧ b = false) ∧ (∀ G, graphP l0 = some G → b = true ∧ ∃ a, g = some ⟨a, 0, none⟩ ∧ ∀ U : World, Kd.C k39 U A0 l0.length l0 → (∀ k, w.heap.size ≤ k → k < w'.heap.size → U.heap[k]? = w'.heap[k]?) → IsG U a G.gr) := by
 have hN := needs_eq l0 100 (Nat.le_refl _)
 cases hn : needsP l0 with
 | none =>
  rw [hn] at hN
  have hg : graphP l0 = none := by unfold graphP; rw [hn]
  refine (graphOf_no1 100 A0 c0 l0 [] w hr0 hc0 hN).mono ?_
  rintro e w' ⟨rfl, hb⟩
  exact ⟨none, false, rfl, hb, fun _ => ⟨rfl, rfl⟩, fun G h => by rw [hg] at h; cases h⟩
 | some nd =>
  rw [hn] at hN
  obtain ⟨h1, h2, h3⟩ := needsP_spec hn
  have hO := order_eq nd h1 h2 (needs_lt hn) 100 (Nat.le_refl _)
  by_cases hd : (orderP nd).2 = 2 ^ l0.length - 1
  ·have hg : graphP l0 = some ⟨l0, nd, (orderP nd).1, (relP nd (orderP nd).1 l0.length).1, (relP nd (orderP nd).1 l0.length).2⟩ := by unfold graphP; rw [hn]; simp only [if_pos hd]
   refine (graphOf_yes 100 A0 c0 l0 (nI nd) (nI (orderP nd).1) ((orderP nd).2 : Int) w hr0 hc0 hN hO (by rw [everyI_eq _ h1, hd]; simp) h1 nd (orderP nd).1 rfl rfl h2 (fun x hx => by
    obtain ⟨i, hi, rfl⟩ := List.getElem_of_mem hx
    have := needs_lt hn i
    rwa [List.getD_eq_getElem?_getD, List.getElem?_eq_getElem hi] at this) (fun x hx => by rw [← h2]; exact orderP_mem nd x hx) hT).mono ?_
   rintro e w' ⟨g, rfl, hG, hb⟩
   exact ⟨_, _, rfl, hb, fun h => (by rw [hg] at h; cases h), fun G h => by rw [hg] at h; injection h with h; subst h; exact ⟨rfl, g, rfl, hG⟩⟩
  ·have hg : graphP l0 = none := by unfold graphP; rw [hn]; simp only [if_neg hd]
   refine (graphOf_no2 100 A0 c0 l0 (nI nd) (nI (orderP nd).1) ((orderP nd).2 : Int) w hr0 hc0 hN hO (by
    rw [everyI_eq _ h1]
    exact beq_eq_false_iff_ne.2 (fun h => hd (by exact_mod_cast h)))).mono ?_
   rintro e w' ⟨rfl, hb⟩
   exact ⟨none, false, rfl, hb, fun _ => ⟨rfl, rfl⟩, fun G h => by rw [hg] at h; cases h⟩
theorem graphOf_at {A0 : Option Addr} {l0 : List TT} {w w' : World} {a : Nat} {G : GrN} (hr0 : Kd.C k39 w A0 l0.length l0) (hb : Below w.heap.size w w')
  (h : ∀ U : World, Kd.C k39 U A0 l0.length l0 → (∀ k, w.heap.size ≤ k → k < w'.heap.size → U.heap[k]? = w'.heap[k]?) → IsG U a G.gr) : IsG w' a G.gr := h w' (Kd.C_below hr0 hb) (fun _ _ _ => rfl)
end Go.Proofs.YtajapkjplgaigaaDoor.P
end
section
namespace Go.Proofs.YtajapkjplgaigaaDoor.P
open Go.RowKit Go.Shelf Go.Proofs.YtajapkjplgaigaaDoorW.PrintWords Go.Proofs.YtajapkjplgaigaaDoorW.PrintLast Go.Proofs.YtajapkjplgaigaaDoorW.PrintMore
attribute [local go_sem] Oper.semAt_some
set_option linter.unusedVariables false
set_option linter.unusedSimpArgs false
def closedP (nd : List Nat) (s : Nat) : Bool := (bitsN s).all fun i => nd.getD i 0 &&& s == nd.getD i 0
def doneP (ts : List TT) (done : List Int) : Option (GrN × Nat) := match graphP ts with
 | none => none
 | some G => match setP done ts.length with
  | none => none
  | some s => if closedP G.nd s then some (G, s) else none
theorem size_calls (g : Nat) (G : Gr) (w : World) (hG : IsG w g G) : Calls Tryd.prog 40 #[.pointer (some ⟨g, 0, none⟩)] w fun e w' => e = .returned (.int .i64 (G.ts.length : Int)) ∧ Drawn0 w w' := by
 obtain ⟨A0, c0, A1, c1, A2, c2, A3, c3, A4, c4, hblk, _⟩ := hG
 have hg0 : w.cell? ⟨g, 0, none⟩ = some (.slice A0 G.ts.length c0) := (blk_cell hblk 0).trans rfl
 clear hblk
 go_enter Tryd.func40, Tryd.ntmps40
 go_wp2
 go_ret
 exact ⟨rfl, ⟨0, rfl⟩⟩
structure Rs (w : World) (q : Nat) (v0 v1 v2 : Value) (W : World) : Prop where
 h0 : Boxed W q 49 v0
 h1 : Boxed W (q + 1) 51 v1
 h2 : Boxed W (q + 1 + 1) 4 v2
 bel : Below w.heap.size w W
theorem own_Rs {β : Type} (w : World) (q : Nat) (v0 v1 v2 : Value) (B : Nat) (hB : w.heap.size ≤ B) : OwnFrom B (fun (_ : β) W => Rs w q v0 v1 v2 W) := by
 intro s W W' row h hg hr
 exact ⟨own_box B q _ (fun (_ : β) => v0) s W W' row h.h0 hg hr, own_box B (q + 1) _ (fun (_ : β) => v1) s W W' row h.h1 hg hr, own_box B (q + 1 + 1) _ (fun (_ : β) => v2) s W W' row h.h2 hg hr, (ownFrom_below (Nat.le_refl _) hB) s W W' row h.bel hg hr⟩
theorem Rs.below {w W W' : World} {q : Nat} {v0 v1 v2 : Value} (h : Rs w q v0 v1 v2 W) (hb : Below W.heap.size W W') : Rs w q v0 v1 v2 W' :=
 ⟨(hb.block q h.h0.lt).trans h.h0, (hb.block _ h.h1.lt).trans h.h1, (hb.block _ h.h2.lt).trans h.h2, below_step h.bel hb⟩
theorem Rs.alloc {w W : World} {q : Nat} {v0 v1 v2 : Value} (h : Rs w q v0 v1 v2 W) (o : Obj) : Rs w q v0 v1 v2 (W.alloc o) := h.below ((Below.refl _ W).alloc (Nat.le_refl _) o)
theorem Rs.drewN {w W : World} {q : Nat} {v0 v1 v2 : Value} (h : Rs w q v0 v1 v2 W) (m : Nat) : Rs w q v0 v1 v2 (W.drewN m) := ⟨h.h0, h.h1, h.h2, pw_below_drewN h.bel m⟩
theorem Rs.put {w W : World} {q : Nat} {v0 v1 v2 : Value} (h : Rs w q v0 v1 v2 W) (hq : w.heap.size ≤ q) (u0 u1 u2 : Value) :
  Rs w q u0 u1 u2 (((W.setCell ⟨q, 0, none⟩ u0).setCell ⟨q + 1, 0, none⟩ u1).setCell ⟨q + 1 + 1, 0, none⟩ u2) := by
 refine ⟨?_, ?_, ?_, ((h.bel.setCell (p := ⟨q, 0, none⟩) hq _).setCell (p := ⟨q + 1, 0, none⟩) (by show w.heap.size ≤ q + 1; omega) _).setCell (p := ⟨q + 1 + 1, 0, none⟩) (by show w.heap.size ≤ q + 1 + 1; omega) _⟩
 ·exact blk_far (blk_far ((blk_set h.h0 0 u0).trans rfl) (show q ≠ q + 1 by omega) _) (show q ≠ q + 1 + 1 by omega) _
 ·exact blk_far ((blk_set (blk_far h.h1 (show q + 1 ≠ q by omega) _) 0 u1).trans rfl) (show q + 1 ≠ q + 1 + 1 by omega) _
 ·exact (blk_set (blk_far (blk_far h.h2 (show q + 1 + 1 ≠ q by omega) _) (show q + 1 + 1 ≠ q + 1 by omega) _) 0 u2).trans rfl
theorem keeps_put (B : Nat) (W : World) (a b c : Addr) (u0 u1 u2 : Value) : KeepsFrom B W (((W.setCell a u0).setCell b u1).setCell c u2) := (((KeepsOthers.setCell W a u0).trans (KeepsOthers.setCell _ b u1)).trans (KeepsOthers.setCell _ c u2)).from B
set_option maxRecDepth 100000 in
set_option maxHeartbeats 1000000 in
theorem doneIn_calls (A0 : Option Addr) (c0 : Nat) (l0 : List TT) (A1 : Option Addr) (c1 : Nat) (done : List Int) (w : World) (hr0 : Kd.C k39 w A0 l0.length l0) (hc0 : l0.length ≤ c0) (hr1 : Kd.C (Kd.int .i64) w A1 done.length done) (hc1 : done.length ≤ c1) (hT : TabOK w) :
  Calls Tryd.prog 39 #[.slice A0 l0.length c0, .slice A1 done.length c1] w fun e w' => ∃ (g : Option Addr) (s : Nat) (b : Bool), e = .returned (.tuple #[.pointer g, .int .u16 s, .bool b]) ∧ Below w.heap.size w w' ∧
   (doneP l0 done = none → b = false) ∧ (∀ G s', doneP l0 done = some (G, s') → b = true ∧ s = s' ∧ ∃ a, g = some ⟨a, 0, none⟩ ∧ IsG w' a G.gr) := by
 have hr0' := Aside0.mk hr0
 have hr1' := Aside0.mk hr1
 have hc0' := Aside0.mk hc0
 have hc1' := Aside0.mk hc1
 have hT' := Aside0.mk hT
 clear hr0 hc0 hr1 hc1 hT
 refine calls_of_wpM Tryd.func39 rfl ?_
 simp only [Tryd.ntmps39, List.size_toArray, List.length_cons, List.length_nil, Nat.reduceAdd, Nat.reduceSub, Array.replicate_succ, Array.replicate_zero, List.push_toArray, List.append_toArray, List.nil_append, List.cons_append]
 go_wp2_with (fail)
 obtain ⟨q, hq⟩ : ∃ q, q = w.heap.size := ⟨_, rfl⟩
 have hRs : Rs w q (.pointer none) (.int .u16 0) (.bool false) (((w.alloc (.cells #[.pointer none] 49)).alloc (.cells #[.int .u16 0] 51)).alloc (.cells #[.bool false] 4)) := by
  subst hq
  exact ⟨((Boxed.new w _ _).alloc _).alloc _, (box_at _ _ _ _ (by simp)).alloc _, box_at _ _ _ _ (by simp), (((Below.refl _ w).alloc (Nat.le_refl _) _).alloc (by simp) _).alloc (by simp; omega) _⟩
 have hsz : (((w.alloc (.cells #[.pointer none] 49)).alloc (.cells #[.int .u16 0] 51)).alloc (.cells #[.bool false] 4)).heap.size = q + 1 + 1 + 1 := by simp [hq]
 simp only [← hq]
 have hq' := Aside0.mk hq
 clear hq
 generalize ((w.alloc (.cells #[.pointer none] 49)).alloc (.cells #[.int .u16 0] 51)).alloc (.cells #[.bool false] 4) = W3 at *
 have gc := Aside0.mk (graphOf_all A0 c0 l0 W3 (Kd.C_below hr0'.out (hRs.bel)) hc0'.out (hT'.out.below hRs.bel))
 have hRs' := Aside0.mk hRs
 have hsz' := Aside0.mk hsz
 clear hRs hsz
 cases hg : graphP l0 with
 | none =>
  have hg' := Aside0.mk hg
  clear hg
  go_wp2_with (go_at_call 58; refine gc.out.mono ?_; rintro e W4 ⟨g, b, rfl, hB4, hno, hyes⟩; obtain ⟨rfl, rfl⟩ := hno hg'.out; have hR4 := Aside0.mk ((hRs'.out.below hB4).alloc (.cells #[.pointer none] 49)); have j0 := hR4.out.h0.cell; have j1 := hR4.out.h1.cell; have j2 := hR4.out.h2.cell; have f0 := hR4.out.h0.frozen; have f1 := hR4.out.h1.frozen; have f2 := hR4.out.h2.frozen; clear hB4 hno hyes)
  have hR5 := hR4.out.put (by have := hq'.out; omega) (.pointer none) (.int .u16 0) (.bool false)
  refine retM (B := w.heap.size) (fun W => Rs w q (.pointer none) (.int .u16 0) (.bool false) W) (own_Rs _ _ _ _ _ _ (Nat.le_refl _)) trivial hR5 ?_
  intro W' h
  have k0 := h.h0.cell
  have k1 := h.h1.cell
  have k2 := h.h2.cell
  refine ⟨.tuple #[.pointer none, .int .u16 0, .bool false], by simp [results, Tryd.results39, go_sem, k0, k1, k2], none, 0, false, rfl, h.bel, fun _ => rfl, fun G s' h => ?_⟩
  unfold doneP at h
  rw [hg'.out] at h
  cases h
 | some G =>
  have hg' := Aside0.mk hg
  clear hg
  obtain ⟨hts, hnP, hOk⟩ := graphP_ok hg'.out
  have hlen' := Aside0.mk (show ((G.gr.ts.length : Nat) : Int) = (l0.length : Int) by rw [← hts]; rfl)
  have hOk' := Aside0.mk hOk
  have hts' := Aside0.mk hts
  have hS := setOf_eq done l0.length 100 (by rw [← hts]; exact hOk.n8) (by have := hOk.n8; rw [hts] at this; omega)
  clear hts hnP hOk
  cases hs : setP done l0.length with
  | none =>
   rw [hs] at hS
   have hs' := Aside0.mk hs
   have hS' := Aside0.mk hS
   clear hs hS
   go_wp2_with (first | (go_at_call 58; refine gc.out.mono ?_; rintro e W4 ⟨g, b, rfl, hB4, hno, hyes⟩; obtain ⟨rfl, a, rfl, hG40⟩ := hyes G hg'.out; have hG4 := graphOf_at (Kd.C_below hr0'.out hRs'.out.bel) hB4 hG40; have hGU := Aside0.mk hG40; have hs34 := Aside0.mk hB4.size; have hR4 := Aside0.mk ((hRs'.out.below hB4).alloc (.cells #[.pointer (some ⟨a, 0, none⟩)] 49)); have hG5 := Aside0.mk (hG4.below ((Below.refl _ W4).alloc (Nat.le_refl _) (.cells #[.pointer (some ⟨a, 0, none⟩)] 49))); have hx5 := Aside0.mk (Boxed.new W4 49 (.pointer (some ⟨a, 0, none⟩))); clear hB4 hno hyes hG4 hG40) | (go_at_call 40; refine (size_calls a G.gr _ hG5.out).mono ?_; rintro e w5 ⟨rfl, ⟨m5, rfl⟩⟩; simp only [hlen'.out]) | (go_at_call 71; refine (impl_setOf.calls 100 A1 c1 done (l0.length : Int) 0 false _ (Kd.C_drewN (Kd.C_below hr1'.out hR4.out.bel) _) hc1'.out hS'.out).mono ?_; rintro e w6 ⟨rfl, ⟨m6, rfl⟩⟩; have hR6 := Aside0.mk ((hR4.out.drewN (m5 + m6)).alloc (.cells #[.int .u16 0] 51)); have j0 := hR6.out.h0.cell; have j1 := hR6.out.h1.cell; have j2 := hR6.out.h2.cell; have f0 := hR6.out.h0.frozen; have f1 := hR6.out.h1.frozen; have f2 := hR6.out.h2.frozen))
   have hR7 := hR6.out.put (by have := hq'.out; omega) (.pointer none) (.int .u16 0) (.bool false)
   refine retM (B := w.heap.size) (fun W => Rs w q (.pointer none) (.int .u16 0) (.bool false) W) (own_Rs _ _ _ _ _ _ (Nat.le_refl _)) trivial hR7 ?_
   intro W' h
   have k0 := h.h0.cell
   have k1 := h.h1.cell
   have k2 := h.h2.cell
   refine ⟨.tuple #[.pointer none, .int .u16 0, .bool false], by simp [results, Tryd.results39, go_sem, k0, k1, k2], none, 0, false, rfl, h.bel, fun _ => rfl, fun G s' h => ?_⟩
   unfold doneP at h
   rw [hg'.out] at h
   simp only [hs'.out] at h
   cases h
  | some s =>
   rw [hs] at hS
   have hs' := Aside0.mk hs
   have hS' := Aside0.mk hS
   clear hs hS
   go_wp2_with (first | (go_at_call 58; refine gc.out.mono ?_; rintro e W4 ⟨g, b, rfl, hB4, hno, hyes⟩; obtain ⟨rfl, a, rfl, hG40⟩ := hyes G hg'.out; have hG4 := graphOf_at (Kd.C_below hr0'.out hRs'.out.bel) hB4 hG40; have hGU := Aside0.mk hG40; have hs34 := Aside0.mk hB4.size; have hR4 := Aside0.mk ((hRs'.out.below hB4).alloc (.cells #[.pointer (some ⟨a, 0, none⟩)] 49)); have hG5 := Aside0.mk (hG4.below ((Below.refl _ W4).alloc (Nat.le_refl _) (.cells #[.pointer (some ⟨a, 0, none⟩)] 49))); have hx5 := Aside0.mk (Boxed.new W4 49 (.pointer (some ⟨a, 0, none⟩))); clear hB4 hno hyes hG4 hG40) | (go_at_call 40; refine (size_calls a G.gr _ hG5.out).mono ?_; rintro e w5 ⟨rfl, ⟨m5, rfl⟩⟩; simp only [hlen'.out]) | (go_at_call 71; refine (impl_setOf.calls 100 A1 c1 done (l0.length : Int) (s : Int) true _ (Kd.C_drewN (Kd.C_below hr1'.out hR4.out.bel) _) hc1'.out hS'.out).mono ?_; rintro e w6 ⟨rfl, ⟨m6, rfl⟩⟩; have hR6 := Aside0.mk ((hR4.out.drewN (m5 + m6)).alloc (.cells #[.int .u16 (s : Int)] 51)); have j7 := cell_alloc hx5.out.cell (.cells #[.int .u16 (s : Int)] 51)) | (go_at_call 54; refine (all_calls _ _).mono ?_; rintro e w' ⟨rfl, rfl⟩))
   have hG6 := (hG5.out.drewN (m5 + m6)).below ((Below.refl _ ((W4.alloc (.cells #[.pointer (some ⟨a, 0, none⟩)] 49)).drewN (m5 + m6))).alloc (Nat.le_refl _) (.cells #[.int .u16 (s : Int)] 51))
   have hb6 : Boxed (((W4.alloc (.cells #[.pointer (some ⟨a, 0, none⟩)] 49)).drewN (m5 + m6)).alloc (.cells #[.int .u16 (s : Int)] 51)) W4.heap.size 49 (.pointer (some ⟨a, 0, none⟩)) := Boxed.alloc (W := (W4.alloc (.cells #[.pointer (some ⟨a, 0, none⟩)] 49)).drewN (m5 + m6)) hx5.out _
   have hs6 : Boxed (((W4.alloc (.cells #[.pointer (some ⟨a, 0, none⟩)] 49)).drewN (m5 + m6)).alloc (.cells #[.int .u16 (s : Int)] 51)) (W4.heap.size + 1) 51 (.int .u16 (s : Int)) := box_at _ _ _ _ (by simp [World.drewN])
   have hz6 : (((W4.alloc (.cells #[.pointer (some ⟨a, 0, none⟩)] 49)).drewN (m5 + m6)).alloc (.cells #[.int .u16 (s : Int)] 51)).heap.size = W4.heap.size + 1 + 1 := by simp [World.drewN]
   have hR6' := hR6.out
   have hW46 := Aside0.mk (show ∀ k, k < W4.heap.size → (((W4.alloc (.cells #[.pointer (some ⟨a, 0, none⟩)] 49)).drewN (m5 + m6)).alloc (.cells #[.int .u16 (s : Int)] 51)).heap[k]? = W4.heap[k]? from fun k hk => (Below.heap_alloc _ _ k (by simp [World.drewN]; omega)).trans (Below.heap_alloc W4 _ k hk))
   clear hR6 hG5 hx5 j7 hR4
   generalize ((W4.alloc (.cells #[.pointer (some ⟨a, 0, none⟩)] 49)).drewN (m5 + m6)).alloc (.cells #[.int .u16 (s : Int)] 51) = W6 at *
   have hp4 := Aside0.mk (show W4.heap.size = W4.heap.size from rfl)
   generalize hpp : W4.heap.size = p at *
   have hW47 := Aside0.mk (show ∀ k, k < p → (W6.alloc (.cells #[.int .u16 (s : Int)] 51)).heap[k]? = W4.heap[k]? from fun k hk => (Below.heap_alloc W6 _ k (by omega)).trans (hW46.out k hk))
   have hpp' := Aside0.mk hpp
   clear hpp hp4
   have hG7 := hG6.below ((Below.refl _ W6).alloc (Nat.le_refl _) (.cells #[.int .u16 (s : Int)] 51))
   have hb7 := hb6.alloc (.cells #[.int .u16 (s : Int)] 51)
   have hs7 := hs6.alloc (.cells #[.int .u16 (s : Int)] 51)
   have hR7 := hR6'.alloc (.cells #[.int .u16 (s : Int)] 51)
   have hk7 := (box_at W6 51 (.int .u16 (s : Int)) (p + 1 + 1) hz6).cell
   have hz7 : (W6.alloc (.cells #[.int .u16 (s : Int)] 51)).heap.size = p + 1 + 1 + 1 := by simp [hz6]
   try simp only [hz6]
   generalize W6.alloc (.cells #[.int .u16 (s : Int)] 51) = W7 at *
   have hsl : s < 2 ^ l0.length := setP_lt hs'.out
   have hn8 : l0.length ≤ 8 := by have := hOk'.out.n8; rw [hts'.out] at this; exact this
   have hG7' := Aside0.mk hG7
   have hb7' := Aside0.mk hb7
   have hs7' := Aside0.mk hs7
   have hR7' := Aside0.mk hR7
   clear hG6 hb6 hs6 hR6' hz6 hG7 hb7 hs7 hR7
   have hz77 := Aside0.mk hz7
   refine wp_all1 (p + 1 + 1) s (lt256 hsl hn8) rfl (by omega) hk7 (hT'.out.below hR7'.out.bel) rfl rfl rfl (by simp)
    (fun pre W => Below W7.heap.size W7 W ∧ ∀ k ∈ pre, G.nd.getD k 0 &&& s = G.nd.getD k 0)
    (fun c pre W => match c with | .ret => Rs w q (.pointer none) (.int .u16 0) (.bool false) W ∧ ∃ k ∈ pre, ¬ (G.nd.getD k 0 &&& s = G.nd.getD k 0) | _ => False)
    (OwnFrom.and (ownFrom_below (Nat.le_refl _) (Nat.le_refl _)) (fun _ _ _ _ h _ _ => h))
    (fun c pre W W' row h hg hr => by
     cases c <;> first | exact h.elim | exact ⟨own_Rs w q _ _ _ _ hR7'.out.bel.size pre W W' row h.1 hg hr, h.2⟩)
    ⟨Below.refl _ _, fun k hk => by cases hk⟩ (fun pre W h => hT'.out.below (below_step hR7'.out.bel h.1)) ?body ?done ?stop
   case body =>
    rintro l pre x W hx8 hxs ⟨hB, hpre⟩ hlen
    simp only [List.setIfInBounds_toArray, List.set_cons_zero, List.set_cons_succ]
    have hxl : x < l0.length := bit_lt hsl hxs
    obtain ⟨A2, c2, A3, c3, A4, c4, A5, c5, A6, c6, hblk, _, ⟨hC1, _⟩, _⟩ := hG7'.out.below hB
    have hndl : G.gr.nd.length = l0.length := by rw [← hts'.out, ← hOk'.out.nl]; exact nI_length _
    obtain ⟨ad1, rfl, hx1⟩ := Kd.at_int hC1 (x : Int) (by omega) (by rw [hndl]; exact_mod_cast hxl)
    obtain ⟨nx, hnx⟩ : ∃ v, G.nd.getD x 0 = v := ⟨_, rfl⟩
    have hn2 : rd G.gr.nd (x : Int) = (nx : Int) := by rw [← hnx]; exact rd_nI G.nd x
    simp only [Int.toNat_natCast, hn2] at hx1
    have hnl : nx < 256 := by rw [← hnx]; exact lt256 (hOk'.out.nlt x) hOk'.out.n8
    have hg1 : W.cell? ⟨a, 1, none⟩ = some (.slice (some ad1) l0.length c3) := (blk_cell hblk 1).trans (by rw [← hndl]; rfl)
    have j7 : W.cell? ⟨p, 0, none⟩ = some (.pointer (some ⟨a, 0, none⟩)) := (show Boxed W p _ _ from (hB.block p (by omega)).trans hb7'.out).cell
    have j8 : W.cell? ⟨p + 1, 0, none⟩ = some (.int .u16 (s : Int)) := (show Boxed W (p + 1) _ _ from (hB.block (p + 1) (by omega)).trans hs7'.out).cell
    have hR8 := Aside0.mk (hR7'.out.below hB)
    have hxl' : (x : Int) < (l0.length : Int) := by omega
    clear hblk hC1 hn2
    have hB' := Aside0.mk hB
    have hpre' := Aside0.mk hpre
    have hnx' := Aside0.mk hnx
    have hz := andNot_zero nx hnl s (lt256 hsl hn8)
    have hz' := Aside0.mk hz
    clear hB hpre hnx hz
    by_cases hsub : nx &&& s = nx
    ·have hv : (Go.bits .andNot .u16 (nx : Int) (s : Int) != 0) = false := by rw [hz'.out.2 hsub]; rfl
     have hsub' := Aside0.mk hsub
     clear hsub
     try gi_wp2
     refine wpIn_region_quiet_lit (by rintro ⟨_, _, h⟩; exact h) (by kernel_rfl) (by kernel_rfl) (by kernel_rfl) ?_
     repeat (go_big_quiet_step (fail))
     refine wpQuiet_nil ?_
     rintro _ ⟨nq, rfl⟩
     try gi_wp2
     refine ⟨⟨Nat.le_refl _, fun _ _ _ h _ => h⟩, pw_below_drewN hB'.out _, fun k hk => ?_⟩
     rcases List.mem_append.1 hk with hk | hk
     ·exact hpre'.out k hk
     ·rw [List.mem_singleton] at hk
      rw [hk, hnx'.out]
      exact hsub'.out
    ·have hv : (Go.bits .andNot .u16 (nx : Int) (s : Int) != 0) = true := bne_iff_ne.2 (fun h => hsub (hz'.out.1 h))
     have hsub' := Aside0.mk hsub
     clear hsub
     have j0 := hR8.out.h0.cell
     have j1 := hR8.out.h1.cell
     have j2 := hR8.out.h2.cell
     have f0 := hR8.out.h0.frozen
     have f1 := hR8.out.h1.frozen
     have f2 := hR8.out.h2.frozen
     try gi_wp2
     refine wpIn_region_quiet_lit (by rintro ⟨_, _, h⟩; exact h) (by kernel_rfl) (by kernel_rfl) (by kernel_rfl) ?_
     repeat (go_big_quiet_step (fail))
     refine wpQuiet_nil ?_
     rintro _ ⟨nq, rfl⟩
     try gi_wp2
     have hR9 := (hR8.out.drewN nq).put (by have := hq'.out; omega) (.pointer none) (.int .u16 0) (.bool false)
     exact ⟨⟨(keeps_put W7.heap.size (W.drewN nq) _ _ _ _ _ _).size, (keeps_put W7.heap.size (W.drewN nq) _ _ _ _ _ _).same⟩, hR9, x, by simp, by rw [hnx'.out]; exact hsub'.out⟩
   case done =>
    rintro D W hD ⟨hB, hpre⟩ hKD
    have hR8 := Aside0.mk (hR7'.out.below hB)
    have hG8 := Aside0.mk (hG7'.out.below hB)
    have j7 : W.cell? ⟨p, 0, none⟩ = some (.pointer (some ⟨a, 0, none⟩)) := (show Boxed W p _ _ from (hB.block p (by omega)).trans hb7'.out).cell
    have j8 : W.cell? ⟨p + 1, 0, none⟩ = some (.int .u16 (s : Int)) := (show Boxed W (p + 1) _ _ from (hB.block (p + 1) (by omega)).trans hs7'.out).cell
    have j0 := hR8.out.h0.cell
    have j1 := hR8.out.h1.cell
    have j2 := hR8.out.h2.cell
    have f0 := hR8.out.h0.frozen
    have f1 := hR8.out.h1.frozen
    have f2 := hR8.out.h2.frozen
    have hB' := Aside0.mk hB
    have hpre' := Aside0.mk hpre
    have hKD' := Aside0.mk hKD
    have hD' := Aside0.mk hD
    have hpq : p + 1 ≠ q := by have := blk_ne hs7'.out hR7'.out.h0 (by decide); omega
    have j8a : ∀ v : Value, (W.setCell ⟨q, 0, none⟩ v).cell? ⟨p + 1, 0, none⟩ = some (.int .u16 (s : Int)) := fun v => Boxed.cell (t := 51) (blk_far ((hB.block (p + 1) (by omega)).trans hs7'.out) hpq v)
    clear hB hpre hKD hD hk7 hz7 hpq
    go_wp2
    go_region
    go_wp2
    have hR9 := hR8.out.put (by have := hq'.out; omega) (.pointer (some ⟨a, 0, none⟩)) (.int .u16 (s : Int)) (.bool true)
    have hk9 := keeps_put W7.heap.size W ⟨q, 0, none⟩ ⟨q + 1, 0, none⟩ ⟨q + 1 + 1, 0, none⟩ (.pointer (some ⟨a, 0, none⟩)) (.int .u16 (s : Int)) (.bool true)
    have hrow : ∀ k, W3.heap.size ≤ k → k < W4.heap.size → (((W.setCell ⟨q, 0, none⟩ (.pointer (some ⟨a, 0, none⟩))).setCell ⟨q + 1, 0, none⟩ (.int .u16 (s : Int))).setCell ⟨q + 1 + 1, 0, none⟩ (.bool true)).drew.heap[k]? = W4.heap[k]? := by
     intro k h1 h2
     have hz3 := hsz'.out
     have h3 : k < p := by rw [← hpp'.out]; exact h2
     show (((W.setCell _ _).setCell _ _).setCell _ _).heap[k]? = _
     rw [Below.heap_setCell _ _ _ k (show k ≠ q + 1 + 1 by omega), Below.heap_setCell _ _ _ k (show k ≠ q + 1 by omega), Below.heap_setCell _ _ _ k (show k ≠ q by omega), hB'.out.block k (by have := hz77.out; omega)]
     exact hW47.out k h3
    refine retM (B := W7.heap.size) (fun U => Rs w q (.pointer (some ⟨a, 0, none⟩)) (.int .u16 (s : Int)) (.bool true) U ∧ ∀ k, W3.heap.size ≤ k → k < W4.heap.size → U.heap[k]? = W4.heap[k]?) (OwnFrom.and (own_Rs _ _ _ _ _ _ hR7'.out.bel.size) (fun _ X X' row h hg hr k h1 h2 => by
     have hlt : k < X.heap.size := by
      have h3 := h k h1 h2
      rw [Array.getElem?_eq_getElem h2] at h3
      exact (Array.getElem?_eq_some_iff.1 h3).1
     rw [hg.block k hlt (fun e => by have := (hr k e.symm).1; have := hz77.out; have := hpp'.out; omega)]
     exact h k h1 h2)) ⟨⟨D, rfl, hD'.out, hk9.same D _ hD'.out hKD'.out rfl, by simp⟩, trivial⟩ ⟨hR9.drewN 1, hrow⟩ ?_
    rintro U ⟨h, hrow2⟩
    have k0 := h.h0.cell
    have k1 := h.h1.cell
    have k2 := h.h2.cell
    refine ⟨.tuple #[.pointer (some ⟨a, 0, none⟩), .int .u16 (s : Int), .bool true], by simp [results, Tryd.results39, go_sem, k0, k1, k2], some ⟨a, 0, none⟩, s, true, rfl, h.bel, fun hn => ?_, fun G' s' hn => ?_⟩
    ·unfold doneP at hn
     rw [hg'.out] at hn
     simp only [hs'.out] at hn
     rw [if_pos (show closedP G.nd s = true from List.all_eq_true.2 (fun k hk => beq_iff_eq.2 (hpre'.out k hk)))] at hn
     cases hn
    ·unfold doneP at hn
     rw [hg'.out] at hn
     simp only [hs'.out] at hn
     split at hn
     ·injection hn with hn
      injection hn with h1 h2
      subst h1
      exact ⟨rfl, h2, a, rfl, hGU.out U (Kd.C_below hr0'.out h.bel) (fun k h1 h2 => hrow2 k h1 (by rw [hpp'.out]; exact h2))⟩
     ·cases hn
   case stop =>
    rintro D c pre W hD hp h hKD
    cases c <;> first | exact h.elim | skip
    obtain ⟨hR8, k, hk, hsub⟩ := h
    have hR8' := Aside0.mk hR8
    have hKD' := Aside0.mk hKD
    have hD' := Aside0.mk hD
    clear hR8 hKD hD
    go_wp2
    refine retM (B := W7.heap.size) (fun W => Rs w q (.pointer none) (.int .u16 0) (.bool false) W) (own_Rs _ _ _ _ _ _ hR7'.out.bel.size) ⟨⟨D, rfl, hD'.out, hKD'.out, by simp⟩, trivial⟩ hR8'.out ?_
    intro W' h
    have k0 := h.h0.cell
    have k1 := h.h1.cell
    have k2 := h.h2.cell
    refine ⟨.tuple #[.pointer none, .int .u16 0, .bool false], by simp [results, Tryd.results39, go_sem, k0, k1, k2], none, 0, false, rfl, h.bel, fun _ => rfl, fun G' s' h => ?_⟩
    unfold doneP at h
    rw [hg'.out] at h
    simp only [hs'.out] at h
    split at h
    ·rename_i hc
     have := List.all_eq_true.1 hc k (hp.subset hk)
     exact absurd (by simpa using this) hsub
    ·cases h
end Go.Proofs.YtajapkjplgaigaaDoor.P
end
section
namespace Go.Proofs.YtajapkjplgaigaaDoor.P
open Go.RowKit Go.Shelf Go.Proofs.YtajapkjplgaigaaDoorW.PrintWords Go.Proofs.YtajapkjplgaigaaDoorW.PrintLast Go.Proofs.YtajapkjplgaigaaDoorW.PrintMore
attribute [local go_sem] Oper.semAt_some
set_option linter.unusedVariables false
set_option linter.unusedSimpArgs false
def readyStepN (nd : List Nat) (s : Nat) (o i : Nat) : Nat := if canP nd s i then o ||| 2 ^ i else o
def readyN (nd : List Nat) (s : Nat) : Nat := (List.range nd.length).foldl (readyStepN nd s) 0
theorem subB_nat (a b : Nat) (ha : a < 256) (hb : b < 256) : subB (a : Int) (b : Int) = (a &&& b == a) := by
 unfold subB
 have := andNot_zero a ha b hb
 by_cases h : a &&& b = a
 ·rw [this.2 h, h]; simp
 ·have h2 : Go.bits .andNot .u16 (a : Int) (b : Int) ≠ 0 := fun e => h (this.1 e)
  rw [beq_eq_false_iff_ne.2 h2, beq_eq_false_iff_ne.2 h]
theorem ready_fold {n : Nat} (nd : List Nat) (hn : n ≤ 8) (hl : nd.length = n) (hnd : ∀ i, nd.getD i 0 < 2 ^ n) (s : Nat) (hs : s < 2 ^ n) : ∀ (l : List Nat) (o : Nat), (∀ i ∈ l, i < n) → o < 2 ^ n →
  l.foldl (readyStep (nI nd) (s : Int)) (o : Int) = ((l.foldl (readyStepN nd s) o : Nat) : Int) ∧ l.foldl (readyStepN nd s) o < 2 ^ n
 | [], o, _, ho => ⟨rfl, ho⟩
 | i :: l, o, hi, ho => by
  have hin := hi i List.mem_cons_self
  have e : readyStep (nI nd) (s : Int) (o : Int) i = ((readyStepN nd s o i : Nat) : Int) := by
   unfold readyStep readyStepN canP
   rw [hasB_nat s (lt256 hs hn) i (by omega), rd_nI, subB_nat _ _ (lt256 (hnd i) hn) (lt256 hs hn), withI_nat o i (lt256 ho hn) (by omega)]
   split <;> rfl
  have ho2 : readyStepN nd s o i < 2 ^ n := by
   unfold readyStepN
   split
   ·exact with_lt ho hin
   ·exact ho
  rw [List.foldl_cons, List.foldl_cons, e]
  exact ready_fold nd hn hl hnd s hs l _ (fun k hk => hi k (List.mem_cons_of_mem _ hk)) ho2
theorem readyP_eq {n : Nat} (nd : List Nat) (hn : n ≤ 8) (hl : nd.length = n) (hnd : ∀ i, nd.getD i 0 < 2 ^ n) (s : Nat) (hs : s < 2 ^ n) : readyP (nI nd) (s : Int) = (readyN nd s : Int) ∧ readyN nd s < 2 ^ n := by
 have := ready_fold nd hn hl hnd s hs (List.range nd.length) 0 (fun i hi => by rw [List.mem_range] at hi; omega) (Nat.two_pow_pos n)
 unfold readyP readyN
 rw [nI_length]
 exact this
theorem doneP_ok {ts : List TT} {done : List Int} {G : GrN} {s : Nat} (h : doneP ts done = some (G, s)) : graphP ts = some G ∧ G.ts = ts ∧ GOk G ∧ setP done ts.length = some s ∧ closedP G.nd s = true ∧ s < 2 ^ ts.length := by
 unfold doneP at h
 cases hg : graphP ts with
 | none => rw [hg] at h; cases h
 | some G' =>
  rw [hg] at h
  simp only at h
  cases hs : setP done ts.length with
  | none => rw [hs] at h; cases h
  | some s' =>
   rw [hs] at h
   simp only at h
   split at h
   ·rename_i hc
    injection h with h
    injection h with h1 h2
    subst h1 h2
    obtain ⟨a, b, c⟩ := graphP_ok hg
    exact ⟨rfl, a, c, rfl, hc, setP_lt hs⟩
   ·cases h
theorem ready_callsN (g : Nat) (G : GrN) (hOk : GOk G) (s : Nat) (hs : s < 2 ^ G.ts.length) (w : World) (hG : IsG w g G.gr) : Calls Tryd.prog 46 #[.pointer (some ⟨g, 0, none⟩), .int .u16 (s : Int)] w fun e w' => e = .returned (.int .u16 ((readyN G.nd s : Nat) : Int)) ∧ Drawn0 w w' := by
 have h := ready_calls g G.gr (s : Int) w hG (by show (nI G.nd).length < _; rw [nI_length, hOk.nl]; have := hOk.n8; omega)
 rw [show readyP G.gr.nd (s : Int) = ((readyN G.nd s : Nat) : Int) from (readyP_eq G.nd hOk.n8 hOk.nl hOk.nlt s hs).1] at h
 exact h
theorem list_callsB (s : Nat) (hs : s < 256) (w : World) (B : Nat) (hB : B ≤ w.heap.size) (hT : TabOK w) :
  Calls Tryd.prog 47 #[.int .u16 (s : Int)] w fun e w' => ∃ v : Value, e = .returned v ∧ Kd.R (Kd.int .i64) 3 w' B (fun _ => True) v (ivs (bitsN s)) ∧ Below w.heap.size w w' := by
 refine (list_calls s hs w hT).mono ?_
 rintro e w' ⟨v, rfl, hR, hb⟩
 exact ⟨v, rfl, Kd.R_lower hR hB, hb⟩
def impl_ValidDone.f (l0 : List TT) (l1 : List Int) : Option (Bool) := some (doneP l0 l1).isSome
def impl_ReadyTasks.f (l0 : List TT) (l1 : List Int) : Option (List Int) := some (match doneP l0 l1 with | none => [] | some (G, s) => ivs (bitsN (readyN G.nd s)))
set_option maxRecDepth 100000 in
set_option maxHeartbeats 1000000 in
theorem impl_ReadyTasks.calls (A0 : Option Addr) (c0 : Nat) (l0 : List TT) (A1 : Option Addr) (c1 : Nat) (l1 : List Int) (r : List Int) (w : World) (hr0 : Kd.C k39 w A0 l0.length l0) (hc0 : l0.length ≤ c0) (hr1 : Kd.C (Kd.int .i64) w A1 l1.length l1) (hc1 : l1.length ≤ c1) (h : impl_ReadyTasks.f l0 l1 = some r) (hTab : TabOK w) :
  Calls Tryd.prog 15 #[.slice A0 l0.length c0, .slice A1 l1.length c1] w fun e w' => ∃ v0_ : Value, e = .returned (v0_) ∧ Kd.R (Kd.int .i64) 3 w' w.heap.size (fun _ => True) v0_ r ∧ Below w.heap.size w w' := by
 have dc := Aside0.mk (doneIn_calls A0 c0 l0 A1 c1 l1 w hr0 hc0 hr1 hc1 hTab)
 have hT' := Aside0.mk hTab
 unfold impl_ReadyTasks.f at h
 injection h with h
 clear hr0 hr1 hTab
 cases hd : doneP l0 l1 with
 | none =>
  rw [hd] at h
  simp only at h
  subst h
  have hd' := Aside0.mk hd
  clear hd
  go_enter Tryd.func15, Tryd.ntmps15
  go_wp2_with (go_at_call 39; refine dc.out.mono ?_; rintro e w1 ⟨g, s, b, rfl, hB, hno, hyes⟩; obtain rfl := hno hd'.out; have hB' := Aside0.mk hB; clear hB hno hyes)
  go_ret
  exact ⟨_, rfl, Kd.R_nil _ _ _ _ _, hB'.out⟩
 | some Gs =>
  obtain ⟨G, s⟩ := Gs
  rw [hd] at h
  simp only at h
  subst h
  obtain ⟨hg, hts, hOk, hs, hc, hsl⟩ := doneP_ok hd
  have hd' := Aside0.mk hd
  rw [← hts] at hsl
  have hrd := readyP_eq G.nd hOk.n8 hOk.nl hOk.nlt s hsl
  have hrd' := Aside0.mk hrd
  have hsl' := Aside0.mk hsl
  have hOk' := Aside0.mk hOk
  clear hd hg hts hs hc hsl hrd hOk
  go_enter Tryd.func15, Tryd.ntmps15
  go_wp2_with (first | (go_at_call 39; refine dc.out.mono ?_; rintro e w1 ⟨g, s2, b, rfl, hB, hno, hyes⟩; obtain ⟨rfl, hss, a, rfl, hG⟩ := hyes G s hd'.out; obtain rfl := hss.symm; have hB' := Aside0.mk hB; have hG' := Aside0.mk hG; have hT1 := Aside0.mk (hT'.out.below hB); clear hB hno hyes hG) | (go_at_call 46; refine (ready_callsN a G hOk'.out s hsl'.out _ hG'.out).mono ?_; rintro e w2 ⟨rfl, ⟨m2, rfl⟩⟩) | (go_at_call 47; refine (list_callsB (readyN G.nd s) (lt256 hrd'.out.2 hOk'.out.n8) _ w.heap.size (pw_below_drewN hB'.out m2).size (hT1.out.below (pw_below_drewN (Below.refl _ _) m2))).mono ?_; rintro e w3 ⟨v, rfl, hR, hB3⟩; have hR3 := Aside0.mk hR; have hB4 := Aside0.mk (below_step (pw_below_drewN hB'.out m2) hB3); clear hR hB3))
  go_ret
  exact ⟨_, rfl, hR3.out, hB4.out⟩
end Go.Proofs.YtajapkjplgaigaaDoor.P
end
section
namespace Go.Proofs.YtajapkjplgaigaaDoor.P
open Go.RowKit Go.Shelf Go.Proofs.YtajapkjplgaigaaDoorW.PrintWords Go.Proofs.YtajapkjplgaigaaDoorW.PrintLast Go.Proofs.YtajapkjplgaigaaDoorW.PrintMore
attribute [local go_sem] Oper.semAt_some
set_option linter.unusedVariables false
set_option linter.unusedSimpArgs false
def diffN (a b : Nat) : Nat := a ^^^ (a &&& b)
theorem within_calls (a b c : Int) (r : Bool) (hr : decide (b ≤ a ∧ a ≤ c) = r) (w : World) : Calls Tryd.prog 48 #[.int .i64 a, .int .i64 b, .int .i64 c] w fun e w' => e = .returned (.bool r) ∧ Drawn0 w w' :=
 impl_within.calls a b c _ w (by rw [within_eq, hr])
theorem size_callsN (g : Nat) (G : GrN) (n : Nat) (hn : G.ts.length = n) (w : World) (hG : IsG w g G.gr) : Calls Tryd.prog 40 #[.pointer (some ⟨g, 0, none⟩)] w fun e w' => e = .returned (.int .i64 (n : Int)) ∧ Drawn0 w w' := by
 subst hn
 exact size_calls g G.gr w hG
theorem has_callsN (s i : Nat) (hs : s < 256) (hi : i < 8) (w : World) : Calls Tryd.prog 49 #[.int .u16 (s : Int), .int .i64 (i : Int)] w fun e w' => e = .returned (.bool (s.testBit i)) ∧ Drawn0 w w' := by
 have := hasB_calls (s : Int) (i : Int) (by omega) w
 rw [hasB_nat s hs i hi] at this
 exact this
theorem with_callsN (s i : Nat) (hs : s < 256) (hi : i < 8) (w : World) : Calls Tryd.prog 50 #[.int .u16 (s : Int), .int .i64 (i : Int)] w fun e w' => e = .returned (.int .u16 ((s ||| 2 ^ i : Nat) : Int)) ∧ Drawn0 w w' := by
 have := withI_calls (s : Int) (i : Int) (by omega) w
 rw [withI_nat s i hs hi] at this
 exact this
def finishP (ts : List TT) (done : List Int) (at_ : Int) : Option (List Int) := match doneP ts done with
 | none => none
 | some (G, s) => if 0 ≤ at_ ∧ at_ < ts.length then (if (readyN G.nd s).testBit at_.toNat then some (ivs (bitsN (s ||| 2 ^ at_.toNat))) else none) else none
def impl_FinishTask.f (l0 : List TT) (l1 : List Int) (a2 : Int) : Option (List Int × Bool) := some (match finishP l0 l1 a2 with | none => ([], false) | some l => (l, true))
def impl_WaitsFor.f (l0 : List TT) (l1 : List Int) (a2 : Int) : Option (List Int) := some (match doneP l0 l1 with
 | none => []
 | some (G, s) => if 0 ≤ a2 ∧ a2 < l0.length then ivs (bitsN (diffN (G.nd.getD a2.toNat 0) s)) else [])
set_option maxRecDepth 100000 in
set_option maxHeartbeats 1000000 in
theorem impl_FinishTask.calls (A0 : Option Addr) (c0 : Nat) (l0 : List TT) (A1 : Option Addr) (c1 : Nat) (l1 : List Int) (a2 : Int) (r1 : List Int) (r2 : Bool) (w : World) (hr0 : Kd.C k39 w A0 l0.length l0) (hc0 : l0.length ≤ c0) (hr1 : Kd.C (Kd.int .i64) w A1 l1.length l1) (hc1 : l1.length ≤ c1) (h : impl_FinishTask.f l0 l1 a2 = some (r1, r2)) (hTab : TabOK w) :
  Calls Tryd.prog 16 #[.slice A0 l0.length c0, .slice A1 l1.length c1, .int .i64 a2] w fun e w' => ∃ v0_ : Value, e = .returned (.tuple #[v0_, .bool r2]) ∧ Kd.R (Kd.int .i64) 3 w' w.heap.size (fun _ => True) v0_ r1 ∧ Below w.heap.size w w' := by
 have dc := Aside0.mk (doneIn_calls A0 c0 l0 A1 c1 l1 w hr0 hc0 hr1 hc1 hTab)
 have hT' := Aside0.mk hTab
 unfold impl_FinishTask.f at h
 injection h with h
 clear hr0 hr1 hTab
 cases hd : doneP l0 l1 with
 | none =>
  have hf : finishP l0 l1 a2 = none := by unfold finishP; rw [hd]
  rw [hf] at h
  injection h with h1 h2
  subst h1 h2
  have hd' := Aside0.mk hd
  clear hd hf
  go_enter Tryd.func16, Tryd.ntmps16
  go_wp2_with (go_at_call 39; refine dc.out.mono ?_; rintro e w1 ⟨g, s, b, rfl, hB, hno, hyes⟩; obtain rfl := hno hd'.out; have hB' := Aside0.mk hB; clear hB hno hyes)
  refine bodyPost_ret (results_tmp2 rfl _ _ _) rfl ?_
  exact ⟨_, rfl, Kd.R_nil _ _ _ _ _, hB'.out⟩
 | some Gs =>
  obtain ⟨G, s⟩ := Gs
  obtain ⟨hg, hts, hOk, hs, hc, hsl⟩ := doneP_ok hd
  have hd' := Aside0.mk hd
  rw [← hts] at hsl
  have hrd := readyP_eq G.nd hOk.n8 hOk.nl hOk.nlt s hsl
  have hrd' := Aside0.mk hrd
  have hsl' := Aside0.mk hsl
  have hOk' := Aside0.mk hOk
  have hts' := Aside0.mk hts
  have hn8 := hOk.n8
  rw [hts] at hn8
  have w1e : wrap64 ((l0.length : Int) - 1) = (l0.length : Int) - 1 := IntWalk.wrap64_in _ (by omega)
  clear hg hts hs hc hsl hrd hOk
  by_cases hat : 0 ≤ a2 ∧ a2 < l0.length
  ·obtain ⟨i, rfl⟩ : ∃ i : Nat, a2 = (i : Int) := ⟨a2.toNat, by omega⟩
   have hi : i < l0.length := by omega
   have hwi : decide ((0 : Int) ≤ (i : Int) ∧ (i : Int) ≤ (l0.length : Int) - 1) = true := decide_eq_true (by omega)
   cases hb : (readyN G.nd s).testBit i with
   | true =>
    have hf : finishP l0 l1 (i : Int) = some (ivs (bitsN (s ||| 2 ^ i))) := by unfold finishP; simp only [hd, if_pos hat, Int.toNat_natCast, hb, if_true]
    rw [hf] at h
    injection h with h1 h2
    subst h1 h2
    have hb' := Aside0.mk hb
    have hss8 := Aside0.mk (show s ||| 2 ^ i < 256 from lt256 (with_lt hsl'.out (by rw [hts'.out]; exact hi)) hOk'.out.n8)
    have hhas := Aside0.mk (fun W => has_callsN (readyN G.nd s) i (lt256 hrd'.out.2 hOk'.out.n8) (by omega) W)
    have hwith := Aside0.mk (fun W => with_callsN s i (lt256 hsl'.out hOk'.out.n8) (by omega) W)
    rw [hb] at hhas
    clear hd hf hb hat hi
    go_enter Tryd.func16, Tryd.ntmps16
    go_wp2_with (first | (go_at_call 39; refine dc.out.mono ?_; rintro e w1 ⟨g, s2, b, rfl, hB, hno, hyes⟩; obtain ⟨rfl, hss, a, rfl, hG⟩ := hyes G s hd'.out; obtain rfl := hss.symm; have hB' := Aside0.mk hB; have hG' := Aside0.mk hG; have hT1 := Aside0.mk (hT'.out.below hB); clear hB hno hyes hG) | (go_at_call 40; refine (size_callsN a G l0.length (by rw [hts'.out]) _ hG'.out).mono ?_; rintro e w2 ⟨rfl, ⟨m2, rfl⟩⟩) | (go_at_call 48; go_loud (refine (within_calls _ _ _ _ hwi _).mono ?_; rintro e w3 ⟨rfl, ⟨m3, rfl⟩⟩)) | (go_at_call 46; refine (ready_callsN a G hOk'.out s hsl'.out _ (IsG.drewN hG'.out _)).mono ?_; rintro e w4 ⟨rfl, ⟨m4, rfl⟩⟩) | (go_at_call 49; refine (hhas.out _).mono ?_; rintro e w5 ⟨rfl, ⟨m5, rfl⟩⟩) | (go_at_call 50; go_loud (refine (hwith.out _).mono ?_; rintro e w6 ⟨rfl, ⟨m6, rfl⟩⟩)) | (go_at_call 47; go_loud (refine (list_callsB (s ||| 2 ^ i) hss8.out _ w.heap.size (pw_below_drewN hB'.out _).size (hT1.out.below (pw_below_drewN (Below.refl _ _) _))).mono ?_; rintro e w7 ⟨v, rfl, hR, hB3⟩; have hR3 := Aside0.mk hR; have hB4 := Aside0.mk (below_step (pw_below_drewN hB'.out _) hB3); clear hR hB3)))
    refine bodyPost_ret (results_tmp2 rfl _ _ _) rfl ?_
    exact ⟨_, rfl, hR3.out, hB4.out⟩
   | false =>
    have hf : finishP l0 l1 (i : Int) = none := by unfold finishP; simp only [hd, if_pos hat, Int.toNat_natCast, hb, Bool.false_eq_true, if_false]
    rw [hf] at h
    injection h with h1 h2
    subst h1 h2
    have hhas := Aside0.mk (fun W => has_callsN (readyN G.nd s) i (lt256 hrd'.out.2 hOk'.out.n8) (by omega) W)
    rw [hb] at hhas
    clear hd hf hb hat hi
    go_enter Tryd.func16, Tryd.ntmps16
    go_wp2_with (first | (go_at_call 39; refine dc.out.mono ?_; rintro e w1 ⟨g, s2, b, rfl, hB, hno, hyes⟩; obtain ⟨rfl, hss, a, rfl, hG⟩ := hyes G s hd'.out; obtain rfl := hss.symm; have hB' := Aside0.mk hB; have hG' := Aside0.mk hG; have hT1 := Aside0.mk (hT'.out.below hB); clear hB hno hyes hG) | (go_at_call 40; refine (size_callsN a G l0.length (by rw [hts'.out]) _ hG'.out).mono ?_; rintro e w2 ⟨rfl, ⟨m2, rfl⟩⟩) | (go_at_call 48; go_loud (refine (within_calls _ _ _ _ hwi _).mono ?_; rintro e w3 ⟨rfl, ⟨m3, rfl⟩⟩)) | (go_at_call 46; refine (ready_callsN a G hOk'.out s hsl'.out _ (IsG.drewN hG'.out _)).mono ?_; rintro e w4 ⟨rfl, ⟨m4, rfl⟩⟩) | (go_at_call 49; refine (hhas.out _).mono ?_; rintro e w5 ⟨rfl, ⟨m5, rfl⟩⟩))
    refine bodyPost_ret (results_tmp2 rfl _ _ _) rfl ?_
    exact ⟨_, rfl, Kd.R_nil _ _ _ _ _, pw_below_drewN hB'.out _⟩
  ·have hf : finishP l0 l1 a2 = none := by unfold finishP; simp only [hd, if_neg hat]
   rw [hf] at h
   injection h with h1 h2
   subst h1 h2
   have hwi : decide ((0 : Int) ≤ a2 ∧ a2 ≤ (l0.length : Int) - 1) = false := decide_eq_false (by omega)
   clear hd hf hat
   go_enter Tryd.func16, Tryd.ntmps16
   go_wp2_with (first | (go_at_call 39; refine dc.out.mono ?_; rintro e w1 ⟨g, s2, b, rfl, hB, hno, hyes⟩; obtain ⟨rfl, hss, a, rfl, hG⟩ := hyes G s hd'.out; obtain rfl := hss.symm; have hB' := Aside0.mk hB; have hG' := Aside0.mk hG; have hT1 := Aside0.mk (hT'.out.below hB); clear hB hno hyes hG) | (go_at_call 40; refine (size_callsN a G l0.length (by rw [hts'.out]) _ hG'.out).mono ?_; rintro e w2 ⟨rfl, ⟨m2, rfl⟩⟩) | (go_at_call 48; go_loud (refine (within_calls _ _ _ _ hwi _).mono ?_; rintro e w3 ⟨rfl, ⟨m3, rfl⟩⟩)))
   refine bodyPost_ret (results_tmp2 rfl _ _ _) rfl ?_
   exact ⟨_, rfl, Kd.R_nil _ _ _ _ _, pw_below_drewN hB'.out _⟩
end Go.Proofs.YtajapkjplgaigaaDoor.P
end
section
namespace Go.Proofs.YtajapkjplgaigaaDoor.P
open Go.RowKit Go.Proofs.YtajapkjplgaigaaDoorW.PrintWords Go.Proofs.YtajapkjplgaigaaDoorW.PrintLast Go.Proofs.YtajapkjplgaigaaDoorW.PrintMore
attribute [local go_sem] max2_int min2_int max_two min_two max_three min_three max_four min_four   -- for this text's walks alone
set_option linter.unusedVariables false
set_option linter.unusedSimpArgs false
def IsS97 (w0 W : World) (g : Nat) (f0 : List Int) (f1 : Int) : Prop := ∃ A0 c0, W.heap[g]? = some (.cells #[.slice A0 f0.length c0, .int .i64 f1] 97 (0, 0)) ∧ w0.heap.size ≤ g ∧ Kd.C (Kd.int .u8) w0 A0 f0.length f0
theorem IsS97.grown {w0 W : World} {g : Nat} {f0 : List Int} {f1 : Int} {W1 : World} {row : Option Nat} (h : IsS97 w0 W g f0 f1) (hw : W.grownBy W1 row) (hne : some g ≠ row) : IsS97 w0 W1 g f0 f1 := by
 obtain ⟨A0, c0, hb, hg, hr0⟩ := h
 exact ⟨A0, c0, blk_grown hb hw hne, hg, hr0⟩
theorem IsS97.own_neN {w0 W : World} {g : Nat} {f0 : List Int} {f1 : Int} {α : Type} {d : Kd α} {e : Nat} {base : Nat} {ok : Nat → Prop} {v : Value} {xs : List α} (h : IsS97 w0 W g f0 f1) (ho : Kd.N d e W base ok v xs) (ht : e ≠ 97) : some g ≠ v.ownBlock := by
 obtain ⟨A0, c0, hb, hg, hr0⟩ := h
 exact Kd.N_ne ho hb ht
theorem IsS97.fresh {w0 W : World} {g : Nat} {f0 : List Int} {f1 : Int} (h : IsS97 w0 W g f0 f1) : ∀ k, W.heap.size ≤ k → k ≠ g := by
 obtain ⟨A0, c0, hb, hg, hr0⟩ := h
 exact Kd.freshB hb
theorem IsS97.below {w0 W : World} {g : Nat} {f0 : List Int} {f1 : Int} {W1 : World} (h : IsS97 w0 W g f0 f1) (hw : Below W.heap.size W W1) : IsS97 w0 W1 g f0 f1 := h.grown (grown_of_below hw none) (by simp)
theorem IsS97.alloc {w0 W : World} {g : Nat} {f0 : List Int} {f1 : Int} (h : IsS97 w0 W g f0 f1) (o : Obj) : IsS97 w0 (W.alloc o) g f0 f1 := h.below (below_alloc (Below.refl _ _) o)
theorem IsS97.drewN {w0 W : World} {g : Nat} {f0 : List Int} {f1 : Int} (h : IsS97 w0 W g f0 f1) (m : Nat) : IsS97 w0 (W.drewN m) g f0 f1 := h
theorem IsS97.drew {w0 W : World} {g : Nat} {f0 : List Int} {f1 : Int} (h : IsS97 w0 W g f0 f1) : IsS97 w0 W.drew g f0 f1 := h
theorem IsS97.apart {w0 W : World} {g : Nat} {f0 : List Int} {f1 : Int} {α : Type} {d : Kd α} {e : Nat} {base : Nat} {ok : Nat → Prop} {v : Value} {xs : List α} (h : IsS97 w0 W g f0 f1) (ho : d.R e W base ok v xs) (ht : ∀ q, q ∈ e :: d.E → q ≠ 97) : d.R e W base (fun k => ok k ∧ k ≠ g) v xs := by
 obtain ⟨A0, c0, hb, hg, hr0⟩ := h
 exact Kd.R_types ho hb ht
theorem IsS97.own_ne {w0 W : World} {g : Nat} {f0 : List Int} {f1 : Int} {α : Type} {d : Kd α} {e : Nat} {base : Nat} {ok : Nat → Prop} {v : Value} {xs : List α} (h : IsS97 w0 W g f0 f1) (ho : d.R e W base ok v xs) (ht : e ≠ 97) : some g ≠ v.ownBlock := by
 obtain ⟨A0, c0, hb, hg, hr0⟩ := h
 exact Kd.R_ne ho hb ht
theorem IsS97.apartS {w0 W : World} {g : Nat} {f0 : List Int} {f1 : Int} {α : Type} {d : Kd α} {e : Nat} {base : Nat} {ok : Nat → Prop} {v : Value} {xs : List α} (h : IsS97 w0 W g f0 f1) (ho : d.S e W base ok v xs) (ht : ∀ q, q ∈ e :: d.E → q ≠ 97) : d.S e W base (fun k => ok k ∧ k ≠ g) v xs := by
 obtain ⟨A0, c0, hb, hg, hr0⟩ := h
 exact Kd.S_types ho hb ht
theorem IsS97.own_neS {w0 W : World} {g : Nat} {f0 : List Int} {f1 : Int} {α : Type} {d : Kd α} {e : Nat} {base : Nat} {ok : Nat → Prop} {v : Value} {xs : List α} (h : IsS97 w0 W g f0 f1) (ho : d.S e W base ok v xs) (ht : e ≠ 97) : some g ≠ v.ownBlock := by
 obtain ⟨A0, c0, hb, hg, hr0⟩ := h
 exact Kd.S_ne ho hb ht
theorem IsS97.lt {w0 W : World} {g : Nat} {f0 : List Int} {f1 : Int} (h : IsS97 w0 W g f0 f1) : g < W.heap.size := by
 obtain ⟨A0, c0, hb, hg, hr0⟩ := h
 exact blk_lt hb
theorem IsS97.ge {w0 W : World} {g : Nat} {f0 : List Int} {f1 : Int} (h : IsS97 w0 W g f0 f1) : w0.heap.size ≤ g := by
 obtain ⟨A0, c0, hb, hg, hr0⟩ := h
 exact hg
theorem IsS97.far {w0 W : World} {g : Nat} {f0 : List Int} {f1 : Int} {p : Addr} (h : IsS97 w0 W g f0 f1) (hne : g ≠ p.block) (u : Value) : IsS97 w0 (W.setCell p u) g f0 f1 := by
 obtain ⟨A0, c0, hb, hg, hr0⟩ := h
 exact ⟨A0, c0, blk_far hb hne u, hg, hr0⟩
theorem cellS97_0 {W : World} {g : Nat} {A0 : Option Addr} {c0 : Nat} {f0 : List Int} {f1 : Int} (h : W.heap[g]? = some (.cells #[.slice A0 f0.length c0, .int .i64 f1] 97 (0, 0))) : W.cell? ⟨g, 0, none⟩ = some (.slice A0 f0.length c0) := (blk_cell h 0).trans rfl
theorem cellS97_1 {W : World} {g : Nat} {A0 : Option Addr} {c0 : Nat} {f0 : List Int} {f1 : Int} (h : W.heap[g]? = some (.cells #[.slice A0 f0.length c0, .int .i64 f1] 97 (0, 0))) : W.cell? ⟨g, 1, none⟩ = some (.int .i64 f1) := (blk_cell h 1).trans rfl
theorem IsS97.set_1 {w0 W : World} {g : Nat} {f0 : List Int} {f1 : Int} (h : IsS97 w0 W g f0 f1) (x : Int) : IsS97 w0 (W.setCell ⟨g, 1, none⟩ (.int .i64 x)) g f0 x := by
 obtain ⟨A0, c0, hb, hg, hr0⟩ := h
 exact ⟨A0, c0, by simpa using blk_set hb 1 (.int .i64 x), hg, hr0⟩
def spec_reader_pick.j0 : Nat → Int → Bool → List Int → Int → Option (Int × Int)
 | 0, _, _, _, _ => none
 | k + 1, x1, x24, x1000, x1001 => if x24 = true then (some (0, x1001)) else (if (wrap64 (x1001 - 1)) < (x1000.length : Int) then (if 0 ≤ (wrap64 (x1001 - 1)) then (if x1 = 0 then (none) else (some (Int.tmod (wrap64 (rd x1000 (wrap64 (x1001 - 1)))) x1, x1001))) else (none)) else (if (x1000.length : Int) = 0 then (none) else (if 0 ≤ (Int.tmod (wrap64 (x1001 - 1)) (x1000.length : Int)) then (if (Int.tmod (wrap64 (x1001 - 1)) (x1000.length : Int)) < (x1000.length : Int) then (if 0 ≤ (Int.tmod (wrap64 ((wrap64 ((wrap64 (x1001 - 1)) * 7)) + 3)) (x1000.length : Int)) then (if (Int.tmod (wrap64 ((wrap64 ((wrap64 (x1001 - 1)) * 7)) + 3)) (x1000.length : Int)) < (x1000.length : Int) then (if x1 = 0 then (none) else (some (Int.tmod (Go.bits .xor .i64 (wrap64 ((wrap64 ((wrap64 ((wrap64 ((wrap64 (rd x1000 (Int.tmod (wrap64 (x1001 - 1)) (x1000.length : Int)))) * 131)) + (wrap64 ((wrap64 (rd x1000 (Int.tmod (wrap64 ((wrap64 ((wrap64 (x1001 - 1)) * 7)) + 3)) (x1000.length : Int)))) * 1117)))) + (wrap64 ((wrap64 (x1001 - 1)) * 29)))) + (wrap64 ((wrap64 (Int.tdiv (wrap64 (x1001 - 1)) (x1000.length : Int))) * 53)))) (wrap64 (Int.tdiv (wrap64 ((wrap64 ((wrap64 ((wrap64 ((wrap64 (rd x1000 (Int.tmod (wrap64 (x1001 - 1)) (x1000.length : Int)))) * 131)) + (wrap64 ((wrap64 (rd x1000 (Int.tmod (wrap64 ((wrap64 ((wrap64 (x1001 - 1)) * 7)) + 3)) (x1000.length : Int)))) * 1117)))) + (wrap64 ((wrap64 (x1001 - 1)) * 29)))) + (wrap64 ((wrap64 (Int.tdiv (wrap64 (x1001 - 1)) (x1000.length : Int))) * 53)))) 64))) x1, x1001))) else (none)) else (none)) else (none)) else (none))))
def spec_reader_pick.f (k : Nat) (s0_0 : List Int) (s0_1 : Int) (a1 : Int) : Option (Int × Int) := if a1 < 1 then (spec_reader_pick.j0 k a1 true s0_0 (wrap64 (s0_1 + 1))) else (spec_reader_pick.j0 k a1 ((s0_0.length : Int) == 0) s0_0 (wrap64 (s0_1 + 1)))
set_option maxHeartbeats 8000000 in
set_option maxRecDepth 100000 in
theorem spec_reader_pick.calls (k : Nat) (g : Nat) (s0_0 : List Int) (s0_1 : Int) (a1 : Int) (r1 : Int) (r2 : Int) (w0 w : World) (hI : IsS97 w0 w g s0_0 s0_1) (hB : Below w0.heap.size w0 w) (h : spec_reader_pick.f k s0_0 s0_1 a1 = some (r1, r2)) :
  Calls Tryd.prog 65 #[.pointer (some ⟨g, 0, none⟩), .int .i64 a1] w fun e w' => e = .returned (.int .i64 r1) ∧ IsS97 w0 w' g s0_0 r2 ∧ Below w0.heap.size w0 w' ∧ KeepBut w w' g none := by
 have HI0 := Aside0.mk hI
 have HK := Aside0.mk (KeepBut.refl w g none)
 have HL := Aside0.mk hB.size
 clear hI
 have HW0 := Aside0.mk hB.size
 have HB := Aside0.mk hB
 clear hB
 have H : (if a1 < 1 then (spec_reader_pick.j0 k a1 true s0_0 (wrap64 (s0_1 + 1))) else (spec_reader_pick.j0 k a1 ((s0_0.length : Int) == 0) s0_0 (wrap64 (s0_1 + 1)))) = some (r1, r2) := h
 clear h
 have HC3 := Aside0.mk H
 clear H
 obtain ⟨ASz4_0, cSz4_0, HGz4, hgz4, HSz4_0⟩ := HI0.out
 have hcz4_0 := cellS97_0 HGz4
 have hcz4_1 := cellS97_1 HGz4
 have hfz4_1 := blk_frozen HGz4 1
 clear HGz4 hgz4
 go_enter Tryd.func65, Tryd.ntmps65
 go_upto_region 2 with (fail)
 repeat (go_quiet (fail); go_upto_region 2 with (fail))
 go_cut [24] (fun v24 wc => ∃ (kq : Nat) (x24_2 : Bool), v24 = .bool x24_2 ∧ Aside0 (spec_reader_pick.j0 kq a1 x24_2 s0_0 (wrap64 (s0_1 + 1)) = some (r1, r2)) ∧ Aside0 (kq ≤ k) ∧ Aside0 (IsS97 w0 wc g s0_0 (wrap64 (s0_1 + 1))) ∧ Aside0 (KeepBut w wc g none) ∧ Aside0 (Below w0.heap.size w0 wc))
 case first =>
  have H := HC3.out
  clear HC3
  by_cases c5 : a1 < 1
  ·rw [if_pos c5] at H
   have c5b0 : decide (a1 < 1) = true := decide_eq_true c5
   clear c5
   (first | rw [c5b0] | (simp only [i64_w, i32_w]; rw [c5b0]) | skip)
   have H' := Aside0.mk H
   clear H
   go_wp2
   repeat (go_quiet (fail); try go_wp2)
   go_meet
   case rel => exact ⟨_, (true), (by first | rfl | (simp; done) | (simp [*]; done)), H', ⟨by first | omega | exact Nat.le_refl _⟩, ⟨by repeat (first | (with_reducible first | exact HI0.out | apply IsS97.alloc | apply IsS97.drewN | apply IsS97.drew | apply IsS97.set_1) | exact HI0.out)⟩, ⟨by repeat (first | (with_reducible first | exact HK.out | apply KeepBut.set_ | apply keep_drewN | apply keep_drew | apply keep_alloc) | exact HK.out)⟩, ⟨by repeat (first | (with_reducible first | exact HB.out | apply below_alloc | apply pw_below_drewN | apply below_drew1 | refine below_set ?_ (IsS97.ge HI0.out)) | exact HB.out)⟩⟩
  ·rw [if_neg c5] at H
   have c5b0 : decide (a1 < 1) = false := decide_eq_false c5
   clear c5
   (first | rw [c5b0] | (simp only [i64_w, i32_w]; rw [c5b0]) | skip)
   have H' := Aside0.mk H
   clear H
   obtain ⟨ASz6_0, cSz6_0, HGz6, hgz6, HSz6_0⟩ := HI0.out
   have hcz6_0 := cellS97_0 HGz6
   have hcz6_1 := cellS97_1 HGz6
   have hfz6_1 := blk_frozen HGz6 1
   clear HGz6 hgz6
   go_wp2
   repeat (go_quiet (fail); try go_wp2)
   go_meet
   case rel => exact ⟨_, (((s0_0.length : Int) == 0)), (by first | rfl | (simp; done) | (simp [*]; done)), H', ⟨by first | omega | exact Nat.le_refl _⟩, ⟨by repeat (first | (with_reducible first | exact HI0.out | apply IsS97.alloc | apply IsS97.drewN | apply IsS97.drew | apply IsS97.set_1) | exact HI0.out)⟩, ⟨by repeat (first | (with_reducible first | exact HK.out | apply KeepBut.set_ | apply keep_drewN | apply keep_drew | apply keep_alloc) | exact HK.out)⟩, ⟨by repeat (first | (with_reducible first | exact HB.out | apply below_alloc | apply pw_below_drewN | apply below_drew1 | refine below_set ?_ (IsS97.ge HI0.out)) | exact HB.out)⟩⟩
 case rest =>
  clear HC3
  try clear p2
  try clear c5
  try clear c5b0
  try clear c6
  try clear p6
  try clear hcz4_0
  try clear hcz4_1
  try clear hcz6_0
  try clear hcz6_1
  try clear hfz4_1
  try clear hfz6_1
  obtain ⟨kq, x24_2, rfl, HA, HJ2, HI0, HK, HB⟩ := hcut
  cases kq with
  | zero => exact absurd HA.out (by simp [spec_reader_pick.j0])
  | succ kj2 =>
   have H := HA.out
   clear HA
   simp only [spec_reader_pick.j0] at H
   by_cases c7 : x24_2 = true
   ·subst c7
    have H1 : (some (0, (wrap64 (s0_1 + 1)))) = some (r1, r2) := by rw [if_pos rfl] at H; exact H
    clear H
    have H := H1
    clear H1
    simp only [Option.some.injEq, Prod.mk.injEq] at H
    obtain ⟨rfl, rfl⟩ := H
    go_wp2
    repeat (go_quiet (fail); try go_wp2)
    go_ret
    exact ⟨by first | rfl | (simp [errW_none, errW_some] <;> rfl) | (simp [*, errW_none, errW_some] <;> rfl), by repeat (first | (with_reducible first | exact HI0.out | apply IsS97.alloc | apply IsS97.drewN | apply IsS97.drew | apply IsS97.set_1) | exact HI0.out), by repeat (first | (with_reducible first | exact HB.out | apply below_alloc | apply pw_below_drewN | apply below_drew1 | refine below_set ?_ (IsS97.ge HI0.out)) | exact HB.out), by repeat (first | (with_reducible first | exact HK.out | apply KeepBut.set_ | apply keep_drewN | apply keep_drew | apply keep_alloc) | exact HK.out)⟩
   ·replace c7 := Bool.eq_false_iff.mpr c7
    subst c7
    have H1 : (if (wrap64 ((wrap64 (s0_1 + 1)) - 1)) < (s0_0.length : Int) then (if 0 ≤ (wrap64 ((wrap64 (s0_1 + 1)) - 1)) then (if a1 = 0 then (none) else (some (Int.tmod (wrap64 (rd s0_0 (wrap64 ((wrap64 (s0_1 + 1)) - 1)))) a1, (wrap64 (s0_1 + 1))))) else (none)) else (if (s0_0.length : Int) = 0 then (none) else (if 0 ≤ (Int.tmod (wrap64 ((wrap64 (s0_1 + 1)) - 1)) (s0_0.length : Int)) then (if (Int.tmod (wrap64 ((wrap64 (s0_1 + 1)) - 1)) (s0_0.length : Int)) < (s0_0.length : Int) then (if 0 ≤ (Int.tmod (wrap64 ((wrap64 ((wrap64 ((wrap64 (s0_1 + 1)) - 1)) * 7)) + 3)) (s0_0.length : Int)) then (if (Int.tmod (wrap64 ((wrap64 ((wrap64 ((wrap64 (s0_1 + 1)) - 1)) * 7)) + 3)) (s0_0.length : Int)) < (s0_0.length : Int) then (if a1 = 0 then (none) else (some (Int.tmod (Go.bits .xor .i64 (wrap64 ((wrap64 ((wrap64 ((wrap64 ((wrap64 (rd s0_0 (Int.tmod (wrap64 ((wrap64 (s0_1 + 1)) - 1)) (s0_0.length : Int)))) * 131)) + (wrap64 ((wrap64 (rd s0_0 (Int.tmod (wrap64 ((wrap64 ((wrap64 ((wrap64 (s0_1 + 1)) - 1)) * 7)) + 3)) (s0_0.length : Int)))) * 1117)))) + (wrap64 ((wrap64 ((wrap64 (s0_1 + 1)) - 1)) * 29)))) + (wrap64 ((wrap64 (Int.tdiv (wrap64 ((wrap64 (s0_1 + 1)) - 1)) (s0_0.length : Int))) * 53)))) (wrap64 (Int.tdiv (wrap64 ((wrap64 ((wrap64 ((wrap64 ((wrap64 (rd s0_0 (Int.tmod (wrap64 ((wrap64 (s0_1 + 1)) - 1)) (s0_0.length : Int)))) * 131)) + (wrap64 ((wrap64 (rd s0_0 (Int.tmod (wrap64 ((wrap64 ((wrap64 ((wrap64 (s0_1 + 1)) - 1)) * 7)) + 3)) (s0_0.length : Int)))) * 1117)))) + (wrap64 ((wrap64 ((wrap64 (s0_1 + 1)) - 1)) * 29)))) + (wrap64 ((wrap64 (Int.tdiv (wrap64 ((wrap64 (s0_1 + 1)) - 1)) (s0_0.length : Int))) * 53)))) 64))) a1, (wrap64 (s0_1 + 1))))) else (none)) else (none)) else (none)) else (none)))) = some (r1, r2) := by rw [if_neg (show ¬ (false = true) by decide)] at H; exact H
    clear H
    have H := H1
    clear H1
    by_cases c8 : (wrap64 ((wrap64 (s0_1 + 1)) - 1)) < (s0_0.length : Int)
    ·rw [if_pos c8] at H
     have c8b0 : decide ((wrap64 ((wrap64 (s0_1 + 1)) - 1)) < (s0_0.length : Int)) = true := decide_eq_true c8
     clear c8
     obtain ⟨ji9, hji9⟩ : ∃ j_ : Int, (wrap64 ((wrap64 (s0_1 + 1)) - 1)) = j_ := ⟨_, rfl⟩
     replace H : (if 0 ≤ (ji9) then (if a1 = 0 then (none) else (some (Int.tmod (wrap64 (rd s0_0 (ji9))) a1, (wrap64 (s0_1 + 1))))) else (none)) = some (r1, r2) := by first | (rw [hji9] at H; exact H) | (simp only [hji9] at H ⊢; exact H)
     (try rw [hji9] at c8b0)
     have hji9w : (IntKind.i64.wrap ((wrap64 (s0_1 + 1)) - 1)) = ji9 := (i64_w _).trans hji9
     by_cases c10 : 0 ≤ (ji9)
     ·rw [if_pos c10] at H
      have c10b0 : decide (0 ≤ (ji9)) = true := decide_eq_true c10
      clear c10
      by_cases c11 : a1 = 0
      ·rw [if_pos c11] at H
       exact absurd H (by simp)
      ·rw [if_neg c11] at H
       have c11b0 : (a1 == 0) = false := beq_eq_false_iff_ne.mpr c11
       have c11b1 : (a1 != 0) = true := bne_iff_ne.mpr c11
       simp only [Option.some.injEq, Prod.mk.injEq] at H
       obtain ⟨rfl, rfl⟩ := H
       obtain ⟨ASz12_0, cSz12_0, HGz12, hgz12, HSz12_0⟩ := HI0.out
       have hcz12_0 := cellS97_0 HGz12
       have hcz12_1 := cellS97_1 HGz12
       have hfz12_1 := blk_frozen HGz12 1
       clear HGz12 hgz12
       have p101 : 0 ≤ ((ji9) : Int) := of_decide_eq_true (by first | (with_reducible assumption) | assumption)
       have q101 : (ji9) < (s0_0.length : Int) := of_decide_eq_true (by first | (with_reducible assumption) | assumption)
       obtain ⟨ad101, e101, hx101_0⟩ := Kd.at_int HSz12_0 (ji9) p101 q101
       cases e101
       replace hx101_0 := pw_cell_below HB.out hx101_0
       replace p101 := eq_true p101
       replace q101 := eq_true q101
       go_wp2
       repeat (go_quiet (fail); try go_wp2)
       go_ret
       exact ⟨by first | rfl | (simp [errW_none, errW_some] <;> rfl) | (simp only [← hji9]; first | rfl | (simp [errW_none, errW_some] <;> rfl)) | (simp [*, errW_none, errW_some] <;> rfl), by repeat (first | (with_reducible first | exact HI0.out | apply IsS97.alloc | apply IsS97.drewN | apply IsS97.drew | apply IsS97.set_1) | exact HI0.out), by repeat (first | (with_reducible first | exact HB.out | apply below_alloc | apply pw_below_drewN | apply below_drew1 | refine below_set ?_ (IsS97.ge HI0.out)) | exact HB.out), by repeat (first | (with_reducible first | exact HK.out | apply KeepBut.set_ | apply keep_drewN | apply keep_drew | apply keep_alloc) | exact HK.out)⟩
     ·rw [if_neg c10] at H
      exact absurd H (by simp)
    ·rw [if_neg c8] at H
     have c8b0 : decide ((wrap64 ((wrap64 (s0_1 + 1)) - 1)) < (s0_0.length : Int)) = false := decide_eq_false c8
     clear c8
     by_cases c13 : (s0_0.length : Int) = 0
     ·rw [if_pos c13] at H
      exact absurd H (by simp)
     ·rw [if_neg c13] at H
      have c13b0 : ((s0_0.length : Int) == 0) = false := beq_eq_false_iff_ne.mpr c13
      have c13b1 : ((s0_0.length : Int) != 0) = true := bne_iff_ne.mpr c13
      have c13b2 : ¬ (s0_0 = []) := fun h_ => c13 (by rw [h_]; rfl)
      obtain ⟨ji14, hji14⟩ : ∃ j_ : Int, (Int.tmod (wrap64 ((wrap64 (s0_1 + 1)) - 1)) (s0_0.length : Int)) = j_ := ⟨_, rfl⟩
      replace H : (if 0 ≤ (ji14) then (if (ji14) < (s0_0.length : Int) then (if 0 ≤ (Int.tmod (wrap64 ((wrap64 ((wrap64 ((wrap64 (s0_1 + 1)) - 1)) * 7)) + 3)) (s0_0.length : Int)) then (if (Int.tmod (wrap64 ((wrap64 ((wrap64 ((wrap64 (s0_1 + 1)) - 1)) * 7)) + 3)) (s0_0.length : Int)) < (s0_0.length : Int) then (if a1 = 0 then (none) else (some (Int.tmod (Go.bits .xor .i64 (wrap64 ((wrap64 ((wrap64 ((wrap64 ((wrap64 (rd s0_0 (ji14))) * 131)) + (wrap64 ((wrap64 (rd s0_0 (Int.tmod (wrap64 ((wrap64 ((wrap64 ((wrap64 (s0_1 + 1)) - 1)) * 7)) + 3)) (s0_0.length : Int)))) * 1117)))) + (wrap64 ((wrap64 ((wrap64 (s0_1 + 1)) - 1)) * 29)))) + (wrap64 ((wrap64 (Int.tdiv (wrap64 ((wrap64 (s0_1 + 1)) - 1)) (s0_0.length : Int))) * 53)))) (wrap64 (Int.tdiv (wrap64 ((wrap64 ((wrap64 ((wrap64 ((wrap64 (rd s0_0 (ji14))) * 131)) + (wrap64 ((wrap64 (rd s0_0 (Int.tmod (wrap64 ((wrap64 ((wrap64 ((wrap64 (s0_1 + 1)) - 1)) * 7)) + 3)) (s0_0.length : Int)))) * 1117)))) + (wrap64 ((wrap64 ((wrap64 (s0_1 + 1)) - 1)) * 29)))) + (wrap64 ((wrap64 (Int.tdiv (wrap64 ((wrap64 (s0_1 + 1)) - 1)) (s0_0.length : Int))) * 53)))) 64))) a1, (wrap64 (s0_1 + 1))))) else (none)) else (none)) else (none)) else (none)) = some (r1, r2) := by first | (rw [hji14] at H; exact H) | (simp only [hji14] at H ⊢; exact H)
      by_cases c15 : 0 ≤ (ji14)
      ·rw [if_pos c15] at H
       have c15b0 : decide (0 ≤ (ji14)) = true := decide_eq_true c15
       clear c15
       by_cases c16 : (ji14) < (s0_0.length : Int)
       ·rw [if_pos c16] at H
        have c16b0 : decide ((ji14) < (s0_0.length : Int)) = true := decide_eq_true c16
        clear c16
        obtain ⟨ji17, hji17⟩ : ∃ j_ : Int, (Int.tmod (wrap64 ((wrap64 ((wrap64 ((wrap64 (s0_1 + 1)) - 1)) * 7)) + 3)) (s0_0.length : Int)) = j_ := ⟨_, rfl⟩
        replace H : (if 0 ≤ (ji17) then (if (ji17) < (s0_0.length : Int) then (if a1 = 0 then (none) else (some (Int.tmod (Go.bits .xor .i64 (wrap64 ((wrap64 ((wrap64 ((wrap64 ((wrap64 (rd s0_0 (ji14))) * 131)) + (wrap64 ((wrap64 (rd s0_0 (ji17))) * 1117)))) + (wrap64 ((wrap64 ((wrap64 (s0_1 + 1)) - 1)) * 29)))) + (wrap64 ((wrap64 (Int.tdiv (wrap64 ((wrap64 (s0_1 + 1)) - 1)) (s0_0.length : Int))) * 53)))) (wrap64 (Int.tdiv (wrap64 ((wrap64 ((wrap64 ((wrap64 ((wrap64 (rd s0_0 (ji14))) * 131)) + (wrap64 ((wrap64 (rd s0_0 (ji17))) * 1117)))) + (wrap64 ((wrap64 ((wrap64 (s0_1 + 1)) - 1)) * 29)))) + (wrap64 ((wrap64 (Int.tdiv (wrap64 ((wrap64 (s0_1 + 1)) - 1)) (s0_0.length : Int))) * 53)))) 64))) a1, (wrap64 (s0_1 + 1))))) else (none)) else (none)) = some (r1, r2) := by first | (rw [hji17] at H; exact H) | (simp only [hji17] at H ⊢; exact H)
        by_cases c18 : 0 ≤ (ji17)
        ·rw [if_pos c18] at H
         have c18b0 : decide (0 ≤ (ji17)) = true := decide_eq_true c18
         clear c18
         by_cases c19 : (ji17) < (s0_0.length : Int)
         ·rw [if_pos c19] at H
          have c19b0 : decide ((ji17) < (s0_0.length : Int)) = true := decide_eq_true c19
          clear c19
          by_cases c20 : a1 = 0
          ·rw [if_pos c20] at H
           exact absurd H (by simp)
          ·rw [if_neg c20] at H
           have c20b0 : (a1 == 0) = false := beq_eq_false_iff_ne.mpr c20
           have c20b1 : (a1 != 0) = true := bne_iff_ne.mpr c20
           simp only [Option.some.injEq, Prod.mk.injEq] at H
           obtain ⟨rfl, rfl⟩ := H
           obtain ⟨ASz21_0, cSz21_0, HGz21, hgz21, HSz21_0⟩ := HI0.out
           have hcz21_0 := cellS97_0 HGz21
           have hcz21_1 := cellS97_1 HGz21
           have hfz21_1 := blk_frozen HGz21 1
           clear HGz21 hgz21
           have p102 : 0 ≤ ((ji14) : Int) := of_decide_eq_true (by first | (with_reducible assumption) | assumption)
           have q102 : (ji14) < (s0_0.length : Int) := of_decide_eq_true (by first | (with_reducible assumption) | assumption)
           obtain ⟨ad102, e102, hx102_0⟩ := Kd.at_int HSz21_0 (ji14) p102 q102
           cases e102
           replace hx102_0 := pw_cell_below HB.out hx102_0
           replace p102 := eq_true p102
           replace q102 := eq_true q102
           have p103 : 0 ≤ ((ji17) : Int) := of_decide_eq_true (by first | (with_reducible assumption) | assumption)
           have q103 : (ji17) < (s0_0.length : Int) := of_decide_eq_true (by first | (with_reducible assumption) | assumption)
           obtain ⟨ad103, e103, hx103_0⟩ := Kd.at_int HSz21_0 (ji17) p103 q103
           obtain rfl : ad102 = ad103 := (by injection e103)
           replace hx103_0 := pw_cell_below HB.out hx103_0
           replace p103 := eq_true p103
           replace q103 := eq_true q103
           go_wp2
           repeat (go_quiet (fail); try go_wp2)
           go_ret
           exact ⟨by first | rfl | (simp [errW_none, errW_some] <;> rfl) | (simp only [← hji14, ← hji17]; first | rfl | (simp [errW_none, errW_some] <;> rfl)) | (simp [*, errW_none, errW_some] <;> rfl), by repeat (first | (with_reducible first | exact HI0.out | apply IsS97.alloc | apply IsS97.drewN | apply IsS97.drew | apply IsS97.set_1) | exact HI0.out), by repeat (first | (with_reducible first | exact HB.out | apply below_alloc | apply pw_below_drewN | apply below_drew1 | refine below_set ?_ (IsS97.ge HI0.out)) | exact HB.out), by repeat (first | (with_reducible first | exact HK.out | apply KeepBut.set_ | apply keep_drewN | apply keep_drew | apply keep_alloc) | exact HK.out)⟩
         ·rw [if_neg c19] at H
          exact absurd H (by simp)
        ·rw [if_neg c18] at H
         exact absurd H (by simp)
       ·rw [if_neg c16] at H
        exact absurd H (by simp)
      ·rw [if_neg c15] at H
       exact absurd H (by simp)
end Go.Proofs.YtajapkjplgaigaaDoor.P
end
section
namespace Go.Proofs.YtajapkjplgaigaaDoor.P
open Go.RowKit Go.Proofs.YtajapkjplgaigaaDoorW.PrintWords Go.Proofs.YtajapkjplgaigaaDoorW.PrintLast Go.Proofs.YtajapkjplgaigaaDoorW.PrintMore
attribute [local go_sem] max2_int min2_int max_two min_two max_three min_three max_four min_four   -- for this text's walks alone
set_option linter.unusedVariables false
set_option linter.unusedSimpArgs false
def spec_reader_one.f (k : Nat) (s0_0 : List Int) (s0_1 : Int) (l1 : List Int) : Option (Int × Int) := (spec_reader_pick.f k s0_0 s0_1 (l1.length : Int)).bind fun bt110 => (if 0 ≤ bt110.1 then (if bt110.1 < (l1.length : Int) then (some (rd l1 bt110.1, bt110.2)) else (none)) else (none))
set_option maxHeartbeats 8000000 in
set_option maxRecDepth 100000 in
theorem spec_reader_one.calls (k : Nat) (g : Nat) (s0_0 : List Int) (s0_1 : Int) (A1 : Option Addr) (c1 : Nat) (l1 : List Int) (r1 : Int) (r2 : Int) (w0 w : World) (hI : IsS97 w0 w g s0_0 s0_1) (hB : Below w0.heap.size w0 w) (hr1 : Kd.C (Kd.int .i64) w A1 l1.length l1) (hc1 : l1.length ≤ c1) (hf1 : ∀ ad, A1 = some ad → 0 < l1.length → ad.block ≠ g) (h : spec_reader_one.f k s0_0 s0_1 l1 = some (r1, r2)) :
  Calls Tryd.prog 69 #[.pointer (some ⟨g, 0, none⟩), .slice A1 l1.length c1] w fun e w' => e = .returned (.int .i64 r1) ∧ IsS97 w0 w' g s0_0 r2 ∧ Below w0.heap.size w0 w' ∧ KeepBut w w' g none := by
 have HR1 := Aside0.mk hr1
 have HC1 := Aside0.mk hc1
 clear hr1 hc1
 have HI0 := Aside0.mk hI
 have HK := Aside0.mk (KeepBut.refl w g none)
 have HL := Aside0.mk hB.size
 clear hI
 have HW0 := Aside0.mk hB.size
 have HB := Aside0.mk hB
 clear hB
 have H : ((spec_reader_pick.f k s0_0 s0_1 (l1.length : Int)).bind fun bt110 => (if 0 ≤ bt110.1 then (if bt110.1 < (l1.length : Int) then (some (rd l1 bt110.1, bt110.2)) else (none)) else (none))) = some (r1, r2) := h
 clear h
 replace H := Option.bind_eq_some_iff.mp H
 obtain ⟨⟨t110, t111⟩, A30, H⟩ := H
 replace H : (if 0 ≤ t110 then (if t110 < (l1.length : Int) then (some (rd l1 t110, t111)) else (none)) else (none)) = some (r1, r2) := H
 have A3 := Aside0.mk A30
 clear A30
 by_cases c4 : 0 ≤ t110
 ·rw [if_pos c4] at H
  have c4b0 : decide (0 ≤ t110) = true := decide_eq_true c4
  clear c4
  by_cases c5 : t110 < (l1.length : Int)
  ·rw [if_pos c5] at H
   have c5b0 : decide (t110 < (l1.length : Int)) = true := decide_eq_true c5
   clear c5
   simp only [Option.some.injEq, Prod.mk.injEq] at H
   obtain ⟨rfl, rfl⟩ := H
   go_enter Tryd.func69, Tryd.ntmps69
   go_wp2_with (first | ((with_reducible refine gate_callee (f := 65) rfl ?_); refine goesL_ (some 9) rfl rfl Tryd.func65 (by kernel_rfl) rfl #[.pointer (some ⟨g, 0, none⟩), .int .i64 (l1.length : Int)] rfl (by (try simp only [List.map_toArray, List.map_cons, List.map_nil]); first | done | rfl | (simp only [List.length_drop, List.length_take]; rfl)) ?_; (with_reducible refine (spec_reader_pick.calls k g s0_0 s0_1 (l1.length : Int) t110 t111 w0 _ ?side1 ?side2 A3.out).mono ?_); (case side1 => repeat (first | (with_reducible first | exact HI0.out | apply IsS97.alloc | apply IsS97.drewN | apply IsS97.drew | apply IsS97.set_1) | exact HI0.out)); (case side2 => repeat (first | (with_reducible first | exact HB.out | apply below_alloc | apply pw_below_drewN | apply below_drew1 | refine below_set ?_ (IsS97.ge HI0.out)) | exact HB.out)); rintro e w6 ⟨rfl, hi, hb, hk⟩; refine ⟨_, rfl, ?_⟩; have n0_ := Aside0.mk (KeepBut.trans (by repeat (first | (with_reducible first | exact HK.out | apply KeepBut.set_ | apply keep_drewN | apply keep_drew | apply keep_alloc) | exact HK.out)) hk (.inl rfl)); have n1_ := Aside0.mk (hb); have n2_ := Aside0.mk (hi); clear HK; clear HB; clear HI0; have HK := n0_; have HB := n1_; have HI0 := n2_; clear n0_ n1_ n2_; (try clear hb); (try clear hb2); (try clear hk); (try clear hi); have p112 : 0 ≤ (t110 : Int) := of_decide_eq_true (by first | (with_reducible assumption) | assumption); have q112 : t110 < (l1.length : Int) := of_decide_eq_true (by first | (with_reducible assumption) | assumption); obtain ⟨ad112, e112, hx112_0⟩ := Kd.at_int HR1.out t110 p112 q112; cases e112; replace hx112_0 := keep_cell HK.out hx112_0 (by first | (rw [add_block]; exact hf1 _ rfl (by omega)) | exact hf1 _ rfl (by omega) | exact hf1 ad112 rfl (by omega)); replace p112 := eq_true p112; replace q112 := eq_true q112))
   go_ret
   exact ⟨by first | rfl | (simp [errW_none, errW_some] <;> rfl) | (simp [*, errW_none, errW_some] <;> rfl), by repeat (first | (with_reducible first | exact HI0.out | apply IsS97.alloc | apply IsS97.drewN | apply IsS97.drew | apply IsS97.set_1) | exact HI0.out), by repeat (first | (with_reducible first | exact HB.out | apply below_alloc | apply pw_below_drewN | apply below_drew1 | refine below_set ?_ (IsS97.ge HI0.out)) | exact HB.out), by repeat (first | (with_reducible first | exact HK.out | apply KeepBut.set_ | apply keep_drewN | apply keep_drew | apply keep_alloc) | exact HK.out)⟩
  ·rw [if_neg c5] at H
   exact absurd H (by simp)
 ·rw [if_neg c4] at H
  exact absurd H (by simp)
end Go.Proofs.YtajapkjplgaigaaDoor.P
end
