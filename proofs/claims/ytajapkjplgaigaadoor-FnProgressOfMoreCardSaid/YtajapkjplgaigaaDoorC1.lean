/- The law 'FnProgressOfMore' holds for every input: its card. No condition but the row's own. -/
import Derived.Test.YtajapkjplgaigaaDoorC12
import Derived.Test.YtajapkjplgaigaaDoorC10
import Derived.Test.YtajapkjplgaigaaDoorC11
import Derived.Test.YtajapkjplgaigaaDoorC1WMore
import Derived.IntWalk
import Derived.Laws.BitsLemmas
import Derived.Test.YtajapkjplgaigaaDoorRows
import Derived.WalkKit
import Derived.ProofKit
import Derived.OpenShut
import Derived.ShutString
import Derived.ChangeOld
import Derived.Below
import Derived.SizedLaws
import Derived.Test.YtajapkjplgaigaaDoorC1WSized
import Derived.Test.YtajapkjplgaigaaDoorCards
import Derived.Test.YtajapkjplgaigaaDoorTie
import Derived.Deep.DeepHandedRow
import Derived.Lib.LaidTab
section
namespace Go.Proofs.YtajapkjplgaigaaDoor.P
open Go.RowKit Go.Shelf Go.Proofs.YtajapkjplgaigaaDoorW.PrintWords Go.Proofs.YtajapkjplgaigaaDoorW.PrintLast Go.Proofs.YtajapkjplgaigaaDoorW.PrintMore
set_option linter.unusedVariables false
set_option linter.unusedSimpArgs false
structure GrN where
 ts : List TT
 nd : List Nat
 od : List Nat
 bl : List Nat
 ab : List Nat
def GrN.gr (G : GrN) : Gr := ⟨G.ts, nI G.nd, nI G.od, nI G.bl, nI G.ab⟩
def graphP (ts : List TT) : Option GrN := match needsP ts with
 | none => none
 | some nd => if (orderP nd).2 = 2 ^ ts.length - 1 then some ⟨ts, nd, (orderP nd).1, (relP nd (orderP nd).1 ts.length).1, (relP nd (orderP nd).1 ts.length).2⟩ else none
theorem needsGo_spec (n : Nat) : ∀ (r : List TT) (acc out : List Nat), needsGo n r acc = some out → ∃ l : List Nat, out = acc ++ l ∧ l.length = r.length ∧ ∀ (i : Nat) (t : TT), r[i]? = some t → taskP n t = some (l.getD i 0)
 | [], acc, out, h => by
  simp only [needsGo, Option.some.injEq] at h
  exact ⟨[], by simp [h], rfl, fun i t h => by simp at h⟩
 | x :: r, acc, out, h => by
  simp only [needsGo] at h
  cases ht : taskP n x with
  | none => rw [ht] at h; cases h
  | some s =>
   rw [ht] at h
   obtain ⟨l, h1, h2, h3⟩ := needsGo_spec n r (acc ++ [s]) out h
   refine ⟨s :: l, by simp [h1], by simp [h2], fun i t hi => ?_⟩
   cases i with
   | zero => simp at hi; subst hi; simpa using ht
   | succ i => simpa using h3 i t (by simpa using hi)
theorem needsP_spec {ts : List TT} {nd : List Nat} (h : needsP ts = some nd) : ts.length ≤ 8 ∧ nd.length = ts.length ∧ ∀ (i : Nat) (t : TT), ts[i]? = some t → taskP ts.length t = some (nd.getD i 0) := by
 unfold needsP at h
 split at h
 ·cases h
 ·rename_i hn
  obtain ⟨l, h1, h2, h3⟩ := needsGo_spec _ _ _ _ h
  rw [List.nil_append] at h1
  subst h1
  exact ⟨by omega, h2, h3⟩
theorem taskP_lt {n s : Nat} {t : TT} (h : taskP n t = some s) : s < 2 ^ n ∧ setP t.f1 n = some s ∧ (1 ≤ t.f0 ∧ t.f0 ≤ 20) ∧ (0 ≤ t.f2 ∧ t.f2 ≤ 2) ∧ (1 ≤ t.f3 ∧ t.f3 ≤ 4) := by
 unfold taskP at h
 cases hs : setP t.f1 n with
 | none => rw [hs] at h; cases h
 | some s' =>
  rw [hs] at h
  simp only at h
  split at h
  ·rename_i hc
   injection h with h
   subst h
   exact ⟨setP_lt hs, rfl, hc⟩
  ·cases h
theorem needs_lt {ts : List TT} {nd : List Nat} (h : needsP ts = some nd) (i : Nat) : nd.getD i 0 < 2 ^ ts.length := by
 obtain ⟨h1, h2, h3⟩ := needsP_spec h
 rcases Nat.lt_or_ge i ts.length with hi | hi
 ·exact (taskP_lt (h3 i _ (List.getElem?_eq_getElem hi))).1
 ·rw [List.getD_eq_getElem?_getD, List.getElem?_eq_none (by omega)]; exact Nat.two_pow_pos _
theorem orderGo_mem {nd : List Nat} : ∀ (m : Nat) (s : List Nat × Nat), (∀ i ∈ s.1, i < nd.length) → ∀ i ∈ (orderGo nd m s).1, i < nd.length
 | 0, s, h => h
 | m + 1, s, h => by
  refine orderGo_mem m (orderStep nd s) ?_
  unfold orderStep
  cases hf : firstP nd s.2 with
  | none => exact h
  | some j =>
   intro i hi
   rcases List.mem_append.1 hi with hi | hi
   ·exact h i hi
   ·rw [List.mem_singleton] at hi; subst hi; exact firstP_lt hf
theorem orderP_mem (nd : List Nat) : ∀ i ∈ (orderP nd).1, i < nd.length := orderGo_mem _ _ (fun i hi => by cases hi)
theorem everyI_eq : ∀ n, n ≤ 8 → everyI n = ((2 ^ n - 1 : Nat) : Int) := by decide +kernel
structure GOk (G : GrN) : Prop where
 n8 : G.ts.length ≤ 8
 nl : G.nd.length = G.ts.length
 task : ∀ (i : Nat) (t : TT), G.ts[i]? = some t → taskP G.ts.length t = some (G.nd.getD i 0)
 nlt : ∀ i, G.nd.getD i 0 < 2 ^ G.ts.length
 ord : G.od = (orderP G.nd).1
 full : (orderP G.nd).2 = 2 ^ G.ts.length - 1
 omem : ∀ i ∈ G.od, i < G.ts.length
 blE : G.bl = (relP G.nd G.od G.ts.length).1
 abE : G.ab = (relP G.nd G.od G.ts.length).2
 bl : OkU G.ts.length G.bl
 ab : OkU G.ts.length G.ab
theorem graphP_ok {ts : List TT} {G : GrN} (h : graphP ts = some G) : G.ts = ts ∧ needsP ts = some G.nd ∧ GOk G := by
 unfold graphP at h
 cases hn : needsP ts with
 | none => rw [hn] at h; cases h
 | some nd =>
  rw [hn] at h
  simp only at h
  split at h
  ·rename_i hd
   injection h with h
   obtain ⟨h1, h2, h3⟩ := needsP_spec hn
   have hm : ∀ i ∈ (orderP nd).1, i < ts.length := fun i hi => by rw [← h2]; exact orderP_mem nd i hi
   have hr := relP_ok (n := ts.length) (nd := nd) (od := (orderP nd).1) (needs_lt hn) hm
   subst h
   exact ⟨rfl, rfl, ⟨h1, h2, h3, needs_lt hn, rfl, hd, hm, rfl, rfl, hr.1, hr.2⟩⟩
  ·cases h
theorem graphOf_all (A0 : Option Addr) (c0 : Nat) (l0 : List TT) (w : World) (hr0 : Kd.C k39 w A0 l0.length l0) (hc0 : l0.length ≤ c0) (hT : TabOK w) :
  Calls Tryd.prog 58 #[.slice A0 l0.length c0] w fun e w' => ∃ g b, e = .returned (.tuple #[.pointer g, .bool b]) ∧ Below w.heap.size w w' ∧ (graphP l0 = none → g = none ∧ b = false) ∧ (∀ G, graphP l0 = some G → b = true ∧ ∃ a, g = some ⟨a, 0, none⟩ ∧ ∀ U : World, Kd.C k39 U A0 l0.length l0 → (∀ k, w.heap.size ≤ k → k < w'.heap.size → U.heap[k]? = w'.heap[k]?) → IsG U a G.gr) := by
 have hN := needs_eq l0 100 (Nat.le_refl _)
 cases hn : needsP l0 with
 | none =>
  rw [hn] at hN
  have hg : graphP l0 = none := by unfold graphP; rw [hn]
  refine (graphOf_no1 100 A0 c0 l0 [] w hr0 hc0 hN).mono ?_
  rintro e w' ⟨rfl, hb⟩
  exact ⟨none, false, rfl, hb, fun _ => ⟨rfl, rfl⟩, fun G h => by rw [hg] at h; cases h⟩
 | some nd =>
  rw [hn] at hN
  obtain ⟨h1, h2, h3⟩ := needsP_spec hn
  have hO := order_eq nd h1 h2 (needs_lt hn) 100 (Nat.le_refl _)
  by_cases hd : (orderP nd).2 = 2 ^ l0.length - 1
  ·have hg : graphP l0 = some ⟨l0, nd, (orderP nd).1, (relP nd (orderP nd).1 l0.length).1, (relP nd (orderP nd).1 l0.length).2⟩ := by unfold graphP; rw [hn]; simp only [if_pos hd]
   refine (graphOf_yes 100 A0 c0 l0 (nI nd) (nI (orderP nd).1) ((orderP nd).2 : Int) w hr0 hc0 hN hO (by rw [everyI_eq _ h1, hd]; simp) h1 nd (orderP nd).1 rfl rfl h2 (fun x hx => by
    obtain ⟨i, hi, rfl⟩ := List.getElem_of_mem hx
    have := needs_lt hn i
    rwa [List.getD_eq_getElem?_getD, List.getElem?_eq_getElem hi] at this) (fun x hx => by rw [← h2]; exact orderP_mem nd x hx) hT).mono ?_
   rintro e w' ⟨g, rfl, hG, hb⟩
   exact ⟨_, _, rfl, hb, fun h => (by rw [hg] at h; cases h), fun G h => by rw [hg] at h; injection h with h; subst h; exact ⟨rfl, g, rfl, hG⟩⟩
  ·have hg : graphP l0 = none := by unfold graphP; rw [hn]; simp only [if_neg hd]
   refine (graphOf_no2 100 A0 c0 l0 (nI nd) (nI (orderP nd).1) ((orderP nd).2 : Int) w hr0 hc0 hN hO (by
    rw [everyI_eq _ h1]
    exact beq_eq_false_iff_ne.2 (fun h => hd (by exact_mod_cast h)))).mono ?_
   rintro e w' ⟨rfl, hb⟩
   exact ⟨none, false, rfl, hb, fun _ => ⟨rfl, rfl⟩, fun G h => by rw [hg] at h; cases h⟩
theorem graphOf_at {A0 : Option Addr} {l0 : List TT} {w w' : World} {a : Nat} {G : GrN} (hr0 : Kd.C k39 w A0 l0.length l0) (hb : Below w.heap.size w w')
  (h : ∀ U : World, Kd.C k39 U A0 l0.length l0 → (∀ k, w.heap.size ≤ k → k < w'.heap.size → U.heap[k]? = w'.heap[k]?) → IsG U a G.gr) : IsG w' a G.gr := h w' (Kd.C_below hr0 hb) (fun _ _ _ => rfl)
end Go.Proofs.YtajapkjplgaigaaDoor.P
end
section
namespace Go.Proofs.YtajapkjplgaigaaDoor.P
open Go.RowKit Go.Shelf Go.Proofs.YtajapkjplgaigaaDoorW.PrintWords Go.Proofs.YtajapkjplgaigaaDoorW.PrintLast Go.Proofs.YtajapkjplgaigaaDoorW.PrintMore
attribute [local go_sem] Oper.semAt_some
set_option linter.unusedVariables false
set_option linter.unusedSimpArgs false
def closedP (nd : List Nat) (s : Nat) : Bool := (bitsN s).all fun i => nd.getD i 0 &&& s == nd.getD i 0
def doneP (ts : List TT) (done : List Int) : Option (GrN × Nat) := match graphP ts with
 | none => none
 | some G => match setP done ts.length with
  | none => none
  | some s => if closedP G.nd s then some (G, s) else none
theorem size_calls (g : Nat) (G : Gr) (w : World) (hG : IsG w g G) : Calls Tryd.prog 40 #[.pointer (some ⟨g, 0, none⟩)] w fun e w' => e = .returned (.int .i64 (G.ts.length : Int)) ∧ Drawn0 w w' := by
 obtain ⟨A0, c0, A1, c1, A2, c2, A3, c3, A4, c4, hblk, _⟩ := hG
 have hg0 : w.cell? ⟨g, 0, none⟩ = some (.slice A0 G.ts.length c0) := (blk_cell hblk 0).trans rfl
 clear hblk
 go_enter Tryd.func40, Tryd.ntmps40
 go_wp2
 go_ret
 exact ⟨rfl, ⟨0, rfl⟩⟩
structure Rs (w : World) (q : Nat) (v0 v1 v2 : Value) (W : World) : Prop where
 h0 : Boxed W q 49 v0
 h1 : Boxed W (q + 1) 51 v1
 h2 : Boxed W (q + 1 + 1) 4 v2
 bel : Below w.heap.size w W
theorem own_Rs {β : Type} (w : World) (q : Nat) (v0 v1 v2 : Value) (B : Nat) (hB : w.heap.size ≤ B) : OwnFrom B (fun (_ : β) W => Rs w q v0 v1 v2 W) := by
 intro s W W' row h hg hr
 exact ⟨own_box B q _ (fun (_ : β) => v0) s W W' row h.h0 hg hr, own_box B (q + 1) _ (fun (_ : β) => v1) s W W' row h.h1 hg hr, own_box B (q + 1 + 1) _ (fun (_ : β) => v2) s W W' row h.h2 hg hr, (ownFrom_below (Nat.le_refl _) hB) s W W' row h.bel hg hr⟩
theorem Rs.below {w W W' : World} {q : Nat} {v0 v1 v2 : Value} (h : Rs w q v0 v1 v2 W) (hb : Below W.heap.size W W') : Rs w q v0 v1 v2 W' :=
 ⟨(hb.block q h.h0.lt).trans h.h0, (hb.block _ h.h1.lt).trans h.h1, (hb.block _ h.h2.lt).trans h.h2, below_step h.bel hb⟩
theorem Rs.alloc {w W : World} {q : Nat} {v0 v1 v2 : Value} (h : Rs w q v0 v1 v2 W) (o : Obj) : Rs w q v0 v1 v2 (W.alloc o) := h.below ((Below.refl _ W).alloc (Nat.le_refl _) o)
theorem Rs.drewN {w W : World} {q : Nat} {v0 v1 v2 : Value} (h : Rs w q v0 v1 v2 W) (m : Nat) : Rs w q v0 v1 v2 (W.drewN m) := ⟨h.h0, h.h1, h.h2, pw_below_drewN h.bel m⟩
theorem Rs.put {w W : World} {q : Nat} {v0 v1 v2 : Value} (h : Rs w q v0 v1 v2 W) (hq : w.heap.size ≤ q) (u0 u1 u2 : Value) :
  Rs w q u0 u1 u2 (((W.setCell ⟨q, 0, none⟩ u0).setCell ⟨q + 1, 0, none⟩ u1).setCell ⟨q + 1 + 1, 0, none⟩ u2) := by
 refine ⟨?_, ?_, ?_, ((h.bel.setCell (p := ⟨q, 0, none⟩) hq _).setCell (p := ⟨q + 1, 0, none⟩) (by show w.heap.size ≤ q + 1; omega) _).setCell (p := ⟨q + 1 + 1, 0, none⟩) (by show w.heap.size ≤ q + 1 + 1; omega) _⟩
 ·exact blk_far (blk_far ((blk_set h.h0 0 u0).trans rfl) (show q ≠ q + 1 by omega) _) (show q ≠ q + 1 + 1 by omega) _
 ·exact blk_far ((blk_set (blk_far h.h1 (show q + 1 ≠ q by omega) _) 0 u1).trans rfl) (show q + 1 ≠ q + 1 + 1 by omega) _
 ·exact (blk_set (blk_far (blk_far h.h2 (show q + 1 + 1 ≠ q by omega) _) (show q + 1 + 1 ≠ q + 1 by omega) _) 0 u2).trans rfl
theorem keeps_put (B : Nat) (W : World) (a b c : Addr) (u0 u1 u2 : Value) : KeepsFrom B W (((W.setCell a u0).setCell b u1).setCell c u2) := (((KeepsOthers.setCell W a u0).trans (KeepsOthers.setCell _ b u1)).trans (KeepsOthers.setCell _ c u2)).from B
set_option maxRecDepth 100000 in
set_option maxHeartbeats 1000000 in
theorem doneIn_calls (A0 : Option Addr) (c0 : Nat) (l0 : List TT) (A1 : Option Addr) (c1 : Nat) (done : List Int) (w : World) (hr0 : Kd.C k39 w A0 l0.length l0) (hc0 : l0.length ≤ c0) (hr1 : Kd.C (Kd.int .i64) w A1 done.length done) (hc1 : done.length ≤ c1) (hT : TabOK w) :
  Calls Tryd.prog 39 #[.slice A0 l0.length c0, .slice A1 done.length c1] w fun e w' => ∃ (g : Option Addr) (s : Nat) (b : Bool), e = .returned (.tuple #[.pointer g, .int .u16 s, .bool b]) ∧ Below w.heap.size w w' ∧
   (doneP l0 done = none → b = false) ∧ (∀ G s', doneP l0 done = some (G, s') → b = true ∧ s = s' ∧ ∃ a, g = some ⟨a, 0, none⟩ ∧ IsG w' a G.gr) := by
 have hr0' := Aside0.mk hr0
 have hr1' := Aside0.mk hr1
 have hc0' := Aside0.mk hc0
 have hc1' := Aside0.mk hc1
 have hT' := Aside0.mk hT
 clear hr0 hc0 hr1 hc1 hT
 refine calls_of_wpM Tryd.func39 rfl ?_
 simp only [Tryd.ntmps39, List.size_toArray, List.length_cons, List.length_nil, Nat.reduceAdd, Nat.reduceSub, Array.replicate_succ, Array.replicate_zero, List.push_toArray, List.append_toArray, List.nil_append, List.cons_append]
 go_wp2_with (fail)
 obtain ⟨q, hq⟩ : ∃ q, q = w.heap.size := ⟨_, rfl⟩
 have hRs : Rs w q (.pointer none) (.int .u16 0) (.bool false) (((w.alloc (.cells #[.pointer none] 49)).alloc (.cells #[.int .u16 0] 51)).alloc (.cells #[.bool false] 4)) := by
  subst hq
  exact ⟨((Boxed.new w _ _).alloc _).alloc _, (box_at _ _ _ _ (by simp)).alloc _, box_at _ _ _ _ (by simp), (((Below.refl _ w).alloc (Nat.le_refl _) _).alloc (by simp) _).alloc (by simp; omega) _⟩
 have hsz : (((w.alloc (.cells #[.pointer none] 49)).alloc (.cells #[.int .u16 0] 51)).alloc (.cells #[.bool false] 4)).heap.size = q + 1 + 1 + 1 := by simp [hq]
 simp only [← hq]
 have hq' := Aside0.mk hq
 clear hq
 generalize ((w.alloc (.cells #[.pointer none] 49)).alloc (.cells #[.int .u16 0] 51)).alloc (.cells #[.bool false] 4) = W3 at *
 have gc := Aside0.mk (graphOf_all A0 c0 l0 W3 (Kd.C_below hr0'.out (hRs.bel)) hc0'.out (hT'.out.below hRs.bel))
 have hRs' := Aside0.mk hRs
 have hsz' := Aside0.mk hsz
 clear hRs hsz
 cases hg : graphP l0 with
 | none =>
  have hg' := Aside0.mk hg
  clear hg
  go_wp2_with (go_at_call 58; refine gc.out.mono ?_; rintro e W4 ⟨g, b, rfl, hB4, hno, hyes⟩; obtain ⟨rfl, rfl⟩ := hno hg'.out; have hR4 := Aside0.mk ((hRs'.out.below hB4).alloc (.cells #[.pointer none] 49)); have j0 := hR4.out.h0.cell; have j1 := hR4.out.h1.cell; have j2 := hR4.out.h2.cell; have f0 := hR4.out.h0.frozen; have f1 := hR4.out.h1.frozen; have f2 := hR4.out.h2.frozen; clear hB4 hno hyes)
  have hR5 := hR4.out.put (by have := hq'.out; omega) (.pointer none) (.int .u16 0) (.bool false)
  refine retM (B := w.heap.size) (fun W => Rs w q (.pointer none) (.int .u16 0) (.bool false) W) (own_Rs _ _ _ _ _ _ (Nat.le_refl _)) trivial hR5 ?_
  intro W' h
  have k0 := h.h0.cell
  have k1 := h.h1.cell
  have k2 := h.h2.cell
  refine ⟨.tuple #[.pointer none, .int .u16 0, .bool false], by simp [results, Tryd.results39, go_sem, k0, k1, k2], none, 0, false, rfl, h.bel, fun _ => rfl, fun G s' h => ?_⟩
  unfold doneP at h
  rw [hg'.out] at h
  cases h
 | some G =>
  have hg' := Aside0.mk hg
  clear hg
  obtain ⟨hts, hnP, hOk⟩ := graphP_ok hg'.out
  have hlen' := Aside0.mk (show ((G.gr.ts.length : Nat) : Int) = (l0.length : Int) by rw [← hts]; rfl)
  have hOk' := Aside0.mk hOk
  have hts' := Aside0.mk hts
  have hS := setOf_eq done l0.length 100 (by rw [← hts]; exact hOk.n8) (by have := hOk.n8; rw [hts] at this; omega)
  clear hts hnP hOk
  cases hs : setP done l0.length with
  | none =>
   rw [hs] at hS
   have hs' := Aside0.mk hs
   have hS' := Aside0.mk hS
   clear hs hS
   go_wp2_with (first | (go_at_call 58; refine gc.out.mono ?_; rintro e W4 ⟨g, b, rfl, hB4, hno, hyes⟩; obtain ⟨rfl, a, rfl, hG40⟩ := hyes G hg'.out; have hG4 := graphOf_at (Kd.C_below hr0'.out hRs'.out.bel) hB4 hG40; have hGU := Aside0.mk hG40; have hs34 := Aside0.mk hB4.size; have hR4 := Aside0.mk ((hRs'.out.below hB4).alloc (.cells #[.pointer (some ⟨a, 0, none⟩)] 49)); have hG5 := Aside0.mk (hG4.below ((Below.refl _ W4).alloc (Nat.le_refl _) (.cells #[.pointer (some ⟨a, 0, none⟩)] 49))); have hx5 := Aside0.mk (Boxed.new W4 49 (.pointer (some ⟨a, 0, none⟩))); clear hB4 hno hyes hG4 hG40) | (go_at_call 40; refine (size_calls a G.gr _ hG5.out).mono ?_; rintro e w5 ⟨rfl, ⟨m5, rfl⟩⟩; simp only [hlen'.out]) | (go_at_call 71; refine (impl_setOf.calls 100 A1 c1 done (l0.length : Int) 0 false _ (Kd.C_drewN (Kd.C_below hr1'.out hR4.out.bel) _) hc1'.out hS'.out).mono ?_; rintro e w6 ⟨rfl, ⟨m6, rfl⟩⟩; have hR6 := Aside0.mk ((hR4.out.drewN (m5 + m6)).alloc (.cells #[.int .u16 0] 51)); have j0 := hR6.out.h0.cell; have j1 := hR6.out.h1.cell; have j2 := hR6.out.h2.cell; have f0 := hR6.out.h0.frozen; have f1 := hR6.out.h1.frozen; have f2 := hR6.out.h2.frozen))
   have hR7 := hR6.out.put (by have := hq'.out; omega) (.pointer none) (.int .u16 0) (.bool false)
   refine retM (B := w.heap.size) (fun W => Rs w q (.pointer none) (.int .u16 0) (.bool false) W) (own_Rs _ _ _ _ _ _ (Nat.le_refl _)) trivial hR7 ?_
   intro W' h
   have k0 := h.h0.cell
   have k1 := h.h1.cell
   have k2 := h.h2.cell
   refine ⟨.tuple #[.pointer none, .int .u16 0, .bool false], by simp [results, Tryd.results39, go_sem, k0, k1, k2], none, 0, false, rfl, h.bel, fun _ => rfl, fun G s' h => ?_⟩
   unfold doneP at h
   rw [hg'.out] at h
   simp only [hs'.out] at h
   cases h
  | some s =>
   rw [hs] at hS
   have hs' := Aside0.mk hs
   have hS' := Aside0.mk hS
   clear hs hS
   go_wp2_with (first | (go_at_call 58; refine gc.out.mono ?_; rintro e W4 ⟨g, b, rfl, hB4, hno, hyes⟩; obtain ⟨rfl, a, rfl, hG40⟩ := hyes G hg'.out; have hG4 := graphOf_at (Kd.C_below hr0'.out hRs'.out.bel) hB4 hG40; have hGU := Aside0.mk hG40; have hs34 := Aside0.mk hB4.size; have hR4 := Aside0.mk ((hRs'.out.below hB4).alloc (.cells #[.pointer (some ⟨a, 0, none⟩)] 49)); have hG5 := Aside0.mk (hG4.below ((Below.refl _ W4).alloc (Nat.le_refl _) (.cells #[.pointer (some ⟨a, 0, none⟩)] 49))); have hx5 := Aside0.mk (Boxed.new W4 49 (.pointer (some ⟨a, 0, none⟩))); clear hB4 hno hyes hG4 hG40) | (go_at_call 40; refine (size_calls a G.gr _ hG5.out).mono ?_; rintro e w5 ⟨rfl, ⟨m5, rfl⟩⟩; simp only [hlen'.out]) | (go_at_call 71; refine (impl_setOf.calls 100 A1 c1 done (l0.length : Int) (s : Int) true _ (Kd.C_drewN (Kd.C_below hr1'.out hR4.out.bel) _) hc1'.out hS'.out).mono ?_; rintro e w6 ⟨rfl, ⟨m6, rfl⟩⟩; have hR6 := Aside0.mk ((hR4.out.drewN (m5 + m6)).alloc (.cells #[.int .u16 (s : Int)] 51)); have j7 := cell_alloc hx5.out.cell (.cells #[.int .u16 (s : Int)] 51)) | (go_at_call 54; refine (all_calls _ _).mono ?_; rintro e w' ⟨rfl, rfl⟩))
   have hG6 := (hG5.out.drewN (m5 + m6)).below ((Below.refl _ ((W4.alloc (.cells #[.pointer (some ⟨a, 0, none⟩)] 49)).drewN (m5 + m6))).alloc (Nat.le_refl _) (.cells #[.int .u16 (s : Int)] 51))
   have hb6 : Boxed (((W4.alloc (.cells #[.pointer (some ⟨a, 0, none⟩)] 49)).drewN (m5 + m6)).alloc (.cells #[.int .u16 (s : Int)] 51)) W4.heap.size 49 (.pointer (some ⟨a, 0, none⟩)) := Boxed.alloc (W := (W4.alloc (.cells #[.pointer (some ⟨a, 0, none⟩)] 49)).drewN (m5 + m6)) hx5.out _
   have hs6 : Boxed (((W4.alloc (.cells #[.pointer (some ⟨a, 0, none⟩)] 49)).drewN (m5 + m6)).alloc (.cells #[.int .u16 (s : Int)] 51)) (W4.heap.size + 1) 51 (.int .u16 (s : Int)) := box_at _ _ _ _ (by simp [World.drewN])
   have hz6 : (((W4.alloc (.cells #[.pointer (some ⟨a, 0, none⟩)] 49)).drewN (m5 + m6)).alloc (.cells #[.int .u16 (s : Int)] 51)).heap.size = W4.heap.size + 1 + 1 := by simp [World.drewN]
   have hR6' := hR6.out
   have hW46 := Aside0.mk (show ∀ k, k < W4.heap.size → (((W4.alloc (.cells #[.pointer (some ⟨a, 0, none⟩)] 49)).drewN (m5 + m6)).alloc (.cells #[.int .u16 (s : Int)] 51)).heap[k]? = W4.heap[k]? from fun k hk => (Below.heap_alloc _ _ k (by simp [World.drewN]; omega)).trans (Below.heap_alloc W4 _ k hk))
   clear hR6 hG5 hx5 j7 hR4
   generalize ((W4.alloc (.cells #[.pointer (some ⟨a, 0, none⟩)] 49)).drewN (m5 + m6)).alloc (.cells #[.int .u16 (s : Int)] 51) = W6 at *
   have hp4 := Aside0.mk (show W4.heap.size = W4.heap.size from rfl)
   generalize hpp : W4.heap.size = p at *
   have hW47 := Aside0.mk (show ∀ k, k < p → (W6.alloc (.cells #[.int .u16 (s : Int)] 51)).heap[k]? = W4.heap[k]? from fun k hk => (Below.heap_alloc W6 _ k (by omega)).trans (hW46.out k hk))
   have hpp' := Aside0.mk hpp
   clear hpp hp4
   have hG7 := hG6.below ((Below.refl _ W6).alloc (Nat.le_refl _) (.cells #[.int .u16 (s : Int)] 51))
   have hb7 := hb6.alloc (.cells #[.int .u16 (s : Int)] 51)
   have hs7 := hs6.alloc (.cells #[.int .u16 (s : Int)] 51)
   have hR7 := hR6'.alloc (.cells #[.int .u16 (s : Int)] 51)
   have hk7 := (box_at W6 51 (.int .u16 (s : Int)) (p + 1 + 1) hz6).cell
   have hz7 : (W6.alloc (.cells #[.int .u16 (s : Int)] 51)).heap.size = p + 1 + 1 + 1 := by simp [hz6]
   try simp only [hz6]
   generalize W6.alloc (.cells #[.int .u16 (s : Int)] 51) = W7 at *
   have hsl : s < 2 ^ l0.length := setP_lt hs'.out
   have hn8 : l0.length ≤ 8 := by have := hOk'.out.n8; rw [hts'.out] at this; exact this
   have hG7' := Aside0.mk hG7
   have hb7' := Aside0.mk hb7
   have hs7' := Aside0.mk hs7
   have hR7' := Aside0.mk hR7
   clear hG6 hb6 hs6 hR6' hz6 hG7 hb7 hs7 hR7
   have hz77 := Aside0.mk hz7
   refine wp_all1 (p + 1 + 1) s (lt256 hsl hn8) rfl (by omega) hk7 (hT'.out.below hR7'.out.bel) rfl rfl rfl (by simp)
    (fun pre W => Below W7.heap.size W7 W ∧ ∀ k ∈ pre, G.nd.getD k 0 &&& s = G.nd.getD k 0)
    (fun c pre W => match c with | .ret => Rs w q (.pointer none) (.int .u16 0) (.bool false) W ∧ ∃ k ∈ pre, ¬ (G.nd.getD k 0 &&& s = G.nd.getD k 0) | _ => False)
    (OwnFrom.and (ownFrom_below (Nat.le_refl _) (Nat.le_refl _)) (fun _ _ _ _ h _ _ => h))
    (fun c pre W W' row h hg hr => by
     cases c <;> first | exact h.elim | exact ⟨own_Rs w q _ _ _ _ hR7'.out.bel.size pre W W' row h.1 hg hr, h.2⟩)
    ⟨Below.refl _ _, fun k hk => by cases hk⟩ (fun pre W h => hT'.out.below (below_step hR7'.out.bel h.1)) ?body ?done ?stop
   case body =>
    rintro l pre x W hx8 hxs ⟨hB, hpre⟩ hlen
    simp only [List.setIfInBounds_toArray, List.set_cons_zero, List.set_cons_succ]
    have hxl : x < l0.length := bit_lt hsl hxs
    obtain ⟨A2, c2, A3, c3, A4, c4, A5, c5, A6, c6, hblk, _, ⟨hC1, _⟩, _⟩ := hG7'.out.below hB
    have hndl : G.gr.nd.length = l0.length := by rw [← hts'.out, ← hOk'.out.nl]; exact nI_length _
    obtain ⟨ad1, rfl, hx1⟩ := Kd.at_int hC1 (x : Int) (by omega) (by rw [hndl]; exact_mod_cast hxl)
    obtain ⟨nx, hnx⟩ : ∃ v, G.nd.getD x 0 = v := ⟨_, rfl⟩
    have hn2 : rd G.gr.nd (x : Int) = (nx : Int) := by rw [← hnx]; exact rd_nI G.nd x
    simp only [Int.toNat_natCast, hn2] at hx1
    have hnl : nx < 256 := by rw [← hnx]; exact lt256 (hOk'.out.nlt x) hOk'.out.n8
    have hg1 : W.cell? ⟨a, 1, none⟩ = some (.slice (some ad1) l0.length c3) := (blk_cell hblk 1).trans (by rw [← hndl]; rfl)
    have j7 : W.cell? ⟨p, 0, none⟩ = some (.pointer (some ⟨a, 0, none⟩)) := (show Boxed W p _ _ from (hB.block p (by omega)).trans hb7'.out).cell
    have j8 : W.cell? ⟨p + 1, 0, none⟩ = some (.int .u16 (s : Int)) := (show Boxed W (p + 1) _ _ from (hB.block (p + 1) (by omega)).trans hs7'.out).cell
    have hR8 := Aside0.mk (hR7'.out.below hB)
    have hxl' : (x : Int) < (l0.length : Int) := by omega
    clear hblk hC1 hn2
    have hB' := Aside0.mk hB
    have hpre' := Aside0.mk hpre
    have hnx' := Aside0.mk hnx
    have hz := andNot_zero nx hnl s (lt256 hsl hn8)
    have hz' := Aside0.mk hz
    clear hB hpre hnx hz
    by_cases hsub : nx &&& s = nx
    ·have hv : (Go.bits .andNot .u16 (nx : Int) (s : Int) != 0) = false := by rw [hz'.out.2 hsub]; rfl
     have hsub' := Aside0.mk hsub
     clear hsub
     try gi_wp2
     refine wpIn_region_quiet_lit (by rintro ⟨_, _, h⟩; exact h) (by kernel_rfl) (by kernel_rfl) (by kernel_rfl) ?_
     repeat (go_big_quiet_step (fail))
     refine wpQuiet_nil ?_
     rintro _ ⟨nq, rfl⟩
     try gi_wp2
     refine ⟨⟨Nat.le_refl _, fun _ _ _ h _ => h⟩, pw_below_drewN hB'.out _, fun k hk => ?_⟩
     rcases List.mem_append.1 hk with hk | hk
     ·exact hpre'.out k hk
     ·rw [List.mem_singleton] at hk
      rw [hk, hnx'.out]
      exact hsub'.out
    ·have hv : (Go.bits .andNot .u16 (nx : Int) (s : Int) != 0) = true := bne_iff_ne.2 (fun h => hsub (hz'.out.1 h))
     have hsub' := Aside0.mk hsub
     clear hsub
     have j0 := hR8.out.h0.cell
     have j1 := hR8.out.h1.cell
     have j2 := hR8.out.h2.cell
     have f0 := hR8.out.h0.frozen
     have f1 := hR8.out.h1.frozen
     have f2 := hR8.out.h2.frozen
     try gi_wp2
     refine wpIn_region_quiet_lit (by rintro ⟨_, _, h⟩; exact h) (by kernel_rfl) (by kernel_rfl) (by kernel_rfl) ?_
     repeat (go_big_quiet_step (fail))
     refine wpQuiet_nil ?_
     rintro _ ⟨nq, rfl⟩
     try gi_wp2
     have hR9 := (hR8.out.drewN nq).put (by have := hq'.out; omega) (.pointer none) (.int .u16 0) (.bool false)
     exact ⟨⟨(keeps_put W7.heap.size (W.drewN nq) _ _ _ _ _ _).size, (keeps_put W7.heap.size (W.drewN nq) _ _ _ _ _ _).same⟩, hR9, x, by simp, by rw [hnx'.out]; exact hsub'.out⟩
   case done =>
    rintro D W hD ⟨hB, hpre⟩ hKD
    have hR8 := Aside0.mk (hR7'.out.below hB)
    have hG8 := Aside0.mk (hG7'.out.below hB)
    have j7 : W.cell? ⟨p, 0, none⟩ = some (.pointer (some ⟨a, 0, none⟩)) := (show Boxed W p _ _ from (hB.block p (by omega)).trans hb7'.out).cell
    have j8 : W.cell? ⟨p + 1, 0, none⟩ = some (.int .u16 (s : Int)) := (show Boxed W (p + 1) _ _ from (hB.block (p + 1) (by omega)).trans hs7'.out).cell
    have j0 := hR8.out.h0.cell
    have j1 := hR8.out.h1.cell
    have j2 := hR8.out.h2.cell
    have f0 := hR8.out.h0.frozen
    have f1 := hR8.out.h1.frozen
    have f2 := hR8.out.h2.frozen
    have hB' := Aside0.mk hB
    have hpre' := Aside0.mk hpre
    have hKD' := Aside0.mk hKD
    have hD' := Aside0.mk hD
    have hpq : p + 1 ≠ q := by have := blk_ne hs7'.out hR7'.out.h0 (by decide); omega
    have j8a : ∀ v : Value, (W.setCell ⟨q, 0, none⟩ v).cell? ⟨p + 1, 0, none⟩ = some (.int .u16 (s : Int)) := fun v => Boxed.cell (t := 51) (blk_far ((hB.block (p + 1) (by omega)).trans hs7'.out) hpq v)
    clear hB hpre hKD hD hk7 hz7 hpq
    go_wp2
    go_region
    go_wp2
    have hR9 := hR8.out.put (by have := hq'.out; omega) (.pointer (some ⟨a, 0, none⟩)) (.int .u16 (s : Int)) (.bool true)
    have hk9 := keeps_put W7.heap.size W ⟨q, 0, none⟩ ⟨q + 1, 0, none⟩ ⟨q + 1 + 1, 0, none⟩ (.pointer (some ⟨a, 0, none⟩)) (.int .u16 (s : Int)) (.bool true)
    have hrow : ∀ k, W3.heap.size ≤ k → k < W4.heap.size → (((W.setCell ⟨q, 0, none⟩ (.pointer (some ⟨a, 0, none⟩))).setCell ⟨q + 1, 0, none⟩ (.int .u16 (s : Int))).setCell ⟨q + 1 + 1, 0, none⟩ (.bool true)).drew.heap[k]? = W4.heap[k]? := by
     intro k h1 h2
     have hz3 := hsz'.out
     have h3 : k < p := by rw [← hpp'.out]; exact h2
     show (((W.setCell _ _).setCell _ _).setCell _ _).heap[k]? = _
     rw [Below.heap_setCell _ _ _ k (show k ≠ q + 1 + 1 by omega), Below.heap_setCell _ _ _ k (show k ≠ q + 1 by omega), Below.heap_setCell _ _ _ k (show k ≠ q by omega), hB'.out.block k (by have := hz77.out; omega)]
     exact hW47.out k h3
    refine retM (B := W7.heap.size) (fun U => Rs w q (.pointer (some ⟨a, 0, none⟩)) (.int .u16 (s : Int)) (.bool true) U ∧ ∀ k, W3.heap.size ≤ k → k < W4.heap.size → U.heap[k]? = W4.heap[k]?) (OwnFrom.and (own_Rs _ _ _ _ _ _ hR7'.out.bel.size) (fun _ X X' row h hg hr k h1 h2 => by
     have hlt : k < X.heap.size := by
      have h3 := h k h1 h2
      rw [Array.getElem?_eq_getElem h2] at h3
      exact (Array.getElem?_eq_some_iff.1 h3).1
     rw [hg.block k hlt (fun e => by have := (hr k e.symm).1; have := hz77.out; have := hpp'.out; omega)]
     exact h k h1 h2)) ⟨⟨D, rfl, hD'.out, hk9.same D _ hD'.out hKD'.out rfl, by simp⟩, trivial⟩ ⟨hR9.drewN 1, hrow⟩ ?_
    rintro U ⟨h, hrow2⟩
    have k0 := h.h0.cell
    have k1 := h.h1.cell
    have k2 := h.h2.cell
    refine ⟨.tuple #[.pointer (some ⟨a, 0, none⟩), .int .u16 (s : Int), .bool true], by simp [results, Tryd.results39, go_sem, k0, k1, k2], some ⟨a, 0, none⟩, s, true, rfl, h.bel, fun hn => ?_, fun G' s' hn => ?_⟩
    ·unfold doneP at hn
     rw [hg'.out] at hn
     simp only [hs'.out] at hn
     rw [if_pos (show closedP G.nd s = true from List.all_eq_true.2 (fun k hk => beq_iff_eq.2 (hpre'.out k hk)))] at hn
     cases hn
    ·unfold doneP at hn
     rw [hg'.out] at hn
     simp only [hs'.out] at hn
     split at hn
     ·injection hn with hn
      injection hn with h1 h2
      subst h1
      exact ⟨rfl, h2, a, rfl, hGU.out U (Kd.C_below hr0'.out h.bel) (fun k h1 h2 => hrow2 k h1 (by rw [hpp'.out]; exact h2))⟩
     ·cases hn
   case stop =>
    rintro D c pre W hD hp h hKD
    cases c <;> first | exact h.elim | skip
    obtain ⟨hR8, k, hk, hsub⟩ := h
    have hR8' := Aside0.mk hR8
    have hKD' := Aside0.mk hKD
    have hD' := Aside0.mk hD
    clear hR8 hKD hD
    go_wp2
    refine retM (B := W7.heap.size) (fun W => Rs w q (.pointer none) (.int .u16 0) (.bool false) W) (own_Rs _ _ _ _ _ _ hR7'.out.bel.size) ⟨⟨D, rfl, hD'.out, hKD'.out, by simp⟩, trivial⟩ hR8'.out ?_
    intro W' h
    have k0 := h.h0.cell
    have k1 := h.h1.cell
    have k2 := h.h2.cell
    refine ⟨.tuple #[.pointer none, .int .u16 0, .bool false], by simp [results, Tryd.results39, go_sem, k0, k1, k2], none, 0, false, rfl, h.bel, fun _ => rfl, fun G' s' h => ?_⟩
    unfold doneP at h
    rw [hg'.out] at h
    simp only [hs'.out] at h
    split at h
    ·rename_i hc
     have := List.all_eq_true.1 hc k (hp.subset hk)
     exact absurd (by simpa using this) hsub
    ·cases h
end Go.Proofs.YtajapkjplgaigaaDoor.P
end
section
namespace Go.Proofs.YtajapkjplgaigaaDoor.P
open Go.RowKit Go.Shelf Go.Proofs.YtajapkjplgaigaaDoorW.PrintWords Go.Proofs.YtajapkjplgaigaaDoorW.PrintLast Go.Proofs.YtajapkjplgaigaaDoorW.PrintMore
attribute [local go_sem] Oper.semAt_some
set_option linter.unusedVariables false
set_option linter.unusedSimpArgs false
def readyStepN (nd : List Nat) (s : Nat) (o i : Nat) : Nat := if canP nd s i then o ||| 2 ^ i else o
def readyN (nd : List Nat) (s : Nat) : Nat := (List.range nd.length).foldl (readyStepN nd s) 0
theorem subB_nat (a b : Nat) (ha : a < 256) (hb : b < 256) : subB (a : Int) (b : Int) = (a &&& b == a) := by
 unfold subB
 have := andNot_zero a ha b hb
 by_cases h : a &&& b = a
 ·rw [this.2 h, h]; simp
 ·have h2 : Go.bits .andNot .u16 (a : Int) (b : Int) ≠ 0 := fun e => h (this.1 e)
  rw [beq_eq_false_iff_ne.2 h2, beq_eq_false_iff_ne.2 h]
theorem ready_fold {n : Nat} (nd : List Nat) (hn : n ≤ 8) (hl : nd.length = n) (hnd : ∀ i, nd.getD i 0 < 2 ^ n) (s : Nat) (hs : s < 2 ^ n) : ∀ (l : List Nat) (o : Nat), (∀ i ∈ l, i < n) → o < 2 ^ n →
  l.foldl (readyStep (nI nd) (s : Int)) (o : Int) = ((l.foldl (readyStepN nd s) o : Nat) : Int) ∧ l.foldl (readyStepN nd s) o < 2 ^ n
 | [], o, _, ho => ⟨rfl, ho⟩
 | i :: l, o, hi, ho => by
  have hin := hi i List.mem_cons_self
  have e : readyStep (nI nd) (s : Int) (o : Int) i = ((readyStepN nd s o i : Nat) : Int) := by
   unfold readyStep readyStepN canP
   rw [hasB_nat s (lt256 hs hn) i (by omega), rd_nI, subB_nat _ _ (lt256 (hnd i) hn) (lt256 hs hn), withI_nat o i (lt256 ho hn) (by omega)]
   split <;> rfl
  have ho2 : readyStepN nd s o i < 2 ^ n := by
   unfold readyStepN
   split
   ·exact with_lt ho hin
   ·exact ho
  rw [List.foldl_cons, List.foldl_cons, e]
  exact ready_fold nd hn hl hnd s hs l _ (fun k hk => hi k (List.mem_cons_of_mem _ hk)) ho2
theorem readyP_eq {n : Nat} (nd : List Nat) (hn : n ≤ 8) (hl : nd.length = n) (hnd : ∀ i, nd.getD i 0 < 2 ^ n) (s : Nat) (hs : s < 2 ^ n) : readyP (nI nd) (s : Int) = (readyN nd s : Int) ∧ readyN nd s < 2 ^ n := by
 have := ready_fold nd hn hl hnd s hs (List.range nd.length) 0 (fun i hi => by rw [List.mem_range] at hi; omega) (Nat.two_pow_pos n)
 unfold readyP readyN
 rw [nI_length]
 exact this
theorem doneP_ok {ts : List TT} {done : List Int} {G : GrN} {s : Nat} (h : doneP ts done = some (G, s)) : graphP ts = some G ∧ G.ts = ts ∧ GOk G ∧ setP done ts.length = some s ∧ closedP G.nd s = true ∧ s < 2 ^ ts.length := by
 unfold doneP at h
 cases hg : graphP ts with
 | none => rw [hg] at h; cases h
 | some G' =>
  rw [hg] at h
  simp only at h
  cases hs : setP done ts.length with
  | none => rw [hs] at h; cases h
  | some s' =>
   rw [hs] at h
   simp only at h
   split at h
   ·rename_i hc
    injection h with h
    injection h with h1 h2
    subst h1 h2
    obtain ⟨a, b, c⟩ := graphP_ok hg
    exact ⟨rfl, a, c, rfl, hc, setP_lt hs⟩
   ·cases h
theorem ready_callsN (g : Nat) (G : GrN) (hOk : GOk G) (s : Nat) (hs : s < 2 ^ G.ts.length) (w : World) (hG : IsG w g G.gr) : Calls Tryd.prog 46 #[.pointer (some ⟨g, 0, none⟩), .int .u16 (s : Int)] w fun e w' => e = .returned (.int .u16 ((readyN G.nd s : Nat) : Int)) ∧ Drawn0 w w' := by
 have h := ready_calls g G.gr (s : Int) w hG (by show (nI G.nd).length < _; rw [nI_length, hOk.nl]; have := hOk.n8; omega)
 rw [show readyP G.gr.nd (s : Int) = ((readyN G.nd s : Nat) : Int) from (readyP_eq G.nd hOk.n8 hOk.nl hOk.nlt s hs).1] at h
 exact h
theorem list_callsB (s : Nat) (hs : s < 256) (w : World) (B : Nat) (hB : B ≤ w.heap.size) (hT : TabOK w) :
  Calls Tryd.prog 47 #[.int .u16 (s : Int)] w fun e w' => ∃ v : Value, e = .returned v ∧ Kd.R (Kd.int .i64) 3 w' B (fun _ => True) v (ivs (bitsN s)) ∧ Below w.heap.size w w' := by
 refine (list_calls s hs w hT).mono ?_
 rintro e w' ⟨v, rfl, hR, hb⟩
 exact ⟨v, rfl, Kd.R_lower hR hB, hb⟩
def impl_ValidDone.f (l0 : List TT) (l1 : List Int) : Option (Bool) := some (doneP l0 l1).isSome
def impl_ReadyTasks.f (l0 : List TT) (l1 : List Int) : Option (List Int) := some (match doneP l0 l1 with | none => [] | some (G, s) => ivs (bitsN (readyN G.nd s)))
set_option maxRecDepth 100000 in
set_option maxHeartbeats 1000000 in
theorem impl_ReadyTasks.calls (A0 : Option Addr) (c0 : Nat) (l0 : List TT) (A1 : Option Addr) (c1 : Nat) (l1 : List Int) (r : List Int) (w : World) (hr0 : Kd.C k39 w A0 l0.length l0) (hc0 : l0.length ≤ c0) (hr1 : Kd.C (Kd.int .i64) w A1 l1.length l1) (hc1 : l1.length ≤ c1) (h : impl_ReadyTasks.f l0 l1 = some r) (hTab : TabOK w) :
  Calls Tryd.prog 15 #[.slice A0 l0.length c0, .slice A1 l1.length c1] w fun e w' => ∃ v0_ : Value, e = .returned (v0_) ∧ Kd.R (Kd.int .i64) 3 w' w.heap.size (fun _ => True) v0_ r ∧ Below w.heap.size w w' := by
 have dc := Aside0.mk (doneIn_calls A0 c0 l0 A1 c1 l1 w hr0 hc0 hr1 hc1 hTab)
 have hT' := Aside0.mk hTab
 unfold impl_ReadyTasks.f at h
 injection h with h
 clear hr0 hr1 hTab
 cases hd : doneP l0 l1 with
 | none =>
  rw [hd] at h
  simp only at h
  subst h
  have hd' := Aside0.mk hd
  clear hd
  go_enter Tryd.func15, Tryd.ntmps15
  go_wp2_with (go_at_call 39; refine dc.out.mono ?_; rintro e w1 ⟨g, s, b, rfl, hB, hno, hyes⟩; obtain rfl := hno hd'.out; have hB' := Aside0.mk hB; clear hB hno hyes)
  go_ret
  exact ⟨_, rfl, Kd.R_nil _ _ _ _ _, hB'.out⟩
 | some Gs =>
  obtain ⟨G, s⟩ := Gs
  rw [hd] at h
  simp only at h
  subst h
  obtain ⟨hg, hts, hOk, hs, hc, hsl⟩ := doneP_ok hd
  have hd' := Aside0.mk hd
  rw [← hts] at hsl
  have hrd := readyP_eq G.nd hOk.n8 hOk.nl hOk.nlt s hsl
  have hrd' := Aside0.mk hrd
  have hsl' := Aside0.mk hsl
  have hOk' := Aside0.mk hOk
  clear hd hg hts hs hc hsl hrd hOk
  go_enter Tryd.func15, Tryd.ntmps15
  go_wp2_with (first | (go_at_call 39; refine dc.out.mono ?_; rintro e w1 ⟨g, s2, b, rfl, hB, hno, hyes⟩; obtain ⟨rfl, hss, a, rfl, hG⟩ := hyes G s hd'.out; obtain rfl := hss.symm; have hB' := Aside0.mk hB; have hG' := Aside0.mk hG; have hT1 := Aside0.mk (hT'.out.below hB); clear hB hno hyes hG) | (go_at_call 46; refine (ready_callsN a G hOk'.out s hsl'.out _ hG'.out).mono ?_; rintro e w2 ⟨rfl, ⟨m2, rfl⟩⟩) | (go_at_call 47; refine (list_callsB (readyN G.nd s) (lt256 hrd'.out.2 hOk'.out.n8) _ w.heap.size (pw_below_drewN hB'.out m2).size (hT1.out.below (pw_below_drewN (Below.refl _ _) m2))).mono ?_; rintro e w3 ⟨v, rfl, hR, hB3⟩; have hR3 := Aside0.mk hR; have hB4 := Aside0.mk (below_step (pw_below_drewN hB'.out m2) hB3); clear hR hB3))
  go_ret
  exact ⟨_, rfl, hR3.out, hB4.out⟩
end Go.Proofs.YtajapkjplgaigaaDoor.P
end
section
namespace Go.Proofs.YtajapkjplgaigaaDoor.P
open Go.RowKit Go.Shelf Go.Proofs.YtajapkjplgaigaaDoorW.PrintWords Go.Proofs.YtajapkjplgaigaaDoorW.PrintLast Go.Proofs.YtajapkjplgaigaaDoorW.PrintMore
attribute [local go_sem] Oper.semAt_some
set_option linter.unusedVariables false
set_option linter.unusedSimpArgs false
def diffN (a b : Nat) : Nat := a ^^^ (a &&& b)
theorem within_calls (a b c : Int) (r : Bool) (hr : decide (b ≤ a ∧ a ≤ c) = r) (w : World) : Calls Tryd.prog 48 #[.int .i64 a, .int .i64 b, .int .i64 c] w fun e w' => e = .returned (.bool r) ∧ Drawn0 w w' :=
 impl_within.calls a b c _ w (by rw [within_eq, hr])
theorem size_callsN (g : Nat) (G : GrN) (n : Nat) (hn : G.ts.length = n) (w : World) (hG : IsG w g G.gr) : Calls Tryd.prog 40 #[.pointer (some ⟨g, 0, none⟩)] w fun e w' => e = .returned (.int .i64 (n : Int)) ∧ Drawn0 w w' := by
 subst hn
 exact size_calls g G.gr w hG
theorem has_callsN (s i : Nat) (hs : s < 256) (hi : i < 8) (w : World) : Calls Tryd.prog 49 #[.int .u16 (s : Int), .int .i64 (i : Int)] w fun e w' => e = .returned (.bool (s.testBit i)) ∧ Drawn0 w w' := by
 have := hasB_calls (s : Int) (i : Int) (by omega) w
 rw [hasB_nat s hs i hi] at this
 exact this
theorem with_callsN (s i : Nat) (hs : s < 256) (hi : i < 8) (w : World) : Calls Tryd.prog 50 #[.int .u16 (s : Int), .int .i64 (i : Int)] w fun e w' => e = .returned (.int .u16 ((s ||| 2 ^ i : Nat) : Int)) ∧ Drawn0 w w' := by
 have := withI_calls (s : Int) (i : Int) (by omega) w
 rw [withI_nat s i hs hi] at this
 exact this
def finishP (ts : List TT) (done : List Int) (at_ : Int) : Option (List Int) := match doneP ts done with
 | none => none
 | some (G, s) => if 0 ≤ at_ ∧ at_ < ts.length then (if (readyN G.nd s).testBit at_.toNat then some (ivs (bitsN (s ||| 2 ^ at_.toNat))) else none) else none
def impl_FinishTask.f (l0 : List TT) (l1 : List Int) (a2 : Int) : Option (List Int × Bool) := some (match finishP l0 l1 a2 with | none => ([], false) | some l => (l, true))
def impl_WaitsFor.f (l0 : List TT) (l1 : List Int) (a2 : Int) : Option (List Int) := some (match doneP l0 l1 with
 | none => []
 | some (G, s) => if 0 ≤ a2 ∧ a2 < l0.length then ivs (bitsN (diffN (G.nd.getD a2.toNat 0) s)) else [])
set_option maxRecDepth 100000 in
set_option maxHeartbeats 1000000 in
theorem impl_FinishTask.calls (A0 : Option Addr) (c0 : Nat) (l0 : List TT) (A1 : Option Addr) (c1 : Nat) (l1 : List Int) (a2 : Int) (r1 : List Int) (r2 : Bool) (w : World) (hr0 : Kd.C k39 w A0 l0.length l0) (hc0 : l0.length ≤ c0) (hr1 : Kd.C (Kd.int .i64) w A1 l1.length l1) (hc1 : l1.length ≤ c1) (h : impl_FinishTask.f l0 l1 a2 = some (r1, r2)) (hTab : TabOK w) :
  Calls Tryd.prog 16 #[.slice A0 l0.length c0, .slice A1 l1.length c1, .int .i64 a2] w fun e w' => ∃ v0_ : Value, e = .returned (.tuple #[v0_, .bool r2]) ∧ Kd.R (Kd.int .i64) 3 w' w.heap.size (fun _ => True) v0_ r1 ∧ Below w.heap.size w w' := by
 have dc := Aside0.mk (doneIn_calls A0 c0 l0 A1 c1 l1 w hr0 hc0 hr1 hc1 hTab)
 have hT' := Aside0.mk hTab
 unfold impl_FinishTask.f at h
 injection h with h
 clear hr0 hr1 hTab
 cases hd : doneP l0 l1 with
 | none =>
  have hf : finishP l0 l1 a2 = none := by unfold finishP; rw [hd]
  rw [hf] at h
  injection h with h1 h2
  subst h1 h2
  have hd' := Aside0.mk hd
  clear hd hf
  go_enter Tryd.func16, Tryd.ntmps16
  go_wp2_with (go_at_call 39; refine dc.out.mono ?_; rintro e w1 ⟨g, s, b, rfl, hB, hno, hyes⟩; obtain rfl := hno hd'.out; have hB' := Aside0.mk hB; clear hB hno hyes)
  refine bodyPost_ret (results_tmp2 rfl _ _ _) rfl ?_
  exact ⟨_, rfl, Kd.R_nil _ _ _ _ _, hB'.out⟩
 | some Gs =>
  obtain ⟨G, s⟩ := Gs
  obtain ⟨hg, hts, hOk, hs, hc, hsl⟩ := doneP_ok hd
  have hd' := Aside0.mk hd
  rw [← hts] at hsl
  have hrd := readyP_eq G.nd hOk.n8 hOk.nl hOk.nlt s hsl
  have hrd' := Aside0.mk hrd
  have hsl' := Aside0.mk hsl
  have hOk' := Aside0.mk hOk
  have hts' := Aside0.mk hts
  have hn8 := hOk.n8
  rw [hts] at hn8
  have w1e : wrap64 ((l0.length : Int) - 1) = (l0.length : Int) - 1 := IntWalk.wrap64_in _ (by omega)
  clear hg hts hs hc hsl hrd hOk
  by_cases hat : 0 ≤ a2 ∧ a2 < l0.length
  ·obtain ⟨i, rfl⟩ : ∃ i : Nat, a2 = (i : Int) := ⟨a2.toNat, by omega⟩
   have hi : i < l0.length := by omega
   have hwi : decide ((0 : Int) ≤ (i : Int) ∧ (i : Int) ≤ (l0.length : Int) - 1) = true := decide_eq_true (by omega)
   cases hb : (readyN G.nd s).testBit i with
   | true =>
    have hf : finishP l0 l1 (i : Int) = some (ivs (bitsN (s ||| 2 ^ i))) := by unfold finishP; simp only [hd, if_pos hat, Int.toNat_natCast, hb, if_true]
    rw [hf] at h
    injection h with h1 h2
    subst h1 h2
    have hb' := Aside0.mk hb
    have hss8 := Aside0.mk (show s ||| 2 ^ i < 256 from lt256 (with_lt hsl'.out (by rw [hts'.out]; exact hi)) hOk'.out.n8)
    have hhas := Aside0.mk (fun W => has_callsN (readyN G.nd s) i (lt256 hrd'.out.2 hOk'.out.n8) (by omega) W)
    have hwith := Aside0.mk (fun W => with_callsN s i (lt256 hsl'.out hOk'.out.n8) (by omega) W)
    rw [hb] at hhas
    clear hd hf hb hat hi
    go_enter Tryd.func16, Tryd.ntmps16
    go_wp2_with (first | (go_at_call 39; refine dc.out.mono ?_; rintro e w1 ⟨g, s2, b, rfl, hB, hno, hyes⟩; obtain ⟨rfl, hss, a, rfl, hG⟩ := hyes G s hd'.out; obtain rfl := hss.symm; have hB' := Aside0.mk hB; have hG' := Aside0.mk hG; have hT1 := Aside0.mk (hT'.out.below hB); clear hB hno hyes hG) | (go_at_call 40; refine (size_callsN a G l0.length (by rw [hts'.out]) _ hG'.out).mono ?_; rintro e w2 ⟨rfl, ⟨m2, rfl⟩⟩) | (go_at_call 48; go_loud (refine (within_calls _ _ _ _ hwi _).mono ?_; rintro e w3 ⟨rfl, ⟨m3, rfl⟩⟩)) | (go_at_call 46; refine (ready_callsN a G hOk'.out s hsl'.out _ (IsG.drewN hG'.out _)).mono ?_; rintro e w4 ⟨rfl, ⟨m4, rfl⟩⟩) | (go_at_call 49; refine (hhas.out _).mono ?_; rintro e w5 ⟨rfl, ⟨m5, rfl⟩⟩) | (go_at_call 50; go_loud (refine (hwith.out _).mono ?_; rintro e w6 ⟨rfl, ⟨m6, rfl⟩⟩)) | (go_at_call 47; go_loud (refine (list_callsB (s ||| 2 ^ i) hss8.out _ w.heap.size (pw_below_drewN hB'.out _).size (hT1.out.below (pw_below_drewN (Below.refl _ _) _))).mono ?_; rintro e w7 ⟨v, rfl, hR, hB3⟩; have hR3 := Aside0.mk hR; have hB4 := Aside0.mk (below_step (pw_below_drewN hB'.out _) hB3); clear hR hB3)))
    refine bodyPost_ret (results_tmp2 rfl _ _ _) rfl ?_
    exact ⟨_, rfl, hR3.out, hB4.out⟩
   | false =>
    have hf : finishP l0 l1 (i : Int) = none := by unfold finishP; simp only [hd, if_pos hat, Int.toNat_natCast, hb, Bool.false_eq_true, if_false]
    rw [hf] at h
    injection h with h1 h2
    subst h1 h2
    have hhas := Aside0.mk (fun W => has_callsN (readyN G.nd s) i (lt256 hrd'.out.2 hOk'.out.n8) (by omega) W)
    rw [hb] at hhas
    clear hd hf hb hat hi
    go_enter Tryd.func16, Tryd.ntmps16
    go_wp2_with (first | (go_at_call 39; refine dc.out.mono ?_; rintro e w1 ⟨g, s2, b, rfl, hB, hno, hyes⟩; obtain ⟨rfl, hss, a, rfl, hG⟩ := hyes G s hd'.out; obtain rfl := hss.symm; have hB' := Aside0.mk hB; have hG' := Aside0.mk hG; have hT1 := Aside0.mk (hT'.out.below hB); clear hB hno hyes hG) | (go_at_call 40; refine (size_callsN a G l0.length (by rw [hts'.out]) _ hG'.out).mono ?_; rintro e w2 ⟨rfl, ⟨m2, rfl⟩⟩) | (go_at_call 48; go_loud (refine (within_calls _ _ _ _ hwi _).mono ?_; rintro e w3 ⟨rfl, ⟨m3, rfl⟩⟩)) | (go_at_call 46; refine (ready_callsN a G hOk'.out s hsl'.out _ (IsG.drewN hG'.out _)).mono ?_; rintro e w4 ⟨rfl, ⟨m4, rfl⟩⟩) | (go_at_call 49; refine (hhas.out _).mono ?_; rintro e w5 ⟨rfl, ⟨m5, rfl⟩⟩))
    refine bodyPost_ret (results_tmp2 rfl _ _ _) rfl ?_
    exact ⟨_, rfl, Kd.R_nil _ _ _ _ _, pw_below_drewN hB'.out _⟩
  ·have hf : finishP l0 l1 a2 = none := by unfold finishP; simp only [hd, if_neg hat]
   rw [hf] at h
   injection h with h1 h2
   subst h1 h2
   have hwi : decide ((0 : Int) ≤ a2 ∧ a2 ≤ (l0.length : Int) - 1) = false := decide_eq_false (by omega)
   clear hd hf hat
   go_enter Tryd.func16, Tryd.ntmps16
   go_wp2_with (first | (go_at_call 39; refine dc.out.mono ?_; rintro e w1 ⟨g, s2, b, rfl, hB, hno, hyes⟩; obtain ⟨rfl, hss, a, rfl, hG⟩ := hyes G s hd'.out; obtain rfl := hss.symm; have hB' := Aside0.mk hB; have hG' := Aside0.mk hG; have hT1 := Aside0.mk (hT'.out.below hB); clear hB hno hyes hG) | (go_at_call 40; refine (size_callsN a G l0.length (by rw [hts'.out]) _ hG'.out).mono ?_; rintro e w2 ⟨rfl, ⟨m2, rfl⟩⟩) | (go_at_call 48; go_loud (refine (within_calls _ _ _ _ hwi _).mono ?_; rintro e w3 ⟨rfl, ⟨m3, rfl⟩⟩)))
   refine bodyPost_ret (results_tmp2 rfl _ _ _) rfl ?_
   exact ⟨_, rfl, Kd.R_nil _ _ _ _ _, pw_below_drewN hB'.out _⟩
end Go.Proofs.YtajapkjplgaigaaDoor.P
end
section
namespace Go.Proofs.YtajapkjplgaigaaDoor.P
open Go.RowKit Go.Shelf Go.Proofs.YtajapkjplgaigaaDoorW.PrintWords Go.Proofs.YtajapkjplgaigaaDoorW.PrintLast Go.Proofs.YtajapkjplgaigaaDoorW.PrintMore
attribute [local go_sem] Oper.semAt_some
set_option linter.unusedVariables false
set_option linter.unusedSimpArgs false
def totI (ts : List TT) (xs : List Nat) : Int := xs.foldl (fun (a : Int) (i : Nat) => a + (rd_T39 ts (i : Int)).f0) 0
theorem GOk.time {G : GrN} (h : GOk G) (i : Nat) (hi : i < G.ts.length) : 1 ≤ (rd_T39 G.ts (i : Int)).f0 ∧ (rd_T39 G.ts (i : Int)).f0 ≤ 20 := by
 have := taskP_lt (h.task i _ (List.getElem?_eq_getElem hi))
 have e : rd_T39 G.ts (i : Int) = G.ts[i] := by simp [rd_T39, hi]
 rw [e]
 omega
theorem tot_fold (ts : List TT) : ∀ (xs : List Nat) (a : Int), (∀ i ∈ xs, 1 ≤ (rd_T39 ts (i : Int)).f0 ∧ (rd_T39 ts (i : Int)).f0 ≤ 20) → 0 ≤ a → a + 20 * xs.length ≤ 1000 →
  xs.foldl (fun (a : Int) (i : Nat) => wrap64 (a + (rd_T39 ts (i : Int)).f0)) a = xs.foldl (fun (a : Int) (i : Nat) => a + (rd_T39 ts (i : Int)).f0) a ∧
  a + xs.length ≤ xs.foldl (fun (a : Int) (i : Nat) => a + (rd_T39 ts (i : Int)).f0) a ∧ xs.foldl (fun (a : Int) (i : Nat) => a + (rd_T39 ts (i : Int)).f0) a ≤ a + 20 * xs.length
 | [], a, _, h0, _ => by simp
 | x :: xs, a, h, h0, h1 => by
  have hx := h x List.mem_cons_self
  simp only [List.length_cons] at h1
  have e : wrap64 (a + (rd_T39 ts (x : Int)).f0) = a + (rd_T39 ts (x : Int)).f0 := IntWalk.wrap64_in _ (by omega)
  have ih := tot_fold ts xs (a + (rd_T39 ts (x : Int)).f0) (fun i hi => h i (List.mem_cons_of_mem _ hi)) (by omega) (by omega)
  simp only [List.foldl_cons, e, List.length_cons]
  refine ⟨ih.1, ?_, ?_⟩ <;> omega
theorem totalP_eq (G : GrN) (hOk : GOk G) (s : Nat) (hs : s < 2 ^ G.ts.length) : totalP G.ts (bitsN s) = totI G.ts (bitsN s) ∧ ((bitsN s).length : Int) ≤ totI G.ts (bitsN s) ∧ totI G.ts (bitsN s) ≤ 20 * (bitsN s).length := by
 have h8 := bitsN_len s
 have := tot_fold G.ts (bitsN s) 0 (fun i hi => hOk.time i (bitsN_lt hs i hi)) (by omega) (by omega)
 unfold totalP totI
 refine ⟨this.1, ?_, ?_⟩ <;> omega
theorem total_callsN (g : Nat) (G : GrN) (hOk : GOk G) (s : Nat) (hs : s < 2 ^ G.ts.length) (w : World) (hG : IsG w g G.gr) (hT : TabOK w) :
  Calls Tryd.prog 41 #[.pointer (some ⟨g, 0, none⟩), .int .u16 (s : Int)] w fun e w' => e = .returned (.int .i64 (totI G.ts (bitsN s))) ∧ Below w.heap.size w w' := by
 have := total_calls g G.gr s (lt256 hs hOk.n8) (fun i _ hb => bit_lt hs hb) w hG hT
 rw [show totalP G.gr.ts (bitsN s) = totI G.ts (bitsN s) from (totalP_eq G hOk s hs).1] at this
 exact this
def allN (n : Nat) : Nat := 2 ^ n - 1
theorem every_callsN (n : Nat) (hn : n ≤ 8) (w : World) : Calls Tryd.prog 42 #[.int .i64 (n : Int)] w fun e w' => e = .returned (.int .u16 ((allN n : Nat) : Int)) ∧ Drawn0 w w' := by
 have := everyI_calls n w
 rw [everyI_eq n hn] at this
 exact this
def progressP (ts : List TT) (done : List Int) : Int := match doneP ts done with
 | none => -1
 | some (G, s) => if ts.length = 0 then 1000 else (1000 * totI ts (bitsN s)) / totI ts (bitsN (allN ts.length))
def impl_ProgressOf.f (l0 : List TT) (l1 : List Int) : Option (Int) := some (progressP l0 l1)
set_option maxRecDepth 100000 in
set_option maxHeartbeats 1000000 in
theorem impl_ProgressOf.calls (A0 : Option Addr) (c0 : Nat) (l0 : List TT) (A1 : Option Addr) (c1 : Nat) (l1 : List Int) (r : Int) (w : World) (hr0 : Kd.C k39 w A0 l0.length l0) (hc0 : l0.length ≤ c0) (hr1 : Kd.C (Kd.int .i64) w A1 l1.length l1) (hc1 : l1.length ≤ c1) (h : impl_ProgressOf.f l0 l1 = some r) (hTab : TabOK w) :
  Calls Tryd.prog 13 #[.slice A0 l0.length c0, .slice A1 l1.length c1] w fun e w' => e = .returned (.int .i64 r) ∧ Below w.heap.size w w' := by
 have dc := Aside0.mk (doneIn_calls A0 c0 l0 A1 c1 l1 w hr0 hc0 hr1 hc1 hTab)
 have hT' := Aside0.mk hTab
 unfold impl_ProgressOf.f progressP at h
 injection h with h
 clear hr0 hr1 hTab
 cases hd : doneP l0 l1 with
 | none =>
  rw [hd] at h
  simp only at h
  subst h
  have hd' := Aside0.mk hd
  clear hd
  go_enter Tryd.func13, Tryd.ntmps13
  go_wp2_with (go_at_call 39; refine dc.out.mono ?_; rintro e w1 ⟨g, s, b, rfl, hB, hno, hyes⟩; obtain rfl := hno hd'.out; have hB' := Aside0.mk hB; clear hB hno hyes)
  go_ret
  exact ⟨rfl, hB'.out⟩
 | some Gs =>
  obtain ⟨G, s⟩ := Gs
  obtain ⟨hg, hts, hOk, hs, hc, hsl⟩ := doneP_ok hd
  have hd' := Aside0.mk hd
  rw [← hts] at hsl
  have hsl' := Aside0.mk hsl
  have hOk' := Aside0.mk hOk
  have hts' := Aside0.mk hts
  have hn8 := hOk.n8
  rw [hts] at hn8
  clear hg hs hc hsl
  rw [hd] at h
  simp only at h
  clear hd
  by_cases h0 : l0.length = 0
  ·rw [if_pos h0] at h
   subst h
   have hz : ((l0.length : Int) == 0) = true := by simp [h0]
   have h0' := Aside0.mk h0
   clear h0 hts hOk
   go_enter Tryd.func13, Tryd.ntmps13
   go_wp2_with (first | (go_at_call 39; go_loud (refine dc.out.mono ?_; rintro e w1 ⟨g, s2, b, rfl, hB, hno, hyes⟩; obtain ⟨rfl, hss, a, rfl, hG⟩ := hyes G s hd'.out; obtain rfl := hss.symm; have hB' := Aside0.mk hB; have hG' := Aside0.mk hG; have hT1 := Aside0.mk (hT'.out.below hB); clear hB hno hyes hG)) | (go_at_call 40; first | (refine (size_callsN a G l0.length (by rw [hts'.out]) _ hG'.out).mono ?_; rintro e w2 ⟨rfl, ⟨m2, rfl⟩⟩) | (refine (size_callsN a G l0.length (by rw [hts'.out]) _ (hG3.out)).mono ?_; rintro e w2 ⟨rfl, ⟨m2, rfl⟩⟩)))
   go_ret
   exact ⟨rfl, pw_below_drewN hB'.out _⟩
  ·rw [if_neg h0] at h
   subst h
   have hz : ((l0.length : Int) == 0) = false := by simp [h0]
   have hall : allN l0.length < 2 ^ l0.length := by unfold allN; have := Nat.two_pow_pos l0.length; omega
   have hallG := Aside0.mk (show allN l0.length < 2 ^ G.ts.length by rw [hts]; exact hall)
   have e1 := (totalP_eq G hOk s hsl'.out).2
   have e2 := (totalP_eq G hOk (allN l0.length) hallG.out).2
   rw [hts] at e1 e2
   have hb1 := bitsN_len s
   have hb2 := bitsN_len (allN l0.length)
   have hb3 : 0 < (bitsN (allN l0.length)).length := List.length_pos_of_mem (mem_bitsN.2 ⟨show 0 < 8 by omega, by unfold allN; rw [Nat.testBit_two_pow_sub_one]; simp; omega⟩)
   obtain ⟨T, hT⟩ : ∃ T, totI l0 (bitsN (allN l0.length)) = T := ⟨_, rfl⟩
   obtain ⟨S, hS⟩ : ∃ S, totI l0 (bitsN s) = S := ⟨_, rfl⟩
   rw [hS] at e1 ⊢
   rw [hT] at e2 ⊢
   have hT2 := Aside0.mk (show totI G.ts (bitsN (allN l0.length)) = T by rw [hts]; exact hT)
   have hS2 := Aside0.mk (show totI G.ts (bitsN s) = S by rw [hts]; exact hS)
   have hS0 : 0 ≤ S := by omega
   have hS9 : S ≤ 160 := by omega
   have hT0 : 0 < T := by omega
   have hT9 : T ≤ 160 := by omega
   have hTne : ¬ T = 0 := by omega
   have hw1 : wrap64 (1000 * S) = 1000 * S := IntWalk.wrap64_in _ (by omega)
   have h0' := Aside0.mk h0
   clear h0 hts hOk hall e1 e2 hb1 hb2 hb3 hT hS
   go_enter Tryd.func13, Tryd.ntmps13
   go_wp2_with (first | (go_at_call 39; go_loud (refine dc.out.mono ?_; rintro e w1 ⟨g, s2, b, rfl, hB, hno, hyes⟩; obtain ⟨rfl, hss, a, rfl, hG⟩ := hyes G s hd'.out; obtain rfl := hss.symm; have hB' := Aside0.mk hB; have hG' := Aside0.mk hG; have hT1 := Aside0.mk (hT'.out.below hB); clear hB hno hyes hG)) | (go_at_call 40; first | (refine (size_callsN a G l0.length (by rw [hts'.out]) _ hG'.out).mono ?_; rintro e w2 ⟨rfl, ⟨m2, rfl⟩⟩) | (refine (size_callsN a G l0.length (by rw [hts'.out]) _ (hG3.out)).mono ?_; rintro e w2 ⟨rfl, ⟨m2, rfl⟩⟩)) | (go_at_call 42; go_loud (refine (every_callsN l0.length hn8 _).mono ?_; rintro e w4 ⟨rfl, ⟨m4, rfl⟩⟩)) | (go_at_call 41; first | (refine (total_callsN a G hOk'.out (allN l0.length) hallG.out _ (IsG.drewN hG3.out _) (hT3.out.below (pw_below_drewN (Below.refl _ _) _))).mono ?_; rintro e w5 ⟨rfl, hB5⟩; rw [hT2.out]; have hB6 := Aside0.mk (below_step (pw_below_drewN hB3.out _) hB5); clear hB5) | (refine (total_callsN a G hOk'.out s hsl'.out _ (IsG.drewN hG'.out _) (hT1.out.below (pw_below_drewN (Below.refl _ _) _))).mono ?_; rintro e w3 ⟨rfl, hB4⟩; rw [hS2.out]; have hG3 := Aside0.mk ((IsG.drewN hG'.out _).below hB4); have hB3 := Aside0.mk (below_step (pw_below_drewN hB'.out _) hB4); have hT3 := Aside0.mk ((hT1.out.below (pw_below_drewN (Below.refl _ _) _)).below hB4); clear hB4)))
   go_ret
   exact ⟨rfl, hB6.out⟩
end Go.Proofs.YtajapkjplgaigaaDoor.P
end
section
namespace Go.Proofs.YtajapkjplgaigaaDoor.P
open Go.RowKit Go.Proofs.YtajapkjplgaigaaDoorW.PrintWords Go.Proofs.YtajapkjplgaigaaDoorW.PrintLast Go.Proofs.YtajapkjplgaigaaDoorW.PrintMore
attribute [local go_sem] max2_int min2_int max_two min_two max_three min_three max_four min_four   -- for this text's walks alone
set_option linter.unusedVariables false
set_option linter.unusedSimpArgs false
def spec_toInt.f (a0 : Bool) : Option (Int) := if a0 = true then (some 1) else (some 0)
set_option maxHeartbeats 8000000 in
set_option maxRecDepth 100000 in
theorem spec_toInt.calls (a0 : Bool) (r : Int) (w : World) (h : spec_toInt.f a0 = some r) :
  Calls Tryd.prog 44 #[.bool a0] w fun e w' => e = .returned (.int .i64 r) ∧ Drawn0 w w' := by
 have H : (if a0 = true then (some 1) else (some 0)) = some r := h
 clear h
 by_cases c2 : a0 = true
 ·subst c2
  have H1 : (some 1) = some r := by rw [if_pos rfl] at H; exact H
  clear H
  have H := H1
  clear H1
  obtain rfl := Option.some.inj H
  go_enter Tryd.func44, Tryd.ntmps44
  go_wp2
  go_ret
  exact ⟨by first | rfl | (simp; done) | (simp [*]; done), by repeat (first | exact Drawn0.refl _ | apply Drawn0.step)⟩
 ·replace c2 := Bool.eq_false_iff.mpr c2
  subst c2
  have H1 : (some 0) = some r := by rw [if_neg (show ¬ (false = true) by decide)] at H; exact H
  clear H
  have H := H1
  clear H1
  obtain rfl := Option.some.inj H
  go_enter Tryd.func44, Tryd.ntmps44
  go_wp2
  go_ret
  exact ⟨by first | rfl | (simp; done) | (simp [*]; done), by repeat (first | exact Drawn0.refl _ | apply Drawn0.step)⟩
end Go.Proofs.YtajapkjplgaigaaDoor.P
end
section
namespace Go.Proofs.YtajapkjplgaigaaDoor.P
open Go.RowKit Go.Proofs.YtajapkjplgaigaaDoorW.PrintWords Go.Proofs.YtajapkjplgaigaaDoorW.PrintLast Go.Proofs.YtajapkjplgaigaaDoorW.PrintMore
attribute [local go_sem] max2_int min2_int max_two min_two max_three min_three max_four min_four   -- for this text's walks alone
set_option linter.unusedVariables false
set_option linter.unusedSimpArgs false
def spec_ProgressOf.l0 : Nat → List (S39) → List Int → Int → Int → Int → Option (Int)
 | 0, _, _, _, _, _ => none
 | k + 1, x0, x1, x5, x6, x7 => if x7 < (x0.length : Int) then (if 0 ≤ x7 then ((spec_isIn.f k x1 x7).bind fun t363 => ((spec_toInt.f t363).bind fun t364 => (spec_ProgressOf.l0 k x0 x1 (wrap64 (x5 + (wrap64 (((rd_T39 x0 x7).f0) * t364)))) (wrap64 (x6 + ((rd_T39 x0 x7).f0))) (wrap64 (x7 + 1))))) else (none)) else (if x6 = 0 then (some 1000) else (some (wrap64 (Int.tdiv (wrap64 (1000 * x5)) x6))))
def spec_ProgressOf.f (k : Nat) (l0 : List (S39)) (l1 : List Int) : Option (Int) := (spec_validDone.f k l0 l1).bind fun t360 => (if t360 = true then (spec_ProgressOf.l0 k l0 l1 0 0 0) else (some (-1)))
set_option maxHeartbeats 8000000 in
set_option maxRecDepth 100000 in
theorem spec_ProgressOf.calls (k : Nat) (A0 : Option Addr) (c0 : Nat) (l0 : List (S39)) (A1 : Option Addr) (c1 : Nat) (l1 : List Int) (r : Int) (w : World) (hr0 : Kd.C k39 w A0 l0.length l0) (hc0 : l0.length ≤ c0) (hr1 : Kd.C (Kd.int .i64) w A1 l1.length l1) (hc1 : l1.length ≤ c1) (h : spec_ProgressOf.f k l0 l1 = some r) :
  Calls Tryd.prog 14 #[.slice A0 l0.length c0, .slice A1 l1.length c1] w fun e w' => e = .returned (.int .i64 r) ∧ Below w.heap.size w w' := by
 have HR0 := Aside0.mk hr0
 have HC0 := Aside0.mk hc0
 clear hr0 hc0
 have HR1 := Aside0.mk hr1
 have HC1 := Aside0.mk hc1
 clear hr1 hc1
 have HB := Aside0.mk (Below.refl w.heap.size w)
 have H : ((spec_validDone.f k l0 l1).bind fun t360 => (if t360 = true then (spec_ProgressOf.l0 k l0 l1 0 0 0) else (some (-1)))) = some r := h
 clear h
 replace H := Option.bind_eq_some_iff.mp H
 obtain ⟨t360, A30, H⟩ := H
 replace H : (if t360 = true then (spec_ProgressOf.l0 k l0 l1 0 0 0) else (some (-1))) = some r := H
 have A3 := Aside0.mk A30
 clear A30
 by_cases c4 : t360 = true
 ·subst c4
  have H1 : (spec_ProgressOf.l0 k l0 l1 0 0 0) = some r := by rw [if_pos rfl] at H; exact H
  clear H
  have H := H1
  clear H1
  have H' := Aside0.mk H
  clear H
  go_enter Tryd.func14, Tryd.ntmps14
  go_wp2_with (first | (go_at_call 43; (with_reducible refine (spec_validDone.calls k _ _ l0 _ _ l1 true _ ?side1 ?side2 ?side3 ?side4 A3.out).mono ?_); (case side1 => repeat (first | exact HR0.out | (with_reducible refine Kd.C_alloc ?_ _) | (with_reducible refine Kd.C_drewN ?_ _) | (with_reducible refine Kd.C_drew ?_))); (case side2 => exact HC0.out); (case side3 => repeat (first | exact HR1.out | (with_reducible refine Kd.C_alloc ?_ _) | (with_reducible refine Kd.C_drewN ?_ _) | (with_reducible refine Kd.C_drew ?_))); (case side4 => exact HC1.out); rintro e w5 ⟨rfl, hb⟩; have n0_ := Aside0.mk (below_step (by repeat (first | (with_reducible first | exact HB.out | apply below_alloc | apply pw_below_drewN | apply below_drew1) | exact HB.out)) hb); clear HB; have HB := n0_; clear n0_; (try clear hb); (try clear hb2); (try clear hk); (try clear hi)))
  repeat (go_quiet (first | (go_at_call 43; (with_reducible refine (spec_validDone.calls k _ _ l0 _ _ l1 true _ ?side1 ?side2 ?side3 ?side4 A3.out).mono ?_); (case side1 => repeat (first | exact HR0.out | (with_reducible refine Kd.C_alloc ?_ _) | (with_reducible refine Kd.C_drewN ?_ _) | (with_reducible refine Kd.C_drew ?_))); (case side2 => exact HC0.out); (case side3 => repeat (first | exact HR1.out | (with_reducible refine Kd.C_alloc ?_ _) | (with_reducible refine Kd.C_drewN ?_ _) | (with_reducible refine Kd.C_drew ?_))); (case side4 => exact HC1.out); rintro e w5 ⟨rfl, hb⟩; have n0_ := Aside0.mk (below_step (by repeat (first | (with_reducible first | exact HB.out | apply below_alloc | apply pw_below_drewN | apply below_drew1) | exact HB.out)) hb); clear HB; have HB := n0_; clear n0_; (try clear hb); (try clear hb2); (try clear hk); (try clear hi))); try go_wp2_with (first | (go_at_call 43; (with_reducible refine (spec_validDone.calls k _ _ l0 _ _ l1 true _ ?side1 ?side2 ?side3 ?side4 A3.out).mono ?_); (case side1 => repeat (first | exact HR0.out | (with_reducible refine Kd.C_alloc ?_ _) | (with_reducible refine Kd.C_drewN ?_ _) | (with_reducible refine Kd.C_drew ?_))); (case side2 => exact HC0.out); (case side3 => repeat (first | exact HR1.out | (with_reducible refine Kd.C_alloc ?_ _) | (with_reducible refine Kd.C_drewN ?_ _) | (with_reducible refine Kd.C_drew ?_))); (case side4 => exact HC1.out); rintro e w5 ⟨rfl, hb⟩; have n0_ := Aside0.mk (below_step (by repeat (first | (with_reducible first | exact HB.out | apply below_alloc | apply pw_below_drewN | apply below_drew1) | exact HB.out)) hb); clear HB; have HB := n0_; clear n0_; (try clear hb); (try clear hb2); (try clear hk); (try clear hi))))
  go_loopg [5, 6, 7] k (fun kq v5 v6 v7 w' => ∃ (x5_1 : Int) (x6_1 : Int) (x7_1 : Int), v5 = .int .i64 x5_1 ∧ v6 = .int .i64 x6_1 ∧ v7 = .int .i64 x7_1 ∧ Aside0 (spec_ProgressOf.l0 kq l0 l1 x5_1 x6_1 x7_1 = some r) ∧ Aside0 (kq ≤ k) ∧ Aside0 (Below w.heap.size w w'))
  case atStart => exact ⟨(0), (0), (0), (by first | rfl | (simp; done) | (simp [*]; done)), (by first | rfl | (simp; done) | (simp [*]; done)), (by first | rfl | (simp; done) | (simp [*]; done)), H', ⟨Nat.le_refl _⟩, ⟨by repeat (first | (with_reducible first | exact HB.out | apply below_alloc | apply pw_below_drewN | apply below_drew1) | exact HB.out)⟩⟩
  case round =>
   clear H'
   try clear c1
   try clear p2
   try clear c4
   obtain ⟨x5_1, x6_1, x7_1, rfl, rfl, rfl, HA, HK1, HB⟩ := hrel
   cases gk with
   | zero => exact absurd HA.out (by simp [spec_ProgressOf.l0])
   | succ k1 =>
    have H := HA.out
    clear HA
    simp only [spec_ProgressOf.l0] at H
    by_cases c6 : x7_1 < (l0.length : Int)
    ·rw [if_pos c6] at H
     have c6b0 : decide (x7_1 < (l0.length : Int)) = true := decide_eq_true c6
     clear c6
     by_cases c7 : 0 ≤ x7_1
     ·rw [if_pos c7] at H
      have c7b0 : decide (0 ≤ x7_1) = true := decide_eq_true c7
      clear c7
      replace H := Option.bind_eq_some_iff.mp H
      obtain ⟨t363, A80, H⟩ := H
      replace H : ((spec_toInt.f t363).bind fun t364 => (spec_ProgressOf.l0 k1 l0 l1 (wrap64 (x5_1 + (wrap64 (((rd_T39 l0 x7_1).f0) * t364)))) (wrap64 (x6_1 + ((rd_T39 l0 x7_1).f0))) (wrap64 (x7_1 + 1)))) = some r := H
      have A8 := Aside0.mk A80
      clear A80
      replace H := Option.bind_eq_some_iff.mp H
      obtain ⟨t364, A90, H⟩ := H
      replace H : (spec_ProgressOf.l0 k1 l0 l1 (wrap64 (x5_1 + (wrap64 (((rd_T39 l0 x7_1).f0) * t364)))) (wrap64 (x6_1 + ((rd_T39 l0 x7_1).f0))) (wrap64 (x7_1 + 1))) = some r := H
      have A9 := Aside0.mk A90
      clear A90
      have H' := Aside0.mk H
      clear H
      have p361 : 0 ≤ (x7_1 : Int) := of_decide_eq_true (by first | (with_reducible assumption) | assumption)
      have q361 : x7_1 < (l0.length : Int) := of_decide_eq_true (by first | (with_reducible assumption) | assumption)
      obtain ⟨ad361, A361_1, c361_1, e361, hx361_0, hx361_1, hx361_2, hx361_3, hl361_1, hi361_1⟩ := at_T39 HR0.out x7_1 p361 q361
      cases e361
      replace hx361_0 := (HB.out.cell (World.block_lt_of_cell? w _ hx361_0)).trans hx361_0
      replace hx361_1 := (HB.out.cell (World.block_lt_of_cell? w _ hx361_1)).trans hx361_1
      replace hx361_2 := (HB.out.cell (World.block_lt_of_cell? w _ hx361_2)).trans hx361_2
      replace hx361_3 := (HB.out.cell (World.block_lt_of_cell? w _ hx361_3)).trans hx361_3
      have HR361_1 := Aside0.mk hi361_1
      have HC361_1 := Aside0.mk hl361_1
      clear hi361_1 hl361_1
      replace p361 := eq_true p361
      replace q361 := eq_true q361
      have p362 : 0 ≤ (x7_1 : Int) := of_decide_eq_true (by first | (with_reducible assumption) | assumption)
      have q362 : x7_1 < (l0.length : Int) := of_decide_eq_true (by first | (with_reducible assumption) | assumption)
      obtain ⟨ad362, A362_1, c362_1, e362, hx362_0, hx362_1, hx362_2, hx362_3, hl362_1, hi362_1⟩ := at_T39 HR0.out x7_1 p362 q362
      obtain rfl : ad361 = ad362 := (by injection e362)
      replace hx362_0 := (HB.out.cell (World.block_lt_of_cell? w _ hx362_0)).trans hx362_0
      replace hx362_1 := (HB.out.cell (World.block_lt_of_cell? w _ hx362_1)).trans hx362_1
      replace hx362_2 := (HB.out.cell (World.block_lt_of_cell? w _ hx362_2)).trans hx362_2
      replace hx362_3 := (HB.out.cell (World.block_lt_of_cell? w _ hx362_3)).trans hx362_3
      have HR362_1 := Aside0.mk hi362_1
      have HC362_1 := Aside0.mk hl362_1
      clear hi362_1 hl362_1
      replace p362 := eq_true p362
      replace q362 := eq_true q362
      have ea_ := Option.some.inj (hx361_1.symm.trans hx362_1)
      injection ea_ with ea_ en_ ec_
      subst ea_
      subst ec_
      clear en_
      go_wp2_with (first | (go_at_call 45; (with_reducible refine (spec_isIn.calls k1 _ _ l1 x7_1 t363 _ ?side1 ?side2 A8.out).mono ?_); (case side1 => repeat (first | exact (Kd.C_below HR1.out HB.out) | (with_reducible refine Kd.C_alloc ?_ _) | (with_reducible refine Kd.C_drewN ?_ _) | (with_reducible refine Kd.C_drew ?_))); (case side2 => exact HC1.out); rintro e w' ⟨rfl, ⟨nd, rfl⟩⟩; (try first | exact ⟨rfl, _, World.drewN_drewN _ _ _⟩ | exact ⟨rfl, _, Eq.trans (World.drewN_drewN _ _ _) (congrArg (World.drewN _) (Nat.add_assoc _ _ _))⟩)) | (go_at_call 44; (with_reducible refine (spec_toInt.calls t363 t364 _ A9.out).mono ?_); rintro e w' ⟨rfl, ⟨nd, rfl⟩⟩; (try first | exact ⟨rfl, _, World.drewN_drewN _ _ _⟩ | exact ⟨rfl, _, Eq.trans (World.drewN_drewN _ _ _) (congrArg (World.drewN _) (Nat.add_assoc _ _ _))⟩)))
      repeat (go_quiet (first | (go_at_call 45; (with_reducible refine (spec_isIn.calls k1 _ _ l1 x7_1 t363 _ ?side1 ?side2 A8.out).mono ?_); (case side1 => repeat (first | exact (Kd.C_below HR1.out HB.out) | (with_reducible refine Kd.C_alloc ?_ _) | (with_reducible refine Kd.C_drewN ?_ _) | (with_reducible refine Kd.C_drew ?_))); (case side2 => exact HC1.out); rintro e w' ⟨rfl, ⟨nd, rfl⟩⟩; (try first | exact ⟨rfl, _, World.drewN_drewN _ _ _⟩ | exact ⟨rfl, _, Eq.trans (World.drewN_drewN _ _ _) (congrArg (World.drewN _) (Nat.add_assoc _ _ _))⟩)) | (go_at_call 44; (with_reducible refine (spec_toInt.calls t363 t364 _ A9.out).mono ?_); rintro e w' ⟨rfl, ⟨nd, rfl⟩⟩; (try first | exact ⟨rfl, _, World.drewN_drewN _ _ _⟩ | exact ⟨rfl, _, Eq.trans (World.drewN_drewN _ _ _) (congrArg (World.drewN _) (Nat.add_assoc _ _ _))⟩))); try go_wp2_with (first | (go_at_call 45; (with_reducible refine (spec_isIn.calls k1 _ _ l1 x7_1 t363 _ ?side1 ?side2 A8.out).mono ?_); (case side1 => repeat (first | exact (Kd.C_below HR1.out HB.out) | (with_reducible refine Kd.C_alloc ?_ _) | (with_reducible refine Kd.C_drewN ?_ _) | (with_reducible refine Kd.C_drew ?_))); (case side2 => exact HC1.out); rintro e w' ⟨rfl, ⟨nd, rfl⟩⟩; (try first | exact ⟨rfl, _, World.drewN_drewN _ _ _⟩ | exact ⟨rfl, _, Eq.trans (World.drewN_drewN _ _ _) (congrArg (World.drewN _) (Nat.add_assoc _ _ _))⟩)) | (go_at_call 44; (with_reducible refine (spec_toInt.calls t363 t364 _ A9.out).mono ?_); rintro e w' ⟨rfl, ⟨nd, rfl⟩⟩; (try first | exact ⟨rfl, _, World.drewN_drewN _ _ _⟩ | exact ⟨rfl, _, Eq.trans (World.drewN_drewN _ _ _) (congrArg (World.drewN _) (Nat.add_assoc _ _ _))⟩))))
      go_roundg k1
      case measure => have := HK1.out; omega
      case rel => exact ⟨(wrap64 (x5_1 + (wrap64 (((rd_T39 l0 x7_1).f0) * t364)))), (wrap64 (x6_1 + ((rd_T39 l0 x7_1).f0))), (wrap64 (x7_1 + 1)), (by first | rfl | (simp; done) | (simp [*]; done)), (by first | rfl | (simp; done) | (simp [*]; done)), (by first | rfl | (simp; done) | (simp [*]; done)), H', ⟨by have := HK1.out; omega⟩, ⟨by repeat (first | (with_reducible first | exact HB.out | apply below_alloc | apply pw_below_drewN | apply below_drew1) | exact HB.out)⟩⟩
     ·rw [if_neg c7] at H
      exact absurd H (by simp)
    ·rw [if_neg c6] at H
     have c6b0 : decide (x7_1 < (l0.length : Int)) = false := decide_eq_false c6
     clear c6
     by_cases c10 : x6_1 = 0
     ·rw [if_pos c10] at H
      have c10b0 : (x6_1 == 0) = true := beq_iff_eq.mpr c10
      have c10b1 : (x6_1 != 0) = false := bne_eq_false_iff_eq.mpr c10
      clear c10
      obtain rfl := Option.some.inj H
      go_wp2
      repeat (go_quiet (fail); try go_wp2)
      go_ret
      exact ⟨by first | rfl | (simp [errW_none, errW_some] <;> rfl) | (simp [*, errW_none, errW_some] <;> rfl), by repeat (first | (with_reducible first | exact HB.out | apply below_alloc | apply pw_below_drewN | apply below_drew1) | exact HB.out)⟩
     ·rw [if_neg c10] at H
      have c10b0 : (x6_1 == 0) = false := beq_eq_false_iff_ne.mpr c10
      have c10b1 : (x6_1 != 0) = true := bne_iff_ne.mpr c10
      obtain rfl := Option.some.inj H
      go_wp2
      repeat (go_quiet (fail); try go_wp2)
      go_ret
      exact ⟨by first | rfl | (simp [errW_none, errW_some] <;> rfl) | (simp [*, errW_none, errW_some] <;> rfl), by repeat (first | (with_reducible first | exact HB.out | apply below_alloc | apply pw_below_drewN | apply below_drew1) | exact HB.out)⟩
 ·replace c4 := Bool.eq_false_iff.mpr c4
  subst c4
  have H1 : (some (-1)) = some r := by rw [if_neg (show ¬ (false = true) by decide)] at H; exact H
  clear H
  have H := H1
  clear H1
  obtain rfl := Option.some.inj H
  go_enter Tryd.func14, Tryd.ntmps14
  go_wp2_with (first | (go_at_call 43; (with_reducible refine (spec_validDone.calls k _ _ l0 _ _ l1 false _ ?side1 ?side2 ?side3 ?side4 A3.out).mono ?_); (case side1 => repeat (first | exact HR0.out | (with_reducible refine Kd.C_alloc ?_ _) | (with_reducible refine Kd.C_drewN ?_ _) | (with_reducible refine Kd.C_drew ?_))); (case side2 => exact HC0.out); (case side3 => repeat (first | exact HR1.out | (with_reducible refine Kd.C_alloc ?_ _) | (with_reducible refine Kd.C_drewN ?_ _) | (with_reducible refine Kd.C_drew ?_))); (case side4 => exact HC1.out); rintro e w11 ⟨rfl, hb⟩; have n0_ := Aside0.mk (below_step (by repeat (first | (with_reducible first | exact HB.out | apply below_alloc | apply pw_below_drewN | apply below_drew1) | exact HB.out)) hb); clear HB; have HB := n0_; clear n0_; (try clear hb); (try clear hb2); (try clear hk); (try clear hi)))
  repeat (go_quiet (first | (go_at_call 43; (with_reducible refine (spec_validDone.calls k _ _ l0 _ _ l1 false _ ?side1 ?side2 ?side3 ?side4 A3.out).mono ?_); (case side1 => repeat (first | exact HR0.out | (with_reducible refine Kd.C_alloc ?_ _) | (with_reducible refine Kd.C_drewN ?_ _) | (with_reducible refine Kd.C_drew ?_))); (case side2 => exact HC0.out); (case side3 => repeat (first | exact HR1.out | (with_reducible refine Kd.C_alloc ?_ _) | (with_reducible refine Kd.C_drewN ?_ _) | (with_reducible refine Kd.C_drew ?_))); (case side4 => exact HC1.out); rintro e w11 ⟨rfl, hb⟩; have n0_ := Aside0.mk (below_step (by repeat (first | (with_reducible first | exact HB.out | apply below_alloc | apply pw_below_drewN | apply below_drew1) | exact HB.out)) hb); clear HB; have HB := n0_; clear n0_; (try clear hb); (try clear hb2); (try clear hk); (try clear hi))); try go_wp2_with (first | (go_at_call 43; (with_reducible refine (spec_validDone.calls k _ _ l0 _ _ l1 false _ ?side1 ?side2 ?side3 ?side4 A3.out).mono ?_); (case side1 => repeat (first | exact HR0.out | (with_reducible refine Kd.C_alloc ?_ _) | (with_reducible refine Kd.C_drewN ?_ _) | (with_reducible refine Kd.C_drew ?_))); (case side2 => exact HC0.out); (case side3 => repeat (first | exact HR1.out | (with_reducible refine Kd.C_alloc ?_ _) | (with_reducible refine Kd.C_drewN ?_ _) | (with_reducible refine Kd.C_drew ?_))); (case side4 => exact HC1.out); rintro e w11 ⟨rfl, hb⟩; have n0_ := Aside0.mk (below_step (by repeat (first | (with_reducible first | exact HB.out | apply below_alloc | apply pw_below_drewN | apply below_drew1) | exact HB.out)) hb); clear HB; have HB := n0_; clear n0_; (try clear hb); (try clear hb2); (try clear hk); (try clear hi))))
  go_ret
  exact ⟨by first | rfl | (simp [errW_none, errW_some] <;> rfl) | (simp [*, errW_none, errW_some] <;> rfl), by repeat (first | (with_reducible first | exact HB.out | apply below_alloc | apply pw_below_drewN | apply below_drew1) | exact HB.out)⟩
end Go.Proofs.YtajapkjplgaigaaDoor.P
end
section
namespace Go.Proofs.YtajapkjplgaigaaDoor.P
open Go.RowKit Go.Proofs.YtajapkjplgaigaaDoorW.PrintWords Go.Proofs.YtajapkjplgaigaaDoorW.PrintLast Go.Proofs.YtajapkjplgaigaaDoorW.PrintMore
attribute [local go_sem] max2_int min2_int max_two min_two max_three min_three max_four min_four   -- for this text's walks alone
set_option linter.unusedVariables false
set_option linter.unusedSimpArgs false
mutual
def laws_FnProgressOfMore.j0 : Nat → List (S39) → List Int → Int → Bool → Option (Bool)
 | 0, _, _, _, _ => none
 | k + 1, x3, x4, x5, x29 => if x29 = true then ((spec_ProgressOf.f k x3 x4).bind fun t388 => (some (x5 == t388))) else ((impl_ReadyTasks.f x3 x4).bind fun t389 => (laws_FnProgressOfMore.l0 k x3 x4 x5 t389 0))
def laws_FnProgressOfMore.l0 : Nat → List (S39) → List Int → Int → List Int → Int → Option (Bool)
 | 0, _, _, _, _, _ => none
 | k + 1, x3, x4, x5, x6, x7 => if x7 < (x6.length : Int) then (if 0 ≤ x7 then ((impl_FinishTask.f x3 x4 (rd x6 x7)).bind fun bt393 => (if bt393.2 = true then ((impl_ProgressOf.f x3 bt393.1).bind fun t397 => (if t397 ≤ x5 then (some false) else (laws_FnProgressOfMore.l0 k x3 x4 x5 x6 (wrap64 (x7 + 1))))) else (some false))) else (none)) else (some true)
end
def laws_FnProgressOfMore.f (k : Nat) (l0 : List Int) : Option (Bool) := if (l0.length : Int) > 1048576 then (some true) else ((spec_DrawProgressOf.f k l0).bind fun bt380 => ((impl_ProgressOf.f bt380.1 bt380.2).bind fun t386 => ((spec_ProgressOf.f k bt380.1 bt380.2).bind fun t387 => (if t386 = t387 then (laws_FnProgressOfMore.j0 k bt380.1 bt380.2 t386 (decide (t386 < 0))) else (laws_FnProgressOfMore.j0 k bt380.1 bt380.2 t386 true)))))
set_option maxHeartbeats 8000000 in
set_option maxRecDepth 100000 in
theorem laws_FnProgressOfMore.calls (k : Nat) (A0 : Option Addr) (c0 : Nat) (l0 : List Int) (r : Bool) (w : World) (hr0 : Kd.C (Kd.int .u8) w A0 l0.length l0) (hc0 : l0.length ≤ c0) (h : laws_FnProgressOfMore.f k l0 = some r) (hTab0 : TabOK w) :
  Calls Tryd.prog 3 #[.slice A0 l0.length c0] w fun e w' => e = .returned (.bool r) ∧ Below w.heap.size w w' := by
 have hTab := Aside0.mk hTab0
 clear hTab0
 have HR0 := Aside0.mk hr0
 have HC0 := Aside0.mk hc0
 clear hr0 hc0
 have HB := Aside0.mk (Below.refl w.heap.size w)
 have H : (if (l0.length : Int) > 1048576 then (some true) else ((spec_DrawProgressOf.f k l0).bind fun bt380 => ((impl_ProgressOf.f bt380.1 bt380.2).bind fun t386 => ((spec_ProgressOf.f k bt380.1 bt380.2).bind fun t387 => (if t386 = t387 then (laws_FnProgressOfMore.j0 k bt380.1 bt380.2 t386 (decide (t386 < 0))) else (laws_FnProgressOfMore.j0 k bt380.1 bt380.2 t386 true)))))) = some r := h
 clear h
 by_cases c2 : (l0.length : Int) > 1048576
 ·rw [if_pos c2] at H
  have c2b0 : decide (1048576 < (l0.length : Int)) = true := decide_eq_true c2
  have c2b1 : decide (1048576 < l0.length) = true := decide_eq_true (by omega)
  clear c2
  obtain rfl := Option.some.inj H
  go_enter Tryd.func3, Tryd.ntmps3
  go_wp2
  go_ret
  exact ⟨by first | rfl | (simp [errW_none, errW_some] <;> rfl) | (simp [*, errW_none, errW_some] <;> rfl), by repeat (first | (with_reducible first | exact HB.out | apply below_alloc | apply pw_below_drewN | apply below_drew1) | exact HB.out)⟩
 ·rw [if_neg c2] at H
  have c2b0 : decide (1048576 < (l0.length : Int)) = false := decide_eq_false c2
  have c2b1 : decide (1048576 < l0.length) = false := decide_eq_false (by omega)
  clear c2
  replace H := Option.bind_eq_some_iff.mp H
  obtain ⟨⟨t380, t383⟩, A30, H⟩ := H
  replace H : ((impl_ProgressOf.f t380 t383).bind fun t386 => ((spec_ProgressOf.f k t380 t383).bind fun t387 => (if t386 = t387 then (laws_FnProgressOfMore.j0 k t380 t383 t386 (decide (t386 < 0))) else (laws_FnProgressOfMore.j0 k t380 t383 t386 true)))) = some r := H
  have A3 := Aside0.mk A30
  clear A30
  replace H := Option.bind_eq_some_iff.mp H
  obtain ⟨t386, A40, H⟩ := H
  replace H : ((spec_ProgressOf.f k t380 t383).bind fun t387 => (if t386 = t387 then (laws_FnProgressOfMore.j0 k t380 t383 t386 (decide (t386 < 0))) else (laws_FnProgressOfMore.j0 k t380 t383 t386 true))) = some r := H
  have A4 := Aside0.mk A40
  clear A40
  have HC5 := Aside0.mk H
  clear H
  go_enter Tryd.func3, Tryd.ntmps3
  go_upto_region 5 with (first | ((with_reducible refine gate_callee (f := 12) rfl ?_); refine goesL_ (some 15) rfl rfl Tryd.func12 (by kernel_rfl) rfl #[.slice A0 l0.length c0] rfl (by (try simp only [List.map_toArray, List.map_cons, List.map_nil]); first | done | rfl | (simp only [List.length_drop, List.length_take]; rfl)) ?_; (with_reducible refine (spec_DrawProgressOf.calls k _ _ l0 t380 t383 _ ?side1 ?side2 A3.out).mono ?_); (case side1 => repeat (first | exact HR0.out | (with_reducible refine Kd.C_alloc ?_ _) | (with_reducible refine Kd.C_drewN ?_ _) | (with_reducible refine Kd.C_drew ?_))); (case side2 => exact HC0.out); rintro e w6 ⟨v381, v384, rfl, ho0, ho1, hb⟩; refine ⟨_, rfl, ?_⟩; have n0_ := Aside0.mk (Kd.N_lower (Kd.N_mono (ok' := fun k_ => some k_ ≠ (v384 : Value).ownBlock) ho0 (fun k_ hk_ => hk_.2)) (below_size (by repeat (first | (with_reducible first | exact HB.out | apply below_alloc | apply pw_below_drewN | apply below_drew1) | exact HB.out)))); have n1_ := Aside0.mk (Kd.Q_lower (Kd.Q_mono (ok' := fun k_ => True) ho1 (fun _ hk_ => trivial)) (below_size (by repeat (first | (with_reducible first | exact HB.out | apply below_alloc | apply pw_below_drewN | apply below_drew1) | exact HB.out)))); have n2_ := Aside0.mk (below_step (by repeat (first | (with_reducible first | exact HB.out | apply below_alloc | apply pw_below_drewN | apply below_drew1) | exact HB.out)) hb); clear HB; have HO382 := n0_; have HO385 := n1_; have HB := n2_; clear n0_ n1_ n2_; (try clear hb); (try clear hb2); (try clear hk); (try clear hi); (try clear ho0); (try clear ho1); obtain ⟨Ao7, co7, eo7⟩ := Kd.N_slice HO382.out; subst eo7; obtain ⟨Ao8, co8, eo8, _⟩ := Kd.Q_slice HO385.out; subst eo8) | ((with_reducible refine gate_callee (f := 13) rfl ?_); refine goesL_ (some 20) rfl rfl Tryd.func13 (by kernel_rfl) rfl #[.slice Ao7 t380.length co7, .slice Ao8 t383.length co8] rfl (by (try simp only [List.map_toArray, List.map_cons, List.map_nil]); first | done | rfl | (simp only [List.length_drop, List.length_take]; rfl)) ?_; (with_reducible refine (impl_ProgressOf.calls _ _ t380 _ _ t383 t386 _ ?side1 ?side2 ?side3 ?side4 A4.out ?sideTab).mono ?_); (case sideTab => exact TabOK.below hTab.out (by repeat (first | (with_reducible first | exact HB.out | apply below_alloc | apply pw_below_drewN | apply below_drew1) | exact HB.out))); (case side1 => repeat (first | exact (Kd.N_reads' HO382.out).2.2 | (with_reducible refine Kd.C_alloc ?_ _) | (with_reducible refine Kd.C_drewN ?_ _) | (with_reducible refine Kd.C_drew ?_))); (case side2 => exact (Kd.N_reads' HO382.out).2.1); (case side3 => repeat (first | exact (Kd.Q_reads' HO385.out).2.2 | (with_reducible refine Kd.C_alloc ?_ _) | (with_reducible refine Kd.C_drewN ?_ _) | (with_reducible refine Kd.C_drew ?_))); (case side4 => exact (Kd.Q_reads' HO385.out).2.1); rintro e w9 ⟨rfl, hb⟩; refine ⟨_, rfl, ?_⟩; have n0_ := Aside0.mk (Kd.N_below (by (with_reducible repeat (first | apply Kd.N_alloc | apply Kd.N_drewN | apply Kd.N_drew)); exact HO382.out) hb); have n1_ := Aside0.mk (Kd.Q_below (by (with_reducible repeat (first | apply Kd.Q_alloc | apply Kd.Q_drewN | apply Kd.Q_drew)); exact HO385.out) hb); have n2_ := Aside0.mk (below_step (by repeat (first | (with_reducible first | exact HB.out | apply below_alloc | apply pw_below_drewN | apply below_drew1) | exact HB.out)) hb); clear HO382; clear HO385; clear HB; have HO382 := n0_; have HO385 := n1_; have HB := n2_; clear n0_ n1_ n2_; (try clear hb); (try clear hb2); (try clear hk); (try clear hi)))
  (try simp only [Act.put, List.setIfInBounds_toArray, List.set_cons_zero, List.set_cons_succ])
  go_cut [29] (fun v29 wc => ∃ (kq : Nat) (x29_4 : Bool), v29 = .bool x29_4 ∧ Aside0 (laws_FnProgressOfMore.j0 kq t380 t383 t386 x29_4 = some r) ∧ Aside0 (kq ≤ k) ∧ Aside0 (Kd.N k39 39 wc w.heap.size (fun k_ => some k_ ≠ ((.slice Ao8 t383.length co8) : Value).ownBlock) (.slice Ao7 t380.length co7) t380) ∧ Aside0 (Kd.Q (Kd.int .i64) 3 wc w.heap.size (fun _ => True) (.slice Ao8 t383.length co8) t383) ∧ Aside0 (Below w.heap.size w wc))
  case first =>
   have H := HC5.out
   clear HC5
   replace H := Option.bind_eq_some_iff.mp H
   obtain ⟨t387, A100, H⟩ := H
   replace H : (if t386 = t387 then (laws_FnProgressOfMore.j0 k t380 t383 t386 (decide (t386 < 0))) else (laws_FnProgressOfMore.j0 k t380 t383 t386 true)) = some r := H
   have A10 := Aside0.mk A100
   clear A100
   by_cases c11 : t386 = t387
   ·rw [if_pos c11] at H
    have c11b0 : (t386 == t387) = true := beq_iff_eq.mpr c11
    have c11b1 : (t386 != t387) = false := bne_eq_false_iff_eq.mpr c11
    clear c11
    (first | rw [c11b0] | (simp only [i64_w, i32_w]; rw [c11b0]) | skip)
    have H' := Aside0.mk H
    clear H
    go_wp2_with (first | ((with_reducible refine gate_callee (f := 14) rfl ?_); refine goesL_ (some 24) rfl rfl Tryd.func14 (by kernel_rfl) rfl #[.slice Ao7 t380.length co7, .slice Ao8 t383.length co8] rfl (by (try simp only [List.map_toArray, List.map_cons, List.map_nil]); first | done | rfl | (simp only [List.length_drop, List.length_take]; rfl)) ?_; (with_reducible refine (spec_ProgressOf.calls k _ _ t380 _ _ t383 t387 _ ?side1 ?side2 ?side3 ?side4 A10.out).mono ?_); (case side1 => repeat (first | exact (Kd.N_reads' HO382.out).2.2 | (with_reducible refine Kd.C_alloc ?_ _) | (with_reducible refine Kd.C_drewN ?_ _) | (with_reducible refine Kd.C_drew ?_))); (case side2 => exact (Kd.N_reads' HO382.out).2.1); (case side3 => repeat (first | exact (Kd.Q_reads' HO385.out).2.2 | (with_reducible refine Kd.C_alloc ?_ _) | (with_reducible refine Kd.C_drewN ?_ _) | (with_reducible refine Kd.C_drew ?_))); (case side4 => exact (Kd.Q_reads' HO385.out).2.1); rintro e w12 ⟨rfl, hb⟩; refine ⟨_, rfl, ?_⟩; have n0_ := Aside0.mk (Kd.N_below (by (with_reducible repeat (first | apply Kd.N_alloc | apply Kd.N_drewN | apply Kd.N_drew)); exact HO382.out) hb); have n1_ := Aside0.mk (Kd.Q_below (by (with_reducible repeat (first | apply Kd.Q_alloc | apply Kd.Q_drewN | apply Kd.Q_drew)); exact HO385.out) hb); have n2_ := Aside0.mk (below_step (by repeat (first | (with_reducible first | exact HB.out | apply below_alloc | apply pw_below_drewN | apply below_drew1) | exact HB.out)) hb); clear HO382; clear HO385; clear HB; have HO382 := n0_; have HO385 := n1_; have HB := n2_; clear n0_ n1_ n2_; (try clear hb); (try clear hb2); (try clear hk); (try clear hi)))
    go_meet
    case rel => exact ⟨_, (decide (t386 < 0)), (by first | rfl | (simp; done) | (simp [*]; done)), H', ⟨by first | omega | exact Nat.le_refl _⟩, ⟨by (with_reducible repeat (first | apply Kd.N_alloc | apply Kd.N_drewN | apply Kd.N_drew)); exact HO382.out⟩, ⟨by (with_reducible repeat (first | apply Kd.Q_alloc | apply Kd.Q_drewN | apply Kd.Q_drew)); exact HO385.out⟩, ⟨by repeat (first | (with_reducible first | exact HB.out | apply below_alloc | apply pw_below_drewN | apply below_drew1) | exact HB.out)⟩⟩
   ·rw [if_neg c11] at H
    have c11b0 : (t386 == t387) = false := beq_eq_false_iff_ne.mpr c11
    have c11b1 : (t386 != t387) = true := bne_iff_ne.mpr c11
    (first | rw [c11b0] | (simp only [i64_w, i32_w]; rw [c11b0]) | skip)
    have H' := Aside0.mk H
    clear H
    go_wp2_with (first | ((with_reducible refine gate_callee (f := 14) rfl ?_); refine goesL_ (some 24) rfl rfl Tryd.func14 (by kernel_rfl) rfl #[.slice Ao7 t380.length co7, .slice Ao8 t383.length co8] rfl (by (try simp only [List.map_toArray, List.map_cons, List.map_nil]); first | done | rfl | (simp only [List.length_drop, List.length_take]; rfl)) ?_; (with_reducible refine (spec_ProgressOf.calls k _ _ t380 _ _ t383 t387 _ ?side1 ?side2 ?side3 ?side4 A10.out).mono ?_); (case side1 => repeat (first | exact (Kd.N_reads' HO382.out).2.2 | (with_reducible refine Kd.C_alloc ?_ _) | (with_reducible refine Kd.C_drewN ?_ _) | (with_reducible refine Kd.C_drew ?_))); (case side2 => exact (Kd.N_reads' HO382.out).2.1); (case side3 => repeat (first | exact (Kd.Q_reads' HO385.out).2.2 | (with_reducible refine Kd.C_alloc ?_ _) | (with_reducible refine Kd.C_drewN ?_ _) | (with_reducible refine Kd.C_drew ?_))); (case side4 => exact (Kd.Q_reads' HO385.out).2.1); rintro e w13 ⟨rfl, hb⟩; refine ⟨_, rfl, ?_⟩; have n0_ := Aside0.mk (Kd.N_below (by (with_reducible repeat (first | apply Kd.N_alloc | apply Kd.N_drewN | apply Kd.N_drew)); exact HO382.out) hb); have n1_ := Aside0.mk (Kd.Q_below (by (with_reducible repeat (first | apply Kd.Q_alloc | apply Kd.Q_drewN | apply Kd.Q_drew)); exact HO385.out) hb); have n2_ := Aside0.mk (below_step (by repeat (first | (with_reducible first | exact HB.out | apply below_alloc | apply pw_below_drewN | apply below_drew1) | exact HB.out)) hb); clear HO382; clear HO385; clear HB; have HO382 := n0_; have HO385 := n1_; have HB := n2_; clear n0_ n1_ n2_; (try clear hb); (try clear hb2); (try clear hk); (try clear hi)))
    go_meet
    case rel => exact ⟨_, (true), (by first | rfl | (simp; done) | (simp [*]; done)), H', ⟨by first | omega | exact Nat.le_refl _⟩, ⟨by (with_reducible repeat (first | apply Kd.N_alloc | apply Kd.N_drewN | apply Kd.N_drew)); exact HO382.out⟩, ⟨by (with_reducible repeat (first | apply Kd.Q_alloc | apply Kd.Q_drewN | apply Kd.Q_drew)); exact HO385.out⟩, ⟨by repeat (first | (with_reducible first | exact HB.out | apply below_alloc | apply pw_below_drewN | apply below_drew1) | exact HB.out)⟩⟩
  case rest =>
   clear HC5
   try clear c1
   try clear c2
   try clear c2b0
   try clear c2b1
   try clear p2
   try clear c3
   try clear c11
   try clear c11b0
   try clear c11b1
   try clear c12
   try clear c13
   obtain ⟨kq, x29_4, rfl, HA, HJ4, HO_3, HO_4, HB⟩ := hcut
   cases kq with
   | zero => exact absurd HA.out (by simp [laws_FnProgressOfMore.j0])
   | succ kj4 =>
    have H := HA.out
    clear HA
    simp only [laws_FnProgressOfMore.j0] at H
    by_cases c14 : x29_4 = true
    ·subst c14
     have H1 : ((spec_ProgressOf.f kj4 t380 t383).bind fun t388 => (some (t386 == t388))) = some r := by rw [if_pos rfl] at H; exact H
     clear H
     have H := H1
     clear H1
     replace H := Option.bind_eq_some_iff.mp H
     obtain ⟨t388, A150, H⟩ := H
     replace H : (some (t386 == t388)) = some r := H
     have A15 := Aside0.mk A150
     clear A150
     obtain rfl := Option.some.inj H
     go_wp2_with (first | ((with_reducible refine gate_callee (f := 14) rfl ?_); refine goesL_ (some 33) rfl rfl Tryd.func14 (by kernel_rfl) rfl #[.slice Ao7 t380.length co7, .slice Ao8 t383.length co8] rfl (by (try simp only [List.map_toArray, List.map_cons, List.map_nil]); first | done | rfl | (simp only [List.length_drop, List.length_take]; rfl)) ?_; (with_reducible refine (spec_ProgressOf.calls kj4 _ _ t380 _ _ t383 t388 _ ?side1 ?side2 ?side3 ?side4 A15.out).mono ?_); (case side1 => repeat (first | exact (Kd.N_reads' HO_3.out).2.2 | (with_reducible refine Kd.C_alloc ?_ _) | (with_reducible refine Kd.C_drewN ?_ _) | (with_reducible refine Kd.C_drew ?_))); (case side2 => exact (Kd.N_reads' HO_3.out).2.1); (case side3 => repeat (first | exact (Kd.Q_reads' HO_4.out).2.2 | (with_reducible refine Kd.C_alloc ?_ _) | (with_reducible refine Kd.C_drewN ?_ _) | (with_reducible refine Kd.C_drew ?_))); (case side4 => exact (Kd.Q_reads' HO_4.out).2.1); rintro e w16 ⟨rfl, hb⟩; refine ⟨_, rfl, ?_⟩; have n0_ := Aside0.mk (Kd.N_below (by (with_reducible repeat (first | apply Kd.N_alloc | apply Kd.N_drewN | apply Kd.N_drew)); exact HO_3.out) hb); have n1_ := Aside0.mk (Kd.Q_below (by (with_reducible repeat (first | apply Kd.Q_alloc | apply Kd.Q_drewN | apply Kd.Q_drew)); exact HO_4.out) hb); have n2_ := Aside0.mk (below_step (by repeat (first | (with_reducible first | exact HB.out | apply below_alloc | apply pw_below_drewN | apply below_drew1) | exact HB.out)) hb); clear HO_3; clear HO_4; clear HB; have HO_3 := n0_; have HO_4 := n1_; have HB := n2_; clear n0_ n1_ n2_; (try clear hb); (try clear hb2); (try clear hk); (try clear hi)))
     go_ret
     exact ⟨by first | rfl | (simp [errW_none, errW_some] <;> rfl) | (simp [*, errW_none, errW_some] <;> rfl), by repeat (first | (with_reducible first | exact HB.out | apply below_alloc | apply pw_below_drewN | apply below_drew1) | exact HB.out)⟩
    ·replace c14 := Bool.eq_false_iff.mpr c14
     subst c14
     have H1 : ((impl_ReadyTasks.f t380 t383).bind fun t389 => (laws_FnProgressOfMore.l0 kj4 t380 t383 t386 t389 0)) = some r := by rw [if_neg (show ¬ (false = true) by decide)] at H; exact H
     clear H
     have H := H1
     clear H1
     replace H := Option.bind_eq_some_iff.mp H
     obtain ⟨t389, A170, H⟩ := H
     replace H : (laws_FnProgressOfMore.l0 kj4 t380 t383 t386 t389 0) = some r := H
     have A17 := Aside0.mk A170
     clear A170
     have H' := Aside0.mk H
     clear H
     go_wp2_with (first | ((with_reducible refine gate_callee (f := 15) rfl ?_); refine goesL_ (some 37) rfl rfl Tryd.func15 (by kernel_rfl) rfl #[.slice Ao7 t380.length co7, .slice Ao8 t383.length co8] rfl (by (try simp only [List.map_toArray, List.map_cons, List.map_nil]); first | done | rfl | (simp only [List.length_drop, List.length_take]; rfl)) ?_; (with_reducible refine (impl_ReadyTasks.calls _ _ t380 _ _ t383 t389 _ ?side1 ?side2 ?side3 ?side4 A17.out ?sideTab).mono ?_); (case sideTab => exact TabOK.below hTab.out (by repeat (first | (with_reducible first | exact HB.out | apply below_alloc | apply pw_below_drewN | apply below_drew1) | exact HB.out))); (case side1 => repeat (first | exact (Kd.N_reads' HO_3.out).2.2 | (with_reducible refine Kd.C_alloc ?_ _) | (with_reducible refine Kd.C_drewN ?_ _) | (with_reducible refine Kd.C_drew ?_))); (case side2 => exact (Kd.N_reads' HO_3.out).2.1); (case side3 => repeat (first | exact (Kd.Q_reads' HO_4.out).2.2 | (with_reducible refine Kd.C_alloc ?_ _) | (with_reducible refine Kd.C_drewN ?_ _) | (with_reducible refine Kd.C_drew ?_))); (case side4 => exact (Kd.Q_reads' HO_4.out).2.1); rintro e w18 ⟨v390, rfl, ho0, hb⟩; refine ⟨_, rfl, ?_⟩; have n0_ := Aside0.mk (Kd.N_elder' (by (with_reducible repeat (first | apply Kd.N_alloc | apply Kd.N_drewN | apply Kd.N_drew)); exact HO_3.out) (Kd.R_base ho0) hb); have n1_ := Aside0.mk (Kd.Q_elder' (by (with_reducible repeat (first | apply Kd.Q_alloc | apply Kd.Q_drewN | apply Kd.Q_drew)); exact HO_4.out) (Kd.R_base ho0) hb); have n2_ := Aside0.mk (Kd.R_lower (Kd.R_new' ho0 (Kd.Q_lt (by (with_reducible repeat (first | apply Kd.Q_alloc | apply Kd.Q_drewN | apply Kd.Q_drew)); exact HO_4.out))) (below_size (by repeat (first | (with_reducible first | exact HB.out | apply below_alloc | apply pw_below_drewN | apply below_drew1) | exact HB.out)))); have n3_ := Aside0.mk (below_step (by repeat (first | (with_reducible first | exact HB.out | apply below_alloc | apply pw_below_drewN | apply below_drew1) | exact HB.out)) hb); clear HO_3; clear HO_4; clear HB; have HO_3 := n0_; have HO_4 := n1_; have HO391 := n2_; have HB := n3_; clear n0_ n1_ n2_ n3_; (try clear hb); (try clear hb2); (try clear hk); (try clear hi); (try clear ho0)))
     go_loopg [7] kj4 (fun kq v7 w' => ∃ (x7_2 : Int), v7 = .int .i64 x7_2 ∧ Aside0 (laws_FnProgressOfMore.l0 kq t380 t383 t386 t389 x7_2 = some r) ∧ Aside0 (kq ≤ kj4) ∧ Aside0 (Kd.N k39 39 w' w.heap.size (fun k_ => some k_ ≠ ((.slice Ao8 t383.length co8) : Value).ownBlock ∧ some k_ ≠ (v390 : Value).ownBlock) (.slice Ao7 t380.length co7) t380) ∧ Aside0 (Kd.Q (Kd.int .i64) 3 w' w.heap.size (fun k_ => some k_ ≠ (v390 : Value).ownBlock) (.slice Ao8 t383.length co8) t383) ∧ Aside0 (Kd.R (Kd.int .i64) 3 w' w.heap.size (fun k_ => some k_ ≠ ((.slice Ao8 t383.length co8) : Value).ownBlock) v390 t389) ∧ Aside0 (Below w.heap.size w w'))
     case atStart => exact ⟨(0), (by first | rfl | (simp; done) | (simp [*]; done)), H', ⟨Nat.le_refl _⟩, ⟨by (with_reducible repeat (first | apply Kd.N_alloc | apply Kd.N_drewN | apply Kd.N_drew)); exact HO_3.out⟩, ⟨by (with_reducible repeat (first | apply Kd.Q_alloc | apply Kd.Q_drewN | apply Kd.Q_drew)); exact Kd.Q_mono HO_4.out (fun _ hk => hk.2)⟩, ⟨by (with_reducible repeat (first | apply Kd.R_alloc | apply Kd.R_drewN | apply Kd.R_drew)); exact Kd.R_mono HO391.out (fun _ hk => hk.2)⟩, ⟨by repeat (first | (with_reducible first | exact HB.out | apply below_alloc | apply pw_below_drewN | apply below_drew1) | exact HB.out)⟩⟩
     case round =>
      clear H'
      try clear c1
      try clear c2
      try clear c2b0
      try clear c2b1
      try clear p2
      try clear c3
      try clear c11
      try clear c11b0
      try clear c11b1
      try clear c12
      try clear c13
      try clear c14
      try clear c15
      try clear p2
      obtain ⟨x7_2, rfl, HA, HK2, HO_3, HO_4, HO_6, HB⟩ := hrel
      cases gk with
      | zero => exact absurd HA.out (by simp [laws_FnProgressOfMore.l0])
      | succ k2 =>
       have H := HA.out
       clear HA
       simp only [laws_FnProgressOfMore.l0] at H
       by_cases c19 : x7_2 < (t389.length : Int)
       ·rw [if_pos c19] at H
        have c19b0 : decide (x7_2 < (t389.length : Int)) = true := decide_eq_true c19
        clear c19
        by_cases c20 : 0 ≤ x7_2
        ·rw [if_pos c20] at H
         have c20b0 : decide (0 ≤ x7_2) = true := decide_eq_true c20
         clear c20
         replace H := Option.bind_eq_some_iff.mp H
         obtain ⟨⟨t393, t394⟩, A210, H⟩ := H
         replace H : (if t394 = true then ((impl_ProgressOf.f t380 t393).bind fun t397 => (if t397 ≤ t386 then (some false) else (laws_FnProgressOfMore.l0 k2 t380 t383 t386 t389 (wrap64 (x7_2 + 1))))) else (some false)) = some r := H
         have A21 := Aside0.mk A210
         clear A210
         by_cases c22 : t394 = true
         ·subst c22
          have H1 : ((impl_ProgressOf.f t380 t393).bind fun t397 => (if t397 ≤ t386 then (some false) else (laws_FnProgressOfMore.l0 k2 t380 t383 t386 t389 (wrap64 (x7_2 + 1))))) = some r := by rw [if_pos rfl] at H; exact H
          clear H
          have H := H1
          clear H1
          replace H := Option.bind_eq_some_iff.mp H
          obtain ⟨t397, A230, H⟩ := H
          replace H : (if t397 ≤ t386 then (some false) else (laws_FnProgressOfMore.l0 k2 t380 t383 t386 t389 (wrap64 (x7_2 + 1)))) = some r := H
          have A23 := Aside0.mk A230
          clear A230
          by_cases c24 : t397 ≤ t386
          ·rw [if_pos c24] at H
           have c24b0 : decide (t397 ≤ t386) = true := decide_eq_true c24
           clear c24
           obtain rfl := Option.some.inj H
           obtain ⟨Ao25, co25, eo25⟩ := Kd.R_slice HO_6.out
           subst eo25
           have p392 : 0 ≤ (x7_2 : Int) := of_decide_eq_true (by first | (with_reducible assumption) | assumption)
           have q392 : x7_2 < (t389.length : Int) := of_decide_eq_true (by first | (with_reducible assumption) | assumption)
           obtain ⟨ad392, e392, hx392_0⟩ := Kd.at_int (Kd.R_reads' HO_6.out).2.2 x7_2 p392 q392
           cases e392
           replace p392 := eq_true p392
           replace q392 := eq_true q392
           go_wp2_with (first | ((with_reducible refine gate_callee (f := 16) rfl ?_); refine goesL_ (some 51) rfl rfl Tryd.func16 (by kernel_rfl) rfl #[.slice Ao7 t380.length co7, .slice Ao8 t383.length co8, .int .i64 (rd t389 x7_2)] rfl (by (try simp only [List.map_toArray, List.map_cons, List.map_nil]); first | done | rfl | (simp only [List.length_drop, List.length_take]; rfl)) ?_; (with_reducible refine (impl_FinishTask.calls _ _ t380 _ _ t383 (rd t389 x7_2) t393 true _ ?side1 ?side2 ?side3 ?side4 A21.out ?sideTab).mono ?_); (case sideTab => exact TabOK.below hTab.out (by repeat (first | (with_reducible first | exact HB.out | apply below_alloc | apply pw_below_drewN | apply below_drew1) | exact HB.out))); (case side1 => repeat (first | exact (Kd.N_reads' HO_3.out).2.2 | (with_reducible refine Kd.C_alloc ?_ _) | (with_reducible refine Kd.C_drewN ?_ _) | (with_reducible refine Kd.C_drew ?_))); (case side2 => exact (Kd.N_reads' HO_3.out).2.1); (case side3 => repeat (first | exact (Kd.Q_reads' HO_4.out).2.2 | (with_reducible refine Kd.C_alloc ?_ _) | (with_reducible refine Kd.C_drewN ?_ _) | (with_reducible refine Kd.C_drew ?_))); (case side4 => exact (Kd.Q_reads' HO_4.out).2.1); rintro e w26 ⟨v395, rfl, ho0, hb⟩; refine ⟨_, rfl, ?_⟩; have n0_ := Aside0.mk (Kd.N_elder' (by (with_reducible repeat (first | apply Kd.N_alloc | apply Kd.N_drewN | apply Kd.N_drew)); exact HO_3.out) (Kd.R_base ho0) hb); have n1_ := Aside0.mk (Kd.Q_elder' (by (with_reducible repeat (first | apply Kd.Q_alloc | apply Kd.Q_drewN | apply Kd.Q_drew)); exact HO_4.out) (Kd.R_base ho0) hb); have n2_ := Aside0.mk (Kd.R_elder' (by (with_reducible repeat (first | apply Kd.R_alloc | apply Kd.R_drewN | apply Kd.R_drew)); exact HO_6.out) (Kd.R_base ho0) hb); have n3_ := Aside0.mk (Kd.R_lower (Kd.R_new' (Kd.R_new' ho0 (Kd.Q_lt (by (with_reducible repeat (first | apply Kd.Q_alloc | apply Kd.Q_drewN | apply Kd.Q_drew)); exact HO_4.out))) (Kd.R_lt (by (with_reducible repeat (first | apply Kd.R_alloc | apply Kd.R_drewN | apply Kd.R_drew)); exact HO_6.out))) (below_size (by repeat (first | (with_reducible first | exact HB.out | apply below_alloc | apply pw_below_drewN | apply below_drew1) | exact HB.out)))); have n4_ := Aside0.mk (below_step (by repeat (first | (with_reducible first | exact HB.out | apply below_alloc | apply pw_below_drewN | apply below_drew1) | exact HB.out)) hb); clear HO_3; clear HO_4; clear HO_6; clear HB; have HO_3 := n0_; have HO_4 := n1_; have HO_6 := n2_; have HO396 := n3_; have HB := n4_; clear n0_ n1_ n2_ n3_ n4_; (try clear hb); (try clear hb2); (try clear hk); (try clear hi); (try clear ho0); obtain ⟨Ao27, co27, eo27⟩ := Kd.R_slice HO396.out; subst eo27) | (go_at_call 13; (with_reducible refine (impl_ProgressOf.calls _ _ t380 _ _ t393 t397 _ ?side1 ?side2 ?side3 ?side4 A23.out ?sideTab).mono ?_); (case sideTab => exact TabOK.below hTab.out (by repeat (first | (with_reducible first | exact HB.out | apply below_alloc | apply pw_below_drewN | apply below_drew1) | exact HB.out))); (case side1 => repeat (first | exact (Kd.N_reads' HO_3.out).2.2 | (with_reducible refine Kd.C_alloc ?_ _) | (with_reducible refine Kd.C_drewN ?_ _) | (with_reducible refine Kd.C_drew ?_))); (case side2 => exact (Kd.N_reads' HO_3.out).2.1); (case side3 => repeat (first | exact (Kd.R_reads' HO396.out).2.2 | (with_reducible refine Kd.C_alloc ?_ _) | (with_reducible refine Kd.C_drewN ?_ _) | (with_reducible refine Kd.C_drew ?_))); (case side4 => exact (Kd.R_reads' HO396.out).2.1); rintro e w28 ⟨rfl, hb⟩; have n0_ := Aside0.mk (Kd.N_below (by (with_reducible repeat (first | apply Kd.N_alloc | apply Kd.N_drewN | apply Kd.N_drew)); exact HO_3.out) hb); have n1_ := Aside0.mk (Kd.Q_below (by (with_reducible repeat (first | apply Kd.Q_alloc | apply Kd.Q_drewN | apply Kd.Q_drew)); exact HO_4.out) hb); have n2_ := Aside0.mk (Kd.R_below (by (with_reducible repeat (first | apply Kd.R_alloc | apply Kd.R_drewN | apply Kd.R_drew)); exact HO_6.out) hb); have n3_ := Aside0.mk (Kd.R_below (by (with_reducible repeat (first | apply Kd.R_alloc | apply Kd.R_drewN | apply Kd.R_drew)); exact HO396.out) hb); have n4_ := Aside0.mk (below_step (by repeat (first | (with_reducible first | exact HB.out | apply below_alloc | apply pw_below_drewN | apply below_drew1) | exact HB.out)) hb); clear HO_3; clear HO_4; clear HO_6; clear HO396; clear HB; have HO_3 := n0_; have HO_4 := n1_; have HO_6 := n2_; have HO396 := n3_; have HB := n4_; clear n0_ n1_ n2_ n3_ n4_; (try clear hb); (try clear hb2); (try clear hk); (try clear hi)))
           go_ret
           exact ⟨by first | rfl | (simp [errW_none, errW_some] <;> rfl) | (simp [*, errW_none, errW_some] <;> rfl), by repeat (first | (with_reducible first | exact HB.out | apply below_alloc | apply pw_below_drewN | apply below_drew1) | exact HB.out)⟩
          ·rw [if_neg c24] at H
           have c24b0 : decide (t397 ≤ t386) = false := decide_eq_false c24
           clear c24
           have H' := Aside0.mk H
           clear H
           obtain ⟨Ao29, co29, eo29⟩ := Kd.R_slice HO_6.out
           subst eo29
           have p392 : 0 ≤ (x7_2 : Int) := of_decide_eq_true (by first | (with_reducible assumption) | assumption)
           have q392 : x7_2 < (t389.length : Int) := of_decide_eq_true (by first | (with_reducible assumption) | assumption)
           obtain ⟨ad392, e392, hx392_0⟩ := Kd.at_int (Kd.R_reads' HO_6.out).2.2 x7_2 p392 q392
           cases e392
           replace p392 := eq_true p392
           replace q392 := eq_true q392
           go_wp2_with (first | ((with_reducible refine gate_callee (f := 16) rfl ?_); refine goesL_ (some 51) rfl rfl Tryd.func16 (by kernel_rfl) rfl #[.slice Ao7 t380.length co7, .slice Ao8 t383.length co8, .int .i64 (rd t389 x7_2)] rfl (by (try simp only [List.map_toArray, List.map_cons, List.map_nil]); first | done | rfl | (simp only [List.length_drop, List.length_take]; rfl)) ?_; (with_reducible refine (impl_FinishTask.calls _ _ t380 _ _ t383 (rd t389 x7_2) t393 true _ ?side1 ?side2 ?side3 ?side4 A21.out ?sideTab).mono ?_); (case sideTab => exact TabOK.below hTab.out (by repeat (first | (with_reducible first | exact HB.out | apply below_alloc | apply pw_below_drewN | apply below_drew1) | exact HB.out))); (case side1 => repeat (first | exact (Kd.N_reads' HO_3.out).2.2 | (with_reducible refine Kd.C_alloc ?_ _) | (with_reducible refine Kd.C_drewN ?_ _) | (with_reducible refine Kd.C_drew ?_))); (case side2 => exact (Kd.N_reads' HO_3.out).2.1); (case side3 => repeat (first | exact (Kd.Q_reads' HO_4.out).2.2 | (with_reducible refine Kd.C_alloc ?_ _) | (with_reducible refine Kd.C_drewN ?_ _) | (with_reducible refine Kd.C_drew ?_))); (case side4 => exact (Kd.Q_reads' HO_4.out).2.1); rintro e w30 ⟨v395, rfl, ho0, hb⟩; refine ⟨_, rfl, ?_⟩; have n0_ := Aside0.mk (Kd.N_elder' (by (with_reducible repeat (first | apply Kd.N_alloc | apply Kd.N_drewN | apply Kd.N_drew)); exact HO_3.out) (Kd.R_base ho0) hb); have n1_ := Aside0.mk (Kd.Q_elder' (by (with_reducible repeat (first | apply Kd.Q_alloc | apply Kd.Q_drewN | apply Kd.Q_drew)); exact HO_4.out) (Kd.R_base ho0) hb); have n2_ := Aside0.mk (Kd.R_elder' (by (with_reducible repeat (first | apply Kd.R_alloc | apply Kd.R_drewN | apply Kd.R_drew)); exact HO_6.out) (Kd.R_base ho0) hb); have n3_ := Aside0.mk (Kd.R_lower (Kd.R_new' (Kd.R_new' ho0 (Kd.Q_lt (by (with_reducible repeat (first | apply Kd.Q_alloc | apply Kd.Q_drewN | apply Kd.Q_drew)); exact HO_4.out))) (Kd.R_lt (by (with_reducible repeat (first | apply Kd.R_alloc | apply Kd.R_drewN | apply Kd.R_drew)); exact HO_6.out))) (below_size (by repeat (first | (with_reducible first | exact HB.out | apply below_alloc | apply pw_below_drewN | apply below_drew1) | exact HB.out)))); have n4_ := Aside0.mk (below_step (by repeat (first | (with_reducible first | exact HB.out | apply below_alloc | apply pw_below_drewN | apply below_drew1) | exact HB.out)) hb); clear HO_3; clear HO_4; clear HO_6; clear HB; have HO_3 := n0_; have HO_4 := n1_; have HO_6 := n2_; have HO396 := n3_; have HB := n4_; clear n0_ n1_ n2_ n3_ n4_; (try clear hb); (try clear hb2); (try clear hk); (try clear hi); (try clear ho0); obtain ⟨Ao31, co31, eo31⟩ := Kd.R_slice HO396.out; subst eo31) | (go_at_call 13; (with_reducible refine (impl_ProgressOf.calls _ _ t380 _ _ t393 t397 _ ?side1 ?side2 ?side3 ?side4 A23.out ?sideTab).mono ?_); (case sideTab => exact TabOK.below hTab.out (by repeat (first | (with_reducible first | exact HB.out | apply below_alloc | apply pw_below_drewN | apply below_drew1) | exact HB.out))); (case side1 => repeat (first | exact (Kd.N_reads' HO_3.out).2.2 | (with_reducible refine Kd.C_alloc ?_ _) | (with_reducible refine Kd.C_drewN ?_ _) | (with_reducible refine Kd.C_drew ?_))); (case side2 => exact (Kd.N_reads' HO_3.out).2.1); (case side3 => repeat (first | exact (Kd.R_reads' HO396.out).2.2 | (with_reducible refine Kd.C_alloc ?_ _) | (with_reducible refine Kd.C_drewN ?_ _) | (with_reducible refine Kd.C_drew ?_))); (case side4 => exact (Kd.R_reads' HO396.out).2.1); rintro e w32 ⟨rfl, hb⟩; have n0_ := Aside0.mk (Kd.N_below (by (with_reducible repeat (first | apply Kd.N_alloc | apply Kd.N_drewN | apply Kd.N_drew)); exact HO_3.out) hb); have n1_ := Aside0.mk (Kd.Q_below (by (with_reducible repeat (first | apply Kd.Q_alloc | apply Kd.Q_drewN | apply Kd.Q_drew)); exact HO_4.out) hb); have n2_ := Aside0.mk (Kd.R_below (by (with_reducible repeat (first | apply Kd.R_alloc | apply Kd.R_drewN | apply Kd.R_drew)); exact HO_6.out) hb); have n3_ := Aside0.mk (Kd.R_below (by (with_reducible repeat (first | apply Kd.R_alloc | apply Kd.R_drewN | apply Kd.R_drew)); exact HO396.out) hb); have n4_ := Aside0.mk (below_step (by repeat (first | (with_reducible first | exact HB.out | apply below_alloc | apply pw_below_drewN | apply below_drew1) | exact HB.out)) hb); clear HO_3; clear HO_4; clear HO_6; clear HO396; clear HB; have HO_3 := n0_; have HO_4 := n1_; have HO_6 := n2_; have HO396 := n3_; have HB := n4_; clear n0_ n1_ n2_ n3_ n4_; (try clear hb); (try clear hb2); (try clear hk); (try clear hi)))
           go_roundg k2
           case measure => have := HJ4.out; have := HK2.out; omega
           case rel => exact ⟨(wrap64 (x7_2 + 1)), (by first | rfl | (simp; done) | (simp [*]; done)), H', ⟨by have := HJ4.out; have := HK2.out; omega⟩, ⟨by (with_reducible repeat (first | apply Kd.N_alloc | apply Kd.N_drewN | apply Kd.N_drew)); exact Kd.N_mono HO_3.out (fun _ hk => ⟨hk.1.1, hk.1.2⟩)⟩, ⟨by (with_reducible repeat (first | apply Kd.Q_alloc | apply Kd.Q_drewN | apply Kd.Q_drew)); exact Kd.Q_mono HO_4.out (fun _ hk => hk.1)⟩, ⟨by (with_reducible repeat (first | apply Kd.R_alloc | apply Kd.R_drewN | apply Kd.R_drew)); exact Kd.R_mono HO_6.out (fun _ hk => hk.1)⟩, ⟨by repeat (first | (with_reducible first | exact HB.out | apply below_alloc | apply pw_below_drewN | apply below_drew1) | exact HB.out)⟩⟩
         ·replace c22 := Bool.eq_false_iff.mpr c22
          subst c22
          have H1 : (some false) = some r := by rw [if_neg (show ¬ (false = true) by decide)] at H; exact H
          clear H
          have H := H1
          clear H1
          obtain rfl := Option.some.inj H
          obtain ⟨Ao33, co33, eo33⟩ := Kd.R_slice HO_6.out
          subst eo33
          have p392 : 0 ≤ (x7_2 : Int) := of_decide_eq_true (by first | (with_reducible assumption) | assumption)
          have q392 : x7_2 < (t389.length : Int) := of_decide_eq_true (by first | (with_reducible assumption) | assumption)
          obtain ⟨ad392, e392, hx392_0⟩ := Kd.at_int (Kd.R_reads' HO_6.out).2.2 x7_2 p392 q392
          cases e392
          replace p392 := eq_true p392
          replace q392 := eq_true q392
          go_wp2_with (first | ((with_reducible refine gate_callee (f := 16) rfl ?_); refine goesL_ (some 51) rfl rfl Tryd.func16 (by kernel_rfl) rfl #[.slice Ao7 t380.length co7, .slice Ao8 t383.length co8, .int .i64 (rd t389 x7_2)] rfl (by (try simp only [List.map_toArray, List.map_cons, List.map_nil]); first | done | rfl | (simp only [List.length_drop, List.length_take]; rfl)) ?_; (with_reducible refine (impl_FinishTask.calls _ _ t380 _ _ t383 (rd t389 x7_2) t393 false _ ?side1 ?side2 ?side3 ?side4 A21.out ?sideTab).mono ?_); (case sideTab => exact TabOK.below hTab.out (by repeat (first | (with_reducible first | exact HB.out | apply below_alloc | apply pw_below_drewN | apply below_drew1) | exact HB.out))); (case side1 => repeat (first | exact (Kd.N_reads' HO_3.out).2.2 | (with_reducible refine Kd.C_alloc ?_ _) | (with_reducible refine Kd.C_drewN ?_ _) | (with_reducible refine Kd.C_drew ?_))); (case side2 => exact (Kd.N_reads' HO_3.out).2.1); (case side3 => repeat (first | exact (Kd.Q_reads' HO_4.out).2.2 | (with_reducible refine Kd.C_alloc ?_ _) | (with_reducible refine Kd.C_drewN ?_ _) | (with_reducible refine Kd.C_drew ?_))); (case side4 => exact (Kd.Q_reads' HO_4.out).2.1); rintro e w34 ⟨v395, rfl, ho0, hb⟩; refine ⟨_, rfl, ?_⟩; have n0_ := Aside0.mk (Kd.N_elder' (by (with_reducible repeat (first | apply Kd.N_alloc | apply Kd.N_drewN | apply Kd.N_drew)); exact HO_3.out) (Kd.R_base ho0) hb); have n1_ := Aside0.mk (Kd.Q_elder' (by (with_reducible repeat (first | apply Kd.Q_alloc | apply Kd.Q_drewN | apply Kd.Q_drew)); exact HO_4.out) (Kd.R_base ho0) hb); have n2_ := Aside0.mk (Kd.R_elder' (by (with_reducible repeat (first | apply Kd.R_alloc | apply Kd.R_drewN | apply Kd.R_drew)); exact HO_6.out) (Kd.R_base ho0) hb); have n3_ := Aside0.mk (Kd.R_lower (Kd.R_new' (Kd.R_new' ho0 (Kd.Q_lt (by (with_reducible repeat (first | apply Kd.Q_alloc | apply Kd.Q_drewN | apply Kd.Q_drew)); exact HO_4.out))) (Kd.R_lt (by (with_reducible repeat (first | apply Kd.R_alloc | apply Kd.R_drewN | apply Kd.R_drew)); exact HO_6.out))) (below_size (by repeat (first | (with_reducible first | exact HB.out | apply below_alloc | apply pw_below_drewN | apply below_drew1) | exact HB.out)))); have n4_ := Aside0.mk (below_step (by repeat (first | (with_reducible first | exact HB.out | apply below_alloc | apply pw_below_drewN | apply below_drew1) | exact HB.out)) hb); clear HO_3; clear HO_4; clear HO_6; clear HB; have HO_3 := n0_; have HO_4 := n1_; have HO_6 := n2_; have HO396 := n3_; have HB := n4_; clear n0_ n1_ n2_ n3_ n4_; (try clear hb); (try clear hb2); (try clear hk); (try clear hi); (try clear ho0)))
          go_ret
          exact ⟨by first | rfl | (simp [errW_none, errW_some] <;> rfl) | (simp [*, errW_none, errW_some] <;> rfl), by repeat (first | (with_reducible first | exact HB.out | apply below_alloc | apply pw_below_drewN | apply below_drew1) | exact HB.out)⟩
        ·rw [if_neg c20] at H
         exact absurd H (by simp)
       ·rw [if_neg c19] at H
        have c19b0 : decide (x7_2 < (t389.length : Int)) = false := decide_eq_false c19
        clear c19
        obtain rfl := Option.some.inj H
        obtain ⟨Ao35, co35, eo35⟩ := Kd.R_slice HO_6.out
        subst eo35
        go_wp2
        go_ret
        exact ⟨by first | rfl | (simp [errW_none, errW_some] <;> rfl) | (simp [*, errW_none, errW_some] <;> rfl), by repeat (first | (with_reducible first | exact HB.out | apply below_alloc | apply pw_below_drewN | apply below_drew1) | exact HB.out)⟩
def laws_FnProgressOfMore.Pure : Prop := ∀ (l0 : List Int), l0.length ≤ maxLen → l0.length * 1 ≤ 140737488351232 → (∀ x ∈ l0, (Lit.int .u8 x).wf = true) → ∃ k, laws_FnProgressOfMore.f k l0 = some true
theorem laws_FnProgressOfMore.walk (P : laws_FnProgressOfMore.Pure) (a0 : Option Addr) (len0 cap0 : Nat) (z0 : List Int) (w : World) (w0 : (a0 = none ∧ len0 = 0 ∧ cap0 = 0 ∧ z0 = []) ∨ ∃ x, a0 = some x ∧ len0 ≤ cap0 ∧ cap0 ≤ maxLen ∧ z0.length = cap0 ∧ (∀ i, i < z0.length → w.cell? (x.add i) = some (.int .u8 (z0.getD i 0))) ∧ ∀ n ∈ z0, (Lit.int .u8 n).wf = true) (y0 : len0 * 1 ≤ 140737488351232) (hTab0 : TabOK w) :
  Calls Tryd.prog 3 #[.slice a0 len0 cap0] w fun e w' => e = .returned (.bool true) ∧ Below w.heap.size w w' := by
 obtain ⟨l0, rfl, hr0, hm0, hw0, hc0⟩ := ReadsInt.ofRowC w0
 obtain ⟨k, h⟩ := P l0 hm0 y0 hw0
 refine (laws_FnProgressOfMore.calls k _ _ l0 true w (Kd.C_of_reads (d := (0 : Int)) (h1 := fun _ => rfl) hr0) hc0 h hTab0).mono ?_
 rintro e w' ⟨rfl, hd⟩
 exact ⟨rfl, hd⟩
end Go.Proofs.YtajapkjplgaigaaDoor.P
end
section
namespace Go.Proofs.YtajapkjplgaigaaDoor.P
open Go.RowKit Go.Proofs.YtajapkjplgaigaaDoorW.PrintWords Go.Proofs.YtajapkjplgaigaaDoorW.PrintLast Go.Proofs.YtajapkjplgaigaaDoorW.PrintMore
set_option linter.unusedVariables false
set_option linter.unusedSimpArgs false
def Ev {α : Type} (f : Nat → Option α) (x : α) : Prop := ∃ K, ∀ k, K ≤ k → f k = some x
section
variable {α β : Type} {f f' : Nat → Option α} {x : α} {y : β}
theorem Ev.get (h : Ev f x) : ∃ k, f k = some x := by
 obtain ⟨K, h⟩ := h
 exact ⟨K, h K (Nat.le_refl _)⟩
theorem Ev.pure (x : α) : Ev (fun _ => some x) x := ⟨0, fun _ _ => rfl⟩
theorem Ev.eq {o : Option α} (h : o = some x) : Ev (fun _ => o) x := ⟨0, fun _ _ => h⟩
theorem Ev.bind {g : Nat → α → Option β} (hf : Ev f x) (hg : Ev (fun k => g k x) y) : Ev (fun k => (f k).bind (g k)) y := by
 obtain ⟨K, hf⟩ := hf
 obtain ⟨L, hg⟩ := hg
 exact ⟨max K L, fun k hk => by show (f k).bind (g k) = some y; rw [hf k (by omega)]; exact hg k (by omega)⟩
theorem Ev.pos {c : Prop} [Decidable c] (hc : c) (h : Ev f x) : Ev (fun k => if c then f k else f' k) x := by
 obtain ⟨K, h⟩ := h
 exact ⟨K, fun k hk => (if_pos hc).trans (h k hk)⟩
theorem Ev.neg {c : Prop} [Decidable c] (hc : ¬ c) (h : Ev f' x) : Ev (fun k => if c then f k else f' k) x := by
 obtain ⟨K, h⟩ := h
 exact ⟨K, fun k hk => (if_neg hc).trans (h k hk)⟩
theorem Ev.ite {c : Prop} [Decidable c] (h : c → Ev f x) (h' : ¬ c → Ev f' x) : Ev (fun k => if c then f k else f' k) x := by
 by_cases hc : c
 ·exact Ev.pos hc (h hc)
 ·exact Ev.neg hc (h' hc)
theorem Ev.succ (h : Ev (fun k => f (k + 1)) x) : Ev f x := by
 obtain ⟨K, h⟩ := h
 exact ⟨K + 1, fun k hk => by
  obtain ⟨j, rfl⟩ : ∃ j, k = j + 1 := ⟨k - 1, by omega⟩
  exact h j (by omega)⟩
end
theorem w64 {n : Int} (h : -9223372036854775808 ≤ n) (h' : n ≤ 9223372036854775807) : wrap64 n = n := by unfold wrap64; omega
theorem w64n (n : Nat) (h : n < 4611686018427387904) : wrap64 ((n : Int) + 1) = ((n + 1 : Nat) : Int) := by rw [w64 (by omega) (by omega)]; omega
theorem snoc_eq {α : Type} (pre : List α) (x : α) (r : List α) : pre ++ x :: r = (pre ++ [x]) ++ r := by simp
theorem len_lt {α : Type} (pre : List α) (x : α) (r : List α) : (pre.length : Int) < ((pre ++ x :: r).length : Int) := by simp only [List.length_append, List.length_cons]; omega
theorem len_nlt {α : Type} (pre : List α) : ¬ (pre.length : Int) < ((pre ++ []).length : Int) := by simp
theorem len_next {α : Type} (pre : List α) (x : α) (h : pre.length < 4611686018427387904) : wrap64 ((pre.length : Int) + 1) = ((pre ++ [x]).length : Int) := by rw [w64n _ h]; simp
theorem rdm (pre : List Int) (x : Int) (r : List Int) : rd (pre ++ x :: r) (pre.length : Int) = x := by simp [rd]
end Go.Proofs.YtajapkjplgaigaaDoor.P
end
section
namespace Go.Proofs.YtajapkjplgaigaaDoor.P
open Go.RowKit Go.Shelf Go.Proofs.YtajapkjplgaigaaDoorW.PrintWords Go.Proofs.YtajapkjplgaigaaDoorW.PrintLast Go.Proofs.YtajapkjplgaigaaDoorW.PrintMore
set_option linter.unusedVariables false
set_option linter.unusedSimpArgs false
def inB (a b x : Int) : Bool := decide (a ≤ x ∧ x ≤ b)
theorem inRange_eq (x a b : Int) : spec_inRange.f x a b = some (inB a b x) := by
 unfold spec_inRange.f inB
 by_cases h : a ≤ x
 ·rw [if_pos h]; simp [h]
 ·rw [if_neg h]; simp [h]
theorem allIn_go (a b : Int) : ∀ (r pre : List Int), pre.length + r.length < 4611686018427387904 → Ev (fun k => spec_allIn.l0 k (pre ++ r) a b (pre.length : Int)) (r.all (inB a b))
 | [], pre, _ => by
  refine Ev.succ ?_
  simp only [spec_allIn.l0]
  exact Ev.neg (len_nlt pre) (Ev.pure _)
 | x :: r, pre, h => by
  refine Ev.succ ?_
  simp only [spec_allIn.l0]
  refine Ev.pos (len_lt _ _ _) (Ev.pos (by omega) (Ev.bind (Ev.eq (inRange_eq _ _ _)) ?_))
  rw [rdm]
  have hl : pre.length < 4611686018427387904 := by simp only [List.length_cons] at h; omega
  refine Ev.ite (fun hc => ?_) (fun hc => ?_)
  ·rw [len_next pre x hl, snoc_eq, List.all_cons, hc, Bool.true_and]
   exact allIn_go a b r (pre ++ [x]) (by simp only [List.length_append, List.length_cons, List.length_nil] at h ⊢; omega)
  ·rw [List.all_cons, Bool.eq_false_iff.2 hc, Bool.false_and]
   exact Ev.pure _
theorem allIn_ev (l : List Int) (a b : Int) (h : l.length < 4611686018427387904) : Ev (fun k => spec_allIn.f k l a b) (l.all (inB a b)) := allIn_go a b l [] (by simpa using h)
def ascB : List Int → Bool
 | x :: y :: r => decide (x < y) && ascB (y :: r)
 | _ => true
theorem ascends_go : ∀ (r pre : List Int) (x : Int), pre.length + r.length + 1 < 4611686018427387904 → Ev (fun k => spec_ascends.l0 k (pre ++ x :: r) ((pre.length : Int) + 1)) (ascB (x :: r))
 | [], pre, x, _ => by
  refine Ev.succ ?_
  simp only [spec_ascends.l0]
  exact Ev.neg (by simp) (Ev.pure _)
 | y :: r, pre, x, h => by
  have hl : pre.length < 4611686018427387904 := by simp only [List.length_cons] at h; omega
  have h1 : wrap64 ((pre.length : Int) + 1 - 1) = (pre.length : Int) := by rw [w64 (by omega) (by omega)]; omega
  have h2 : rd (pre ++ x :: y :: r) ((pre.length : Int) + 1) = y := by
   simp [rd]
  refine Ev.succ ?_
  simp only [spec_ascends.l0, h1, h2, rdm]
  refine Ev.pos (by simp only [List.length_append, List.length_cons]; omega) (Ev.pos (by omega) (Ev.pos (by omega) (Ev.pos (len_lt _ _ _) (Ev.ite (fun hc => ?_) (fun hc => ?_)))))
  ·rw [ascB, decide_eq_false (by omega), Bool.false_and]
   exact Ev.pure _
  ·have h3 : wrap64 ((pre.length : Int) + 1 + 1) = ((pre ++ [x]).length : Int) + 1 := by
    simp only [List.length_append, List.length_cons, List.length_nil] at h ⊢
    rw [w64 (by omega) (by omega)]; omega
   rw [h3, snoc_eq, ascB, decide_eq_true (by omega : x < y), Bool.true_and]
   exact ascends_go r (pre ++ [x]) y (by simp only [List.length_append, List.length_cons, List.length_nil] at h ⊢; omega)
theorem ascends_ev (l : List Int) (h : l.length < 4611686018427387904) : Ev (fun k => spec_ascends.f k l) (ascB l) := by
 cases l with
 | nil =>
  unfold spec_ascends.f
  refine Ev.succ ?_
  simp only [spec_ascends.l0]
  exact Ev.neg (by simp) (Ev.pure _)
 | cons x r => exact ascends_go r [] x (by simp only [List.length_cons, List.length_nil] at h ⊢; omega)
def taskB (n : Nat) (t : TT) : Bool := inB 1 20 t.f0 && inB 0 2 t.f2 && inB 1 4 t.f3 && t.f1.all (inB 0 ((n : Int) - 1)) && ascB t.f1
theorem validTask_ev (n : Nat) (t : TT) (hn : n < 4611686018427387904) (h : t.f1.length < 4611686018427387904) : Ev (fun k => spec_validTask.f k t.f0 t.f1 t.f2 t.f3 (n : Int)) (taskB n t) := by
 unfold spec_validTask.f taskB
 have hw : wrap64 ((n : Int) - 1) = (n : Int) - 1 := w64 (by omega) (by omega)
 rw [hw]
 refine Ev.bind (Ev.eq (inRange_eq _ _ _)) (Ev.ite (fun h0 => ?_) (fun h0 => ?_))
 ·refine Ev.bind (Ev.eq (inRange_eq _ _ _)) (Ev.ite (fun h1 => ?_) (fun h1 => ?_))
  ·refine Ev.bind (Ev.eq (inRange_eq _ _ _)) (Ev.ite (fun h2 => ?_) (fun h2 => ?_))
   ·refine Ev.bind (allIn_ev _ _ _ h) (Ev.ite (fun h3 => ?_) (fun h3 => ?_))
    ·rw [h0, h1, h2, h3]
     exact Ev.bind (ascends_ev _ h) (Ev.pure _)
    ·rw [Bool.eq_false_iff.2 h3]; simp only [Bool.and_false, Bool.false_and]; exact Ev.pure _
   ·rw [Bool.eq_false_iff.2 h2]; simp only [Bool.and_false, Bool.false_and]; exact Ev.pure _
  ·rw [Bool.eq_false_iff.2 h1]; simp only [Bool.and_false, Bool.false_and]; exact Ev.pure _
 ·rw [Bool.eq_false_iff.2 h0]; simp only [Bool.and_false, Bool.false_and]; exact Ev.pure _
def Small (ts : List TT) : Prop := ts.length < 1099511627776 ∧ ∀ t ∈ ts, t.f1.length < 1099511627776
theorem rdT (pre : List TT) (x : TT) (r : List TT) : rd_T39 (pre ++ x :: r) (pre.length : Int) = x := by simp [rd_T39]
def fineB (ts : List TT) : Bool := ts.all (taskB ts.length) && decide (ts.length ≤ 8)
theorem tasksFine_go (ts : List TT) (hs : Small ts) : ∀ (r pre : List TT), pre ++ r = ts → Ev (fun k => spec_tasksFine.l0 k ts (pre.length : Int)) (r.all (taskB ts.length) && decide (ts.length ≤ 8))
 | [], pre, he => by
  subst he
  refine Ev.succ ?_
  simp only [spec_tasksFine.l0]
  refine Ev.neg (len_nlt pre) ?_
  simp only [List.all_nil, Bool.true_and]
  refine Ev.eq ?_
  congr 1
  exact decide_eq_decide.2 (by omega)
 | x :: r, pre, he => by
  have hl := hs.1
  have hx := hs.2 x (by rw [← he]; simp)
  have h1 : rd_T39 ts (pre.length : Int) = x := by rw [← he]; exact rdT pre x r
  have h2 : (pre.length : Int) < (ts.length : Int) := by rw [← he]; exact len_lt _ _ _
  refine Ev.succ ?_
  simp only [spec_tasksFine.l0, h1]
  refine Ev.pos h2 (Ev.pos (by omega) (Ev.bind (validTask_ev ts.length x (by omega) (by omega)) (Ev.ite (fun hc => ?_) (fun hc => ?_))))
  ·rw [len_next pre x (by omega), List.all_cons, hc, Bool.true_and]
   exact tasksFine_go ts hs r (pre ++ [x]) (by rw [← he]; simp)
  ·rw [List.all_cons, Bool.eq_false_iff.2 hc, Bool.false_and, Bool.false_and]
   exact Ev.pure _
theorem tasksFine_ev (ts : List TT) (hs : Small ts) : Ev (fun k => spec_tasksFine.f k ts) (fineB ts) := tasksFine_go ts hs ts [] rfl
theorem isIn_go (n : Int) : ∀ (r pre : List Int), pre.length + r.length < 4611686018427387904 → Ev (fun k => spec_isIn.l0 k (pre ++ r) n (pre.length : Int)) (decide (n ∈ r))
 | [], pre, _ => by
  refine Ev.succ ?_
  simp only [spec_isIn.l0]
  exact Ev.neg (len_nlt pre) (Ev.eq (by simp))
 | x :: r, pre, h => by
  have hl : pre.length < 4611686018427387904 := by simp only [List.length_cons] at h; omega
  refine Ev.succ ?_
  simp only [spec_isIn.l0, rdm]
  refine Ev.pos (len_lt _ _ _) (Ev.pos (by omega) (Ev.ite (fun hc => ?_) (fun hc => ?_)))
  ·rw [decide_eq_true (by rw [hc]; exact List.mem_cons_self)]
   exact Ev.pure _
  ·rw [len_next pre x hl, snoc_eq, show decide (n ∈ x :: r) = decide (n ∈ r) from decide_eq_decide.2 (by rw [List.mem_cons]; exact ⟨fun h => h.resolve_left (fun e => hc e.symm), Or.inr⟩)]
   exact isIn_go n r (pre ++ [x]) (by simp only [List.length_append, List.length_cons, List.length_nil] at h ⊢; omega)
theorem isIn_ev (l : List Int) (n : Int) (h : l.length < 4611686018427387904) : Ev (fun k => spec_isIn.f k l n) (decide (n ∈ l)) := isIn_go n l [] (by simpa using h)
def subL (needs done : List Int) : Bool := needs.all fun x => decide (x ∈ done)
theorem allDone_go (done : List Int) (hd : done.length < 4611686018427387904) : ∀ (r pre : List Int), pre.length + r.length < 4611686018427387904 → Ev (fun k => spec_allDone.l0 k (pre ++ r) done (pre.length : Int)) (subL r done)
 | [], pre, _ => by
  refine Ev.succ ?_
  simp only [spec_allDone.l0]
  exact Ev.neg (len_nlt pre) (Ev.pure _)
 | x :: r, pre, h => by
  have hl : pre.length < 4611686018427387904 := by simp only [List.length_cons] at h; omega
  refine Ev.succ ?_
  simp only [spec_allDone.l0, rdm]
  refine Ev.pos (len_lt _ _ _) (Ev.pos (by omega) (Ev.bind (isIn_ev _ _ hd) (Ev.ite (fun hc => ?_) (fun hc => ?_))))
  ·rw [len_next pre x hl, snoc_eq, subL, List.all_cons, hc, Bool.true_and]
   exact allDone_go done hd r (pre ++ [x]) (by simp only [List.length_append, List.length_cons, List.length_nil] at h ⊢; omega)
  ·rw [subL, List.all_cons, Bool.eq_false_iff.2 hc, Bool.false_and]
   exact Ev.pure _
theorem allDone_ev (l done : List Int) (h : l.length < 4611686018427387904) (hd : done.length < 4611686018427387904) : Ev (fun k => spec_allDone.f k l done) (subL l done) := allDone_go done hd l [] (by simpa using h)
end Go.Proofs.YtajapkjplgaigaaDoor.P
end
section
namespace Go.Proofs.YtajapkjplgaigaaDoor.P
open Go.RowKit Go.Shelf Go.Proofs.YtajapkjplgaigaaDoorW.PrintWords Go.Proofs.YtajapkjplgaigaaDoorW.PrintLast Go.Proofs.YtajapkjplgaigaaDoorW.PrintMore
set_option linter.unusedVariables false
set_option linter.unusedSimpArgs false
def maskL (l : List Int) : Nat := l.foldl (fun s i => s ||| 2 ^ i.toNat) 0
theorem mask_bit (l : List Int) : ∀ (s : Nat) (j : Nat), (∀ x ∈ l, 0 ≤ x) → (l.foldl (fun s i => s ||| 2 ^ i.toNat) s).testBit j = (s.testBit j || decide ((j : Int) ∈ l)) := by
 induction l with
 | nil => intro s j _; simp
 | cons x r ih =>
  intro s j h
  have hx := h x List.mem_cons_self
  rw [List.foldl_cons, ih _ _ (fun y hy => h y (List.mem_cons_of_mem _ hy)), Nat.testBit_or, Nat.testBit_two_pow, Bool.or_assoc]
  congr 1
  rw [← Bool.decide_or]
  refine decide_eq_decide.2 ?_
  rw [List.mem_cons]
  constructor
  ·rintro (h1 | h1)
   ·exact Or.inl (by omega)
   ·exact Or.inr h1
  ·rintro (h1 | h1)
   ·exact Or.inl (by omega)
   ·exact Or.inr h1
theorem maskL_bit {l : List Int} (h : ∀ x ∈ l, 0 ≤ x) (j : Nat) : (maskL l).testBit j = decide ((j : Int) ∈ l) := by
 unfold maskL; rw [mask_bit l 0 j h]; simp
theorem setGo_eq (n : Nat) : ∀ (l : List Int) (last : Int) (s : Nat), -1 ≤ last → setGo n l last s = if (ascB (last :: l) && l.all (inB 0 ((n : Int) - 1))) = true then some (l.foldl (fun s i => s ||| 2 ^ i.toNat) s) else none
 | [], last, s, h => by simp [setGo, ascB]
 | i :: r, last, s, h => by
  unfold setGo
  by_cases hc : last + 1 ≤ i ∧ i < n
  ·rw [if_pos hc, setGo_eq n r i _ (by omega)]
   rw [ascB, List.all_cons, decide_eq_true (by omega : last < i), Bool.true_and, show inB 0 ((n : Int) - 1) i = true from decide_eq_true (by omega), Bool.true_and]
   rfl
  ·rw [if_neg hc, if_neg]
   intro h2
   rw [ascB, List.all_cons] at h2
   simp only [Bool.and_eq_true, decide_eq_true_eq, inB] at h2
   omega
theorem ascB_neg {l : List Int} (h : ∀ x ∈ l, 0 ≤ x) : ascB (-1 :: l) = ascB l := by
 cases l with
 | nil => rfl
 | cons x r => rw [ascB, decide_eq_true (by have := h x List.mem_cons_self; omega), Bool.true_and]
theorem setP_eq (l : List Int) (n : Nat) : setP l n = if (ascB l && l.all (inB 0 ((n : Int) - 1))) = true then some (maskL l) else none := by
 unfold setP
 rw [setGo_eq n l (-1) 0 (by omega)]
 by_cases hA : l.all (inB 0 ((n : Int) - 1)) = true
 ·have h0 : ∀ x ∈ l, 0 ≤ x := fun x hx => by
   have := List.all_eq_true.1 hA x hx
   simp only [inB, decide_eq_true_eq] at this
   exact this.1
  rw [ascB_neg h0]; rfl
 ·rw [Bool.eq_false_iff.2 hA, Bool.and_false, Bool.and_false]; rfl
theorem taskP_eq (n : Nat) (t : TT) : taskP n t = if taskB n t = true then some (maskL t.f1) else none := by
 unfold taskP taskB
 rw [setP_eq]
 by_cases h1 : (ascB t.f1 && t.f1.all (inB 0 ((n : Int) - 1))) = true
 ·rw [if_pos h1]
  have h2 := Bool.and_eq_true_iff.1 h1
  rw [h2.1, h2.2]
  simp only [Bool.and_true, inB, Bool.and_eq_true, decide_eq_true_eq, and_assoc]
 ·rw [if_neg h1, if_neg]
  intro h
  simp only [Bool.and_eq_true] at h h1
  exact h1 ⟨h.2, h.1.2⟩
theorem needsGo_eq (n : Nat) : ∀ (r : List TT) (acc : List Nat), needsGo n r acc = if r.all (taskB n) = true then some (acc ++ r.map fun t => maskL t.f1) else none
 | [], acc => by simp [needsGo]
 | t :: r, acc => by
  unfold needsGo
  rw [taskP_eq]
  by_cases h : taskB n t = true
  ·rw [if_pos h]
   show needsGo n r (acc ++ [maskL t.f1]) = _
   rw [needsGo_eq n r, List.all_cons, h, Bool.true_and, List.map_cons, List.append_assoc]
   rfl
  ·rw [if_neg h, List.all_cons, Bool.eq_false_iff.2 h, Bool.false_and]
   rfl
def needsM (ts : List TT) : List Nat := ts.map fun t => maskL t.f1
theorem needsP_eq (ts : List TT) : needsP ts = if fineB ts = true then some (needsM ts) else none := by
 unfold needsP fineB
 by_cases h : ts.length > 8
 ·rw [if_pos h, decide_eq_false (by omega), Bool.and_false]; rfl
 ·rw [if_neg h, needsGo_eq, decide_eq_true (by omega : ts.length ≤ 8), Bool.and_true]; rfl
theorem fine_task {ts : List TT} (h : fineB ts = true) {i : Nat} (hi : i < ts.length) : taskB ts.length ts[i] = true := by
 have := (Bool.and_eq_true_iff.1 h).1
 exact List.all_eq_true.1 this _ (List.getElem_mem hi)
theorem fine_len {ts : List TT} (h : fineB ts = true) : ts.length ≤ 8 := of_decide_eq_true (Bool.and_eq_true_iff.1 h).2
theorem task_mem {n : Nat} {t : TT} (h : taskB n t = true) : (∀ x ∈ t.f1, 0 ≤ x ∧ x < n) ∧ ascB t.f1 = true := by
 unfold taskB at h
 simp only [Bool.and_eq_true] at h
 refine ⟨fun x hx => ?_, h.2⟩
 have := List.all_eq_true.1 h.1.2 x hx
 simp only [inB, decide_eq_true_eq] at this
 omega
theorem needsM_get (ts : List TT) (i : Nat) (hi : i < ts.length) : (needsM ts).getD i 0 = maskL (ts[i].f1) := by
 simp [needsM, List.getD_eq_getElem?_getD, List.getElem?_map, List.getElem?_eq_getElem hi]
theorem rdT_at (ts : List TT) (i : Nat) (hi : i < ts.length) : rd_T39 ts (i : Int) = ts[i] := by
 simp [rd_T39, List.getElem?_eq_getElem hi]
theorem sub_eq {l done : List Int} (hl : ∀ x ∈ l, 0 ≤ x) (s : Nat) (hs : ∀ j, s.testBit j = decide ((j : Int) ∈ done)) : (maskL l &&& s == maskL l) = subL l done := by
 rw [Bool.eq_iff_iff]
 unfold subL
 rw [List.all_eq_true, beq_iff_eq]
 constructor
 ·intro h x hx
  have hx0 := hl x hx
  have h1 : (maskL l).testBit x.toNat = true := by rw [maskL_bit hl, decide_eq_true]; rwa [Int.toNat_of_nonneg hx0]
  rw [← h, Nat.testBit_and, hs, Bool.and_eq_true] at h1
  have h2 := of_decide_eq_true h1.2
  rw [Int.toNat_of_nonneg hx0] at h2
  exact decide_eq_true h2
 ·intro h
  refine Nat.eq_of_testBit_eq fun j => ?_
  rw [Nat.testBit_and, hs, maskL_bit hl]
  by_cases hj : (j : Int) ∈ l
  ·have := h _ hj
   rw [this, Bool.and_true]
  ·rw [decide_eq_false hj, Bool.false_and]
theorem canP_eq {ts : List TT} (hf : fineB ts = true) {done : List Int} {s : Nat} (hs : ∀ j, s.testBit j = decide ((j : Int) ∈ done)) {i : Nat} (hi : i < ts.length) :
  canP (needsM ts) s i = (!decide ((i : Int) ∈ done) && subL ts[i].f1 done) := by
 unfold canP
 rw [needsM_get ts i hi, sub_eq (fun x hx => ((task_mem (fine_task hf hi)).1 x hx).1) s hs, hs]
def findFrom (p : Nat → Bool) (n j : Nat) : Option Nat := ((List.range n).drop j).find? p
theorem findFrom_step (p : Nat → Bool) (n j : Nat) (h : j < n) : findFrom p n j = if p j then some j else findFrom p n (j + 1) := by
 unfold findFrom
 rw [List.drop_eq_getElem_cons (by simpa using h), List.find?_cons, List.getElem_range]
 cases p j <;> rfl
theorem findFrom_end (p : Nat → Bool) (n : Nat) : findFrom p n n = none := by
 unfold findFrom
 rw [List.drop_eq_nil_of_le (by simp)]; rfl
theorem top_l1 (ts : List TT) (hs : Small ts) (hf : fineB ts = true) (out : List Nat) (s : Nat) (hb : ∀ j, s.testBit j = decide (((j : Nat) : Int) ∈ nI out)) (hl : out.length ≤ 8) (r : List Int)
  (hnone : firstP (needsM ts) s = none → r = nI out)
  (hsome : ∀ i, firstP (needsM ts) s = some i → Ev (fun k => spec_topOrder.l0 k ts (nI (out ++ [i]))) r) :
  ∀ (m j : Nat), j + m = ts.length → findFrom (canP (needsM ts) s) ts.length j = firstP (needsM ts) s → Ev (fun k => spec_topOrder.l1 k ts (nI out) (-1) (j : Int)) r := by
 have hlen : ts.length ≤ 8 := fine_len hf
 have hnl : (nI out).length = out.length := nI_length out
 intro m
 induction m with
 | zero =>
  intro j hj hfind
  have hjn : j = ts.length := by omega
  subst hjn
  rw [findFrom_end] at hfind
  refine Ev.succ ?_
  simp only [spec_topOrder.l1]
  refine Ev.neg (by omega) (Ev.succ ?_)
  simp only [spec_topOrder.j2]
  refine Ev.neg (by simp) (Ev.pos (by omega) ?_)
  rw [hnone hfind.symm]
  exact Ev.pure _
 | succ m ih =>
  intro j hj hfind
  have hjl : j < ts.length := by omega
  have hw : wrap64 ((j : Int) + 1) = ((j + 1 : Nat) : Int) := w64n j (by omega)
  rw [findFrom_step _ _ _ hjl, canP_eq hf hb hjl] at hfind
  refine Ev.succ ?_
  simp only [spec_topOrder.l1]
  refine Ev.pos (by omega) (Ev.succ ?_)
  simp only [spec_topOrder.j2]
  refine Ev.pos (by simp) (Ev.bind (isIn_ev _ _ (by omega)) (Ev.ite (fun hc => ?_) (fun hc => ?_)))
  ·rw [hc] at hfind
   simp only [Bool.not_true, Bool.false_and] at hfind
   rw [hw]
   exact ih (j + 1) (by omega) hfind
  ·rw [Bool.eq_false_iff.2 hc] at hfind
   simp only [Bool.not_false, Bool.true_and] at hfind
   rw [rdT_at ts j hjl, hw]
   have h1 := hs.2 ts[j] (List.getElem_mem hjl)
   refine Ev.pos (by omega) (Ev.pos (by omega) (Ev.bind (allDone_ev _ _ (by omega) (by omega)) (Ev.ite (fun hd => ?_) (fun hd => ?_))))
   ·rw [if_pos hd] at hfind
    refine Ev.succ ?_
    simp only [spec_topOrder.l1]
    have hgo : Ev (fun k => spec_topOrder.j2 k ts (nI out) (j : Int) ((j + 1 : Nat) : Int) false) r := by
     refine Ev.succ ?_
     simp only [spec_topOrder.j2]
     refine Ev.neg (by simp) (Ev.neg (by omega) (Ev.pos (by omega) ?_))
     have := hsome j hfind.symm
     simpa [nI] using this
    refine Ev.ite (fun h2 => ?_) (fun h2 => hgo)
    rw [decide_eq_false (by omega)]
    exact hgo
   ·rw [if_neg hd] at hfind
    exact ih (j + 1) (by omega) hfind
theorem nodup_len : ∀ (a b : List Nat), a.Nodup → (∀ x ∈ a, x ∈ b) → a.length ≤ b.length
 | [], b, _, _ => Nat.zero_le _
 | x :: a, b, h, hs => by
  have hx : x ∈ b := hs x List.mem_cons_self
  have h1 := nodup_len a (b.erase x) (List.nodup_cons.1 h).2 (fun y hy => (List.mem_erase_of_ne (fun (e : y = x) => (List.nodup_cons.1 h).1 (by rw [← e]; exact hy))).2 (hs y (List.mem_cons_of_mem _ hy)))
  rw [List.length_erase_of_mem hx] at h1
  have : 0 < b.length := List.length_pos_of_mem hx
  rw [List.length_cons]
  omega
structure OrdOk (n : Nat) (out : List Nat) (s : Nat) : Prop where
 nd : out.Nodup
 lt : ∀ i ∈ out, i < n
 bit : ∀ j, s.testBit j = decide (j ∈ out)
theorem mem_nI {out : List Nat} {j : Nat} : ((j : Nat) : Int) ∈ nI out ↔ j ∈ out := by
 unfold nI
 rw [List.mem_map]
 exact ⟨fun ⟨x, hx, he⟩ => by rwa [show j = x by omega], fun h => ⟨j, h, rfl⟩⟩
theorem OrdOk.bits {n : Nat} {out : List Nat} {s : Nat} (h : OrdOk n out s) (j : Nat) : s.testBit j = decide (((j : Nat) : Int) ∈ nI out) := by
 rw [h.bit]; exact decide_eq_decide.2 mem_nI.symm
theorem OrdOk.len {n : Nat} {out : List Nat} {s : Nat} (h : OrdOk n out s) : out.length ≤ n := by
 have := nodup_len out (List.range n) h.nd (fun i hi => List.mem_range.2 (h.lt i hi))
 simpa using this
theorem OrdOk.add {n : Nat} {out : List Nat} {s i : Nat} (h : OrdOk n out s) (hi : i < n) (hn : s.testBit i = false) : OrdOk n (out ++ [i]) (s ||| 2 ^ i) := by
 have hni : i ∉ out := fun hm => by rw [h.bit, decide_eq_true hm] at hn; cases hn
 refine ⟨List.nodup_append.2 ⟨h.nd, by simp, fun a ha b hb => by rw [List.mem_singleton] at hb; subst hb; exact fun e => hni (e ▸ ha)⟩, fun j hj => ?_, fun j => ?_⟩
 ·rcases List.mem_append.1 hj with hj | hj
  ·exact h.lt j hj
  ·rw [List.mem_singleton.1 hj]; exact hi
 ·rw [Nat.testBit_or, h.bit, Nat.testBit_two_pow, ← Bool.decide_or]
  refine decide_eq_decide.2 ?_
  rw [List.mem_append, List.mem_singleton]
  exact or_congr Iff.rfl eq_comm
theorem firstP_can {nd : List Nat} {s i : Nat} (h : firstP nd s = some i) : i < nd.length ∧ canP nd s i = true := by
 refine ⟨firstP_lt h, ?_⟩
 have := List.find?_some h
 exact this
theorem OrdOk.full {n : Nat} {out : List Nat} {s : Nat} (h : OrdOk n out s) (hl : out.length = n) (nd : List Nat) (hnl : nd.length = n) : firstP nd s = none := by
 cases hf : firstP nd s with
 | none => rfl
 | some i =>
  obtain ⟨h1, h2⟩ := firstP_can hf
  have h3 : s.testBit i = false := by unfold canP at h2; simp only [Bool.and_eq_true, Bool.not_eq_true'] at h2; exact h2.1
  have h4 := (h.add (by omega) h3).len
  simp only [List.length_append, List.length_cons, List.length_nil] at h4
  omega
theorem orderGo_none {nd : List Nat} {s : List Nat × Nat} (h : firstP nd s.2 = none) : ∀ m, orderGo nd m s = s
 | 0 => rfl
 | m + 1 => by
  have : orderStep nd s = s := by unfold orderStep; rw [h]
  rw [orderGo, this]
  exact orderGo_none h m
theorem top_l0 (ts : List TT) (hs : Small ts) (hf : fineB ts = true) : ∀ (m : Nat) (out : List Nat) (s : Nat), OrdOk ts.length out s → out.length + m = ts.length →
  Ev (fun k => spec_topOrder.l0 k ts (nI out)) (nI (orderGo (needsM ts) m (out, s)).1) ∧ OrdOk ts.length (orderGo (needsM ts) m (out, s)).1 (orderGo (needsM ts) m (out, s)).2 := by
 have hlen : ts.length ≤ 8 := fine_len hf
 have hnl : (needsM ts).length = ts.length := by simp [needsM]
 intro m
 induction m with
 | zero =>
  intro out s ho hm
  have hno := ho.full (by omega) (needsM ts) hnl
  refine ⟨?_, by simpa [orderGo] using ho⟩
  refine Ev.succ ?_
  simp only [spec_topOrder.l0, orderGo]
  exact top_l1 ts hs hf out s ho.bits (by omega) _ (fun _ => rfl) (fun i hi => by rw [hno] at hi; cases hi) ts.length 0 (by omega) (by unfold findFrom firstP; rw [List.drop_zero, hnl])
 | succ m ih =>
  intro out s ho hm
  cases hfi : firstP (needsM ts) s with
  | none =>
   rw [orderGo_none (s := (out, s)) hfi]
   refine ⟨?_, ho⟩
   refine Ev.succ ?_
   simp only [spec_topOrder.l0]
   exact top_l1 ts hs hf out s ho.bits (by omega) _ (fun _ => rfl) (fun i hi => by rw [hfi] at hi; cases hi) ts.length 0 (by omega) (by unfold findFrom firstP; rw [List.drop_zero, hnl])
  | some i =>
   obtain ⟨h1, h2⟩ := firstP_can hfi
   have h3 : s.testBit i = false := by unfold canP at h2; simp only [Bool.and_eq_true, Bool.not_eq_true'] at h2; exact h2.1
   have hstep : orderStep (needsM ts) (out, s) = (out ++ [i], s ||| 2 ^ i) := by unfold orderStep; simp only [hfi]
   rw [orderGo, hstep]
   obtain ⟨e1, e2⟩ := ih (out ++ [i]) (s ||| 2 ^ i) (ho.add (by omega) h3) (by simp only [List.length_append, List.length_cons, List.length_nil]; omega)
   refine ⟨?_, e2⟩
   refine Ev.succ ?_
   simp only [spec_topOrder.l0]
   exact top_l1 ts hs hf out s ho.bits (by omega) _ (fun h => by rw [hfi] at h; cases h) (fun i' hi => by rw [hfi] at hi; injection hi with hi; subst hi; exact e1) ts.length 0 (by omega) (by unfold findFrom firstP; rw [List.drop_zero, hnl])
theorem ordOk_nil (n : Nat) : OrdOk n [] 0 := ⟨List.nodup_nil, fun i hi => (by cases hi), fun j => (by simp)⟩
theorem topOrder_ev (ts : List TT) (hs : Small ts) (hf : fineB ts = true) : Ev (fun k => spec_topOrder.f k ts) (nI (orderP (needsM ts)).1) ∧ OrdOk ts.length (orderP (needsM ts)).1 (orderP (needsM ts)).2 := by
 have h := top_l0 ts hs hf ts.length [] 0 (ordOk_nil _) (by simp)
 unfold orderP
 have hnl : (needsM ts).length = ts.length := by simp [needsM]
 rw [hnl]
 exact h
theorem OrdOk.all {n : Nat} {out : List Nat} {s : Nat} (h : OrdOk n out s) : out.length = n ↔ s = 2 ^ n - 1 := by
 constructor
 ·intro hl
  refine Nat.eq_of_testBit_eq fun j => ?_
  rw [h.bit, Nat.testBit_two_pow_sub_one]
  refine decide_eq_decide.2 ⟨fun hj => h.lt j hj, fun hj => ?_⟩
  by_cases hm : j ∈ out
  ·exact hm
  ·have h4 := (h.add hj (by rw [h.bit, decide_eq_false hm])).len
   simp only [List.length_append, List.length_cons, List.length_nil] at h4
   omega
 ·intro he
  have := nodup_len (List.range n) out List.nodup_range (fun j hj => by
   have h1 := h.bit j
   rw [he, Nat.testBit_two_pow_sub_one, decide_eq_true (List.mem_range.1 hj)] at h1
   exact of_decide_eq_true h1.symm)
  rw [List.length_range] at this
  have := h.len
  omega
theorem graphP_some (ts : List TT) : (graphP ts).isSome = (fineB ts && decide ((orderP (needsM ts)).2 = 2 ^ ts.length - 1)) := by
 unfold graphP
 rw [needsP_eq]
 cases hf : fineB ts with
 | false => rfl
 | true =>
  simp only [if_true, Bool.true_and]
  by_cases h : (orderP (needsM ts)).2 = 2 ^ ts.length - 1
  ·rw [if_pos h, decide_eq_true h]; rfl
  ·rw [if_neg h, decide_eq_false h]; rfl
theorem graphP_fine {ts : List TT} {G : GrN} (h : graphP ts = some G) : fineB ts = true ∧ G.nd = needsM ts ∧ G.ts = ts := by
 obtain ⟨h1, h2, _⟩ := graphP_ok h
 rw [needsP_eq] at h2
 by_cases hf : fineB ts = true
 ·rw [if_pos hf] at h2
  injection h2 with h2
  exact ⟨hf, h2.symm, h1⟩
 ·rw [if_neg hf] at h2; cases h2
theorem validGraph_ev (ts : List TT) (hs : Small ts) : Ev (fun k => spec_validGraph.f k ts) (graphP ts).isSome := by
 unfold spec_validGraph.f
 rw [graphP_some]
 refine Ev.bind (tasksFine_ev ts hs) (Ev.ite (fun hf => ?_) (fun hf => ?_))
 ·obtain ⟨h1, h2⟩ := topOrder_ev ts hs hf
  refine Ev.bind h1 (Ev.eq ?_)
  congr 1
  rw [hf, Bool.true_and, nI_length, Bool.eq_iff_iff, beq_iff_eq, decide_eq_true_iff, ← h2.all]
  omega
 ·rw [Bool.eq_false_iff.2 hf]
  exact Ev.pure _
end Go.Proofs.YtajapkjplgaigaaDoor.P
end
section
namespace Go.Proofs.YtajapkjplgaigaaDoor.P
open Go.RowKit Go.Shelf Go.Proofs.YtajapkjplgaigaaDoorW.PrintWords Go.Proofs.YtajapkjplgaigaaDoorW.PrintLast Go.Proofs.YtajapkjplgaigaaDoorW.PrintMore
set_option linter.unusedVariables false
set_option linter.unusedSimpArgs false
def keepsL (ts : List TT) (done : List Int) (d : Int) : Bool := subL (rd_T39 ts d).f1 done
theorem small_rd {ts : List TT} (hs : Small ts) (i : Int) : (rd_T39 ts i).f1.length < 1099511627776 := by
 unfold rd_T39
 rw [List.getD_eq_getElem?_getD]
 cases h : ts[i.toNat]? with
 | none => simp [z39]
 | some t => exact hs.2 t (List.mem_of_getElem? h)
theorem validDone_go (ts : List TT) (hs : Small ts) (done : List Int) (hd : done.length < 1099511627776) (hr : ∀ x ∈ done, 0 ≤ x ∧ x < ts.length) : ∀ (r pre : List Int), pre ++ r = done → Ev (fun k => spec_validDone.l0 k ts done (pre.length : Int)) (r.all (keepsL ts done))
 | [], pre, he => by
  subst he
  refine Ev.succ ?_
  simp only [spec_validDone.l0]
  exact Ev.neg (len_nlt pre) (Ev.pure _)
 | x :: r, pre, he => by
  have hx := hr x (by rw [← he]; simp)
  have h1 : rd done (pre.length : Int) = x := by rw [← he]; exact rdm pre x r
  have h2 : (pre.length : Int) < (done.length : Int) := by rw [← he]; exact len_lt _ _ _
  refine Ev.succ ?_
  simp only [spec_validDone.l0, h1]
  refine Ev.pos h2 (Ev.pos (by omega) (Ev.pos hx.1 (Ev.pos hx.2 (Ev.bind (allDone_ev _ _ (by have := small_rd hs x; omega) (by omega)) (Ev.ite (fun hc => ?_) (fun hc => ?_))))))
  ·rw [len_next pre x (by omega), List.all_cons, show keepsL ts done x = true from hc, Bool.true_and]
   exact validDone_go ts hs done hd hr r (pre ++ [x]) (by rw [← he]; simp)
  ·rw [List.all_cons, show keepsL ts done x = false from Bool.eq_false_iff.2 hc, Bool.false_and]
   exact Ev.pure _
def doneB (ts : List TT) (done : List Int) : Bool := (graphP ts).isSome && ascB done && done.all (inB 0 ((ts.length : Int) - 1)) && done.all (keepsL ts done)
theorem inB_all {l : List Int} {n : Nat} (h : l.all (inB 0 ((n : Int) - 1)) = true) : ∀ x ∈ l, 0 ≤ x ∧ x < n := fun x hx => by
 have := List.all_eq_true.1 h x hx
 simp only [inB, decide_eq_true_eq] at this
 omega
theorem validDone_evB (ts : List TT) (hs : Small ts) (done : List Int) (hd : done.length < 1099511627776) : Ev (fun k => spec_validDone.f k ts done) (doneB ts done) := by
 unfold spec_validDone.f doneB
 have hl := hs.1
 rw [w64 (n := (ts.length : Int) - 1) (by omega) (by omega)]
 refine Ev.bind (validGraph_ev ts hs) (Ev.ite (fun h0 => ?_) (fun h0 => ?_))
 ·refine Ev.bind (ascends_ev done (by omega)) (Ev.ite (fun h1 => ?_) (fun h1 => ?_))
  ·refine Ev.bind (allIn_ev done _ _ (by omega)) (Ev.succ ?_)
   simp only [spec_validDone.j0]
   rw [h0, h1]
   refine Ev.ite (fun h2 => ?_) (fun h2 => ?_)
   ·rw [show done.all (inB 0 ((ts.length : Int) - 1)) = false by simpa using h2]
    exact Ev.pure _
   ·have h3 : done.all (inB 0 ((ts.length : Int) - 1)) = true := by simpa using h2
    rw [h3]
    exact validDone_go ts hs done hd (inB_all h3) done [] rfl
  ·rw [Bool.eq_false_iff.2 h1, Bool.and_false, Bool.false_and, Bool.false_and]
   refine Ev.succ ?_
   simp only [spec_validDone.j0]
   exact Ev.pos (by simp) (Ev.pure _)
 ·rw [Bool.eq_false_iff.2 h0, Bool.false_and, Bool.false_and, Bool.false_and]
  refine Ev.succ ?_
  simp only [spec_validDone.j0]
  exact Ev.pos (by simp) (Ev.pure _)
theorem closedP_eq {ts : List TT} (hf : fineB ts = true) {done : List Int} (hr : ∀ x ∈ done, 0 ≤ x ∧ x < ts.length) : closedP (needsM ts) (maskL done) = done.all (keepsL ts done) := by
 have h0 : ∀ x ∈ done, 0 ≤ x := fun x hx => (hr x hx).1
 have hlen := fine_len hf
 have hone : ∀ (i : Nat), i < ts.length → ((needsM ts).getD i 0 &&& maskL done == (needsM ts).getD i 0) = keepsL ts done (i : Int) := fun i hi => by
  rw [needsM_get ts i hi, keepsL, rdT_at ts i hi]
  exact sub_eq (fun x hx => ((task_mem (fine_task hf hi)).1 x hx).1) _ (maskL_bit h0)
 unfold closedP
 rw [Bool.eq_iff_iff, List.all_eq_true, List.all_eq_true]
 constructor
 ·intro h x hx
  have hx1 := hr x hx
  have := h x.toNat (mem_bitsN.2 ⟨by omega, by rw [maskL_bit h0]; exact decide_eq_true (by rw [Int.toNat_of_nonneg hx1.1]; exact hx)⟩)
  rw [hone _ (by omega), Int.toNat_of_nonneg hx1.1] at this
  exact this
 ·intro h i hi
  have h1 := (mem_bitsN.1 hi).2
  rw [maskL_bit h0] at h1
  have h2 := of_decide_eq_true h1
  rw [hone _ (by have := hr _ h2; omega)]
  exact h _ h2
structure DoneOk (ts : List TT) (done : List Int) (G : GrN) (s : Nat) : Prop where
 g : graphP ts = some G
 fine : fineB ts = true
 nd : G.nd = needsM ts
 gts : G.ts = ts
 s : s = maskL done
 asc : ascB done = true
 rng : ∀ x ∈ done, 0 ≤ x ∧ x < ts.length
 keeps : done.all (keepsL ts done) = true
theorem DoneOk.bit {ts : List TT} {done : List Int} {G : GrN} {s : Nat} (h : DoneOk ts done G s) (j : Nat) : s.testBit j = decide ((j : Int) ∈ done) := by
 rw [h.s]; exact maskL_bit (fun x hx => (h.rng x hx).1) j
theorem DoneOk.n8 {ts : List TT} {done : List Int} {G : GrN} {s : Nat} (h : DoneOk ts done G s) : ts.length ≤ 8 := fine_len h.fine
theorem doneP_eq (ts : List TT) (done : List Int) : (doneP ts done = none ∧ doneB ts done = false) ∨ ∃ G s, doneP ts done = some (G, s) ∧ doneB ts done = true ∧ DoneOk ts done G s := by
 unfold doneP doneB
 cases hg : graphP ts with
 | none => exact Or.inl ⟨rfl, rfl⟩
 | some G =>
  obtain ⟨hf, hnd, hts⟩ := graphP_fine hg
  simp only [Option.isSome_some, Bool.true_and]
  rw [setP_eq]
  by_cases h1 : (ascB done && done.all (inB 0 ((ts.length : Int) - 1))) = true
  ·rw [if_pos h1, h1, Bool.true_and]
   have h2 := Bool.and_eq_true_iff.1 h1
   have hr := inB_all h2.2
   have hc := closedP_eq hf hr
   rw [← hnd] at hc
   simp only
   rw [hc]
   by_cases h3 : done.all (keepsL ts done) = true
   ·rw [if_pos h3, h3]
    exact Or.inr ⟨G, maskL done, rfl, rfl, hg, hf, hnd, hts, rfl, h2.1, hr, h3⟩
   ·rw [if_neg h3, Bool.eq_false_iff.2 h3]
    exact Or.inl ⟨rfl, rfl⟩
  ·rw [if_neg h1, Bool.eq_false_iff.2 h1, Bool.false_and]
   exact Or.inl ⟨rfl, rfl⟩
theorem DoneOk.doneP {ts : List TT} {done : List Int} {G : GrN} {s : Nat} (h : DoneOk ts done G s) : doneP ts done = some (G, s) := by
 rcases doneP_eq ts done with ⟨_, h2⟩ | ⟨G', s', h1, _, h2⟩
 ·unfold doneB at h2
  have ha : done.all (inB 0 ((ts.length : Int) - 1)) = true := List.all_eq_true.2 fun x hx => by
   have := h.rng x hx
   exact decide_eq_true (by omega)
  rw [h.g, h.asc, ha, h.keeps] at h2
  cases h2
 ·have e1 : G' = G := by have := h2.g; rw [h.g] at this; injection this with this; exact this.symm
  have e2 : s' = s := h2.s.trans h.s.symm
  rw [h1, e1, e2]
theorem validDone_ev (ts : List TT) (hs : Small ts) (done : List Int) (hd : done.length < 1099511627776) : Ev (fun k => spec_validDone.f k ts done) (doneP ts done).isSome := by
 have h := validDone_evB ts hs done hd
 rcases doneP_eq ts done with ⟨h1, h2⟩ | ⟨G, s, h1, h2, _⟩
 ·rw [h1, Option.isSome_none, ← h2]; exact h
 ·rw [h1, Option.isSome_some, ← h2]; exact h
def pickN (p : Nat → Bool) (n : Nat) : List Nat := (List.range n).filter p
theorem bits_pick {m n : Nat} (hn : n ≤ 8) (hm : m < 2 ^ n) (p : Nat → Bool) (h : ∀ i, i < n → m.testBit i = p i) : bitsN m = pickN p n := by
 unfold bitsN pickN
 obtain ⟨c, rfl⟩ : ∃ c, c = 8 - n := ⟨_, rfl⟩
 have h8 : (8 : Nat) = n + (8 - n) := by omega
 rw [h8, List.range_add, List.filter_append]
 have h2 : ((List.range (8 - n)).map (n + ·)).filter (fun i => m.testBit i) = [] := by
  refine List.filter_eq_nil_iff.2 fun x hx => ?_
  obtain ⟨y, _, rfl⟩ := List.mem_map.1 hx
  rw [Nat.testBit_lt_two_pow (Nat.lt_of_lt_of_le hm (Nat.pow_le_pow_right (by omega) (by omega)))]
  simp
 rw [h2, List.append_nil]
 exact List.filter_congr fun x hx => h x (List.mem_range.1 hx)
theorem pickN_len (p : Nat → Bool) (n : Nat) : (pickN p n).length ≤ n := by
 have := List.length_filter_le p (List.range n)
 simpa [pickN] using this
def pR (ts : List TT) (done : List Int) (i : Nat) : Bool := !decide ((i : Int) ∈ done) && subL (rd_T39 ts (i : Int)).f1 done
theorem ready_go (ts : List TT) (hs : Small ts) (done : List Int) (hd : done.length < 1099511627776) : ∀ (m j : Nat) (acc : List Int), j + m = ts.length → acc.length ≤ j →
  Ev (fun k => spec_ready.l0 k ts done acc (j : Int)) (acc ++ nI ((List.range' j m).filter (pR ts done)))
 | 0, j, acc, hj, _ => by
  refine Ev.succ ?_
  simp only [spec_ready.l0]
  refine Ev.neg (by omega) (Ev.eq ?_)
  simp [nI]
 | m + 1, j, acc, hj, ha => by
  have hl := hs.1
  have hw : wrap64 ((j : Int) + 1) = ((j + 1 : Nat) : Int) := w64n j (by omega)
  refine Ev.succ ?_
  simp only [spec_ready.l0, hw]
  rw [List.range'_succ, List.filter_cons]
  refine Ev.pos (by omega) (Ev.bind (isIn_ev _ _ (by omega)) (Ev.ite (fun hc => ?_) (fun hc => ?_)))
  ·rw [if_neg (by unfold pR; rw [hc]; simp)]
   exact ready_go ts hs done hd m (j + 1) acc (by omega) (by omega)
  ·refine Ev.pos (by omega) (Ev.bind (allDone_ev _ _ (by have := small_rd hs (j : Int); omega) (by omega)) (Ev.ite (fun h2 => ?_) (fun h2 => ?_)))
   ·rw [if_pos (by unfold pR; rw [Bool.eq_false_iff.2 hc, h2]; rfl)]
    refine Ev.pos (by omega) ?_
    have := ready_go ts hs done hd m (j + 1) (acc ++ [(j : Int)]) (by omega) (by simp only [List.length_append, List.length_cons, List.length_nil]; omega)
    rw [List.append_assoc] at this
    exact this
   ·rw [if_neg (by unfold pR; rw [Bool.eq_false_iff.2 h2]; simp)]
    exact ready_go ts hs done hd m (j + 1) acc (by omega) (by omega)
def readyL (ts : List TT) (done : List Int) : List Int := nI (pickN (pR ts done) ts.length)
theorem ready_ev (ts : List TT) (hs : Small ts) (done : List Int) (hd : done.length < 1099511627776) : Ev (fun k => spec_ready.f k ts done) (readyL ts done) := by
 have := ready_go ts hs done hd ts.length 0 [] (by omega) (by simp)
 unfold readyL pickN
 rw [List.range_eq_range']
 exact this
theorem readyStep_bit (nd : List Nat) (s : Nat) : ∀ (l : List Nat) (o j : Nat), (l.foldl (readyStepN nd s) o).testBit j = (o.testBit j || (decide (j ∈ l) && canP nd s j))
 | [], o, j => by simp
 | i :: l, o, j => by
  rw [List.foldl_cons, readyStep_bit nd s l, readyStepN]
  by_cases hc : canP nd s i = true
  ·rw [if_pos hc, Nat.testBit_or, Nat.testBit_two_pow, Bool.or_assoc]
   congr 1
   by_cases hij : i = j
   ·subst hij
    rw [hc]
    simp
   ·rw [decide_eq_false hij, Bool.false_or]
    congr 1
    refine decide_eq_decide.2 ?_
    rw [List.mem_cons]
    exact ⟨Or.inr, fun h => h.resolve_left (fun e => hij e.symm)⟩
  ·rw [if_neg hc]
   congr 1
   by_cases hij : j = i
   ·subst hij
    rw [Bool.eq_false_iff.2 hc]
    simp
   ·congr 1
    refine decide_eq_decide.2 ?_
    rw [List.mem_cons]
    exact ⟨Or.inr, fun h => h.resolve_left hij⟩
theorem readyN_bit (nd : List Nat) (s j : Nat) : (readyN nd s).testBit j = (decide (j < nd.length) && canP nd s j) := by
 unfold readyN
 rw [readyStep_bit, Nat.zero_testBit, Bool.false_or]
 congr 1
 exact decide_eq_decide.2 List.mem_range
theorem needsM_len (ts : List TT) : (needsM ts).length = ts.length := by simp [needsM]
theorem DoneOk.lt {ts : List TT} {done : List Int} {G : GrN} {s : Nat} (h : DoneOk ts done G s) : s < 2 ^ ts.length := (doneP_ok h.doneP).2.2.2.2.2
theorem DoneOk.can {ts : List TT} {done : List Int} {G : GrN} {s : Nat} (h : DoneOk ts done G s) (i : Nat) (hi : i < ts.length) : canP G.nd s i = pR ts done i := by
 rw [h.nd, canP_eq h.fine h.bit hi, pR, rdT_at ts i hi]
theorem DoneOk.rbit {ts : List TT} {done : List Int} {G : GrN} {s : Nat} (h : DoneOk ts done G s) (i : Nat) (hi : i < ts.length) : (readyN G.nd s).testBit i = pR ts done i := by
 rw [readyN_bit, h.can i hi, h.nd, needsM_len, decide_eq_true hi, Bool.true_and]
theorem ivs_nI (l : List Nat) : ivs l = nI l := rfl
theorem readyN_lt {nd : List Nat} {s n : Nat} (hl : nd.length = n) : readyN nd s < 2 ^ n := by
 refine Nat.lt_pow_two_of_testBit _ fun i hi => ?_
 rw [readyN_bit, decide_eq_false (by omega), Bool.false_and]
theorem DoneOk.ready {ts : List TT} {done : List Int} {G : GrN} {s : Nat} (h : DoneOk ts done G s) : ivs (bitsN (readyN G.nd s)) = readyL ts done := by
 unfold readyL
 rw [ivs_nI, bits_pick h.n8 (readyN_lt (by rw [h.nd, needsM_len])) (pR ts done) h.rbit]
theorem ReadyTasks_ev (ts : List TT) (hs : Small ts) (done : List Int) (hd : done.length < 1099511627776) : ∃ r, Ev (fun k => spec_ReadyTasks.f k ts done) r ∧ impl_ReadyTasks.f ts done = some r ∧ r.length ≤ 8 := by
 unfold spec_ReadyTasks.f impl_ReadyTasks.f
 have hv := validDone_ev ts hs done hd
 rcases doneP_eq ts done with ⟨h1, _⟩ | ⟨G, s, h1, _, h2⟩
 ·rw [h1] at hv ⊢
  exact ⟨[], Ev.bind hv (Ev.neg (by simp) (Ev.pure _)), rfl, by simp⟩
 ·rw [h1] at hv ⊢
  refine ⟨readyL ts done, Ev.bind hv (Ev.pos rfl (Ev.bind (ready_ev ts hs done hd) (Ev.pure _))), ?_, ?_⟩
  ·simp only [h2.ready]
  ·have := pickN_len (pR ts done) ts.length
   have h8 := h2.n8
   unfold readyL
   rw [nI_length]; omega
def pF (done : List Int) (at_ : Int) (i : Nat) : Bool := decide ((i : Int) = at_) || decide ((i : Int) ∈ done)
theorem finish_go (ts : List TT) (hs : Small ts) (done : List Int) (hd : done.length < 1099511627776) (at_ : Int) : ∀ (m j : Nat) (acc : List Int), j + m = ts.length → acc.length ≤ j →
  Ev (fun k => spec_FinishTask.l0 k ts done at_ acc (j : Int)) (acc ++ nI ((List.range' j m).filter (pF done at_)), true)
 | 0, j, acc, hj, _ => by
  refine Ev.succ ?_
  simp only [spec_FinishTask.l0]
  refine Ev.neg (by omega) (Ev.eq ?_)
  simp [nI]
 | m + 1, j, acc, hj, ha => by
  have hl := hs.1
  have hw : wrap64 ((j : Int) + 1) = ((j + 1 : Nat) : Int) := w64n j (by omega)
  have hadd : Ev (fun k => spec_FinishTask.l0 k ts done at_ (acc ++ [(j : Int)]) ((j + 1 : Nat) : Int)) (acc ++ nI (j :: (List.range' (j + 1) m).filter (pF done at_)), true) := by
   have := finish_go ts hs done hd at_ m (j + 1) (acc ++ [(j : Int)]) (by omega) (by simp only [List.length_append, List.length_cons, List.length_nil]; omega)
   rw [List.append_assoc] at this
   exact this
  refine Ev.succ ?_
  simp only [spec_FinishTask.l0, hw]
  rw [List.range'_succ, List.filter_cons]
  refine Ev.pos (by omega) (Ev.ite (fun hc => ?_) (fun hc => ?_))
  ·rw [if_pos (by unfold pF; rw [decide_eq_true hc]; rfl)]
   exact Ev.pos (by omega) hadd
  ·refine Ev.bind (isIn_ev _ _ (by omega)) (Ev.ite (fun h2 => ?_) (fun h2 => ?_))
   ·rw [if_pos (by unfold pF; rw [h2]; simp)]
    exact Ev.pos (by omega) hadd
   ·rw [if_neg (by unfold pF; rw [decide_eq_false hc, Bool.eq_false_iff.2 h2]; simp)]
    exact finish_go ts hs done hd at_ m (j + 1) acc (by omega) (by omega)
def finishL (ts : List TT) (done : List Int) (at_ : Int) : List Int := nI (pickN (pF done at_) ts.length)
theorem mem_readyL {ts : List TT} {done : List Int} {x : Int} : x ∈ readyL ts done ↔ (0 ≤ x ∧ x < ts.length) ∧ pR ts done x.toNat = true := by
 unfold readyL pickN nI
 rw [List.mem_map]
 constructor
 ·rintro ⟨i, hi, rfl⟩
  rw [List.mem_filter, List.mem_range] at hi
  exact ⟨by omega, by simpa using hi.2⟩
 ·rintro ⟨h1, h2⟩
  exact ⟨x.toNat, List.mem_filter.2 ⟨List.mem_range.2 (by omega), h2⟩, by omega⟩
theorem DoneOk.finishP {ts : List TT} {done : List Int} {G : GrN} {s : Nat} (h : DoneOk ts done G s) (at_ : Int) : finishP ts done at_ = if at_ ∈ readyL ts done then some (finishL ts done at_) else none := by
 unfold Go.Proofs.YtajapkjplgaigaaDoor.P.finishP
 rw [h.doneP]
 simp only
 by_cases hr : 0 ≤ at_ ∧ at_ < ts.length
 ·rw [if_pos hr, h.rbit at_.toNat (by omega)]
  by_cases hp : pR ts done at_.toNat = true
  ·rw [if_pos hp, if_pos (mem_readyL.2 ⟨hr, hp⟩)]
   congr 1
   unfold finishL
   rw [ivs_nI, bits_pick h.n8 (m := s ||| 2 ^ at_.toNat) (Nat.or_lt_two_pow h.lt (Nat.pow_lt_pow_right (by omega) (by omega))) (pF done at_) (fun i hi => ?_)]
   rw [Nat.testBit_or, Nat.testBit_two_pow, h.bit, pF, Bool.or_comm]
   congr 1
   exact decide_eq_decide.2 (by omega)
  ·rw [if_neg hp, if_neg (fun hm => hp (mem_readyL.1 hm).2)]
 ·rw [if_neg hr, if_neg (fun hm => hr (mem_readyL.1 hm).1)]
theorem FinishTask_ev (ts : List TT) (hs : Small ts) (done : List Int) (hd : done.length < 1099511627776) (at_ : Int) : ∃ r, Ev (fun k => spec_FinishTask.f k ts done at_) r ∧ impl_FinishTask.f ts done at_ = some r ∧ r.1.length ≤ 8 := by
 have hv := validDone_ev ts hs done hd
 have hrd := ready_ev ts hs done hd
 rcases doneP_eq ts done with ⟨h1, _⟩ | ⟨G, s, h1, _, h2⟩
 ·rw [h1] at hv
  refine ⟨([], false), ?_, by unfold impl_FinishTask.f finishP; rw [h1], by simp⟩
  unfold spec_FinishTask.f
  refine Ev.bind (Ev.pure _) (Ev.bind hv (Ev.neg (by simp) (Ev.succ ?_)))
  simp only [spec_FinishTask.j0]
  exact Ev.pos (by simp) (Ev.pure _)
 ·rw [h1] at hv
  have h8 := h2.n8
  have hlr : (readyL ts done).length ≤ 8 := by
   have := pickN_len (pR ts done) ts.length
   unfold readyL
   rw [nI_length]; omega
  by_cases hm : at_ ∈ readyL ts done
  ·refine ⟨(finishL ts done at_, true), ?_, by unfold impl_FinishTask.f; rw [h2.finishP at_, if_pos hm], ?_⟩
   ·unfold spec_FinishTask.f
    refine Ev.bind (Ev.pure _) (Ev.bind hv (Ev.pos rfl (Ev.bind hrd (Ev.bind (isIn_ev _ _ (by omega)) (Ev.succ ?_)))))
    simp only [spec_FinishTask.j0]
    refine Ev.neg (by simp [hm]) ?_
    have := finish_go ts hs done hd at_ ts.length 0 [] (by omega) (by simp)
    unfold finishL pickN
    rw [List.range_eq_range']
    exact this
   ·have := pickN_len (pF done at_) ts.length
    show (finishL ts done at_).length ≤ 8
    unfold finishL
    rw [nI_length]; omega
  ·refine ⟨([], false), ?_, by unfold impl_FinishTask.f; rw [h2.finishP at_, if_neg hm], by simp⟩
   unfold spec_FinishTask.f
   refine Ev.bind (Ev.pure _) (Ev.bind hv (Ev.pos rfl (Ev.bind hrd (Ev.bind (isIn_ev _ _ (by omega)) (Ev.succ ?_)))))
   simp only [spec_FinishTask.j0]
   exact Ev.pos (by simp [hm]) (Ev.pure _)
end Go.Proofs.YtajapkjplgaigaaDoor.P
end
section
namespace Go.Proofs.YtajapkjplgaigaaDoor.P
open Go.RowKit Go.Shelf Go.Proofs.YtajapkjplgaigaaDoorW.PrintWords Go.Proofs.YtajapkjplgaigaaDoorW.PrintLast Go.Proofs.YtajapkjplgaigaaDoorW.PrintMore
set_option linter.unusedVariables false
set_option linter.unusedSimpArgs false
structure RdOk (B : List Int) : Prop where
 len : B.length ≤ 2000
 byte : ∀ x ∈ B, 0 ≤ x ∧ x ≤ 255
theorem RdOk.at {B : List Int} (hB : RdOk B) (i : Int) : 0 ≤ rd B i ∧ rd B i ≤ 255 := by
 unfold rd
 rw [List.getD_eq_getElem?_getD]
 cases h : B[i.toNat]? with
 | none => simp
 | some x => exact hB.byte x (List.mem_of_getElem? h)
def Dr {α : Type} (m p : Int) (good : α → Prop) (f : Nat → Option (α × Int)) : Prop := ∃ r q, Ev f (r, q) ∧ good r ∧ p ≤ q ∧ q ≤ p + m
section
variable {α β : Type} {good good' : α → Prop} {goodb : β → Prop} {m m' n p : Int} {f : Nat → Option (α × Int)}
theorem Dr.mono (h : Dr m p good f) (hm : m ≤ m') (hg : ∀ r, good r → good' r) : Dr m' p good' f := by
 obtain ⟨r, q, h1, h2, h3, h4⟩ := h
 exact ⟨r, q, h1, hg r h2, h3, by omega⟩
theorem Dr.bind {g : Nat → α × Int → Option (β × Int)} (hf : Dr m p good f) (hg : ∀ r q, good r → p ≤ q → q ≤ p + m → Dr n q goodb (fun k => g k (r, q))) : Dr (m + n) p goodb (fun k => (f k).bind (g k)) := by
 obtain ⟨r, q, h1, h2, h3, h4⟩ := hf
 obtain ⟨r', q', e1, e2, e3, e4⟩ := hg r q h2 h3 h4
 exact ⟨r', q', h1.bind e1, e2, by omega, by omega⟩
theorem Dr.bind0 {γ : Type} {f : Nat → Option γ} {x : γ} {g : Nat → γ → Option (β × Int)} (hf : Ev f x) (hg : Dr m p goodb (fun k => g k x)) : Dr m p goodb (fun k => (f k).bind (g k)) := by
 obtain ⟨r', q', e1, e2, e3, e4⟩ := hg
 exact ⟨r', q', hf.bind e1, e2, e3, e4⟩
theorem Dr.pure {r : α} {q : Int} (h : good r) (h1 : p ≤ q) (h2 : q ≤ p + m) : Dr m p good (fun _ => some (r, q)) := ⟨r, q, Ev.pure _, h, h1, h2⟩
theorem Dr.here {r : α} {q : Int} (h : good r) (h0 : 0 ≤ m) : Dr m q good (fun _ => some (r, q)) := ⟨r, q, Ev.pure _, h, Int.le_refl _, by omega⟩
theorem Dr.succ {f : Nat → Option (α × Int)} (h : Dr m p good (fun k => f (k + 1))) : Dr m p good f := by
 obtain ⟨r, q, h1, h2⟩ := h
 exact ⟨r, q, h1.succ, h2⟩
theorem Dr.pos {c : Prop} [Decidable c] {g : Nat → Option (α × Int)} (hc : c) (h : Dr m p good f) : Dr m p good (fun k => if c then f k else g k) := by
 obtain ⟨r, q, h1, h2⟩ := h
 exact ⟨r, q, h1.pos hc, h2⟩
theorem Dr.neg {c : Prop} [Decidable c] {g : Nat → Option (α × Int)} (hc : ¬ c) (h : Dr m p good f) : Dr m p good (fun k => if c then g k else f k) := by
 obtain ⟨r, q, h1, h2⟩ := h
 exact ⟨r, q, h1.neg hc, h2⟩
theorem Dr.ite {c : Prop} [Decidable c] {g : Nat → Option (α × Int)} (h : c → Dr m p good f) (h' : ¬ c → Dr m p good g) : Dr m p good (fun k => if c then f k else g k) := by
 by_cases hc : c
 ·exact Dr.pos hc (h hc)
 ·exact Dr.neg hc (h' hc)
end
theorem xor64_nn (a b : Nat) (ha : a < 2 ^ 62) (hb : b < 2 ^ 62) : 0 ≤ Go.bits .xor .i64 (a : Int) (b : Int) ∧ Go.bits .xor .i64 (a : Int) (b : Int) < 2 ^ 62 := by
 have h1 : (BitVec.ofInt 64 (a : Int)).toNat = a := by
  rw [BitVec.ofInt_natCast, BitVec.toNat_ofNat]; exact Nat.mod_eq_of_lt (by omega)
 have h2 : (BitVec.ofInt 64 (b : Int)).toNat = b := by
  rw [BitVec.ofInt_natCast, BitVec.toNat_ofNat]; exact Nat.mod_eq_of_lt (by omega)
 have h3 : Go.bits .xor .i64 (a : Int) (b : Int) = IntKind.i64.wrap ((a ^^^ b : Nat) : Int) := by
  show IntKind.i64.wrap ((BitVec.ofInt 64 (a : Int) ^^^ BitVec.ofInt 64 (b : Int)).toNat : Int) = _
  rw [BitVec.toNat_xor, h1, h2]
 have h4 : a ^^^ b < 2 ^ 62 := Nat.xor_lt_two_pow ha hb
 rw [h3, IntKind.wrap_i64]
 omega
theorem tmod_in {a n : Int} (ha : 0 ≤ a) (hn : 1 ≤ n) : 0 ≤ Int.tmod a n ∧ Int.tmod a n < n := ⟨Int.tmod_nonneg _ ha, Int.tmod_lt_of_pos _ (by omega)⟩
theorem pick_ev {B : List Int} (hB : RdOk B) (n p : Int) (hp : 0 ≤ p) (hp' : p ≤ 1000000) : Dr 1 p (fun r => 0 ≤ r ∧ (1 ≤ n → r < n) ∧ (n < 1 → r = 0)) (fun k => spec_reader_pick.f k B p n) := by
 have hlen := hB.len
 have e1 : wrap64 (p + 1) = p + 1 := w64 (by omega) (by omega)
 have e2 : wrap64 (p + 1 - 1) = p := by rw [w64 (by omega) (by omega)]; omega
 have e3 : wrap64 (p * 7) = p * 7 := w64 (by omega) (by omega)
 have e4 : wrap64 (p * 7 + 3) = p * 7 + 3 := w64 (by omega) (by omega)
 unfold spec_reader_pick.f
 rw [e1]
 refine Dr.ite (fun hn => ?_) (fun hn => ?_)
 ·refine Dr.succ ?_
  simp only [spec_reader_pick.j0]
  exact Dr.pos (by simp) (Dr.pure ⟨by omega, by omega, fun _ => rfl⟩ (by omega) (by omega))
 ·refine Dr.succ ?_
  simp only [spec_reader_pick.j0, e2]
  refine Dr.ite (fun h0 => Dr.pure ⟨by omega, by omega, by omega⟩ (by omega) (by omega)) (fun h0 => ?_)
  have hB0 : 0 < B.length := by
   rcases Nat.eq_zero_or_pos B.length with h | h
   ·exact absurd (by rw [h]; rfl) h0
   ·exact h
  refine Dr.ite (fun h1 => ?_) (fun h1 => ?_)
  ·refine Dr.pos hp (Dr.neg (by omega) ?_)
   have hb := hB.at p
   rw [w64 (by omega) (by omega)]
   have ht := tmod_in hb.1 (by omega : 1 ≤ n)
   exact Dr.pure ⟨ht.1, fun _ => ht.2, by omega⟩ (by omega) (by omega)
  ·have t1 := tmod_in hp (by omega : (1 : Int) ≤ B.length)
   have t2 := tmod_in (by omega : 0 ≤ p * 7 + 3) (by omega : (1 : Int) ≤ B.length)
   simp only [e3, e4]
   refine Dr.neg (by omega) (Dr.pos t1.1 (Dr.pos t1.2 (Dr.pos t2.1 (Dr.pos t2.2 (Dr.neg (by omega) ?_)))))
   have b1 := hB.at (Int.tmod p (B.length : Int))
   have b2 := hB.at (Int.tmod (p * 7 + 3) (B.length : Int))
   obtain ⟨x1, hx1⟩ : ∃ x, x = rd B (Int.tmod p (B.length : Int)) := ⟨_, rfl⟩
   obtain ⟨x2, hx2⟩ : ∃ x, x = rd B (Int.tmod (p * 7 + 3) (B.length : Int)) := ⟨_, rfl⟩
   obtain ⟨d, hd⟩ : ∃ x, x = Int.tdiv p (B.length : Int) := ⟨_, rfl⟩
   have d0 : 0 ≤ d := by rw [hd]; exact Int.tdiv_nonneg hp (by omega)
   have d1 : d ≤ p := by rw [hd, Int.tdiv_eq_ediv_of_nonneg hp]; exact Int.ediv_le_self _ hp
   rw [← hx1] at b1 ⊢
   rw [← hx2] at b2 ⊢
   rw [← hd]
   simp only [w64 (n := x1) (by omega) (by omega), w64 (n := x2) (by omega) (by omega), w64 (n := x1 * 131) (by omega) (by omega), w64 (n := x2 * 1117) (by omega) (by omega), w64 (n := p * 29) (by omega) (by omega), w64 (n := d) (by omega) (by omega), w64 (n := d * 53) (by omega) (by omega),
    w64 (n := x1 * 131 + x2 * 1117) (by omega) (by omega), w64 (n := x1 * 131 + x2 * 1117 + p * 29) (by omega) (by omega), w64 (n := x1 * 131 + x2 * 1117 + p * 29 + d * 53) (by omega) (by omega)]
   obtain ⟨s, hs⟩ : ∃ s : Nat, x1 * 131 + x2 * 1117 + p * 29 + d * 53 = (s : Int) := ⟨(x1 * 131 + x2 * 1117 + p * 29 + d * 53).toNat, by omega⟩
   have hs2 : s < 1000000000000 := by omega
   rw [hs]
   have hdiv : wrap64 (Int.tdiv (s : Int) 64) = ((s / 64 : Nat) : Int) := by
    rw [Int.tdiv_eq_ediv_of_nonneg (by omega), w64 (by omega) (by omega)]; omega
   rw [hdiv]
   have hx := xor64_nn s (s / 64) (by omega) (by omega)
   have ht := tmod_in hx.1 (by omega : 1 ≤ n)
   exact Dr.pure ⟨ht.1, fun _ => ht.2, by omega⟩ (by omega) (by omega)
theorem one_ev {B : List Int} (hB : RdOk B) (l : List Int) (p : Int) (hl : 0 < l.length) (hp : 0 ≤ p) (hp' : p ≤ 1000000) : Dr 1 p (fun r => r ∈ l) (fun k => spec_reader_one.f k B p l) := by
 unfold spec_reader_one.f
 refine ((pick_ev hB (l.length : Int) p hp hp').bind (n := 0) (fun r q hr h1 h2 => ?_)).mono (by omega) (fun _ h => h)
 have h3 := hr.2.1 (by omega)
 refine Dr.pos hr.1 (Dr.pos h3 (Dr.here ?_ (by omega)))
 unfold rd
 rw [List.getD_eq_getElem?_getD, List.getElem?_eq_getElem (by omega)]
 exact List.getElem_mem _
theorem copyInts_eq (l : List Int) (h : l.length < 1099511627776) : spec_copyInts.f l = some l := by
 unfold spec_copyInts.f
 simp only [Option.bind_some]
 rw [if_pos (by simp; omega)]
 rfl
theorem spoil_ev {B : List Int} (hB : RdOk B) (l : List Int) (n p : Int) (hl : l.length ≤ 1000) (hp : 0 ≤ p) (hp' : p ≤ 900000) : Dr 3 p (fun r => r.length ≤ l.length + 1) (fun k => spec_reader_spoil.f k B p l n) := by
 unfold spec_reader_spoil.f
 refine Dr.bind0 (Ev.eq (copyInts_eq l (by omega))) (((pick_ev hB 20 p hp (by omega)).bind (n := 2) (fun r q hr h1 h2 => ?_)).mono (by omega) (fun _ h => h))
 refine Dr.ite (fun _ => Dr.pos (by omega) (Dr.here (by simp) (by omega))) (fun _ => Dr.ite (fun _ => ?_) (fun _ => Dr.ite (fun _ => ?_) (fun _ => Dr.here (by simp) (by omega))))
 ·exact Dr.ite (fun h => Dr.pos (by omega) (Dr.here (by simp; omega) (by omega))) (fun _ => Dr.here (by simp) (by omega))
 ·refine Dr.ite (fun h => ?_) (fun _ => Dr.here (by simp) (by omega))
  refine ((pick_ev hB (l.length : Int) q (by omega) (by omega)).bind (n := 1) (fun r2 q2 hr2 h3 h4 => ?_)).mono (by omega) (fun _ h => h)
  refine ((one_ev hB _ q2 (by simp) (by omega) (by omega)).bind (n := 0) (fun r3 q3 hr3 h5 h6 => ?_)).mono (by omega) (fun _ h => h)
  exact Dr.pos hr2.1 (Dr.pos (hr2.2.1 (by omega)) (Dr.here (by simp) (by omega)))
def GB (L M : Nat) (ts : List TT) : Prop := ts.length ≤ L ∧ ∀ t ∈ ts, t.f1.length ≤ M
theorem GB.small {L M : Nat} {ts : List TT} (h : GB L M ts) (hL : L ≤ 1000) (hM : M ≤ 1000) : Small ts := ⟨by have := h.1; omega, fun t ht => by have := h.2 t ht; omega⟩
theorem GB.snoc {L M : Nat} {ts : List TT} {t : TT} (h : GB L M ts) (ht : t.f1.length ≤ M) : GB (L + 1) M (ts ++ [t]) :=
 ⟨by have := h.1; simp; omega, fun x hx => by
  rcases List.mem_append.1 hx with hx | hx
  ·exact h.2 x hx
  ·rw [List.mem_singleton.1 hx]; exact ht⟩
theorem GB.set {L M : Nat} {ts : List TT} {t : TT} {i : Nat} (h : GB L M ts) (ht : t.f1.length ≤ M) : GB L M (ts.set i t) :=
 ⟨by have := h.1; simp; omega, fun x hx => by
  rcases List.mem_or_eq_of_mem_set hx with hx | hx
  ·exact h.2 x hx
  ·rw [hx]; exact ht⟩
theorem GB.mono {L M L' M' : Nat} {ts : List TT} (h : GB L M ts) (hL : L ≤ L') (hM : M ≤ M') : GB L' M' ts := ⟨by have := h.1; omega, fun x hx => by have := h.2 x hx; omega⟩
theorem GB.rd {L M : Nat} {ts : List TT} (h : GB L M ts) (i : Int) : (rd_T39 ts i).f1.length ≤ M := by
 unfold rd_T39
 rw [List.getD_eq_getElem?_getD]
 cases hh : ts[i.toNat]? with
 | none => simp [z39]
 | some t => exact h.2 t (List.mem_of_getElem? hh)
theorem turned_l1 (Q : List TT → Prop) (g : List TT) (out : List TT) (last i : Int) (a b c : Int) (nd : List Int) (hn : nd.length ≤ 1000)
  (hgo : ∀ acc : List Int, acc.length ≤ nd.length → ∃ r : List TT, Ev (fun k => spec_turned.l0 k g (out ++ [⟨a, acc, b, c⟩]) last (wrap64 (i - 1))) r ∧ Q r) (ho : out.length ≤ 1000) :
  ∀ (m : Nat) (acc : List Int), m ≤ nd.length → acc.length + m ≤ nd.length → ∃ r : List TT, Ev (fun k => spec_turned.l1 k g out last i acc ((m : Int) - 1) a nd b c) r ∧ Q r
 | 0, acc, _, ha => by
  obtain ⟨r, h1, h2⟩ := hgo acc (by omega)
  refine ⟨r, Ev.succ ?_, h2⟩
  simp only [spec_turned.l1]
  exact Ev.neg (by omega) (Ev.pos (by omega) h1)
 | m + 1, acc, hm, ha => by
  have hw : wrap64 (((m + 1 : Nat) : Int) - 1 - 1) = (m : Int) - 1 := by rw [w64 (by omega) (by omega)]; omega
  obtain ⟨r, h1, h2⟩ := turned_l1 Q g out last i a b c nd hn hgo ho m (acc ++ [wrap64 (last - Go.Proofs.YtajapkjplgaigaaDoorW.PrintWords.rd nd (((m + 1 : Nat) : Int) - 1))]) (by omega) (by simp only [List.length_append, List.length_cons, List.length_nil]; omega)
  refine ⟨r, Ev.succ ?_, h2⟩
  simp only [spec_turned.l1, hw]
  exact Ev.pos (by omega) (Ev.pos (by omega) (Ev.pos (by omega) (Ev.pos (by omega) h1)))
theorem turned_l0 (L M : Nat) (hL : L ≤ 1000) (hM : M ≤ 1000) (g : List TT) (hg : GB L M g) (last : Int) : ∀ (m : Nat) (out : List TT), m ≤ g.length → GB (g.length - m) M out → ∃ r, Ev (fun k => spec_turned.l0 k g out last ((m : Int) - 1)) r ∧ GB L M r
 | 0, out, _, ho => by
  refine ⟨out, Ev.succ ?_, ho.mono (by have := hg.1; omega) (Nat.le_refl _)⟩
  simp only [spec_turned.l0]
  exact Ev.neg (by omega) (Ev.pure _)
 | m + 1, out, hm, ho => by
  have hgl := hg.1
  have hol := ho.1
  have hrd := hg.rd (((m + 1 : Nat) : Int) - 1)
  have hw : wrap64 (((m + 1 : Nat) : Int) - 1 - 1) = (m : Int) - 1 := by rw [w64 (by omega) (by omega)]; omega
  obtain ⟨t, ht⟩ : ∃ t, t = rd_T39 g (((m + 1 : Nat) : Int) - 1) := ⟨_, rfl⟩
  rw [← ht] at hrd
  have hw2 : wrap64 ((t.f1.length : Int) - 1) = (t.f1.length : Int) - 1 := w64 (by omega) (by omega)
  obtain ⟨r, h1, h2⟩ := turned_l1 (GB L M) g out last (((m + 1 : Nat) : Int) - 1) t.f0 t.f2 t.f3 t.f1 (by omega) (fun acc ha => by
   rw [hw]
   exact turned_l0 L M hL hM g hg last m _ (by omega) ((ho.snoc (t := ⟨t.f0, acc, t.f2, t.f3⟩) (by show acc.length ≤ M; omega)).mono (by omega) (Nat.le_refl _))) (by omega) t.f1.length [] (Nat.le_refl _) (by simp)
  refine ⟨r, Ev.succ ?_, h2⟩
  simp only [spec_turned.l0, ← ht, hw2]
  exact Ev.pos (by omega) (Ev.pos (by omega) (Ev.pos (by omega) h1))
theorem turned_ev (L M : Nat) (hL : L ≤ 1000) (hM : M ≤ 1000) (g : List TT) (hg : GB L M g) : ∃ r, Ev (fun k => spec_turned.f k g) r ∧ GB L M r := by
 unfold spec_turned.f
 have hgl := hg.1
 rw [w64 (by omega) (by omega)]
 exact turned_l0 L M hL hM g hg _ g.length [] (Nat.le_refl _) ⟨by simp, fun t ht => by cases ht⟩
theorem some_l1 {B : List Int} (hB : RdOk B) (M : Int) (hM : 0 ≤ M) (good : List TT → Prop) (g : List TT) (hg : g.length ≤ 8) (n : Int) (a b c : Int) (E : Int) (hE : E ≤ 10000)
  (hgo : ∀ (acc : List Int) (q : Int), acc.length ≤ g.length → 0 ≤ q → q ≤ E → Dr M q good (fun k => spec_someGraph.l0 k (g ++ [⟨a, acc, b, c⟩]) (wrap64 (n - 1)) B q)) :
  ∀ (m j : Nat) (acc : List Int) (p : Int), j + m = g.length → acc.length ≤ j → 0 ≤ p → p + m ≤ E → Dr (m + M) p good (fun k => spec_someGraph.l1 k g n (j : Int) B p a acc b c)
 | 0, j, acc, p, hj, ha, hp, hp' => by
  refine Dr.succ ?_
  simp only [spec_someGraph.l1]
  exact Dr.neg (by omega) (Dr.pos (by omega) ((hgo acc p (by omega) hp (by omega)).mono (by omega) (fun _ h => h)))
 | m + 1, j, acc, p, hj, ha, hp, hp' => by
  have hw : wrap64 ((j : Int) + 1) = ((j + 1 : Nat) : Int) := w64n j (by omega)
  refine Dr.succ ?_
  simp only [spec_someGraph.l1, hw]
  refine Dr.pos (by omega) (((pick_ev hB 3 p hp (by omega)).bind (n := m + M) (fun r q hr h1 h2 => ?_)).mono (by omega) (fun _ h => h))
  exact Dr.ite (fun _ => Dr.pos (by omega) (some_l1 hB M hM good g hg n a b c E hE hgo m (j + 1) _ q (by omega) (by simp only [List.length_append, List.length_cons, List.length_nil]; omega) (by omega) (by omega))) (fun _ => some_l1 hB M hM good g hg n a b c E hE hgo m (j + 1) acc q (by omega) (by omega) (by omega) (by omega))
theorem some_l0 {B : List Int} (hB : RdOk B) : ∀ (n : Nat) (g : List TT) (p : Int), g.length + n ≤ 8 → GB 8 8 g → 0 ≤ p → p + 11 * n ≤ 5000 → Dr (11 * n + 1) p (GB 8 8) (fun k => spec_someGraph.l0 k g (n : Int) B p)
 | 0, g, p, hn, hg, hp, hp' => by
  refine Dr.succ ?_
  simp only [spec_someGraph.l0]
  refine Dr.neg (by omega) (Dr.ite (fun h => ?_) (fun h => Dr.here hg (by omega)))
  refine ((pick_ev hB 4 p hp (by omega)).bind (n := 0) (fun r q hr h1 h2 => ?_)).mono (by omega) (fun _ h => h)
  obtain ⟨t, h3, h4⟩ := turned_ev 8 8 (by omega) (by omega) g hg
  exact Dr.ite (fun _ => Dr.bind0 h3 (Dr.here h4 (by omega))) (fun _ => Dr.here hg (by omega))
 | n + 1, g, p, hn, hg, hp, hp' => by
  have hw : wrap64 (((n + 1 : Nat) : Int) - 1) = (n : Int) := by rw [w64 (by omega) (by omega)]; omega
  refine Dr.succ ?_
  simp only [spec_someGraph.l0]
  refine Dr.pos (by omega) (((one_ev hB _ p (by simp) hp (by omega)).bind (n := 2 + (8 + (11 * n + 1))) (fun r q hr h1 h2 => ?_)).mono (by omega) (fun _ h => h))
  refine ((pick_ev hB 3 q (by omega) (by omega)).bind (n := 1 + (8 + (11 * n + 1))) (fun r2 q2 hr2 h3 h4 => ?_)).mono (by omega) (fun _ h => h)
  refine ((pick_ev hB 4 q2 (by omega) (by omega)).bind (n := 8 + (11 * n + 1)) (fun r3 q3 hr3 h5 h6 => ?_)).mono (by omega) (fun _ h => h)
  refine (some_l1 hB (11 * n + 1) (by omega) (GB 8 8) g (by omega) ((n + 1 : Nat) : Int) r r2 (wrap64 (1 + r3)) (q3 + g.length) (by omega) (fun acc q4 ha h7 h8 => ?_) g.length 0 [] q3 (by omega) (by simp) (by omega) (by omega)).mono (by omega) (fun _ h => h)
  rw [hw]
  exact some_l0 hB n _ q4 (by simp; omega) ⟨by simp; omega, (hg.snoc (t := ⟨r, acc, r2, wrap64 (1 + r3)⟩) (by show acc.length ≤ 8; omega)).2⟩ h7 (by omega)
theorem someGraph_ev {B : List Int} (hB : RdOk B) (p : Int) (hp : 0 ≤ p) (hp' : p ≤ 1000) : Dr 100 p (GB 8 8) (fun k => spec_someGraph.f k B p 8) := by
 unfold spec_someGraph.f
 refine ((one_ev hB _ p (by simp) hp (by omega)).bind (n := 99) (fun r q hr h1 h2 => ?_)).mono (by omega) (fun _ h => h)
 obtain ⟨n, hn, hn8⟩ : ∃ n : Nat, mn 8 r = (n : Int) ∧ n ≤ 8 := by
  simp only [List.mem_cons, List.not_mem_nil, or_false] at hr
  unfold mn
  rcases hr with h | h | h | h | h | h | h | h <;> subst h
  ·exact ⟨4, by decide, by omega⟩
  ·exact ⟨5, by decide, by omega⟩
  ·exact ⟨3, by decide, by omega⟩
  ·exact ⟨6, by decide, by omega⟩
  ·exact ⟨2, by decide, by omega⟩
  ·exact ⟨1, by decide, by omega⟩
  ·exact ⟨0, by decide, by omega⟩
  ·exact ⟨8, by decide, by omega⟩
 rw [hn]
 exact (some_l0 hB n [] q (by simpa using hn8) ⟨by simp, fun t ht => by cases ht⟩ (by omega) (by omega)).mono (by omega) (fun _ h => h)
theorem anyGraph_ev {B : List Int} (hB : RdOk B) (p : Int) (hp : 0 ≤ p) (hp' : p ≤ 100) : Dr 300 p (GB 16 16) (fun k => spec_anyGraph.f k B p) := by
 unfold spec_anyGraph.f
 refine ((someGraph_ev hB p hp (by omega)).bind (n := 200) (fun g q hg h1 h2 => ?_)).mono (by omega) (fun _ h => h)
 have hg16 := hg.mono (L' := 16) (M' := 16) (by omega) (by omega)
 have hgl := hg.1
 refine Dr.ite (fun _ => Dr.here hg16 (by omega)) (fun h0 => ?_)
 have h0' : ¬ (g.length : Int) = 0 := h0
 refine ((pick_ev hB (g.length : Int) q (by omega) (by omega)).bind (n := 199) (fun a q2 ha h3 h4 => ?_)).mono (by omega) (fun _ h => h)
 have ha2 := ha.2.1 (by omega)
 refine ((pick_ev hB 24 q2 (by omega) (by omega)).bind (n := 198) (fun b q3 hb h5 h6 => ?_)).mono (by omega) (fun _ h => h)
 have hrd := hg.rd a
 refine Dr.ite (fun _ => ?_) (fun _ => Dr.ite (fun _ => ?_) (fun _ => Dr.ite (fun _ => ?_) (fun _ => Dr.ite (fun _ => ?_) (fun _ => Dr.ite (fun _ => ?_) (fun _ => Dr.here hg16 (by omega))))))
 ·refine ((one_ev hB _ q3 (by simp) (by omega) (by omega)).bind (n := 0) (fun r q4 hr h7 h8 => ?_)).mono (by omega) (fun _ h => h)
  exact Dr.pos ha.1 (Dr.pos ha2 (Dr.here (hg16.set (by show _ ≤ 16; dsimp only; omega)) (by omega)))
 ·refine Dr.pos ha.1 (Dr.pos ha2 (Dr.bind0 (Ev.pure _) ?_))
  refine ((pick_ev hB (g.length : Int) q3 (by omega) (by omega)).bind (n := 3) (fun r q4 hr h7 h8 => ?_)).mono (by omega) (fun _ h => h)
  refine Dr.bind0 (Ev.pure _) (Dr.pos (by simp only [List.length_cons, List.length_nil]; omega) ?_)
  refine ((spoil_ev hB _ 8 q4 (by simp only [List.length_append, List.length_cons, List.length_nil]; omega) (by omega) (by omega)).bind (n := 0) (fun r2 q5 hr2 h9 h10 => ?_)).mono (by omega) (fun _ h => h)
  simp only [List.length_append, List.length_cons, List.length_nil] at hr2
  exact Dr.here (hg16.set (by show r2.length ≤ 16; omega)) (by omega)
 ·refine ((one_ev hB _ q3 (by simp) (by omega) (by omega)).bind (n := 0) (fun r q4 hr h7 h8 => ?_)).mono (by omega) (fun _ h => h)
  exact Dr.pos ha.1 (Dr.pos ha2 (Dr.here (hg16.set (by show _ ≤ 16; dsimp only; omega)) (by omega)))
 ·refine ((one_ev hB _ q3 (by simp) (by omega) (by omega)).bind (n := 0) (fun r q4 hr h7 h8 => ?_)).mono (by omega) (fun _ h => h)
  exact Dr.pos ha.1 (Dr.pos ha2 (Dr.here (hg16.set (by show _ ≤ 16; dsimp only; omega)) (by omega)))
 ·refine ((someGraph_ev hB q3 (by omega) (by omega)).bind (n := 0) (fun r q4 hr h7 h8 => ?_)).mono (by omega) (fun _ h => h)
  have hrl := hr.1
  refine Dr.pos (by show g.length + r.length < _; omega) (Dr.here (show GB 16 16 (g ++ r) from ⟨by simp; omega, fun t ht => ?_⟩) (by omega))
  rcases List.mem_append.1 ht with ht | ht
  ·have := hg.2 t ht; omega
  ·have := hr.2 t ht; omega
theorem newReader_ev (l : List Int) (hb : ∀ x ∈ l, (Lit.int .u8 x).wf = true) : ∃ B : List Int, spec_newReader.f l = some (B, 0) ∧ RdOk B := by
 have hbyte : ∀ x ∈ l, 0 ≤ x ∧ x ≤ 255 := fun x hx => by
  have := hb x hx
  have h2 : (decide (IntKind.u8.min ≤ x) && decide (x ≤ IntKind.u8.max)) = true := this
  rw [Bool.and_eq_true, decide_eq_true_eq, decide_eq_true_eq] at h2
  exact h2
 unfold spec_newReader.f
 by_cases h : (l.length : Int) > 2000
 ·rw [if_pos h, if_pos (by omega)]
  exact ⟨_, rfl, by simp; omega, fun x hx => hbyte x (List.mem_of_mem_take hx)⟩
 ·rw [if_neg h]
  exact ⟨_, rfl, by omega, hbyte⟩
end Go.Proofs.YtajapkjplgaigaaDoor.P
end
section
namespace Go.Proofs.YtajapkjplgaigaaDoor.P
open Go.RowKit Go.Shelf Go.Proofs.YtajapkjplgaigaaDoorW.PrintWords Go.Proofs.YtajapkjplgaigaaDoorW.PrintLast Go.Proofs.YtajapkjplgaigaaDoorW.PrintMore
set_option linter.unusedVariables false
set_option linter.unusedSimpArgs false
theorem someDone_l0 {B : List Int} (hB : RdOk B) (g : List TT) (hg : GB 16 16 g) : ∀ (n : Nat) (done : List Int) (p : Int), done.length ≤ 8 → 0 ≤ p → p + n ≤ 10000 → Dr (n + 3) p (fun r => r.length ≤ 9) (fun k => spec_someDone.l0 k g done (n : Int) B p)
 | 0, done, p, hd, hp, hp' => by
  refine Dr.succ ?_
  simp only [spec_someDone.l0]
  refine Dr.neg (by omega) (((spoil_ev hB done 8 p (by omega) hp (by omega)).bind (n := 0) (fun r q hr h1 h2 => ?_)).mono (by omega) (fun _ h => h))
  exact Dr.here (by show r.length ≤ 9; omega) (by omega)
 | n + 1, done, p, hd, hp, hp' => by
  have hw : wrap64 (((n + 1 : Nat) : Int) - 1) = (n : Int) := by rw [w64 (by omega) (by omega)]; omega
  have hs := hg.small (by omega) (by omega)
  obtain ⟨r, e1, _, hr8⟩ := ReadyTasks_ev g hs done (by omega)
  have hno : ∀ q, p ≤ q → q ≤ p + 1 → Dr (n + 3) q (fun r => r.length ≤ 9) (fun k => spec_someDone.l0 k g done (n : Int) B q) := fun q h1 h2 => someDone_l0 hB g hg n done q hd (by omega) (by omega)
  refine Dr.succ ?_
  simp only [spec_someDone.l0, hw]
  refine Dr.pos (by omega) (Dr.bind0 e1 (Dr.ite (fun h => ?_) (fun h => (hno p (by omega) (by omega)).mono (by omega) (fun _ h => h))))
  refine ((pick_ev hB (r.length : Int) p (by omega) (by omega)).bind (n := n + 3) (fun a q ha h1 h2 => ?_)).mono (by omega) (fun _ h => h)
  obtain ⟨f, e2, _, hf8⟩ := FinishTask_ev g hs done (by omega) (rd r a)
  refine Dr.pos ha.1 (Dr.pos (ha.2.1 (by omega)) (Dr.bind0 e2 (Dr.ite (fun _ => ?_) (fun _ => hno q (by omega) (by omega)))))
  exact someDone_l0 hB g hg n f.1 q hf8 (by omega) (by omega)
theorem someDone_ev {B : List Int} (hB : RdOk B) (g : List TT) (hg : GB 16 16 g) (p : Int) (hp : 0 ≤ p) (hp' : p ≤ 5000) : Dr 30 p (fun r => r.length ≤ 9) (fun k => spec_someDone.f k B p g) := by
 unfold spec_someDone.f
 have hgl := hg.1
 rw [w64 (n := (g.length : Int) + 1) (by omega) (by omega)]
 refine ((pick_ev hB ((g.length : Int) + 1) p hp (by omega)).bind (n := 25) (fun r q hr h1 h2 => ?_)).mono (by omega) (fun _ h => h)
 have h3 := hr.2.1 (by omega)
 obtain ⟨n, rfl⟩ : ∃ n : Nat, r = (n : Int) := ⟨r.toNat, by omega⟩
 exact (someDone_l0 hB g hg n [] q (by simp) (by omega) (by omega)).mono (by omega) (fun _ h => h)
def sumP (ts : List TT) (p : Nat → Bool) (l : List Nat) : Int := l.foldl (fun (a : Int) (i : Nat) => if p i then a + (rd_T39 ts (i : Int)).f0 else a) 0
theorem tot_pick (ts : List TT) (p : Nat → Bool) (n : Nat) : totI ts (pickN p n) = sumP ts p (List.range n) := by
 unfold totI pickN sumP
 rw [List.foldl_filter]
theorem sum_fold (ts : List TT) (p : Nat → Bool) : ∀ (l : List Nat) (a : Int), l.foldl (fun (a : Int) (i : Nat) => if p i then a + (rd_T39 ts (i : Int)).f0 else a) a = a + sumP ts p l
 | [], a => by simp [sumP]
 | i :: l, a => by
  unfold sumP
  rw [List.foldl_cons, List.foldl_cons, sum_fold ts p l, sum_fold ts p l]
  split <;> omega
theorem sum_cons (ts : List TT) (p : Nat → Bool) (i : Nat) (l : List Nat) : sumP ts p (i :: l) = (if p i then (rd_T39 ts (i : Int)).f0 else 0) + sumP ts p l := by
 show (i :: l).foldl _ 0 = _
 rw [List.foldl_cons, sum_fold]
 split <;> omega
theorem sum_in (ts : List TT) (p : Nat → Bool) : ∀ (l : List Nat), (∀ i ∈ l, 1 ≤ (rd_T39 ts (i : Int)).f0 ∧ (rd_T39 ts (i : Int)).f0 ≤ 20) → 0 ≤ sumP ts p l ∧ sumP ts p l ≤ sumP ts (fun _ => true) l ∧ sumP ts (fun _ => true) l ≤ 20 * l.length ∧ (l.length : Int) ≤ sumP ts (fun _ => true) l
 | [], _ => by simp [sumP]
 | i :: l, h => by
  have h1 := h i List.mem_cons_self
  obtain ⟨h2, h3, h4, h5⟩ := sum_in ts p l (fun j hj => h j (List.mem_cons_of_mem _ hj))
  simp only [sum_cons, List.length_cons, if_true]
  split <;> omega
theorem sum_add (ts : List TT) (p q : Nat → Bool) (i : Nat) (hp : p i = false) (hq : ∀ j, q j = (decide (j = i) || p j)) : ∀ (l : List Nat), l.Nodup → sumP ts q l = sumP ts p l + if i ∈ l then (rd_T39 ts (i : Int)).f0 else 0
 | [], _ => by simp [sumP]
 | j :: l, h => by
  have hnd := List.nodup_cons.1 h
  rw [sum_cons, sum_cons, sum_add ts p q i hp hq l hnd.2, hq]
  by_cases hij : j = i
  ·subst hij
   rw [hp, if_neg hnd.1, if_pos List.mem_cons_self]
   simp
   omega
  ·rw [decide_eq_false hij, Bool.false_or]
   have hm : (i ∈ j :: l) ↔ i ∈ l := by rw [List.mem_cons]; exact ⟨fun h => h.resolve_left (fun e => hij e.symm), Or.inr⟩
   by_cases hi : i ∈ l
   ·rw [if_pos hi, if_pos (hm.2 hi)]; omega
   ·rw [if_neg hi, if_neg (fun h => hi (hm.1 h))]; omega
def inD (done : List Int) (i : Nat) : Bool := decide ((i : Int) ∈ done)
theorem DoneOk.pick {ts : List TT} {done : List Int} {G : GrN} {s : Nat} (h : DoneOk ts done G s) : bitsN s = pickN (inD done) ts.length :=
 bits_pick h.n8 h.lt (inD done) (fun i _ => h.bit i)
theorem DoneOk.times {ts : List TT} {done : List Int} {G : GrN} {s : Nat} (h : DoneOk ts done G s) : ∀ i ∈ List.range ts.length, 1 ≤ (rd_T39 ts (i : Int)).f0 ∧ (rd_T39 ts (i : Int)).f0 ≤ 20 := fun i hi => by
 have hi' := List.mem_range.1 hi
 have h1 := fine_task h.fine hi'
 rw [rdT_at ts i hi']
 unfold taskB at h1
 simp only [Bool.and_eq_true, inB, decide_eq_true_eq] at h1
 exact h1.1.1.1.1
theorem all_pick (n : Nat) (hn : n ≤ 8) : bitsN (allN n) = pickN (fun _ => true) n := by
 refine bits_pick hn (by unfold allN; have := Nat.two_pow_pos n; omega) _ (fun i hi => ?_)
 unfold allN
 rw [Nat.testBit_two_pow_sub_one]; exact decide_eq_true hi
def progL (ts : List TT) (done : List Int) : Int := if ts.length = 0 then 1000 else (1000 * sumP ts (inD done) (List.range ts.length)) / sumP ts (fun _ => true) (List.range ts.length)
theorem DoneOk.progress {ts : List TT} {done : List Int} {G : GrN} {s : Nat} (h : DoneOk ts done G s) : progressP ts done = progL ts done := by
 unfold progressP progL
 rw [h.doneP]
 simp only
 rw [h.pick, all_pick _ h.n8, tot_pick, tot_pick]
theorem toInt_eq (b : Bool) : spec_toInt.f b = some (if b then 1 else 0) := by cases b <;> rfl
theorem prog_go (ts : List TT) (hs : Small ts) (hn : ts.length ≤ 8) (ht : ∀ i ∈ List.range ts.length, 1 ≤ (rd_T39 ts (i : Int)).f0 ∧ (rd_T39 ts (i : Int)).f0 ≤ 20) (done : List Int) (hd : done.length < 1099511627776) :
  ∀ (m j : Nat) (a b : Int), j + m = ts.length → 0 ≤ a → a ≤ 20 * j → 0 ≤ b → b ≤ 20 * j →
  Ev (fun k => spec_ProgressOf.l0 k ts done a b (j : Int)) (if b + sumP ts (fun _ => true) (List.range' j m) = 0 then 1000 else (1000 * (a + sumP ts (inD done) (List.range' j m))) / (b + sumP ts (fun _ => true) (List.range' j m)))
 | 0, j, a, b, hj, ha, ha', hb, hb' => by
  refine Ev.succ ?_
  simp only [spec_ProgressOf.l0]
  refine Ev.neg (by omega) ?_
  have e1 : ∀ p, sumP ts p (List.range' j 0) = 0 := fun p => rfl
  rw [e1, e1, Int.add_zero, Int.add_zero]
  refine Ev.ite (fun h0 => Ev.eq ?_) (fun h0 => Ev.eq ?_)
  ·rw [if_pos h0]
  ·have hw : wrap64 (1000 * a) = 1000 * a := w64 (by omega) (by omega)
   have n1 := Int.ediv_nonneg (by omega : 0 ≤ 1000 * a) hb
   have n2 := Int.ediv_le_self b (by omega : 0 ≤ 1000 * a)
   rw [if_neg h0, hw, Int.tdiv_eq_ediv_of_nonneg (by omega), w64 (by omega) (by omega)]
 | m + 1, j, a, b, hj, ha, ha', hb, hb' => by
  have hw : wrap64 ((j : Int) + 1) = ((j + 1 : Nat) : Int) := w64n j (by omega)
  have htj := ht j (List.mem_range.2 (by omega))
  refine Ev.succ ?_
  simp only [spec_ProgressOf.l0, hw]
  refine Ev.pos (by omega) (Ev.pos (by omega) (Ev.bind (isIn_ev _ _ (by omega)) (Ev.bind (Ev.eq (toInt_eq _)) ?_)))
  obtain ⟨t, htt⟩ : ∃ t, t = (rd_T39 ts (j : Int)).f0 := ⟨_, rfl⟩
  rw [← htt] at htj ⊢
  obtain ⟨c, hc, hc2⟩ : ∃ c : Int, c = t * (if decide ((j : Int) ∈ done) = true then 1 else 0) ∧ c = (if inD done j = true then t else 0) := by
   refine ⟨_, rfl, ?_⟩
   unfold inD
   cases decide ((j : Int) ∈ done) <;> simp
  have hcb : 0 ≤ c ∧ c ≤ 20 := by rw [hc2]; split <;> omega
  rw [← hc, w64 (n := c) (by omega) (by omega), w64 (n := a + c) (by omega) (by omega), w64 (n := b + t) (by omega) (by omega)]
  have := prog_go ts hs hn ht done hd m (j + 1) (a + c) (b + t) (by omega) (by omega) (by omega) (by omega) (by omega)
  rw [List.range'_succ, sum_cons, sum_cons, ← htt, ← hc2]
  simp only [if_true]
  rw [← Int.add_assoc, ← Int.add_assoc]
  exact this
theorem ProgressOf_ev (ts : List TT) (hs : Small ts) (done : List Int) (hd : done.length < 1099511627776) : Ev (fun k => spec_ProgressOf.f k ts done) (progressP ts done) := by
 have hv := validDone_ev ts hs done hd
 unfold spec_ProgressOf.f
 rcases doneP_eq ts done with ⟨h1, _⟩ | ⟨G, s, h1, _, h2⟩
 ·unfold progressP
  rw [h1] at hv ⊢
  exact Ev.bind hv (Ev.neg (by simp) (Ev.pure _))
 ·rw [h2.progress]
  rw [h1] at hv
  refine Ev.bind hv (Ev.pos rfl ?_)
  have h3 := prog_go ts hs h2.n8 h2.times done hd ts.length 0 0 0 (by omega) (by omega) (by omega) (by omega) (by omega)
  rw [← List.range_eq_range', Int.zero_add, Int.zero_add] at h3
  have h4 := sum_in ts (inD done) (List.range ts.length) h2.times
  rw [List.length_range] at h4
  have h5 : progL ts done = (if sumP ts (fun _ => true) (List.range ts.length) = 0 then 1000 else (1000 * sumP ts (inD done) (List.range ts.length)) / sumP ts (fun _ => true) (List.range ts.length)) := by
   unfold progL
   by_cases h6 : ts.length = 0
   ·rw [if_pos h6, if_pos (by omega)]
   ·rw [if_neg h6, if_neg (by omega)]
  rw [h5]
  exact h3
theorem mem_finishL {ts : List TT} {done : List Int} {a x : Int} : x ∈ finishL ts done a ↔ (0 ≤ x ∧ x < ts.length) ∧ (x = a ∨ x ∈ done) := by
 unfold finishL pickN nI
 rw [List.mem_map]
 constructor
 ·rintro ⟨i, hi, rfl⟩
  rw [List.mem_filter, List.mem_range] at hi
  unfold pF at hi
  rw [Bool.or_eq_true, decide_eq_true_eq, decide_eq_true_eq] at hi
  exact ⟨by omega, hi.2⟩
 ·rintro ⟨h1, h2⟩
  refine ⟨x.toNat, List.mem_filter.2 ⟨List.mem_range.2 (by omega), ?_⟩, by omega⟩
  unfold pF
  rw [Bool.or_eq_true, decide_eq_true_eq, decide_eq_true_eq, Int.toNat_of_nonneg h1.1]
  exact h2
theorem asc_pairwise : ∀ (l : List Int), l.Pairwise (· < ·) → ascB l = true
 | [], _ => rfl
 | [x], _ => rfl
 | x :: y :: r, h => by
  have h1 := List.pairwise_cons.1 h
  rw [ascB, decide_eq_true (h1.1 y List.mem_cons_self), Bool.true_and]
  exact asc_pairwise (y :: r) h1.2
theorem pick_asc (p : Nat → Bool) (n : Nat) : ascB (nI (pickN p n)) = true := by
 refine asc_pairwise _ ?_
 unfold nI pickN
 rw [List.pairwise_map]
 exact (List.Pairwise.filter _ List.pairwise_lt_range).imp (fun h => by omega)
theorem subL_mono {l d d' : List Int} (h : subL l d = true) (hd : ∀ x ∈ d, x ∈ d') : subL l d' = true :=
 List.all_eq_true.2 fun x hx => decide_eq_true (hd x (of_decide_eq_true (List.all_eq_true.1 h x hx)))
theorem DoneOk.finish {ts : List TT} {done : List Int} {G : GrN} {s : Nat} (h : DoneOk ts done G s) {a : Int} (ha : a ∈ readyL ts done) : ∃ s', DoneOk ts (finishL ts done a) G s' := by
 have hm := mem_readyL.1 ha
 have hp := Bool.and_eq_true_iff.1 hm.2
 have hsub : ∀ x ∈ done, x ∈ finishL ts done a := fun x hx => mem_finishL.2 ⟨h.rng x hx, Or.inr hx⟩
 refine ⟨maskL (finishL ts done a), h.g, h.fine, h.nd, h.gts, rfl, pick_asc _ _, fun x hx => (mem_finishL.1 hx).1, List.all_eq_true.2 fun x hx => ?_⟩
 rcases (mem_finishL.1 hx).2 with rfl | hx
 ·unfold keepsL
  have := hp.2
  rw [Int.toNat_of_nonneg hm.1.1] at this
  exact subL_mono this hsub
 ·exact subL_mono (List.all_eq_true.1 h.keeps x hx) hsub
theorem DoneOk.more {ts : List TT} {done : List Int} {G : GrN} {s : Nat} (h : DoneOk ts done G s) {a : Int} (ha : a ∈ readyL ts done) : progL ts done < progL ts (finishL ts done a) := by
 have hm := mem_readyL.1 ha
 have hp := Bool.and_eq_true_iff.1 hm.2
 have hnot : inD done a.toNat = false := by unfold inD; simpa using hp.1
 have h0 : ¬ ts.length = 0 := by omega
 have hr : a.toNat ∈ List.range ts.length := List.mem_range.2 (by omega)
 unfold progL
 rw [if_neg h0, if_neg h0]
 have e1 := sum_add ts (inD done) (fun j => decide (j = a.toNat) || inD done j) a.toNat hnot (fun _ => rfl) (List.range ts.length) List.nodup_range
 rw [if_pos hr] at e1
 have e2 : sumP ts (inD (finishL ts done a)) (List.range ts.length) = sumP ts (fun j => decide (j = a.toNat) || inD done j) (List.range ts.length) := by
  rw [← tot_pick, ← tot_pick]
  congr 1
  refine List.filter_congr fun j hj => ?_
  have hj' := List.mem_range.1 hj
  unfold inD
  rw [← Bool.decide_or]
  refine decide_eq_decide.2 ?_
  rw [mem_finishL]
  constructor
  ·rintro ⟨_, h2 | h2⟩
   ·exact Or.inl (by omega)
   ·exact Or.inr h2
  ·rintro (h2 | h2)
   ·exact ⟨by omega, Or.inl (by omega)⟩
   ·exact ⟨by omega, Or.inr h2⟩
 have hb := sum_in ts (inD done) (List.range ts.length) h.times
 have ht := h.times _ hr
 rw [List.length_range] at hb
 have h8 := h.n8
 rw [e2, e1]
 obtain ⟨x, hx⟩ : ∃ x, x = sumP ts (inD done) (List.range ts.length) := ⟨_, rfl⟩
 obtain ⟨y, hy⟩ : ∃ x, x = sumP ts (fun _ => true) (List.range ts.length) := ⟨_, rfl⟩
 obtain ⟨t, htt⟩ : ∃ x, x = (rd_T39 ts ((a.toNat : Nat) : Int)).f0 := ⟨_, rfl⟩
 rw [← hx, ← hy] at hb
 rw [← htt] at ht
 rw [← hx, ← hy, ← htt]
 have hy0 : 0 < y := by omega
 have h9 : (1000 * x + y) / y = 1000 * x / y + 1 := by have := Int.add_mul_ediv_right (1000 * x) 1 (by omega : y ≠ 0); rwa [Int.one_mul] at this
 have h10 : (1000 * x + y) / y ≤ (1000 * (x + t)) / y := Int.ediv_le_ediv hy0 (by omega)
 omega
end Go.Proofs.YtajapkjplgaigaaDoor.P
end
section
namespace Go.Proofs.YtajapkjplgaigaaDoor.Pure
open Go.RowKit Go.Proofs.YtajapkjplgaigaaDoor.P
open Go.Proofs.YtajapkjplgaigaaDoorW.PrintWords (rd)
set_option linter.unusedVariables false
theorem more_l0 {ts : List TT} {done : List Int} {G : GrN} {s : Nat} (h : DoneOk ts done G s) : ∀ (r pre : List Int), pre ++ r = readyL ts done → Ev (fun k => laws_FnProgressOfMore.l0 k ts done (progressP ts done) (readyL ts done) (pre.length : Int)) true
 | [], pre, he => by
  rw [← he]
  refine Ev.succ ?_
  simp only [laws_FnProgressOfMore.l0]
  exact Ev.neg (len_nlt pre) (Ev.pure _)
 | x :: r, pre, he => by
  have hx : x ∈ readyL ts done := by rw [← he]; simp
  have h1 : rd (readyL ts done) (pre.length : Int) = x := by rw [← he]; exact rdm pre x r
  have h2 : (pre.length : Int) < ((readyL ts done).length : Int) := by rw [← he]; exact len_lt _ _ _
  have h8 : (readyL ts done).length ≤ 8 := by
   have := pickN_len (pR ts done) ts.length
   have := h.n8
   unfold readyL
   rw [nI_length]; omega
  obtain ⟨s', h'⟩ := h.finish hx
  have hm := h.more hx
  refine Ev.succ ?_
  simp only [laws_FnProgressOfMore.l0, h1]
  refine Ev.pos h2 (Ev.pos (by omega) (Ev.bind (x := (finishL ts done x, true)) (Ev.eq ?_) (Ev.pos rfl (Ev.bind (x := progressP ts (finishL ts done x)) (Ev.eq rfl) (Ev.neg ?_ ?_)))))
  ·unfold impl_FinishTask.f
   rw [h.finishP x, if_pos hx]
  ·rw [h.progress, h'.progress]; omega
  ·rw [len_next pre x (by omega)]
   exact more_l0 h r (pre ++ [x]) (by rw [← he]; simp)
theorem FnProgressOfMore : laws_FnProgressOfMore.Pure := by
 intro l0 _ _ hb
 refine Ev.get (f := fun k => laws_FnProgressOfMore.f k l0) ?_
 unfold laws_FnProgressOfMore.f
 refine Ev.ite (fun _ => Ev.pure _) (fun _ => ?_)
 obtain ⟨B, e0, hB⟩ := newReader_ev l0 hb
 obtain ⟨g, q, e1, hg, h1, h2⟩ := anyGraph_ev hB 0 (by omega) (by omega)
 obtain ⟨done, q2, e2, hd, h3, h4⟩ := someDone_ev hB g hg q (by omega) (by omega)
 have hs := hg.small (by omega) (by omega)
 have hp := ProgressOf_ev g hs done (by omega)
 have hdraw : Ev (fun k => spec_DrawProgressOf.f k l0) (g, done) := by
  unfold spec_DrawProgressOf.f spec_DrawValidDone.f
  exact Ev.bind (Ev.bind (Ev.eq e0) (Ev.bind e1 (Ev.bind e2 (Ev.pure _)))) (Ev.pure _)
 refine Ev.bind hdraw (Ev.bind (x := progressP g done) (Ev.eq rfl) (Ev.bind hp (Ev.pos rfl ?_)))
 refine Ev.succ ?_
 simp only [laws_FnProgressOfMore.j0]
 refine Ev.ite (fun _ => Ev.bind hp (Ev.eq (by simp))) (fun hn => ?_)
 rcases doneP_eq g done with ⟨h5, _⟩ | ⟨G, s, h5, _, h6⟩
 ·exfalso
  refine hn (decide_eq_true ?_)
  show progressP g done < 0
  unfold progressP
  rw [h5]
  show (-1 : Int) < 0
  omega
 ·refine Ev.bind (x := readyL g done) (Ev.eq ?_) (more_l0 h6 (readyL g done) [] rfl)
  unfold impl_ReadyTasks.f
  rw [h5]
  simp only [h6.ready]
end Go.Proofs.YtajapkjplgaigaaDoor.Pure
end
section
namespace Go.Proofs.YtajapkjplgaigaaDoor.fnProgressOfMore
open Go.ChangeShapes Go.WideShapes Go.ChangeAt Go.RowKit
open Go.ChangeMaps (open_string shut_string)
open Go.Proofs.YtajapkjplgaigaaDoorW
set_option linter.unusedVariables false
theorem own : ownKnob Tryd.prog.godebug = none := by kernel_rfl
theorem laidOut : laidOutB Tryd.prog = true := by kernel_rfl
def IsRow (k : IntKind) (w : World) (a : Option Addr) (len cap : Nat) (zs : List Int) : Prop :=
 (a = none ∧ len = 0 ∧ cap = 0 ∧ zs = []) ∨
 ∃ x, a = some x ∧ len ≤ cap ∧ cap ≤ maxLen ∧ zs.length = cap ∧ (∀ i, i < zs.length → w.cell? (x.add i) = some (.int k (zs.getD i 0))) ∧ ∀ n ∈ zs, (Lit.int k n).wf = true
theorem gTab : Tryd.prog.globalNamed "math/bits.deBruijn32tab" = some 0 := by kernel_rfl
theorem gTabType : (Tryd.prog.globals[0]?).map (·.type) = some 107 := by kernel_rfl
theorem cellsTab : Tryd.prog.cellsOf 107 = 32 := by kernel_rfl
theorem cellsByte : Tryd.prog.cellsOf 5 = 1 := by kernel_rfl
theorem table {W : World} (h : laidMetH Tryd.prog Rows.fnProgressOfMoreRow.laid W) : Lib.TabIs Tryd.prog W "math/bits.deBruijn32tab" .u8 [0, 1, 28, 2, 29, 14, 24, 3, 30, 22, 20, 15, 25, 17, 4, 8, 31, 27, 13, 23, 21, 19, 16, 7, 26, 12, 18, 6, 11, 5, 10, 9] :=
 Lib.tabIs_of_head (rest := []) gTab gTabType Tryd.underlying107 Tryd.underlying5 cellsByte cellsTab h
theorem tabOK {W : World} (h : laidMetH Tryd.prog Rows.fnProgressOfMoreRow.laid W) : TabOK W := by
 intro j hj
 have h2 := (table h).cell gTab j (by simpa using hj)
 rw [h2]
 have h3 : ∀ j, j < 32 → (([0, 1, 28, 2, 29, 14, 24, 3, 30, 22, 20, 15, 25, 17, 4, 8, 31, 27, 13, 23, 21, 19, 16, 7, 26, 12, 18, 6, 11, 5, 10, 9] : List Int).getD j 0) = ((Lib.deBruijn32tab.getD j 0 : Nat) : Int) := by decide
 have h4 := h3 j hj
 simp only [List.getD_eq_getElem?_getD] at h4 ⊢
 first | (rw [h4]) | (simp at h4 ⊢; exact h4) | exact congrArg (fun z => some (Value.int IntKind.u8 z)) h4
noncomputable def laidWorld (os : Os) : World :=
 { World.holding Tryd.prog os ⟨#[], #[], []⟩ with heap := (World.holding Tryd.prog os ⟨#[], #[], []⟩).heap.modify 0 fun
   | .cells _ t frozen => .cells #[.int .u8 0, .int .u8 1, .int .u8 28, .int .u8 2, .int .u8 29, .int .u8 14, .int .u8 24, .int .u8 3, .int .u8 30, .int .u8 22, .int .u8 20, .int .u8 15, .int .u8 25, .int .u8 17, .int .u8 4, .int .u8 8, .int .u8 31, .int .u8 27, .int .u8 13, .int .u8 23, .int .u8 21, .int .u8 19, .int .u8 16, .int .u8 7, .int .u8 26, .int .u8 12, .int .u8 18, .int .u8 6, .int .u8 11, .int .u8 5, .int .u8 10, .int .u8 9] t frozen
   | o => o }
theorem laid_met (os : Os) : laidMet Tryd.prog Rows.fnProgressOfMoreRow.laid ((laidWorld os).forCall (fun _ _ => 0) ⟨#[], #[.slice none 0 0], []⟩).memory :=
 laidMet_of_run' 8 (by kernel_rfl) (by kernel_rfl)
theorem reads (os : Os) {H : Type} (enc : TypeId × Value → H) : ∃ places, DataW.whole enc Tryd.prog ((laidWorld os).forCall (fun _ _ => 0) ⟨#[], #[.slice none 0 0], []⟩).memory Tryd.f3.params.toList Rows.fnProgressOfMoreSpec.vars false #[Value.slice none 0 0].toList 8 = some ([.nil], [], places) :=
 ⟨[], by kernel_rfl⟩
set_option maxRecDepth 100000 in
theorem lifted (os : Os) (started : os.Started) (H : Type) (enc : TypeId × Value → H) (F : Stop.Interp) :
  ReturnsInHanded {} Tryd.checked os 3 .any ((OpenSpec.ofChange Rows.fnProgressOfMoreSpec).preRow enc Tryd.prog Tryd.f3 Rows.fnProgressOfMoreRow.domain false Rows.fnProgressOfMoreRow.laid) (((OpenSpec.ofChange Rows.fnProgressOfMoreSpec).at F).post enc Tryd.prog Tryd.f3 false true false false) := by
 obtain ⟨places, hx⟩ := reads os enc
 refine returnsInHanded_of_row (C := Tryd.checked) (s := OpenSpec.ofChange Rows.fnProgressOfMoreSpec) own started (by kernel_rfl) Tryd.func3
  (witness_row_at (enc := enc) (C := Tryd.checked) false (laidWorld os) #[.slice none 0 0] rfl (by kernel_rfl) (by kernel_rfl) (by kernel_rfl)
   (OpenSpec.preRow_of_cond 8 hx (by kernel_rfl) (fun k hk => by cases hk) (by kernel_rfl) (laid_met os))) ?_
 intro W base args ds gs before hval0 hW hcnd _ hsz0 hL _ _
 have hsz : (DataW.weightsEach Tryd.prog (Tryd.f3.params.toList ++ Rows.fnProgressOfMoreSpec.plain.varTypes Tryd.prog) (ds ++ gs)).all (· ≤ reachBytes) = true := hsz0
 have hval : ∀ (j : Nat) t v, Tryd.f3.params[j]? = some t → args[j]? = some v → Value.okWide Tryd.prog W .any base t v := hval0
 have hW' := hW
 obtain ⟨p, q, hA0, hV, rfl, hfz, hnd⟩ := hW
 have hA : DataW.TrodAll enc Tryd.prog W 0 (fun _ => true) true Tryd.f3.params.toList args.toList ds p := hA0
 rw [Tryd.params3] at hA hval hsz
 obtain ⟨v0, vs0, d0, ds0, p0, q0, hargs, rfl, rfl, h0, r0⟩ := trodAll_cons hA
 obtain ⟨rfl, rfl, rfl⟩ := trodAll_nil r0
 obtain rfl : args = #[v0] := by cases args; simp_all
 obtain ⟨rfl, rfl⟩ := trodVars_none hV
 obtain ⟨a0, len0, cap0, rfl⟩ := okWide_slice Tryd.underlying22 (hval 0 22 v0 rfl rfl)
 have k0 := h0
 have lt0 : ∀ x ∈ p0, x.block < W.heap.size := by obtain ⟨m, hm⟩ := k0; exact DataW.trod_lt m _ _ _ hm
 obtain ⟨z0, w0⟩ : ∃ zs, IsRow .u8 W a0 len0 cap0 zs := by
  obtain ⟨fuel, hf⟩ := h0
  rcases open_ints Tryd.underlying22 Tryd.underlying5 (by kernel_rfl) hf with ⟨hcs, _⟩ | ⟨x, l, c, zs, hcs, _, hl, hm, hz, _, hcell, hwz⟩
  ·simp [Value.cells] at hcs
   obtain ⟨rfl, rfl, rfl⟩ := hcs
   exact ⟨[], .inl ⟨rfl, rfl, rfl, rfl⟩⟩
  ·simp [Value.cells] at hcs
   obtain ⟨rfl, rfl, rfl⟩ := hcs
   exact ⟨zs, .inr ⟨_, rfl, hl, hm, by simpa using hz, hcell, hwz⟩⟩
 have y0 : len0 * 1 ≤ 140737488351232 := PrintWords.sized_ints hsz (j := 0) (t := 22) rfl rfl Tryd.underlying22 Tryd.underlying5 (by kernel_rfl) (by kernel_rfl) h0
 clear hA0 hval0 hsz0 hsz
 refine (P.laws_FnProgressOfMore.walk Pure.FnProgressOfMore a0 len0 cap0 z0 W w0 y0 (tabOK hL)).mono fun e W' ⟨he, bel⟩ => ?_
 subst he
 exact ⟨_, rfl, _, _, _, [], _, [], hW', trodAll_mk1 (shut_bool Tryd.underlying4 _), (trodAll_cons_mk (Below.trod laidOut (by kernel_rfl) (of_decide_eq_true (by kernel_rfl)) k0 bel lt0) trodAll_mk0), rfl, bel.frame _, fun h => by cases h⟩
theorem said : Rows.FnProgressOfMoreSaid :=
 OpenClaim.holds_of_cond 3 Tryd.f3 rfl rfl rfl rfl rfl rfl rfl ⟨rfl, rfl, rfl, rfl, rfl⟩ rfl rfl rfl rfl rfl (by kernel_rfl) Tryd.func3 (by kernel_rfl)
  (of_decide_eq_true (by kernel_rfl)) (by unfold Func.isWrapper; first | (rw [if_pos (by decide +kernel)]; kernel_rfl) | (rw [if_neg (by decide +kernel)]; exact ⟨rfl, rfl⟩))
  (fun os started H enc _ F => by rw [OpenClaim.pre_eq_preRow]; exact lifted os started H enc F)
theorem plain (f : FuncId) (fn : Func) (hf : Tryd.pinned.checked.prog.funcNamed "loop.example/buildscheduler/laws.FnProgressOfMore" = some f) (hfn : Tryd.pinned.checked.prog.funcs[f]? = some fn) :
  false = Tryd.pinned.checked.prog.looks [] ∧ ∀ (j : Nat) t, fn.params[j]? = some t → Tryd.pinned.checked.prog.wantsStandIn t = false := by
 obtain rfl : f = 3 := Option.some.inj ((show Tryd.prog.funcNamed "loop.example/buildscheduler/laws.FnProgressOfMore" = some 3 by kernel_rfl).symm.trans hf) |>.symm
 obtain rfl : fn = Tryd.f3 := (Option.some.inj (Tryd.func3.symm.trans hfn)).symm
 refine ⟨by kernel_rfl, fun j t ht => ?_⟩
 rw [Tryd.params3] at ht
 obtain rfl : t = 22 := by simpa using Array.mem_of_getElem? ht
 exact (show Tryd.prog.wantsStandIn 22 = false by kernel_rfl)
theorem card : Rows.FnProgressOfMoreCardSaid :=
 Claim7.holds_tied_plain_at .later [] _ _ _ _ said (fun _ h => by cases h) (by kernel_rfl) (fun _ h => by cases h) fnProgressOfMore_row_tie rfl ⟨rfl, rfl⟩ (by kernel_rfl) rfl plain (by kernel_rfl)
end Go.Proofs.YtajapkjplgaigaaDoor.fnProgressOfMore
namespace Go.Proofs.YtajapkjplgaigaaDoor
theorem fnProgressOfMore_card : Rows.FnProgressOfMoreCardSaid := fnProgressOfMore.card
end Go.Proofs.YtajapkjplgaigaaDoor
end
