/- The law 'FnTimeLeftLeast' holds for every input: its card. No condition but the row's own. -/
import Derived.Test.YtajapkjplgaigaaDoorC92
import Derived.RangeFuncNested
import Derived.Test.YtajapkjplgaigaaDoorC90
import Derived.Test.YtajapkjplgaigaaDoorC91
import Derived.Test.YtajapkjplgaigaaDoorC9WMore
import Derived.IntWalk
import Derived.Laws.BitsLemmas
import Derived.Test.YtajapkjplgaigaaDoorRows
import Derived.WalkKit
import Derived.ProofKit
import Derived.OpenShut
import Derived.ShutString
import Derived.ChangeOld
import Derived.Below
import Derived.SizedLaws
import Derived.Test.YtajapkjplgaigaaDoorC9WSized
import Derived.Test.YtajapkjplgaigaaDoorCards
import Derived.Test.YtajapkjplgaigaaDoorTie
import Derived.Deep.DeepHandedRow
import Derived.Lib.LaidTab
section
namespace Go.Proofs.YtajapkjplgaigaaDoor.P
open Go.RowKit Go.Shelf Go.Proofs.YtajapkjplgaigaaDoorW.PrintWords Go.Proofs.YtajapkjplgaigaaDoorW.PrintLast Go.Proofs.YtajapkjplgaigaaDoorW.PrintMore
attribute [local go_sem] Oper.semAt_some
set_option linter.unusedVariables false
set_option linter.unusedSimpArgs false
def closedP (nd : List Nat) (s : Nat) : Bool := (bitsN s).all fun i => nd.getD i 0 &&& s == nd.getD i 0
def doneP (ts : List TT) (done : List Int) : Option (GrN × Nat) := match graphP ts with
 | none => none
 | some G => match setP done ts.length with
  | none => none
  | some s => if closedP G.nd s then some (G, s) else none
theorem size_calls (g : Nat) (G : Gr) (w : World) (hG : IsG w g G) : Calls Tryd.prog 40 #[.pointer (some ⟨g, 0, none⟩)] w fun e w' => e = .returned (.int .i64 (G.ts.length : Int)) ∧ Drawn0 w w' := by
 obtain ⟨A0, c0, A1, c1, A2, c2, A3, c3, A4, c4, hblk, _⟩ := hG
 have hg0 : w.cell? ⟨g, 0, none⟩ = some (.slice A0 G.ts.length c0) := (blk_cell hblk 0).trans rfl
 clear hblk
 go_enter Tryd.func40, Tryd.ntmps40
 go_wp2
 go_ret
 exact ⟨rfl, ⟨0, rfl⟩⟩
structure Rs (w : World) (q : Nat) (v0 v1 v2 : Value) (W : World) : Prop where
 h0 : Boxed W q 49 v0
 h1 : Boxed W (q + 1) 51 v1
 h2 : Boxed W (q + 1 + 1) 4 v2
 bel : Below w.heap.size w W
theorem own_Rs {β : Type} (w : World) (q : Nat) (v0 v1 v2 : Value) (B : Nat) (hB : w.heap.size ≤ B) : OwnFrom B (fun (_ : β) W => Rs w q v0 v1 v2 W) := by
 intro s W W' row h hg hr
 exact ⟨own_box B q _ (fun (_ : β) => v0) s W W' row h.h0 hg hr, own_box B (q + 1) _ (fun (_ : β) => v1) s W W' row h.h1 hg hr, own_box B (q + 1 + 1) _ (fun (_ : β) => v2) s W W' row h.h2 hg hr, (ownFrom_below (Nat.le_refl _) hB) s W W' row h.bel hg hr⟩
theorem Rs.below {w W W' : World} {q : Nat} {v0 v1 v2 : Value} (h : Rs w q v0 v1 v2 W) (hb : Below W.heap.size W W') : Rs w q v0 v1 v2 W' :=
 ⟨(hb.block q h.h0.lt).trans h.h0, (hb.block _ h.h1.lt).trans h.h1, (hb.block _ h.h2.lt).trans h.h2, below_step h.bel hb⟩
theorem Rs.alloc {w W : World} {q : Nat} {v0 v1 v2 : Value} (h : Rs w q v0 v1 v2 W) (o : Obj) : Rs w q v0 v1 v2 (W.alloc o) := h.below ((Below.refl _ W).alloc (Nat.le_refl _) o)
theorem Rs.drewN {w W : World} {q : Nat} {v0 v1 v2 : Value} (h : Rs w q v0 v1 v2 W) (m : Nat) : Rs w q v0 v1 v2 (W.drewN m) := ⟨h.h0, h.h1, h.h2, pw_below_drewN h.bel m⟩
theorem Rs.put {w W : World} {q : Nat} {v0 v1 v2 : Value} (h : Rs w q v0 v1 v2 W) (hq : w.heap.size ≤ q) (u0 u1 u2 : Value) :
  Rs w q u0 u1 u2 (((W.setCell ⟨q, 0, none⟩ u0).setCell ⟨q + 1, 0, none⟩ u1).setCell ⟨q + 1 + 1, 0, none⟩ u2) := by
 refine ⟨?_, ?_, ?_, ((h.bel.setCell (p := ⟨q, 0, none⟩) hq _).setCell (p := ⟨q + 1, 0, none⟩) (by show w.heap.size ≤ q + 1; omega) _).setCell (p := ⟨q + 1 + 1, 0, none⟩) (by show w.heap.size ≤ q + 1 + 1; omega) _⟩
 ·exact blk_far (blk_far ((blk_set h.h0 0 u0).trans rfl) (show q ≠ q + 1 by omega) _) (show q ≠ q + 1 + 1 by omega) _
 ·exact blk_far ((blk_set (blk_far h.h1 (show q + 1 ≠ q by omega) _) 0 u1).trans rfl) (show q + 1 ≠ q + 1 + 1 by omega) _
 ·exact (blk_set (blk_far (blk_far h.h2 (show q + 1 + 1 ≠ q by omega) _) (show q + 1 + 1 ≠ q + 1 by omega) _) 0 u2).trans rfl
theorem keeps_put (B : Nat) (W : World) (a b c : Addr) (u0 u1 u2 : Value) : KeepsFrom B W (((W.setCell a u0).setCell b u1).setCell c u2) := (((KeepsOthers.setCell W a u0).trans (KeepsOthers.setCell _ b u1)).trans (KeepsOthers.setCell _ c u2)).from B
set_option maxRecDepth 100000 in
set_option maxHeartbeats 1000000 in
theorem doneIn_calls (A0 : Option Addr) (c0 : Nat) (l0 : List TT) (A1 : Option Addr) (c1 : Nat) (done : List Int) (w : World) (hr0 : Kd.C k39 w A0 l0.length l0) (hc0 : l0.length ≤ c0) (hr1 : Kd.C (Kd.int .i64) w A1 done.length done) (hc1 : done.length ≤ c1) (hT : TabOK w) :
  Calls Tryd.prog 39 #[.slice A0 l0.length c0, .slice A1 done.length c1] w fun e w' => ∃ (g : Option Addr) (s : Nat) (b : Bool), e = .returned (.tuple #[.pointer g, .int .u16 s, .bool b]) ∧ Below w.heap.size w w' ∧
   (doneP l0 done = none → b = false) ∧ (∀ G s', doneP l0 done = some (G, s') → b = true ∧ s = s' ∧ ∃ a, g = some ⟨a, 0, none⟩ ∧ IsG w' a G.gr) := by
 have hr0' := Aside0.mk hr0
 have hr1' := Aside0.mk hr1
 have hc0' := Aside0.mk hc0
 have hc1' := Aside0.mk hc1
 have hT' := Aside0.mk hT
 clear hr0 hc0 hr1 hc1 hT
 refine calls_of_wpM Tryd.func39 rfl ?_
 simp only [Tryd.ntmps39, List.size_toArray, List.length_cons, List.length_nil, Nat.reduceAdd, Nat.reduceSub, Array.replicate_succ, Array.replicate_zero, List.push_toArray, List.append_toArray, List.nil_append, List.cons_append]
 go_wp2_with (fail)
 obtain ⟨q, hq⟩ : ∃ q, q = w.heap.size := ⟨_, rfl⟩
 have hRs : Rs w q (.pointer none) (.int .u16 0) (.bool false) (((w.alloc (.cells #[.pointer none] 49)).alloc (.cells #[.int .u16 0] 51)).alloc (.cells #[.bool false] 4)) := by
  subst hq
  exact ⟨((Boxed.new w _ _).alloc _).alloc _, (box_at _ _ _ _ (by simp)).alloc _, box_at _ _ _ _ (by simp), (((Below.refl _ w).alloc (Nat.le_refl _) _).alloc (by simp) _).alloc (by simp; omega) _⟩
 have hsz : (((w.alloc (.cells #[.pointer none] 49)).alloc (.cells #[.int .u16 0] 51)).alloc (.cells #[.bool false] 4)).heap.size = q + 1 + 1 + 1 := by simp [hq]
 simp only [← hq]
 have hq' := Aside0.mk hq
 clear hq
 generalize ((w.alloc (.cells #[.pointer none] 49)).alloc (.cells #[.int .u16 0] 51)).alloc (.cells #[.bool false] 4) = W3 at *
 have gc := Aside0.mk (graphOf_all A0 c0 l0 W3 (Kd.C_below hr0'.out (hRs.bel)) hc0'.out (hT'.out.below hRs.bel))
 have hRs' := Aside0.mk hRs
 have hsz' := Aside0.mk hsz
 clear hRs hsz
 cases hg : graphP l0 with
 | none =>
  have hg' := Aside0.mk hg
  clear hg
  go_wp2_with (go_at_call 58; refine gc.out.mono ?_; rintro e W4 ⟨g, b, rfl, hB4, hno, hyes⟩; obtain ⟨rfl, rfl⟩ := hno hg'.out; have hR4 := Aside0.mk ((hRs'.out.below hB4).alloc (.cells #[.pointer none] 49)); have j0 := hR4.out.h0.cell; have j1 := hR4.out.h1.cell; have j2 := hR4.out.h2.cell; have f0 := hR4.out.h0.frozen; have f1 := hR4.out.h1.frozen; have f2 := hR4.out.h2.frozen; clear hB4 hno hyes)
  have hR5 := hR4.out.put (by have := hq'.out; omega) (.pointer none) (.int .u16 0) (.bool false)
  refine retM (B := w.heap.size) (fun W => Rs w q (.pointer none) (.int .u16 0) (.bool false) W) (own_Rs _ _ _ _ _ _ (Nat.le_refl _)) trivial hR5 ?_
  intro W' h
  have k0 := h.h0.cell
  have k1 := h.h1.cell
  have k2 := h.h2.cell
  refine ⟨.tuple #[.pointer none, .int .u16 0, .bool false], by simp [results, Tryd.results39, go_sem, k0, k1, k2], none, 0, false, rfl, h.bel, fun _ => rfl, fun G s' h => ?_⟩
  unfold doneP at h
  rw [hg'.out] at h
  cases h
 | some G =>
  have hg' := Aside0.mk hg
  clear hg
  obtain ⟨hts, hnP, hOk⟩ := graphP_ok hg'.out
  have hlen' := Aside0.mk (show ((G.gr.ts.length : Nat) : Int) = (l0.length : Int) by rw [← hts]; rfl)
  have hOk' := Aside0.mk hOk
  have hts' := Aside0.mk hts
  have hS := setOf_eq done l0.length 100 (by rw [← hts]; exact hOk.n8) (by have := hOk.n8; rw [hts] at this; omega)
  clear hts hnP hOk
  cases hs : setP done l0.length with
  | none =>
   rw [hs] at hS
   have hs' := Aside0.mk hs
   have hS' := Aside0.mk hS
   clear hs hS
   go_wp2_with (first | (go_at_call 58; refine gc.out.mono ?_; rintro e W4 ⟨g, b, rfl, hB4, hno, hyes⟩; obtain ⟨rfl, a, rfl, hG40⟩ := hyes G hg'.out; have hG4 := graphOf_at (Kd.C_below hr0'.out hRs'.out.bel) hB4 hG40; have hGU := Aside0.mk hG40; have hs34 := Aside0.mk hB4.size; have hR4 := Aside0.mk ((hRs'.out.below hB4).alloc (.cells #[.pointer (some ⟨a, 0, none⟩)] 49)); have hG5 := Aside0.mk (hG4.below ((Below.refl _ W4).alloc (Nat.le_refl _) (.cells #[.pointer (some ⟨a, 0, none⟩)] 49))); have hx5 := Aside0.mk (Boxed.new W4 49 (.pointer (some ⟨a, 0, none⟩))); clear hB4 hno hyes hG4 hG40) | (go_at_call 40; refine (size_calls a G.gr _ hG5.out).mono ?_; rintro e w5 ⟨rfl, ⟨m5, rfl⟩⟩; simp only [hlen'.out]) | (go_at_call 71; refine (impl_setOf.calls 100 A1 c1 done (l0.length : Int) 0 false _ (Kd.C_drewN (Kd.C_below hr1'.out hR4.out.bel) _) hc1'.out hS'.out).mono ?_; rintro e w6 ⟨rfl, ⟨m6, rfl⟩⟩; have hR6 := Aside0.mk ((hR4.out.drewN (m5 + m6)).alloc (.cells #[.int .u16 0] 51)); have j0 := hR6.out.h0.cell; have j1 := hR6.out.h1.cell; have j2 := hR6.out.h2.cell; have f0 := hR6.out.h0.frozen; have f1 := hR6.out.h1.frozen; have f2 := hR6.out.h2.frozen))
   have hR7 := hR6.out.put (by have := hq'.out; omega) (.pointer none) (.int .u16 0) (.bool false)
   refine retM (B := w.heap.size) (fun W => Rs w q (.pointer none) (.int .u16 0) (.bool false) W) (own_Rs _ _ _ _ _ _ (Nat.le_refl _)) trivial hR7 ?_
   intro W' h
   have k0 := h.h0.cell
   have k1 := h.h1.cell
   have k2 := h.h2.cell
   refine ⟨.tuple #[.pointer none, .int .u16 0, .bool false], by simp [results, Tryd.results39, go_sem, k0, k1, k2], none, 0, false, rfl, h.bel, fun _ => rfl, fun G s' h => ?_⟩
   unfold doneP at h
   rw [hg'.out] at h
   simp only [hs'.out] at h
   cases h
  | some s =>
   rw [hs] at hS
   have hs' := Aside0.mk hs
   have hS' := Aside0.mk hS
   clear hs hS
   go_wp2_with (first | (go_at_call 58; refine gc.out.mono ?_; rintro e W4 ⟨g, b, rfl, hB4, hno, hyes⟩; obtain ⟨rfl, a, rfl, hG40⟩ := hyes G hg'.out; have hG4 := graphOf_at (Kd.C_below hr0'.out hRs'.out.bel) hB4 hG40; have hGU := Aside0.mk hG40; have hs34 := Aside0.mk hB4.size; have hR4 := Aside0.mk ((hRs'.out.below hB4).alloc (.cells #[.pointer (some ⟨a, 0, none⟩)] 49)); have hG5 := Aside0.mk (hG4.below ((Below.refl _ W4).alloc (Nat.le_refl _) (.cells #[.pointer (some ⟨a, 0, none⟩)] 49))); have hx5 := Aside0.mk (Boxed.new W4 49 (.pointer (some ⟨a, 0, none⟩))); clear hB4 hno hyes hG4 hG40) | (go_at_call 40; refine (size_calls a G.gr _ hG5.out).mono ?_; rintro e w5 ⟨rfl, ⟨m5, rfl⟩⟩; simp only [hlen'.out]) | (go_at_call 71; refine (impl_setOf.calls 100 A1 c1 done (l0.length : Int) (s : Int) true _ (Kd.C_drewN (Kd.C_below hr1'.out hR4.out.bel) _) hc1'.out hS'.out).mono ?_; rintro e w6 ⟨rfl, ⟨m6, rfl⟩⟩; have hR6 := Aside0.mk ((hR4.out.drewN (m5 + m6)).alloc (.cells #[.int .u16 (s : Int)] 51)); have j7 := cell_alloc hx5.out.cell (.cells #[.int .u16 (s : Int)] 51)) | (go_at_call 54; refine (all_calls _ _).mono ?_; rintro e w' ⟨rfl, rfl⟩))
   have hG6 := (hG5.out.drewN (m5 + m6)).below ((Below.refl _ ((W4.alloc (.cells #[.pointer (some ⟨a, 0, none⟩)] 49)).drewN (m5 + m6))).alloc (Nat.le_refl _) (.cells #[.int .u16 (s : Int)] 51))
   have hb6 : Boxed (((W4.alloc (.cells #[.pointer (some ⟨a, 0, none⟩)] 49)).drewN (m5 + m6)).alloc (.cells #[.int .u16 (s : Int)] 51)) W4.heap.size 49 (.pointer (some ⟨a, 0, none⟩)) := Boxed.alloc (W := (W4.alloc (.cells #[.pointer (some ⟨a, 0, none⟩)] 49)).drewN (m5 + m6)) hx5.out _
   have hs6 : Boxed (((W4.alloc (.cells #[.pointer (some ⟨a, 0, none⟩)] 49)).drewN (m5 + m6)).alloc (.cells #[.int .u16 (s : Int)] 51)) (W4.heap.size + 1) 51 (.int .u16 (s : Int)) := box_at _ _ _ _ (by simp [World.drewN])
   have hz6 : (((W4.alloc (.cells #[.pointer (some ⟨a, 0, none⟩)] 49)).drewN (m5 + m6)).alloc (.cells #[.int .u16 (s : Int)] 51)).heap.size = W4.heap.size + 1 + 1 := by simp [World.drewN]
   have hR6' := hR6.out
   have hW46 := Aside0.mk (show ∀ k, k < W4.heap.size → (((W4.alloc (.cells #[.pointer (some ⟨a, 0, none⟩)] 49)).drewN (m5 + m6)).alloc (.cells #[.int .u16 (s : Int)] 51)).heap[k]? = W4.heap[k]? from fun k hk => (Below.heap_alloc _ _ k (by simp [World.drewN]; omega)).trans (Below.heap_alloc W4 _ k hk))
   clear hR6 hG5 hx5 j7 hR4
   generalize ((W4.alloc (.cells #[.pointer (some ⟨a, 0, none⟩)] 49)).drewN (m5 + m6)).alloc (.cells #[.int .u16 (s : Int)] 51) = W6 at *
   have hp4 := Aside0.mk (show W4.heap.size = W4.heap.size from rfl)
   generalize hpp : W4.heap.size = p at *
   have hW47 := Aside0.mk (show ∀ k, k < p → (W6.alloc (.cells #[.int .u16 (s : Int)] 51)).heap[k]? = W4.heap[k]? from fun k hk => (Below.heap_alloc W6 _ k (by omega)).trans (hW46.out k hk))
   have hpp' := Aside0.mk hpp
   clear hpp hp4
   have hG7 := hG6.below ((Below.refl _ W6).alloc (Nat.le_refl _) (.cells #[.int .u16 (s : Int)] 51))
   have hb7 := hb6.alloc (.cells #[.int .u16 (s : Int)] 51)
   have hs7 := hs6.alloc (.cells #[.int .u16 (s : Int)] 51)
   have hR7 := hR6'.alloc (.cells #[.int .u16 (s : Int)] 51)
   have hk7 := (box_at W6 51 (.int .u16 (s : Int)) (p + 1 + 1) hz6).cell
   have hz7 : (W6.alloc (.cells #[.int .u16 (s : Int)] 51)).heap.size = p + 1 + 1 + 1 := by simp [hz6]
   try simp only [hz6]
   generalize W6.alloc (.cells #[.int .u16 (s : Int)] 51) = W7 at *
   have hsl : s < 2 ^ l0.length := setP_lt hs'.out
   have hn8 : l0.length ≤ 8 := by have := hOk'.out.n8; rw [hts'.out] at this; exact this
   have hG7' := Aside0.mk hG7
   have hb7' := Aside0.mk hb7
   have hs7' := Aside0.mk hs7
   have hR7' := Aside0.mk hR7
   clear hG6 hb6 hs6 hR6' hz6 hG7 hb7 hs7 hR7
   have hz77 := Aside0.mk hz7
   refine wp_all1 (p + 1 + 1) s (lt256 hsl hn8) rfl (by omega) hk7 (hT'.out.below hR7'.out.bel) rfl rfl rfl (by simp)
    (fun pre W => Below W7.heap.size W7 W ∧ ∀ k ∈ pre, G.nd.getD k 0 &&& s = G.nd.getD k 0)
    (fun c pre W => match c with | .ret => Rs w q (.pointer none) (.int .u16 0) (.bool false) W ∧ ∃ k ∈ pre, ¬ (G.nd.getD k 0 &&& s = G.nd.getD k 0) | _ => False)
    (OwnFrom.and (ownFrom_below (Nat.le_refl _) (Nat.le_refl _)) (fun _ _ _ _ h _ _ => h))
    (fun c pre W W' row h hg hr => by
     cases c <;> first | exact h.elim | exact ⟨own_Rs w q _ _ _ _ hR7'.out.bel.size pre W W' row h.1 hg hr, h.2⟩)
    ⟨Below.refl _ _, fun k hk => by cases hk⟩ (fun pre W h => hT'.out.below (below_step hR7'.out.bel h.1)) ?body ?done ?stop
   case body =>
    rintro l pre x W hx8 hxs ⟨hB, hpre⟩ hlen
    simp only [List.setIfInBounds_toArray, List.set_cons_zero, List.set_cons_succ]
    have hxl : x < l0.length := bit_lt hsl hxs
    obtain ⟨A2, c2, A3, c3, A4, c4, A5, c5, A6, c6, hblk, _, ⟨hC1, _⟩, _⟩ := hG7'.out.below hB
    have hndl : G.gr.nd.length = l0.length := by rw [← hts'.out, ← hOk'.out.nl]; exact nI_length _
    obtain ⟨ad1, rfl, hx1⟩ := Kd.at_int hC1 (x : Int) (by omega) (by rw [hndl]; exact_mod_cast hxl)
    obtain ⟨nx, hnx⟩ : ∃ v, G.nd.getD x 0 = v := ⟨_, rfl⟩
    have hn2 : rd G.gr.nd (x : Int) = (nx : Int) := by rw [← hnx]; exact rd_nI G.nd x
    simp only [Int.toNat_natCast, hn2] at hx1
    have hnl : nx < 256 := by rw [← hnx]; exact lt256 (hOk'.out.nlt x) hOk'.out.n8
    have hg1 : W.cell? ⟨a, 1, none⟩ = some (.slice (some ad1) l0.length c3) := (blk_cell hblk 1).trans (by rw [← hndl]; rfl)
    have j7 : W.cell? ⟨p, 0, none⟩ = some (.pointer (some ⟨a, 0, none⟩)) := (show Boxed W p _ _ from (hB.block p (by omega)).trans hb7'.out).cell
    have j8 : W.cell? ⟨p + 1, 0, none⟩ = some (.int .u16 (s : Int)) := (show Boxed W (p + 1) _ _ from (hB.block (p + 1) (by omega)).trans hs7'.out).cell
    have hR8 := Aside0.mk (hR7'.out.below hB)
    have hxl' : (x : Int) < (l0.length : Int) := by omega
    clear hblk hC1 hn2
    have hB' := Aside0.mk hB
    have hpre' := Aside0.mk hpre
    have hnx' := Aside0.mk hnx
    have hz := andNot_zero nx hnl s (lt256 hsl hn8)
    have hz' := Aside0.mk hz
    clear hB hpre hnx hz
    by_cases hsub : nx &&& s = nx
    ·have hv : (Go.bits .andNot .u16 (nx : Int) (s : Int) != 0) = false := by rw [hz'.out.2 hsub]; rfl
     have hsub' := Aside0.mk hsub
     clear hsub
     try gi_wp2
     refine wpIn_region_quiet_lit (by rintro ⟨_, _, h⟩; exact h) (by kernel_rfl) (by kernel_rfl) (by kernel_rfl) ?_
     repeat (go_big_quiet_step (fail))
     refine wpQuiet_nil ?_
     rintro _ ⟨nq, rfl⟩
     try gi_wp2
     refine ⟨⟨Nat.le_refl _, fun _ _ _ h _ => h⟩, pw_below_drewN hB'.out _, fun k hk => ?_⟩
     rcases List.mem_append.1 hk with hk | hk
     ·exact hpre'.out k hk
     ·rw [List.mem_singleton] at hk
      rw [hk, hnx'.out]
      exact hsub'.out
    ·have hv : (Go.bits .andNot .u16 (nx : Int) (s : Int) != 0) = true := bne_iff_ne.2 (fun h => hsub (hz'.out.1 h))
     have hsub' := Aside0.mk hsub
     clear hsub
     have j0 := hR8.out.h0.cell
     have j1 := hR8.out.h1.cell
     have j2 := hR8.out.h2.cell
     have f0 := hR8.out.h0.frozen
     have f1 := hR8.out.h1.frozen
     have f2 := hR8.out.h2.frozen
     try gi_wp2
     refine wpIn_region_quiet_lit (by rintro ⟨_, _, h⟩; exact h) (by kernel_rfl) (by kernel_rfl) (by kernel_rfl) ?_
     repeat (go_big_quiet_step (fail))
     refine wpQuiet_nil ?_
     rintro _ ⟨nq, rfl⟩
     try gi_wp2
     have hR9 := (hR8.out.drewN nq).put (by have := hq'.out; omega) (.pointer none) (.int .u16 0) (.bool false)
     exact ⟨⟨(keeps_put W7.heap.size (W.drewN nq) _ _ _ _ _ _).size, (keeps_put W7.heap.size (W.drewN nq) _ _ _ _ _ _).same⟩, hR9, x, by simp, by rw [hnx'.out]; exact hsub'.out⟩
   case done =>
    rintro D W hD ⟨hB, hpre⟩ hKD
    have hR8 := Aside0.mk (hR7'.out.below hB)
    have hG8 := Aside0.mk (hG7'.out.below hB)
    have j7 : W.cell? ⟨p, 0, none⟩ = some (.pointer (some ⟨a, 0, none⟩)) := (show Boxed W p _ _ from (hB.block p (by omega)).trans hb7'.out).cell
    have j8 : W.cell? ⟨p + 1, 0, none⟩ = some (.int .u16 (s : Int)) := (show Boxed W (p + 1) _ _ from (hB.block (p + 1) (by omega)).trans hs7'.out).cell
    have j0 := hR8.out.h0.cell
    have j1 := hR8.out.h1.cell
    have j2 := hR8.out.h2.cell
    have f0 := hR8.out.h0.frozen
    have f1 := hR8.out.h1.frozen
    have f2 := hR8.out.h2.frozen
    have hB' := Aside0.mk hB
    have hpre' := Aside0.mk hpre
    have hKD' := Aside0.mk hKD
    have hD' := Aside0.mk hD
    have hpq : p + 1 ≠ q := by have := blk_ne hs7'.out hR7'.out.h0 (by decide); omega
    have j8a : ∀ v : Value, (W.setCell ⟨q, 0, none⟩ v).cell? ⟨p + 1, 0, none⟩ = some (.int .u16 (s : Int)) := fun v => Boxed.cell (t := 51) (blk_far ((hB.block (p + 1) (by omega)).trans hs7'.out) hpq v)
    clear hB hpre hKD hD hk7 hz7 hpq
    go_wp2
    go_region
    go_wp2
    have hR9 := hR8.out.put (by have := hq'.out; omega) (.pointer (some ⟨a, 0, none⟩)) (.int .u16 (s : Int)) (.bool true)
    have hk9 := keeps_put W7.heap.size W ⟨q, 0, none⟩ ⟨q + 1, 0, none⟩ ⟨q + 1 + 1, 0, none⟩ (.pointer (some ⟨a, 0, none⟩)) (.int .u16 (s : Int)) (.bool true)
    have hrow : ∀ k, W3.heap.size ≤ k → k < W4.heap.size → (((W.setCell ⟨q, 0, none⟩ (.pointer (some ⟨a, 0, none⟩))).setCell ⟨q + 1, 0, none⟩ (.int .u16 (s : Int))).setCell ⟨q + 1 + 1, 0, none⟩ (.bool true)).drew.heap[k]? = W4.heap[k]? := by
     intro k h1 h2
     have hz3 := hsz'.out
     have h3 : k < p := by rw [← hpp'.out]; exact h2
     show (((W.setCell _ _).setCell _ _).setCell _ _).heap[k]? = _
     rw [Below.heap_setCell _ _ _ k (show k ≠ q + 1 + 1 by omega), Below.heap_setCell _ _ _ k (show k ≠ q + 1 by omega), Below.heap_setCell _ _ _ k (show k ≠ q by omega), hB'.out.block k (by have := hz77.out; omega)]
     exact hW47.out k h3
    refine retM (B := W7.heap.size) (fun U => Rs w q (.pointer (some ⟨a, 0, none⟩)) (.int .u16 (s : Int)) (.bool true) U ∧ ∀ k, W3.heap.size ≤ k → k < W4.heap.size → U.heap[k]? = W4.heap[k]?) (OwnFrom.and (own_Rs _ _ _ _ _ _ hR7'.out.bel.size) (fun _ X X' row h hg hr k h1 h2 => by
     have hlt : k < X.heap.size := by
      have h3 := h k h1 h2
      rw [Array.getElem?_eq_getElem h2] at h3
      exact (Array.getElem?_eq_some_iff.1 h3).1
     rw [hg.block k hlt (fun e => by have := (hr k e.symm).1; have := hz77.out; have := hpp'.out; omega)]
     exact h k h1 h2)) ⟨⟨D, rfl, hD'.out, hk9.same D _ hD'.out hKD'.out rfl, by simp⟩, trivial⟩ ⟨hR9.drewN 1, hrow⟩ ?_
    rintro U ⟨h, hrow2⟩
    have k0 := h.h0.cell
    have k1 := h.h1.cell
    have k2 := h.h2.cell
    refine ⟨.tuple #[.pointer (some ⟨a, 0, none⟩), .int .u16 (s : Int), .bool true], by simp [results, Tryd.results39, go_sem, k0, k1, k2], some ⟨a, 0, none⟩, s, true, rfl, h.bel, fun hn => ?_, fun G' s' hn => ?_⟩
    ·unfold doneP at hn
     rw [hg'.out] at hn
     simp only [hs'.out] at hn
     rw [if_pos (show closedP G.nd s = true from List.all_eq_true.2 (fun k hk => beq_iff_eq.2 (hpre'.out k hk)))] at hn
     cases hn
    ·unfold doneP at hn
     rw [hg'.out] at hn
     simp only [hs'.out] at hn
     split at hn
     ·injection hn with hn
      injection hn with h1 h2
      subst h1
      exact ⟨rfl, h2, a, rfl, hGU.out U (Kd.C_below hr0'.out h.bel) (fun k h1 h2 => hrow2 k h1 (by rw [hpp'.out]; exact h2))⟩
     ·cases hn
   case stop =>
    rintro D c pre W hD hp h hKD
    cases c <;> first | exact h.elim | skip
    obtain ⟨hR8, k, hk, hsub⟩ := h
    have hR8' := Aside0.mk hR8
    have hKD' := Aside0.mk hKD
    have hD' := Aside0.mk hD
    clear hR8 hKD hD
    go_wp2
    refine retM (B := W7.heap.size) (fun W => Rs w q (.pointer none) (.int .u16 0) (.bool false) W) (own_Rs _ _ _ _ _ _ hR7'.out.bel.size) ⟨⟨D, rfl, hD'.out, hKD'.out, by simp⟩, trivial⟩ hR8'.out ?_
    intro W' h
    have k0 := h.h0.cell
    have k1 := h.h1.cell
    have k2 := h.h2.cell
    refine ⟨.tuple #[.pointer none, .int .u16 0, .bool false], by simp [results, Tryd.results39, go_sem, k0, k1, k2], none, 0, false, rfl, h.bel, fun _ => rfl, fun G' s' h => ?_⟩
    unfold doneP at h
    rw [hg'.out] at h
    simp only [hs'.out] at h
    split at h
    ·rename_i hc
     have := List.all_eq_true.1 hc k (hp.subset hk)
     exact absurd (by simpa using this) hsub
    ·cases h
end Go.Proofs.YtajapkjplgaigaaDoor.P
end
section
namespace Go.Proofs.YtajapkjplgaigaaDoor.P
open Go.RowKit Go.Shelf Go.Proofs.YtajapkjplgaigaaDoorW.PrintWords Go.Proofs.YtajapkjplgaigaaDoorW.PrintLast Go.Proofs.YtajapkjplgaigaaDoorW.PrintMore
attribute [local go_sem] Oper.semAt_some
set_option linter.unusedVariables false
set_option linter.unusedSimpArgs false
def readyStepN (nd : List Nat) (s : Nat) (o i : Nat) : Nat := if canP nd s i then o ||| 2 ^ i else o
def readyN (nd : List Nat) (s : Nat) : Nat := (List.range nd.length).foldl (readyStepN nd s) 0
theorem subB_nat (a b : Nat) (ha : a < 256) (hb : b < 256) : subB (a : Int) (b : Int) = (a &&& b == a) := by
 unfold subB
 have := andNot_zero a ha b hb
 by_cases h : a &&& b = a
 ·rw [this.2 h, h]; simp
 ·have h2 : Go.bits .andNot .u16 (a : Int) (b : Int) ≠ 0 := fun e => h (this.1 e)
  rw [beq_eq_false_iff_ne.2 h2, beq_eq_false_iff_ne.2 h]
theorem ready_fold {n : Nat} (nd : List Nat) (hn : n ≤ 8) (hl : nd.length = n) (hnd : ∀ i, nd.getD i 0 < 2 ^ n) (s : Nat) (hs : s < 2 ^ n) : ∀ (l : List Nat) (o : Nat), (∀ i ∈ l, i < n) → o < 2 ^ n →
  l.foldl (readyStep (nI nd) (s : Int)) (o : Int) = ((l.foldl (readyStepN nd s) o : Nat) : Int) ∧ l.foldl (readyStepN nd s) o < 2 ^ n
 | [], o, _, ho => ⟨rfl, ho⟩
 | i :: l, o, hi, ho => by
  have hin := hi i List.mem_cons_self
  have e : readyStep (nI nd) (s : Int) (o : Int) i = ((readyStepN nd s o i : Nat) : Int) := by
   unfold readyStep readyStepN canP
   rw [hasB_nat s (lt256 hs hn) i (by omega), rd_nI, subB_nat _ _ (lt256 (hnd i) hn) (lt256 hs hn), withI_nat o i (lt256 ho hn) (by omega)]
   split <;> rfl
  have ho2 : readyStepN nd s o i < 2 ^ n := by
   unfold readyStepN
   split
   ·exact with_lt ho hin
   ·exact ho
  rw [List.foldl_cons, List.foldl_cons, e]
  exact ready_fold nd hn hl hnd s hs l _ (fun k hk => hi k (List.mem_cons_of_mem _ hk)) ho2
theorem readyP_eq {n : Nat} (nd : List Nat) (hn : n ≤ 8) (hl : nd.length = n) (hnd : ∀ i, nd.getD i 0 < 2 ^ n) (s : Nat) (hs : s < 2 ^ n) : readyP (nI nd) (s : Int) = (readyN nd s : Int) ∧ readyN nd s < 2 ^ n := by
 have := ready_fold nd hn hl hnd s hs (List.range nd.length) 0 (fun i hi => by rw [List.mem_range] at hi; omega) (Nat.two_pow_pos n)
 unfold readyP readyN
 rw [nI_length]
 exact this
theorem doneP_ok {ts : List TT} {done : List Int} {G : GrN} {s : Nat} (h : doneP ts done = some (G, s)) : graphP ts = some G ∧ G.ts = ts ∧ GOk G ∧ setP done ts.length = some s ∧ closedP G.nd s = true ∧ s < 2 ^ ts.length := by
 unfold doneP at h
 cases hg : graphP ts with
 | none => rw [hg] at h; cases h
 | some G' =>
  rw [hg] at h
  simp only at h
  cases hs : setP done ts.length with
  | none => rw [hs] at h; cases h
  | some s' =>
   rw [hs] at h
   simp only at h
   split at h
   ·rename_i hc
    injection h with h
    injection h with h1 h2
    subst h1 h2
    obtain ⟨a, b, c⟩ := graphP_ok hg
    exact ⟨rfl, a, c, rfl, hc, setP_lt hs⟩
   ·cases h
theorem ready_callsN (g : Nat) (G : GrN) (hOk : GOk G) (s : Nat) (hs : s < 2 ^ G.ts.length) (w : World) (hG : IsG w g G.gr) : Calls Tryd.prog 46 #[.pointer (some ⟨g, 0, none⟩), .int .u16 (s : Int)] w fun e w' => e = .returned (.int .u16 ((readyN G.nd s : Nat) : Int)) ∧ Drawn0 w w' := by
 have h := ready_calls g G.gr (s : Int) w hG (by show (nI G.nd).length < _; rw [nI_length, hOk.nl]; have := hOk.n8; omega)
 rw [show readyP G.gr.nd (s : Int) = ((readyN G.nd s : Nat) : Int) from (readyP_eq G.nd hOk.n8 hOk.nl hOk.nlt s hs).1] at h
 exact h
def impl_ValidDone.f (l0 : List TT) (l1 : List Int) : Option (Bool) := some (doneP l0 l1).isSome
def impl_ReadyTasks.f (l0 : List TT) (l1 : List Int) : Option (List Int) := some (match doneP l0 l1 with | none => [] | some (G, s) => ivs (bitsN (readyN G.nd s)))
end Go.Proofs.YtajapkjplgaigaaDoor.P
end
section
namespace Go.Proofs.YtajapkjplgaigaaDoor.P
open Go.RowKit Go.Shelf Go.Proofs.YtajapkjplgaigaaDoorW.PrintWords Go.Proofs.YtajapkjplgaigaaDoorW.PrintLast Go.Proofs.YtajapkjplgaigaaDoorW.PrintMore
attribute [local go_sem] Oper.semAt_some
set_option linter.unusedVariables false
set_option linter.unusedSimpArgs false
def diffN (a b : Nat) : Nat := a ^^^ (a &&& b)
def finishP (ts : List TT) (done : List Int) (at_ : Int) : Option (List Int) := match doneP ts done with
 | none => none
 | some (G, s) => if 0 ≤ at_ ∧ at_ < ts.length then (if (readyN G.nd s).testBit at_.toNat then some (ivs (bitsN (s ||| 2 ^ at_.toNat))) else none) else none
def impl_FinishTask.f (l0 : List TT) (l1 : List Int) (a2 : Int) : Option (List Int × Bool) := some (match finishP l0 l1 a2 with | none => ([], false) | some l => (l, true))
def impl_WaitsFor.f (l0 : List TT) (l1 : List Int) (a2 : Int) : Option (List Int) := some (match doneP l0 l1 with
 | none => []
 | some (G, s) => if 0 ≤ a2 ∧ a2 < l0.length then ivs (bitsN (diffN (G.nd.getD a2.toNat 0) s)) else [])
end Go.Proofs.YtajapkjplgaigaaDoor.P
end
section
namespace Go.Proofs.YtajapkjplgaigaaDoor
open Go.RowKit Go.Shelf Go.Proofs.YtajapkjplgaigaaDoorW.PrintWords Go.Proofs.YtajapkjplgaigaaDoorW.PrintLast Go.Proofs.YtajapkjplgaigaaDoorW.PrintMore
set_option linter.unusedVariables false
set_option linter.unusedSimpArgs false
def Bk (xs : List Int) : Type := { p : Int × Int // p.2 ∈ xs }
def encB {xs : List Int} (p : Bk xs) : Array Value := #[.int .i64 p.1.1, .int .i64 p.1.2]
def KpB (w0 : World) (Bs : Nat) (v : Value) (A B : World) : Prop := (Below w0.heap.size w0 A → Below w0.heap.size w0 B) ∧ (A.cell? ⟨Bs, 0, none⟩ = some v → B.cell? ⟨Bs, 0, none⟩ = some v)
theorem KpB.trans {w0 : World} {Bs : Nat} {v : Value} {A B C : World} (h : KpB w0 Bs v A B) (h2 : KpB w0 Bs v B C) : KpB w0 Bs v A C := ⟨fun x => h2.1 (h.1 x), fun x => h2.2 (h.2 x)⟩
set_option maxRecDepth 100000 in
set_option maxHeartbeats 2000000 in
theorem back1_in (n l Bs : Nat) (hn : 1 ≤ n) (xs : List Int) (hxl : xs.length < 1000) (A : Option Addr) (c : Nat) (w0 : World) (hC : Kd.C (Kd.int .i64) w0 A xs.length xs) (J Jx : List (Bk xs) → World → Prop)
  (hY : ∀ (pre : List (Bk xs)) x W, J pre W → pre.length < xs.length → YieldAt Fence.wide (n - 1) Tryd.prog l (encB x) W fun e W' =>
   (e = .returned (.bool true) ∧ J (pre ++ [x]) W' ∧ KpB w0 Bs (.slice A xs.length c) W W') ∨ (e = .returned (.bool false) ∧ Jx (pre ++ [x]) W'))
  (W : World) (hW : Below w0.heap.size w0 W) (hBs : W.cell? ⟨Bs, 0, none⟩ = some (.slice A xs.length c)) (h0 : J [] W) :
  CallsIn Fence.wide n Tryd.prog 100 #[.func (.yield l) #[] #[], .pointer (some ⟨Bs, 0, none⟩)] W fun e W' => (∃ v, e = .returned v) ∧
   ((∃ ys : List (Bk xs), ys.map (·.1.2) = xs.reverse ∧ J ys W') ∨ (∃ pre : List (Bk xs), pre.map (·.1.2) <+: xs.reverse ∧ Jx pre W')) := by
 refine callsIn_of_wp Tryd.func100 rfl trivial ?_ rfl
 simp only [Tryd.ntmps100, List.size_toArray, List.length_cons, List.length_nil, Nat.reduceAdd, Nat.reduceSub, Array.replicate_succ, Array.replicate_zero, List.push_toArray, List.append_toArray, List.nil_append, List.cons_append]
 have hC' := Aside0.mk hC
 have hW' := Aside0.mk hW
 have hB' := Aside0.mk hBs
 have hx' := Aside0.mk hxl
 clear hC hW
 gi_wp2
 gi_loopw [3] (fun p wr => ∃ (pre : List (Bk xs)) (j : Nat), p = .int .i64 ((j : Int) - 1) ∧ Hid (j ≤ xs.length ∧ xs.reverse = pre.map (·.1.2) ++ (xs.take j).reverse) ∧ J pre wr ∧ Aside0 (Below w0.heap.size w0 wr) ∧ Aside0 (wr.cell? ⟨Bs, 0, none⟩ = some (.slice A xs.length c))) (fun p _ => (intOf p + 1).toNat)
 case atStart => exact ⟨[], xs.length, by go_num, ⟨Nat.le_refl _, by simp⟩, h0, hW', hB'⟩
 case round =>
  obtain ⟨pre, j, rfl, hx, hJ, hW, hB⟩ := hrel
  obtain ⟨hj, he⟩ := hx
  have he' := Aside0.mk he
  have hlen := Aside0.mk (show pre.length + j = xs.length by
   have := congrArg List.length he
   simp only [List.length_reverse, List.length_append, List.length_map, List.length_take] at this
   omega)
  clear he
  by_cases hj0 : j = 0
  ·subst hj0
   have hd : decide (((0 : Nat) : Int) - 1 ≥ 0) = false := by decide
   gi_wp2
   go_end0
   exact ⟨⟨_, rfl⟩, .inl ⟨pre, by have := he'.out; simpa using this.symm, hJ⟩⟩
  ·obtain ⟨i, rfl⟩ : ∃ i, j = i + 1 := ⟨j - 1, by omega⟩
   have hi : i < xs.length := by omega
   have e1 : ((i + 1 : Nat) : Int) - 1 = (i : Int) := by omega
   obtain ⟨ad, rfl, hxc⟩ := Kd.at_int (Kd.C_below hC'.out hW.out) (i : Int) (by omega) (by omega)
   obtain ⟨y, hy⟩ : ∃ y, rd xs (i : Int) = y := ⟨_, rfl⟩
   have hym : y ∈ xs := by rw [← hy]; simp [rd, hi]
   rw [hy] at hxc
   simp only [Int.toNat_natCast] at hxc
   obtain ⟨fn, tmps, assign, body, hyl, hR⟩ := hY pre ⟨((i : Int), y), hym⟩ wr hJ (by have := hlen.out; omega)
   have htk : xs.take (i + 1) = xs.take i ++ [y] := by rw [List.take_succ_eq_append_getElem hi, ← hy]; simp [rd, hi]
   have htk' := Aside0.mk htk
   have hd : decide ((i : Int) ≥ 0) = true := decide_eq_true (by omega)
   have hb := hB.out
   clear hy htk
   simp only [e1]
   dsimp only [encB] at hyl
   gi_wp2
   refine hR.mono ?_
   rintro e W3 (⟨rfl, hJ3, hk3⟩ | ⟨rfl, hJx3⟩)
   ·have hW3 := Aside0.mk (hk3.1 hW.out)
    have hB3 := Aside0.mk (hk3.2 hB.out)
    clear hk3
    gi_wp2
    go_roundw
    case rel => exact ⟨pre ++ [⟨((i : Int), y), hym⟩], i, by go_num, ⟨by omega, he'.out.trans (by rw [htk'.out]; simp; rfl)⟩, hJ3, hW3, hB3⟩
    case measure => simp [intOf]
   ·gi_wp2
    refine bodyPost_ret (results_none rfl _ _ _) rfl ?_
    exact ⟨⟨_, rfl⟩, .inr ⟨pre ++ [⟨((i : Int), y), hym⟩], ⟨(xs.take i).reverse, by rw [he'.out, htk'.out]; simp; rfl⟩, hJx3⟩⟩
set_option maxHeartbeats 1000000 in
theorem back_calls (A : Option Addr) (n c : Nat) (w : World) :
  Calls Tryd.prog 83 #[.slice A n c] w fun e w' => e = .returned (.func (.func 100) #[] #[.pointer (some ⟨w.heap.size, 0, none⟩)]) ∧ w' = w.alloc (.cells #[.slice A n c] 24) := by
 go_enter Tryd.func83, Tryd.ntmps83
 go_wp2
 go_ret
 exact ⟨rfl, rfl⟩
theorem back_stops (n : Nat) (hn : 1 ≤ n) (Bs : Nat) (xs : List Int) (hxl : xs.length < 1000) (A : Option Addr) (c : Nat) (w0 w : World) (hC : Kd.C (Kd.int .i64) w0 A xs.length xs) (hw : Below w0.heap.size w0 w) (hBs : Bs < w.heap.size) (hc : w.cell? ⟨Bs, 0, none⟩ = some (.slice A xs.length c)) :
  SeqStopsK Fence.wide n Tryd.prog 100 #[.pointer (some ⟨Bs, 0, none⟩)] (encB (xs := xs)) (KpB w0 Bs (.slice A xs.length c)) (fun ys => ys.map (·.1.2) = xs.reverse) (fun pre => pre.map (·.1.2) <+: xs.reverse) xs.length w := fun l J Jx W hW _ _ hY h0 =>
 back1_in n l Bs hn xs hxl A c w0 hC J Jx hY W (below_step hw hW) ((hW.cell (p := ⟨Bs, 0, none⟩) hBs).trans hc) h0
end Go.Proofs.YtajapkjplgaigaaDoor
end
section
namespace Go.Proofs.YtajapkjplgaigaaDoor
open Go.RowKit Go.Shelf Go.Proofs.YtajapkjplgaigaaDoorW.PrintWords Go.Proofs.YtajapkjplgaigaaDoorW.PrintLast Go.Proofs.YtajapkjplgaigaaDoorW.PrintMore
set_option linter.unusedVariables false
set_option linter.unusedSimpArgs false
theorem wpIn_all1 {g : Operand} {rid n : Nat} {o : Oper} {p d : Tmp} {body : Code} {Q : Exit → Act → World → Prop} {tmps : Array Value} {ds : List Deferred} {w : World} {l₀ : Nat} {r₀ : Loop} (hl₀ : w.heap[l₀]? = some (.loop r₀)) (hn : 2 ≤ n) (Bs s : Nat) (hs : s < 256)
  (hg : ({ tmps := tmps, defers := ds } : Act).eval g = .func (.func 84) #[] #[.pointer (some ⟨Bs, 0, none⟩)]) (hBs : Bs < w.heap.size) (hc : w.cell? ⟨Bs, 0, none⟩ = some (.int .u16 s)) (hT : TabOK w)
  (ho : o.op = .assign (.tmp p)) (hd : o.dst = some d) (hgd : o.guard = none) (hp : p < tmps.size)
  (I : List Nat → World → Prop) (hI : OwnFrom w.heap.size I) (h0 : I [] w) (hIT : ∀ pre W, I pre W → TabOK W)
  (hbody : ∀ (l : Nat) (pre : List Nat) (x : Nat) (W : World), x < 8 → s.testBit x = true → I pre W → pre.length < 8 →
   body.wpIn (Fence.wide.inRound l) (n - 1 - 1) Tryd.prog (RPost w.heap.size I (fun _ _ _ => False) (pre ++ [x]) W) { tmps := (tmps.setIfInBounds p (.int .i64 (x : Int))).setIfInBounds d (.int .i64 (x : Int)), defers := [] } W)
  (hdone : ∀ (W : World), I (bitsN s) W → Q .normal { tmps := tmps, defers := ds } W) :
  (Code.rangeFunc g #[p] (.region rid #[o] false) body).wpIn (Fence.wide.inRound l₀) n Tryd.prog Q { tmps := tmps, defers := ds } w := by
 refine wpIn_rangeFunc_ownN (l₀ := l₀) (r₀ := r₀) rfl hl₀ (by omega) hg trivial (enters_of Tryd.func84 (by kernel_rfl) rfl)
  ((all_stops (n - 1) (by omega) Bs s hs w hBs hc hT).inRound l₀) (fun h k hA => k (h hA)) (fun W l o o' hl ho hcells _ hTW => ?_) (Below.refl _ _) (fun x => rfl) (fun pre W => I (pre.map (·.1)) W) (fun _ _ _ => False) (fun s W W' row h => hI (s.map (·.1)) W W' row h) (fun _ _ _ _ _ hs _ _ => hs) h0
  (fun x a' _ => a' = { tmps := (tmps.setIfInBounds p (.int .i64 (x.1 : Int))).setIfInBounds d (.int .i64 (x.1 : Int)), defers := [] }) (fun _ _ _ _ _ _ hs _ _ => hs) ?_ ?_ ?_ ?_
 ·intro j hj
  exact cell_kept (hTW j hj) (grownBy_putObj' W l o') (fun r e => by cases e; exact ⟨_, ho, hcells⟩)
 ·intro l pre x W K hi hK
  refine wpIn_region_list (ops := #[o]) ?_
  show wpListIn _ _ _ _ _ [o] _ _
  refine wpListIn_plain hgd fun K' hK' => ⟨fun _ _ => trivial, ?_⟩
  have he : ({ tmps := (tmps.setIfInBounds p (.int .i64 (x.1 : Int))), defers := [] } : Act).eval (.tmp p) = .int .i64 (x.1 : Int) := by
   simp [Act.eval, hp]
  have hz : ((#[p] : Array Tmp).zip (encI x)).foldl (fun t (p, v) => t.setIfInBounds p v) tmps = tmps.setIfInBounds p (.int .i64 (x.1 : Int)) := by simp [encI]
  simp only [hz]
  rw [show ((Fence.wide.inRound l₀).inRound l).round = some l from rfl, Oper.semAt_some l _ o (fun c hcc => by rw [ho] at hcc; cases hcc)]
  simp only [execOp, ho, he]
  simp only [Sem.run_pure, Sem.run, Sem.run_bind, Result.andThen, Oper.uponIn]
  refine hK' _ _ ?_
  simp only [wpListIn, Act.put, hd]
  exact hK _ _ (KeepsFrom.refl _ _) (fun h => h) hi rfl
 ·rintro l pre x a' W hl hr hi rfl hlen
  refine wpIn_mono (hbody l (pre.map (·.1)) x.1 W x.2.1 x.2.2 hi (by simpa using hlen)) ?_
  rintro e a' W' h
  have em : (pre ++ [x]).map (·.1) = pre.map (·.1) ++ [x.1] := by simp
  cases e <;> simp only [ownPostG, RPost, em] at h ⊢ <;> first | exact h | skip
  exact ⟨h.1, fun _ => hIT _ _ h.2, h.2⟩
 ·rintro xs W hxs hi
  exact hdone W (by rw [hxs] at hi; exact hi)
 ·rintro c pre W hp hi
  exact hi.elim
end Go.Proofs.YtajapkjplgaigaaDoor
end
section
namespace Go.Proofs.YtajapkjplgaigaaDoor.P
open Go.RowKit Go.Shelf Go.Proofs.YtajapkjplgaigaaDoorW.PrintWords Go.Proofs.YtajapkjplgaigaaDoorW.PrintLast Go.Proofs.YtajapkjplgaigaaDoorW.PrintMore
attribute [local go_sem] Oper.semAt_some
set_option linter.unusedVariables false
set_option linter.unusedSimpArgs false
def rowL (l : List Int) : Obj := .cells ((l.map (Value.int .i64)).toArray) 3 (0, 0)
def fnL (n : Nat) (f : Nat → Int) : List Int := (List.range n).map f
theorem fnL_set (n : Nat) (f : Nat → Int) (i : Nat) (v : Int) : (fnL n f).set i v = fnL n (fun k => if k = i then v else f k) := by
 unfold fnL
 refine List.ext_getElem (by simp) (fun j h1 h2 => ?_)
 simp only [List.length_set, List.length_map, List.length_range] at h1
 rw [List.getElem_set]
 simp only [List.getElem_map, List.getElem_range]
 by_cases h : i = j
 ·rw [if_pos h, if_pos h.symm]
 ·rw [if_neg h, if_neg (fun e => h e.symm)]
theorem rowF_cell {W : World} {b n : Nat} {f : Nat → Int} (h : W.heap[b]? = some (rowL (fnL n f))) (i : Nat) (hi : i < n) : W.cell? ⟨b, i, none⟩ = some (.int .i64 (f i)) :=
 (blk_cell h i).trans (by simp [fnL, hi])
theorem rowF_set {W : World} {b n : Nat} {f : Nat → Int} (h : W.heap[b]? = some (rowL (fnL n f))) (i : Nat) (v : Int) : (W.setCell ⟨b, i, none⟩ (.int .i64 v)).heap[b]? = some (rowL (fnL n (fun k => if k = i then v else f k))) := by
 rw [blk_set h i, ← fnL_set]
 simp [rowL]
theorem infoI0 : (Tryd.prog.info? 3).map (fun i => (i.zero, i.size, i.bytes)) = some (some (.int .i64 0), 1, 8) := by kernel_rfl
theorem mk_ints {ops : Array Oper} {o : Oper} {a : Act} {Q : Exit → Act → World → Prop} {rest : List Oper} {W : World} (hgd : o.guard = none) (x y : Operand) (ho : o.op = .makeSlice 24 x y) (n : Nat) (hx : a.eval x = .int .i64 (n : Int)) (hy : a.eval y = .int .i64 (n : Int)) (hn : n ≤ 8)
  (h : wpList Tryd.prog ops Q rest (a.put o.dst (slv W.heap.size n)) (W.alloc (rowL (fnL n (fun _ => 0))))) : wpList Tryd.prog ops Q (o :: rest) a W := by
 obtain ⟨i0, hi, hz0, hz1, hz2⟩ := info_parts infoI0
 have hr := run_make (P := Tryd.prog) W 24 3 i0 (.int .i64 0) Tryd.underlying24 hi hz0 .i64 .i64 (n : Int) (n : Int) (by omega) (by omega) (by rw [hz2]; omega) (by omega)
 rw [hz1] at hr
 simp only [Int.toNat_natCast] at hr
 have e1 : madeCells (Value.int IntKind.i64 0).cells (n * 1) = Array.replicate n (.int .i64 0) := by
  have e := toList_madeCells_one (.int .i64 0) n
  apply Array.toList_inj.1
  rw [Nat.mul_one, Array.toList_replicate]
  exact e
 have e2 : rowL (fnL n (fun _ => 0)) = .cells (Array.replicate n (.int .i64 0)) 3 (0, 0) := by
  have e : ((fnL n (fun _ => 0)).map (Value.int .i64)).toArray = Array.replicate n (.int .i64 0) := by
   apply Array.toList_inj.1
   rw [Array.toList_replicate]
   unfold fnL
   exact List.ext_getElem (by simp) (fun i h1 h2 => by simp)
  exact congrArg (fun a => Obj.cells a 3 (0, 0)) e
 rw [e1] at hr
 rw [e2] at h
 exact Kd.event_run hgd (by simp [execOp, ho, hx, hy, hr]) h
def pushW (g : Nat → Int) (at_ : Nat) (l : List Nat) : Nat → Int := l.foldl (fun g k => fun i => if i = k then mx (g k) (g at_) else g i) g
def addW (ts : List TT) (g : Nat → Int) (at_ : Nat) : Nat → Int := fun i => if i = at_ then wrap64 (g at_ + (rd_T39 ts (at_ : Int)).f0) else g i
def stepW (ts : List TT) (nd : List Nat) (g : Nat → Int) (at_ : Nat) : Nat → Int := pushW (addW ts g at_) at_ (bitsN (nd.getD at_ 0))
def tailsW (ts : List TT) (nd : List Nat) (l : List Nat) : Nat → Int := l.foldl (stepW ts nd) (fun _ => 0)
theorem tailsW_snoc (ts : List TT) (nd : List Nat) (l : List Nat) (x : Nat) : tailsW ts nd (l ++ [x]) = stepW ts nd (tailsW ts nd l) x := by simp [tailsW]
theorem pushW_snoc (g : Nat → Int) (at_ : Nat) (l : List Nat) (x : Nat) : pushW g at_ (l ++ [x]) = fun i => if i = x then mx (pushW g at_ l x) (pushW g at_ l at_) else pushW g at_ l i := by simp [pushW]
structure Ft (w : World) (g q0 b q2 q3 : Nat) (V : Value) (n : Nat) (f : Nat → Int) (W : World) : Prop where
 bel : Below w.heap.size w W
 hx : Boxed W q0 49 (.pointer (some ⟨g, 0, none⟩))
 hb : W.heap[b]? = some (rowL (fnL n f))
 ho : Boxed W q2 24 (slv b n)
 hk : Boxed W q3 24 V
theorem own_Ft {β : Type} (w : World) (g q0 b q2 q3 : Nat) (V : Value) (n : Nat) (f : β → Nat → Int) (B : Nat) (hB : w.heap.size ≤ B) : OwnFrom B (fun s W => Ft w g q0 b q2 q3 V n (f s) W) := by
 intro s W W' row h hg hr
 exact ⟨(ownFrom_below (Nat.le_refl _) hB) s W W' row h.bel hg hr, own_box B q0 _ (fun _ => _) s W W' row h.hx hg hr, own_blk B b (fun s => ((fnL n (f s)).map (Value.int .i64)).toArray) _ s W W' row h.hb hg hr, own_box B q2 _ (fun _ => _) s W W' row h.ho hg hr, own_box B q3 _ (fun _ => _) s W W' row h.hk hg hr⟩
theorem Ft.alloc {w W : World} {g q0 b q2 q3 n : Nat} {V : Value} {f : Nat → Int} (h : Ft w g q0 b q2 q3 V n f W) (o : Obj) : Ft w g q0 b q2 q3 V n f (W.alloc o) :=
 ⟨h.bel.alloc h.bel.size o, h.hx.alloc o, blk_alloc h.hb o, h.ho.alloc o, h.hk.alloc o⟩
theorem Ft.drewN {w W : World} {g q0 b q2 q3 n : Nat} {V : Value} {f : Nat → Int} (h : Ft w g q0 b q2 q3 V n f W) (m : Nat) : Ft w g q0 b q2 q3 V n f (W.drewN m) := ⟨pw_below_drewN h.bel m, h.hx, h.hb, h.ho, h.hk⟩
theorem Ft.put {w W : World} {g q0 b q2 q3 n : Nat} {V : Value} {f : Nat → Int} (h : Ft w g q0 b q2 q3 V n f W) (hge : w.heap.size ≤ b) (h3 : b ≠ q3) (m i : Nat) (v : Int) : Ft w g q0 b q2 q3 V n (fun k => if k = i then v else f k) ((W.drewN m).setCell ⟨b, i, none⟩ (.int .i64 v)) := by
 have hg := grown_set W m b i (.int .i64 v)
 exact ⟨(pw_below_drewN h.bel m).setCell hge _, blk_grown h.hx hg (fun e => blk_ne h.hb h.hx (by decide) (by injection e with e; exact e.symm)), rowF_set (W := W.drewN m) h.hb i v, blk_grown h.ho hg (fun e => blk_ne h.hb h.ho (by decide) (by injection e with e; exact e.symm)), blk_grown h.hk hg (fun e => h3 (by injection e with e; exact e.symm))⟩
theorem orderGo_len (nd : List Nat) : ∀ (m : Nat) (s : List Nat × Nat), (orderGo nd m s).1.length ≤ s.1.length + m
 | 0, s => Nat.le_refl _
 | m + 1, s => by
  have h := orderGo_len nd m (orderStep nd s)
  have h2 : (orderStep nd s).1.length ≤ s.1.length + 1 := by
   unfold orderStep
   split <;> simp
  rw [orderGo]
  omega
theorem orderP_len (nd : List Nat) : (orderP nd).1.length ≤ nd.length := by
 have := orderGo_len nd nd.length ([], 0)
 simpa [orderP] using this
set_option maxRecDepth 100000 in
set_option maxHeartbeats 4000000 in
theorem tails_calls (g : Nat) (G : GrN) (hOk : GOk G) (w : World) (hG : IsG w g G.gr) (hT : TabOK w) :
  Calls Tryd.prog 53 #[.pointer (some ⟨g, 0, none⟩)] w fun e w' => ∃ b, e = .returned (slv b G.ts.length) ∧ w.heap.size ≤ b ∧ w'.heap[b]? = some (rowL (fnL G.ts.length (tailsW G.ts G.nd G.od.reverse))) ∧ Below w.heap.size w w' := by
 refine calls_of_wpM Tryd.func53 rfl ?_
 simp only [Tryd.ntmps53, List.size_toArray, List.length_cons, List.length_nil, Nat.reduceAdd, Nat.reduceSub, Array.replicate_succ, Array.replicate_zero, List.push_toArray, List.append_toArray, List.nil_append, List.cons_append]
 have hT' := Aside0.mk hT
 have hG' := Aside0.mk hG
 have hOk' := Aside0.mk hOk
 clear hT hG hOk
 have hn8 := Aside0.mk hOk'.out.n8
 obtain ⟨n, hn⟩ : ∃ n, n = G.ts.length := ⟨_, rfl⟩
 have hn' := Aside0.mk hn
 simp only [← hn]
 clear hn
 obtain ⟨A0, c0, A1, c1, A2, c2, A3, c3, A4, c4, hblk, _, _, ⟨hC2, _⟩, _⟩ := hG'.out
 have hblk' := Aside0.mk hblk
 have hC2' := Aside0.mk hC2
 clear hblk hC2
 go_wp2_with (first | (go_at_call 40; go_loud (refine (size_calls g G.gr _ (hG'.out.below ((Below.refl _ w).alloc (Nat.le_refl _) _))).mono ?_; rintro e w1 ⟨rfl, ⟨m1, rfl⟩⟩; simp only [show ((G.gr.ts.length : Nat) : Int) = (n : Int) from by rw [hn'.out]; rfl])) | ((with_reducible refine gate_dst (N := 9) rfl ?_); go_loud (refine mk_ints rfl _ _ rfl n rfl rfl (by rw [hn'.out]; exact hn8.out) ?_; have hc2 : ((((w.alloc (Obj.cells #[Value.pointer (some { block := g, off := 0 })] 49)).drewN m1).alloc (rowL (fnL n fun x => 0))).alloc (Obj.cells #[Value.slice (some { block := w.heap.size + 1, off := 0 }) n n] 24)).cell? ⟨g, 2, none⟩ = some (.slice A2 G.gr.od.length c2) := (blk_cell (blk_alloc (blk_alloc (show ((w.alloc (Obj.cells #[Value.pointer (some { block := g, off := 0 })] 49)).drewN m1).heap[g]? = _ from blk_alloc hblk'.out _) _) _) 2).trans rfl)) | (go_at_call 83; go_loud (refine (back_calls _ _ _ _).mono ?_; rintro e w' ⟨rfl, rfl⟩)))
 have hF4 : Ft w g w.heap.size (w.heap.size + 1) (w.heap.size + 1 + 1) (w.heap.size + 1 + 1 + 1) (.slice A2 G.gr.od.length c2) n (tailsW G.ts G.nd []) (((((w.alloc (Obj.cells #[Value.pointer (some { block := g, off := 0 })] 49)).drewN m1).alloc (rowL (fnL n fun x => 0))).alloc (Obj.cells #[Value.slice (some { block := w.heap.size + 1, off := 0 }) n n] 24)).alloc (Obj.cells #[Value.slice A2 G.gr.od.length c2] 24)) := by
  have h1 := (Boxed.new w 49 (.pointer (some ⟨g, 0, none⟩)))
  have hB1 := pw_below_drewN ((Below.refl _ w).alloc (Nat.le_refl _) (Obj.cells #[Value.pointer (some { block := g, off := 0 })] 49)) m1
  have h1' : Boxed ((w.alloc (Obj.cells #[Value.pointer (some { block := g, off := 0 })] 49)).drewN m1) w.heap.size 49 (.pointer (some ⟨g, 0, none⟩)) := h1
  have hs1 : ((w.alloc (Obj.cells #[Value.pointer (some { block := g, off := 0 })] 49)).drewN m1).heap.size = w.heap.size + 1 := by simp [World.drewN]
  clear hc2 h1
  generalize (w.alloc (Obj.cells #[Value.pointer (some { block := g, off := 0 })] 49)).drewN m1 = W1 at *
  have h2 : (W1.alloc (rowL (fnL n fun x => 0))).heap[w.heap.size + 1]? = some (rowL (fnL n fun x => 0)) := by rw [← hs1]; exact World.alloc_heap_new W1 _
  have hs2 : (W1.alloc (rowL (fnL n fun x => 0))).heap.size = w.heap.size + 1 + 1 := by simp [hs1]
  have h3 := box_at (W1.alloc (rowL (fnL n fun x => 0))) 24 (slv (w.heap.size + 1) n) (w.heap.size + 1 + 1) hs2
  have hB2 := (hB1.alloc hB1.size (rowL (fnL n fun x => 0))).alloc (by omega) (Obj.cells #[Value.slice (some { block := w.heap.size + 1, off := 0 }) n n] 24)
  exact ⟨hB2.alloc hB2.size _, ((h1'.alloc _).alloc _).alloc _, blk_alloc (blk_alloc h2 _) _, h3.alloc _, box_at _ _ _ _ (by simp [hs2])⟩
 have hs4 : (((((w.alloc (Obj.cells #[Value.pointer (some { block := g, off := 0 })] 49)).drewN m1).alloc (rowL (fnL n fun x => 0))).alloc (Obj.cells #[Value.slice (some { block := w.heap.size + 1, off := 0 }) n n] 24)).alloc (Obj.cells #[Value.slice A2 G.gr.od.length c2] 24)).heap.size = w.heap.size + 1 + 1 + 1 + 1 := by simp [World.drewN]
 have e4 : (((((w.alloc (Obj.cells #[Value.pointer (some { block := g, off := 0 })] 49)).drewN m1).alloc (rowL (fnL n fun x => 0))).alloc (Obj.cells #[Value.slice (some { block := w.heap.size + 1, off := 0 }) n n] 24))).heap.size = w.heap.size + 1 + 1 + 1 := by simp [World.drewN]
 try rw [e4]
 clear hc2 e4
 generalize ((((w.alloc (Obj.cells #[Value.pointer (some { block := g, off := 0 })] 49)).drewN m1).alloc (rowL (fnL n fun x => 0))).alloc (Obj.cells #[Value.slice (some { block := w.heap.size + 1, off := 0 }) n n] 24)).alloc (Obj.cells #[Value.slice A2 G.gr.od.length c2] 24) = W4 at *
 have hodl : G.gr.od.length < 1000 := by
  show (nI G.od).length < 1000
  rw [nI_length]
  have h1 := hOk'.out.n8
  have h2 := orderP_len G.nd
  rw [← hOk'.out.ord, hOk'.out.nl] at h2
  omega
 refine (wpIn_wide (n := 9)).1 (wpIn_rangeFunc_ownH (F := Fence.wide) (n := 9) rfl (by omega) (gf := 100) (lb := #[.pointer (some ⟨w.heap.size + 1 + 1 + 1, 0, none⟩)]) rfl trivial (enters_of Tryd.func100 (by kernel_rfl) rfl)
  (back_stops (9 - 1) (by omega) (w.heap.size + 1 + 1 + 1) G.gr.od hodl A2 c2 w W4 hC2'.out hF4.bel (by omega) hF4.hk.cell) (fun h k => h.trans k) (fun W l o o' hl ho hcells hwk => ⟨fun hb => ?_, fun hc => ?_⟩) (Below.refl _ _) (fun x => rfl)
  (fun pre W => Ft w g w.heap.size (w.heap.size + 1) (w.heap.size + 1 + 1) (w.heap.size + 1 + 1 + 1) (.slice A2 G.gr.od.length c2) n (tailsW G.ts G.nd (pre.map (fun p => p.1.2.toNat))) W) (fun _ _ _ => False) (own_Ft _ _ _ _ _ _ _ _ _ _ (by omega)) (fun _ _ _ _ _ hs _ _ => hs) hF4
  (fun x a' W => ∃ Bx, w.heap.size + 1 + 1 + 1 < Bx ∧ Boxed W Bx 3 (.int .i64 x.1.2) ∧ a' = { tmps := #[.pointer (some ⟨g, 0, none⟩), .pointer (some ⟨w.heap.size, 0, none⟩), .slice none 0 0, .pointer (some ⟨w.heap.size + 1 + 1, 0, none⟩), undef, .pointer (some ⟨Bx, 0, none⟩), undef, .pointer (some ⟨g, 0, none⟩), .int .i64 (n : Int), slv (w.heap.size + 1) n, .pointer (some ⟨g, 0, none⟩), .pointer (some ⟨g, 0, none⟩), .pointer (some ⟨g, 2, none⟩), .slice A2 G.gr.od.length c2, .func (.func 100) #[] #[.pointer (some ⟨w.heap.size + 1 + 1 + 1, 0, none⟩)], .int .i64 x.1.1, .int .i64 x.1.2, undef, undef, undef, undef, undef, undef, undef, undef, undef, undef, undef, undef, undef, undef, undef, undef, undef, undef, undef, undef, undef, undef, undef, undef, undef, undef, undef, undef, undef, undef, undef, undef, undef, undef, undef, undef], defers := [] })
  (fun x a' _ X Y row hs hg hr => by obtain ⟨Bx, h1, h2, h3⟩ := hs; exact ⟨Bx, h1, own_box _ Bx 3 (fun (_ : Unit) => Value.int .i64 x.1.2) () X Y row h2 hg hr, h3⟩)
  ?assign ?body ?done ?stop)
 case stop => intro D c pre W _ _ h _; exact h.elim
 case assign =>
  rintro l pre x W K hF hK
  dsimp only [encB]
  gi_wp2
  exact hK _ _ ((KeepsOthers.alloc _ _).from _) ⟨fun _ => (hF.alloc _).bel, fun _ => (hF.alloc _).hk.cell⟩ (hF.alloc _) ⟨W.heap.size, hF.hk.lt, Boxed.new W _ _, rfl⟩
 case body =>
  rintro l pre x a' W hl ⟨r, hr⟩ hF ⟨Bx, hBx, bX, rfl⟩ hlt
  obtain ⟨o, ho, hxo⟩ : ∃ o : Nat, o ∈ G.od ∧ x.1.2 = (o : Int) := by
   obtain ⟨o, h1, h2⟩ := List.mem_map.1 (show x.1.2 ∈ nI G.od from x.2)
   exact ⟨o, h1, h2.symm⟩
  obtain ⟨xi, hxi⟩ : ∃ i, x.1.1 = i := ⟨_, rfl⟩
  simp only [hxo, hxi] at bX ⊢
  have hxo' := Aside0.mk hxo
  clear hxo hxi
  generalize hf : tailsW G.ts G.nd (pre.map (fun p => p.1.2.toNat)) = f at *
  have hon := hOk'.out.omem o ho
  obtain ⟨A0, c0, A1, c1, A2', c2', A3, c3, A4, c4, hblk, ⟨hC0, _⟩, ⟨hC1, _⟩, _⟩ := hG'.out.below hF.bel
  obtain ⟨ad, B1, d1, rfl, hx0, _⟩ := at_T39 hC0 (o : Int) (by omega) (by show (o : Int) < (G.ts.length : Int); omega)
  simp only [Int.toNat_natCast] at hx0
  have hg0 : W.cell? ⟨g, 0, none⟩ = some (.slice (some ad) G.gr.ts.length c0) := (blk_cell hblk 0).trans rfl
  have k0 := hF.hx.cell
  have k2 := hF.ho.cell
  have kx := bX.cell
  have ko := rowF_cell hF.hb o (by rw [hn'.out]; exact hon)
  have hnl : o < G.gr.nd.length := by show o < (nI G.nd).length; rw [nI_length, hOk'.out.nl]; exact hon
  obtain ⟨ad1, rfl, hx1⟩ := Kd.at_int hC1 (o : Int) (by omega) (by omega)
  have hn2 : rd G.gr.nd (o : Int) = ((G.nd.getD o 0 : Nat) : Int) := rd_nI _ _
  obtain ⟨sn, hsn⟩ : ∃ sn, G.nd.getD o 0 = sn := ⟨_, rfl⟩
  simp only [Int.toNat_natCast, hn2, hsn] at hx1
  clear hn2
  have hsb := hOk'.out.nlt o
  rw [hsn] at hsb
  have hsb' := Aside0.mk hsb
  have hsn' := Aside0.mk hsn
  have hF' := Aside0.mk hF
  have bX' := Aside0.mk bX
  have hr' := Aside0.mk hr
  have hon' := Aside0.mk (show o < n by rw [hn'.out]; exact hon)
  have hblk2 := Aside0.mk hblk
  have hx1' := Aside0.mk hx1
  have hf' := Aside0.mk hf
  have hl' := Aside0.mk hl
  have hz := Aside0.mk (show w.heap.size + 1 ≠ Bx by omega)
  clear hC0 hC1 hsb hsn hF bX hr hf hblk hl
  have hgn : (o : Int) < (G.gr.ts.length : Int) := by show (o : Int) < (G.ts.length : Int); omega
  have honn : (o : Int) < (n : Int) := by have := hon'.out; omega
  gi_wp2
  refine wpIn_region_tail 13 (by rintro ⟨_, _, h⟩; exact h) (by kernel_rfl) (by kernel_rfl) (by kernel_rfl) ?_
  simp only [List.take_succ_cons, List.take_zero, List.drop_succ_cons, List.drop_zero]
  repeat still_step
  refine wpStill_nil ?_
  have fo : W.frozen? ⟨w.heap.size + 1, o, none⟩ = false := blk_frozen hF'.out.hb o
  go_wp2
  have hv := Aside0.mk (show IntKind.i64.wrap (f o + (rd_T39 G.gr.ts (o : Int)).f0) = wrap64 (f o + (rd_T39 G.gr.ts (o : Int)).f0) by simp only [i64_w])
  have hF5 : Ft w g w.heap.size (w.heap.size + 1) (w.heap.size + 1 + 1) (w.heap.size + 1 + 1 + 1) (.slice A2 G.gr.od.length c2) n (addW G.ts f o) (W.setCell { block := w.heap.size + 1, off := o } (Value.int IntKind.i64 (wrap64 (f o + (rd_T39 G.gr.ts (o : Int)).f0)))).drew := hF'.out.put (by omega) (by omega) 1 o _
  have hgr := grown_set W 1 (w.heap.size + 1) o (Value.int IntKind.i64 (wrap64 (f o + (rd_T39 G.gr.ts (o : Int)).f0)))
  have bX5 : Boxed (W.setCell { block := w.heap.size + 1, off := o } (Value.int IntKind.i64 (wrap64 (f o + (rd_T39 G.gr.ts (o : Int)).f0)))).drew Bx 3 (.int .i64 (o : Int)) := bX'.out.kept hgr (fun e => hz.out (by injection e with e; exact e.symm))
  have hK5 : KeepsFrom W4.heap.size W (W.setCell { block := w.heap.size + 1, off := o } (Value.int IntKind.i64 (wrap64 (f o + (rd_T39 G.gr.ts (o : Int)).f0)))).drew := ((KeepsOthers.setCell _ _ _).trans (KeepsOthers.drew _)).from _
  have hr5 := Aside0.mk (hK5.same l _ hl'.out hr'.out rfl)
  clear k0 k2 kx ko fo hg0 hx0 hgr hx1 hnl
  generalize (W.setCell { block := w.heap.size + 1, off := o } (Value.int IntKind.i64 (wrap64 (f o + (rd_T39 G.gr.ts (o : Int)).f0)))).drew = W5 at *
  clear hblk2 hx1'
  obtain ⟨A0', c0', A1', c1', A2'', c2'', A3', c3', A4', c4', hblk, _, ⟨hC1, _⟩, _⟩ := hG'.out.below hF5.bel
  have hnl : o < G.gr.nd.length := by show o < (nI G.nd).length; rw [nI_length, hOk'.out.nl]; exact hon
  obtain ⟨ad2, rfl, hx1⟩ := Kd.at_int hC1 (o : Int) (by omega) (by omega)
  have hn2 : rd G.gr.nd (o : Int) = ((G.nd.getD o 0 : Nat) : Int) := rd_nI _ _
  simp only [Int.toNat_natCast, hn2, hsn'.out] at hx1
  clear hn2
  have hnlI : (o : Int) < (G.gr.nd.length : Int) := by omega
  have hg1 : W5.cell? ⟨g, 1, none⟩ = some (.slice (some ad2) G.gr.nd.length c1') := (blk_cell hblk 1).trans rfl
  have k0 := hF5.hx.cell
  have kx := bX5.cell
  have hF5' := Aside0.mk hF5
  have bX5' := Aside0.mk bX5
  have hK5' := Aside0.mk hK5
  clear hF5 bX5 hK5 hblk hC1 hnl
  gi_wp2
  refine wpIn_region_tail 7 (by rintro ⟨_, _, h⟩; exact h) (by kernel_rfl) (by kernel_rfl) (by kernel_rfl) ?_
  simp only [List.take_succ_cons, List.take_zero, List.drop_succ_cons, List.drop_zero]
  repeat still_step
  refine wpStill_nil ?_
  go_wp2_with (go_at_call 54; refine (all_calls _ _).mono ?_; rintro e w' ⟨rfl, rfl⟩)
  gi_wp2
  have hF6 := (hF5'.out.alloc (.cells #[.int .u16 (sn : Int)] 51)).drewN 1
  have bX6 : Boxed ((W5.alloc (.cells #[.int .u16 (sn : Int)] 51)).drewN 1) Bx 3 (.int .i64 (o : Int)) := bX5'.out.alloc _
  have hk6 : ((W5.alloc (.cells #[.int .u16 (sn : Int)] 51)).drewN 1).cell? ⟨W5.heap.size, 0, none⟩ = some (.int .u16 (sn : Int)) := (Boxed.new W5 51 (.int .u16 (sn : Int))).cell
  have hs6 : ((W5.alloc (.cells #[.int .u16 (sn : Int)] 51)).drewN 1).heap.size = W5.heap.size + 1 := by simp [World.drewN]
  have hr6 : ((W5.alloc (.cells #[.int .u16 (sn : Int)] 51)).drewN 1).heap[l]? = some (.loop r) := (Below.heap_alloc W5 _ l (Array.getElem?_eq_some_iff.1 hr5.out).1).trans hr5.out
  have hK6 : KeepsFrom W4.heap.size W ((W5.alloc (.cells #[.int .u16 (sn : Int)] 51)).drewN 1) := hK5'.out.trans (((KeepsOthers.alloc W5 (.cells #[.int .u16 (sn : Int)] 51)).trans (KeepsOthers.drew _)).from _)
  change Code.wpIn _ _ _ _ _ _ ((W5.alloc (.cells #[.int .u16 (sn : Int)] 51)).drewN 1)
  have hWW := Aside0.mk hK5'.out.size
  clear hg1 k0 kx hx1 hF5' bX5' hK5'
  have hWs := Aside0.mk (hF'.out.bel.size)
  generalize hq5 : W5.heap.size = q5 at *
  have hWq : W.heap.size ≤ q5 := hWW.out
  have hW4s : W4.heap.size ≤ q5 := Nat.le_trans (Nat.le_of_lt (Nat.lt_of_le_of_lt hl'.out (Array.getElem?_eq_some_iff.1 hr'.out).1)) hWq
  clear hq5
  generalize (W5.alloc (.cells #[.int .u16 (sn : Int)] 51)).drewN 1 = W6 at *
  refine wpIn_all1 hr6 (by omega) q5 sn (lt256 hsb'.out hn8.out) rfl (by omega) hk6 (hT'.out.below hF6.bel) rfl rfl rfl (by simp)
   (fun pre' W' => (Ft w g w.heap.size (w.heap.size + 1) (w.heap.size + 1 + 1) (w.heap.size + 1 + 1 + 1) (.slice A2 G.gr.od.length c2) n (pushW (addW G.ts f o) o pre') W' ∧ Boxed W' Bx 3 (.int .i64 (o : Int))) ∧ KeepsFrom W4.heap.size W W')
   (OwnFrom.and (OwnFrom.and (own_Ft _ _ _ _ _ _ _ _ _ _ (by omega)) (own_box _ _ _ _)) (ownFrom_keepsFrom (by omega))) ⟨⟨hF6, bX6⟩, hK6⟩ (fun pre W h => hT'.out.below h.1.1.bel) ?body2 ?done2
  case body2 =>
   rintro l2 pre' x W' hx8 hxs ⟨⟨hF7, bX7⟩, hK7⟩ hlen
   simp only [List.setIfInBounds_toArray, List.set_cons_zero, List.set_cons_succ]
   have hxn : x < n := by rw [hn'.out]; exact bit_lt hsb'.out hxs
   generalize hfp : pushW (addW G.ts f o) o pre' = fp at *
   have k2 := hF7.ho.cell
   have kx := bX7.cell
   have ko := rowF_cell hF7.hb o hon'.out
   have kk := rowF_cell hF7.hb x hxn
   have fk : W'.frozen? ⟨w.heap.size + 1, x, none⟩ = false := blk_frozen hF7.hb x
   have hxI : (x : Int) < (n : Int) := by omega
   have hF7' := Aside0.mk hF7
   have bX7' := Aside0.mk bX7
   have hK7' := Aside0.mk hK7
   have hfp' := Aside0.mk hfp
   clear hF7 bX7 hK7 hfp hF6 bX6 hk6 hs6 hr6 hK6
   gi_wp2
   refine wpIn_region_tail 11 (by rintro ⟨_, _, h⟩; exact h) (by kernel_rfl) (by kernel_rfl) (by kernel_rfl) ?_
   simp only [List.take_succ_cons, List.take_zero, List.drop_succ_cons, List.drop_zero]
   repeat still_step
   refine wpStill_nil ?_
   rw [show (if fp o > fp x then fp o else fp x) = mx (fp x) (fp o) from rfl]
   go_wp2
   have hgr := grown_set W' 1 (w.heap.size + 1) x (Value.int IntKind.i64 (mx (fp x) (fp o)))
   refine ⟨((KeepsOthers.setCell _ _ _).trans (KeepsOthers.drew _)).from _, ⟨?_, ?_⟩, hK7'.out.trans (((KeepsOthers.setCell _ _ _).trans (KeepsOthers.drew _)).from _)⟩
   ·rw [pushW_snoc, hfp'.out]
    exact hF7'.out.put (by omega) (by omega) 1 x _
   ·exact bX7'.out.kept hgr (fun e => hz.out (by injection e with e; exact e.symm))
  case done2 =>
   rintro W' ⟨⟨hF7, bX7⟩, hK7⟩
   gi_wp2
   have e : tailsW G.ts G.nd ((pre ++ [x]).map (fun p => p.1.2.toNat)) = pushW (addW G.ts f o) o (bitsN sn) := by
    rw [List.map_append]
    show tailsW G.ts G.nd (pre.map (fun p => p.1.2.toNat) ++ [x.1.2.toNat]) = _
    rw [tailsW_snoc, hf'.out, hxo'.out, Int.toNat_natCast, stepW, hsn'.out]
   rw [← e] at hF7
   exact ⟨hK7, ⟨fun _ => hF7.bel, fun _ => hF7.hk.cell⟩, hF7⟩
 case done =>
  rintro D zs W hD hzs hF hK
  have k2 := hF.ho.cell
  have hF' := Aside0.mk hF
  have hK' := Aside0.mk hK
  clear hF hK
  gi_wp2
  have e : tailsW G.ts G.nd (zs.map (fun p : Bk G.gr.od => p.1.2.toNat)) = tailsW G.ts G.nd G.od.reverse := by
   have h1 : zs.map (fun p : Bk G.gr.od => p.1.2.toNat) = (zs.map (·.1.2)).map Int.toNat := by simp
   rw [h1, hzs]
   show tailsW G.ts G.nd ((nI G.od).reverse.map Int.toNat) = _
   rw [List.map_reverse]
   simp [nI, Function.comp_def]
  have hF2 := hF'.out
  rw [e] at hF2
  go_wp2
  refine retM (B := w.heap.size) (fun W => Ft w g w.heap.size (w.heap.size + 1) (w.heap.size + 1 + 1) (w.heap.size + 1 + 1 + 1) (.slice A2 G.gr.od.length c2) n (tailsW G.ts G.nd G.od.reverse) W) (own_Ft _ _ _ _ _ _ _ _ _ _ (Nat.le_refl _)) ⟨⟨D, rfl, by omega, hK'.out, by simp⟩, trivial⟩ hF2 ?_
  intro W' h
  exact ⟨_, (results_tmp (t := 2) rfl _ _ _).trans rfl, _, rfl, by omega, h.hb, h.bel⟩
 ·exact hb.trans (belowK_b (w := w) (Nat.le_refl _) W l o o' (by omega) ho hcells hwk)
 ·exact cell_kept hc (grownBy_putObj' W l o') (fun r e => by cases e; exact ⟨_, ho, hcells⟩)
end Go.Proofs.YtajapkjplgaigaaDoor.P
end
section
namespace Go.Proofs.YtajapkjplgaigaaDoor.P
open Go.RowKit Go.Shelf Go.Proofs.YtajapkjplgaigaaDoorW.PrintWords Go.Proofs.YtajapkjplgaigaaDoorW.PrintLast Go.Proofs.YtajapkjplgaigaaDoorW.PrintMore
attribute [local go_sem] Oper.semAt_some
attribute [local go_sem] max2_int min2_int max_two min_two max_three min_three max_four min_four
set_option linter.unusedVariables false
set_option linter.unusedSimpArgs false
def mostF (f : Nat → Int) (l : List Nat) : Int := l.foldl (fun m i => mx m (f i)) 0
theorem mostF_snoc (f : Nat → Int) (l : List Nat) (x : Nat) : mostF f (l ++ [x]) = mx (mostF f l) (f x) := by simp [mostF]
def timeLeftW (ts : List TT) (done : List Int) : Int := match doneP ts done with
 | none => -1
 | some (G, s) => mostF (tailsW G.ts G.nd G.od.reverse) (bitsN (readyN G.nd s))
def impl_TimeLeft.f (l0 : List TT) (l1 : List Int) : Option (Int) := some (timeLeftW l0 l1)
structure Fl (w : World) (b q0 q1 n : Nat) (f : Nat → Int) (m : Int) (W : World) : Prop where
 bel : Below w.heap.size w W
 hb : W.heap[b]? = some (rowL (fnL n f))
 ho : Boxed W q0 24 (slv b n)
 hm : Boxed W q1 3 (.int .i64 m)
theorem own_Fl {β : Type} (w : World) (b q0 q1 n : Nat) (f : Nat → Int) (m : β → Int) (B : Nat) (hB : w.heap.size ≤ B) : OwnFrom B (fun s W => Fl w b q0 q1 n f (m s) W) := by
 intro s W W' row h hg hr
 exact ⟨(ownFrom_below (Nat.le_refl _) hB) s W W' row h.bel hg hr, own_blk B b (fun _ => ((fnL n f).map (Value.int .i64)).toArray) _ s W W' row h.hb hg hr, own_box B q0 _ (fun _ => _) s W W' row h.ho hg hr, own_box B q1 _ (fun s => .int .i64 (m s)) s W W' row h.hm hg hr⟩
theorem Fl.alloc {w W : World} {b q0 q1 n : Nat} {f : Nat → Int} {m : Int} (h : Fl w b q0 q1 n f m W) (o : Obj) : Fl w b q0 q1 n f m (W.alloc o) := ⟨h.bel.alloc h.bel.size o, blk_alloc h.hb o, h.ho.alloc o, h.hm.alloc o⟩
theorem Fl.drewN {w W : World} {b q0 q1 n : Nat} {f : Nat → Int} {m : Int} (h : Fl w b q0 q1 n f m W) (k : Nat) : Fl w b q0 q1 n f m (W.drewN k) := ⟨pw_below_drewN h.bel k, h.hb, h.ho, h.hm⟩
theorem Fl.put {w W : World} {b q0 q1 n : Nat} {f : Nat → Int} {m : Int} (h : Fl w b q0 q1 n f m W) (hge : w.heap.size ≤ q1) (h0 : b ≠ q1) (h1 : q0 ≠ q1) (k : Nat) (v : Int) : Fl w b q0 q1 n f v ((W.drewN k).setCell ⟨q1, 0, none⟩ (.int .i64 v)) := by
 have hg := grown_set W k q1 0 (.int .i64 v)
 exact ⟨(pw_below_drewN h.bel k).setCell hge _, blk_grown h.hb hg (fun e => h0 (by injection e)), blk_grown h.ho hg (fun e => h1 (by injection e)), (blk_set (w := W.drewN k) h.hm 0 (.int .i64 v)).trans rfl⟩
set_option maxRecDepth 100000 in
set_option maxHeartbeats 1000000 in
theorem impl_TimeLeft.calls (A0 : Option Addr) (c0 : Nat) (l0 : List TT) (A1 : Option Addr) (c1 : Nat) (l1 : List Int) (r : Int) (w : World) (hr0 : Kd.C k39 w A0 l0.length l0) (hc0 : l0.length ≤ c0) (hr1 : Kd.C (Kd.int .i64) w A1 l1.length l1) (hc1 : l1.length ≤ c1) (h : impl_TimeLeft.f l0 l1 = some r) (hTab : TabOK w) :
  Calls Tryd.prog 24 #[.slice A0 l0.length c0, .slice A1 l1.length c1] w fun e w' => e = .returned (.int .i64 r) ∧ Below w.heap.size w w' := by
 have dc := Aside0.mk (doneIn_calls A0 c0 l0 A1 c1 l1 w hr0 hc0 hr1 hc1 hTab)
 have hT' := Aside0.mk hTab
 unfold impl_TimeLeft.f timeLeftW at h
 injection h with h
 clear hr0 hr1 hTab
 cases hd : doneP l0 l1 with
 | none =>
  rw [hd] at h
  simp only at h
  subst h
  have hd' := Aside0.mk hd
  clear hd
  go_enter Tryd.func24, Tryd.ntmps24
  go_wp2_with (go_at_call 39; refine dc.out.mono ?_; rintro e w1 ⟨g, s, b, rfl, hB, hno, hyes⟩; obtain rfl := hno hd'.out; have hB' := Aside0.mk hB; clear hB hno hyes)
  go_ret
  exact ⟨rfl, hB'.out⟩
 | some Gs =>
  obtain ⟨G, s⟩ := Gs
  rw [hd] at h
  simp only at h
  subst h
  obtain ⟨hg, hts, hOk, hs, hc, hsl⟩ := doneP_ok hd
  have hd' := Aside0.mk hd
  rw [← hts] at hsl
  have hrd := readyP_eq G.nd hOk.n8 hOk.nl hOk.nlt s hsl
  have hrd' := Aside0.mk hrd
  have hsl' := Aside0.mk hsl
  have hOk' := Aside0.mk hOk
  clear hd hg hts hs hc hsl hrd hOk
  refine calls_of_wpM Tryd.func24 rfl ?_
  simp only [Tryd.ntmps24, List.size_toArray, List.length_cons, List.length_nil, Nat.reduceAdd, Nat.reduceSub, Array.replicate_succ, Array.replicate_zero, List.push_toArray, List.append_toArray, List.nil_append, List.cons_append]
  go_wp2_with (first | (go_at_call 39; refine dc.out.mono ?_; rintro e w1 ⟨g, s2, b, rfl, hB, hno, hyes⟩; obtain ⟨rfl, hss, a, rfl, hG⟩ := hyes G s hd'.out; obtain rfl := hss.symm; have hB' := Aside0.mk hB; have hG' := Aside0.mk hG; have hT1 := Aside0.mk (hT'.out.below hB); clear hB hno hyes hG) | (go_at_call 53; refine (tails_calls a G hOk'.out _ hG'.out hT1.out).mono ?_; rintro e w2 ⟨b, rfl, hbq, hbr, hB2⟩; have hG2 := Aside0.mk (hG'.out.below hB2); have hB2' := Aside0.mk (below_step hB'.out hB2); have hbq' := Aside0.mk (Nat.le_trans hB'.out.size hbq); have hbr' := Aside0.mk hbr; clear hbq hbr hB2) | (go_at_call 46; go_loud (refine (ready_callsN a G hOk'.out s hsl'.out _ ((hG2.out.below ((Below.refl _ _).alloc (Nat.le_refl _) _)).below ((Below.refl _ _).alloc (Nat.le_refl _) _))).mono ?_; rintro e w3 ⟨rfl, ⟨m3, rfl⟩⟩)) | (go_at_call 54; refine (all_calls _ _).mono ?_; rintro e w' ⟨rfl, rfl⟩))
  have hlt2 : w2.heap.size = w2.heap.size := rfl
  obtain ⟨f, hf⟩ : ∃ f, tailsW G.ts G.nd G.od.reverse = f := ⟨_, rfl⟩
  obtain ⟨n, hn⟩ : ∃ n, G.ts.length = n := ⟨_, rfl⟩
  obtain ⟨sr, hsr⟩ : ∃ sr, readyN G.nd s = sr := ⟨_, rfl⟩
  have hsr2 := hrd'.out.2
  have hn8 := hOk'.out.n8
  simp only [hf, hn, hsr] at hbr' hsr2 hn8 ⊢
  have hFl : Fl w b w2.heap.size (w2.heap.size + 1) n f 0 ((((w2.alloc (Obj.cells #[Value.slice (some { block := b, off := 0 }) n n] 24)).alloc (Obj.cells #[Value.int IntKind.i64 0] 3)).drewN m3).alloc (Obj.cells #[Value.int IntKind.u16 (sr : Int)] 51)) := by
   have h1 := box_at w2 24 (slv b n) w2.heap.size rfl
   have h2 := box_at (w2.alloc (Obj.cells #[Value.slice (some { block := b, off := 0 }) n n] 24)) 3 (.int .i64 0) (w2.heap.size + 1) (by simp)
   have hb2 := hB2'.out
   refine Fl.alloc (Fl.drewN ⟨(hb2.alloc hb2.size _).alloc ?_ _, blk_alloc (blk_alloc hbr'.out _) _, h1.alloc _, h2⟩ _) _
   have := hb2.size
   simp
   omega
  have hk : ((((w2.alloc (Obj.cells #[Value.slice (some { block := b, off := 0 }) n n] 24)).alloc (Obj.cells #[Value.int IntKind.i64 0] 3)).drewN m3).alloc (Obj.cells #[Value.int IntKind.u16 (sr : Int)] 51)).cell? ⟨w2.heap.size + 1 + 1, 0, none⟩ = some (.int .u16 (sr : Int)) := (box_at _ 51 (.int .u16 (sr : Int)) _ (by simp [World.drewN])).cell
  have hs5 : ((((w2.alloc (Obj.cells #[Value.slice (some { block := b, off := 0 }) n n] 24)).alloc (Obj.cells #[Value.int IntKind.i64 0] 3)).drewN m3).alloc (Obj.cells #[Value.int IntKind.u16 (sr : Int)] 51)).heap.size = w2.heap.size + 1 + 1 + 1 := by simp [World.drewN]
  have hq := hB2'.out.size
  have hbl := (Array.getElem?_eq_some_iff.1 hbr'.out).1
  generalize ((((w2.alloc (Obj.cells #[Value.slice (some { block := b, off := 0 }) n n] 24)).alloc (Obj.cells #[Value.int IntKind.i64 0] 3)).drewN m3).alloc (Obj.cells #[Value.int IntKind.u16 (sr : Int)] 51)) = W5 at *
  clear hbr' hbq' hG2 hG' dc
  refine wp_all1 (w2.heap.size + 1 + 1) sr (lt256 hsr2 hn8) rfl (by omega) hk (hT'.out.below hFl.bel) rfl rfl rfl (by simp)
   (fun pre W => Fl w b w2.heap.size (w2.heap.size + 1) n f (mostF f pre) W) (fun _ _ _ => False)
   (own_Fl _ _ _ _ _ _ _ _ (by omega)) (fun _ _ _ _ _ hs _ _ => hs) hFl (fun pre W h => hT'.out.below h.bel) ?body ?done ?stop
  case stop => intro D c pre W _ _ h _; exact h.elim
  case body =>
   rintro l pre x W hx8 hxs hF hlen
   simp only [List.setIfInBounds_toArray, List.set_cons_zero, List.set_cons_succ]
   have hxn : x < n := bit_lt hsr2 hxs
   have hxI : (x : Int) < (n : Int) := by omega
   have k0 := hF.ho.cell
   have k1 := hF.hm.cell
   have kf := hF.hm.frozen
   have kx := rowF_cell hF.hb x hxn
   have hF' := Aside0.mk hF
   clear hF hFl
   gi_wp2
   refine wpIn_region_tail 6 (by rintro ⟨_, _, h⟩; exact h) (by kernel_rfl) (by kernel_rfl) (by kernel_rfl) ?_
   simp only [List.take_succ_cons, List.take_zero, List.drop_succ_cons, List.drop_zero]
   repeat still_step
   refine wpStill_nil ?_
   try rw [show (if f x > mostF f pre then f x else mostF f pre) = mx (mostF f pre) (f x) from rfl]
   go_wp2
   refine ⟨((KeepsOthers.setCell _ _ _).trans (KeepsOthers.drew _)).from _, ?_⟩
   show Fl w b _ _ n f (mostF f (pre ++ [x])) _
   rw [mostF_snoc]
   exact hF'.out.put (by omega) (by omega) (by omega) 1 _
  case done =>
   rintro D W hD hF hK
   have k1 := hF.hm.cell
   have hF' := Aside0.mk hF
   have hK' := Aside0.mk hK
   clear hF hK
   go_wp2
   refine retM (B := w.heap.size) (fun W => Below w.heap.size w W) (ownFrom_below (Nat.le_refl _) (Nat.le_refl _)) ⟨⟨D, rfl, by omega, hK'.out, by simp⟩, trivial⟩ hF'.out.bel ?_
   intro W' hbb
   exact ⟨_, (results_tmp (t := 4) rfl _ _ _).trans rfl, rfl, hbb⟩
end Go.Proofs.YtajapkjplgaigaaDoor.P
end
section
namespace Go.Proofs.YtajapkjplgaigaaDoor.P
open Go.RowKit Go.Proofs.YtajapkjplgaigaaDoorW.PrintWords Go.Proofs.YtajapkjplgaigaaDoorW.PrintLast Go.Proofs.YtajapkjplgaigaaDoorW.PrintMore
attribute [local go_sem] max2_int min2_int max_two min_two max_three min_three max_four min_four   -- for this text's walks alone
set_option linter.unusedVariables false
set_option linter.unusedSimpArgs false
mutual
def spec_tails.l0 : Nat → List (S39) → List Int → List Int → Int → Option (List Int)
 | 0, _, _, _, _ => none
 | k + 1, x0, x3, x4, x5 => if x5 ≥ 0 then (if 0 ≤ x5 then (if x5 < (x4.length : Int) then (spec_tails.l1 k x0 x3 x4 x5 (rd x4 x5) 0 0) else (none)) else (none)) else (some x3)
def spec_tails.l1 : Nat → List (S39) → List Int → List Int → Int → Int → Int → Int → Option (List Int)
 | 0, _, _, _, _, _, _, _ => none
 | k + 1, x0, x3, x4, x5, x6, x7, x8 => if x8 < (x0.length : Int) then (if 0 ≤ x8 then ((spec_isIn.f k ((rd_T39 x0 x8).f1) x6).bind fun t499 => (if t499 = true then (if x8 < (x3.length : Int) then (spec_tails.l1 k x0 x3 x4 x5 x6 (mx x7 (rd x3 x8)) (wrap64 (x8 + 1))) else (none)) else (spec_tails.l1 k x0 x3 x4 x5 x6 x7 (wrap64 (x8 + 1))))) else (none)) else (if 0 ≤ x6 then (if x6 < (x0.length : Int) then (if x6 < (x3.length : Int) then (spec_tails.l0 k x0 (x3.set (x6 : Int).toNat (wrap64 (x7 + ((rd_T39 x0 x6).f0)))) x4 (wrap64 (x5 - 1))) else (none)) else (none)) else (none))
end
def spec_tails.f (k : Nat) (l0 : List (S39)) : Option (List Int) := if 0 ≤ (l0.length : Int) then (if ((l0.length : Int) : Int).toNat ≤ 35184372088832 then ((spec_topOrder.f k l0).bind fun t494 => (spec_tails.l0 k l0 (List.replicate ((l0.length : Int) : Int).toNat 0) t494 (wrap64 ((t494.length : Int) - 1)))) else (none)) else (none)
set_option maxHeartbeats 8000000 in
set_option maxRecDepth 100000 in
theorem spec_tails.calls (k : Nat) (A0 : Option Addr) (c0 : Nat) (l0 : List (S39)) (r : List Int) (w : World) (hr0 : Kd.C k39 w A0 l0.length l0) (hc0 : l0.length ≤ c0) (h : spec_tails.f k l0 = some r) :
  Calls Tryd.prog 86 #[.slice A0 l0.length c0] w fun e w' => ∃ v0_ : Value, e = .returned (v0_) ∧ Kd.R (Kd.int .i64) 3 w' w.heap.size (fun _ => True) v0_ r ∧ Below w.heap.size w w' := by
 have HR0 := Aside0.mk hr0
 have HC0 := Aside0.mk hc0
 clear hr0 hc0
 have HB := Aside0.mk (Below.refl w.heap.size w)
 have H : (if 0 ≤ (l0.length : Int) then (if ((l0.length : Int) : Int).toNat ≤ 35184372088832 then ((spec_topOrder.f k l0).bind fun t494 => (spec_tails.l0 k l0 (List.replicate ((l0.length : Int) : Int).toNat 0) t494 (wrap64 ((t494.length : Int) - 1)))) else (none)) else (none)) = some r := h
 clear h
 by_cases c2 : 0 ≤ (l0.length : Int)
 ·rw [if_pos c2] at H
  have c2b0 := eq_true c2
  have c2b1 : decide (0 ≤ (l0.length : Int)) = true := decide_eq_true c2
  clear c2
  by_cases c3 : ((l0.length : Int) : Int).toNat ≤ 35184372088832
  ·rw [if_pos c3] at H
   have c3b0 := eq_true c3
   have c3b1 : decide (((l0.length : Int) : Int).toNat ≤ 35184372088832) = true := decide_eq_true c3
   clear c3
   obtain ⟨y491, hy491⟩ : ∃ y_ : List Int, y_ = (List.replicate ((l0.length : Int) : Int).toNat 0) := ⟨_, rfl⟩
   replace H : ((spec_topOrder.f k l0).bind fun t494 => (spec_tails.l0 k l0 y491 t494 (wrap64 ((t494.length : Int) - 1)))) = some r := by first | (rw [hy491]; with_reducible exact H) | (have H2_ := (Option.bind_some _ _).symm.trans H; rw [hy491]; with_reducible exact H2_) | (have H2_ := (Option.bind_some _ _).symm.trans H; with_reducible exact H2_) | with_reducible exact H | (rw [hy491]; exact H) | exact H
   have Ny491 := Aside0.mk hy491
   clear hy491
   replace H := Option.bind_eq_some_iff.mp H
   obtain ⟨t494, A40, H⟩ := H
   replace H : (spec_tails.l0 k l0 y491 t494 (wrap64 ((t494.length : Int) - 1))) = some r := H
   have A4 := Aside0.mk A40
   clear A40
   have H' := Aside0.mk H
   clear H
   go_enter Tryd.func86, Tryd.ntmps86
   go_wp2_with (first | ((with_reducible refine gate_dst (N := 11) rfl ?_); refine Kd.R_make (Kd.int .i64) _ 3 rfl (N := 11) rfl 24 _ _ rfl (l0.length : Int) rfl rfl Tryd.underlying24 (.int .i64 0) 8 info3 rfl (by decide) (by omega) 0 (ok := fun _ => True) (okp := fun _ => True) rfl (fun _ hk => hk) trivial (of_decide_eq_true (by first | (with_reducible assumption) | assumption)) (Nat.le_trans (Nat.mul_le_mul_right _ (of_decide_eq_true (by first | (with_reducible assumption) | assumption) : (l0.length : Int).toNat ≤ 35184372088832)) (by omega)) (Below.refl _ _) (Nat.le_refl _) ?_; intro v492 w5 ho6 hb hg_ hnew_; clear hg_ hnew_; (first | rw [← Ny491.out] at ho6 | (simp only [Int.reduceToNat] at ho6; rw [← Ny491.out] at ho6)); have n0_ := Aside0.mk (Kd.R_lower ho6 (below_size (by repeat (first | (with_reducible first | exact HB.out | apply below_alloc | apply pw_below_drewN | apply below_drew1) | exact HB.out)))); have n1_ := Aside0.mk (below_step (by repeat (first | (with_reducible first | exact HB.out | apply below_alloc | apply pw_below_drewN | apply below_drew1) | exact HB.out)) hb); clear HB; have HO493 := n0_; have HB := n1_; clear n0_ n1_; clear hb ho6) | ((with_reducible refine gate_callee (f := 92) rfl ?_); refine goesL_ (some 13) rfl rfl Tryd.func92 (by kernel_rfl) rfl #[.slice A0 l0.length c0] rfl (by (try simp only [List.map_toArray, List.map_cons, List.map_nil]); first | done | rfl | (simp only [List.length_drop, List.length_take]; rfl)) ?_; (with_reducible refine (spec_topOrder.calls k _ _ l0 t494 _ ?side1 ?side2 A4.out).mono ?_); (case side1 => repeat (first | exact (Kd.C_below HR0.out HB.out) | (with_reducible refine Kd.C_alloc ?_ _) | (with_reducible refine Kd.C_drewN ?_ _) | (with_reducible refine Kd.C_drew ?_))); (case side2 => exact HC0.out); rintro e w7 ⟨v495, rfl, ho0, hb⟩; refine ⟨_, rfl, ?_⟩; have n0_ := Aside0.mk (Kd.R_elder' (by (with_reducible repeat (first | apply Kd.R_alloc | apply Kd.R_drewN | apply Kd.R_drew)); exact HO493.out) (Kd.R_base ho0) hb); have n1_ := Aside0.mk (Kd.R_lower (Kd.R_new' ho0 (Kd.R_lt (by (with_reducible repeat (first | apply Kd.R_alloc | apply Kd.R_drewN | apply Kd.R_drew)); exact HO493.out))) (below_size (by repeat (first | (with_reducible first | exact HB.out | apply below_alloc | apply pw_below_drewN | apply below_drew1) | exact HB.out)))); have n2_ := Aside0.mk (below_step (by repeat (first | (with_reducible first | exact HB.out | apply below_alloc | apply pw_below_drewN | apply below_drew1) | exact HB.out)) hb); clear HO493; clear HB; have HO493 := n0_; have HO496 := n1_; have HB := n2_; clear n0_ n1_ n2_; (try clear hb); (try clear hb2); (try clear hk); (try clear hi); (try clear ho0); obtain ⟨Ao8, co8, eo8⟩ := Kd.R_slice HO496.out; subst eo8))
   go_loopg [5] k (fun kq v5 w' => ∃ (x3_1 : List Int) (x5_1 : Int), v5 = .int .i64 x5_1 ∧ Aside0 (spec_tails.l0 kq l0 x3_1 t494 x5_1 = some r) ∧ Aside0 (kq ≤ k) ∧ Aside0 (Kd.R (Kd.int .i64) 3 w' w.heap.size (fun k_ => some k_ ≠ ((.slice Ao8 t494.length co8) : Value).ownBlock) v492 x3_1) ∧ Aside0 (Kd.R (Kd.int .i64) 3 w' w.heap.size (fun k_ => some k_ ≠ (v492 : Value).ownBlock) (.slice Ao8 t494.length co8) t494) ∧ Aside0 (Below w.heap.size w w'))
   case atStart => exact ⟨(y491), (wrap64 ((t494.length : Int) - 1)), (by first | rfl | (simp; done) | (simp [*]; done)), H', ⟨Nat.le_refl _⟩, ⟨by (with_reducible repeat (first | apply Kd.R_alloc | apply Kd.R_drewN | apply Kd.R_drew)); exact Kd.R_mono HO493.out (fun _ hk => hk.2)⟩, ⟨by (with_reducible repeat (first | apply Kd.R_alloc | apply Kd.R_drewN | apply Kd.R_drew)); exact Kd.R_mono HO496.out (fun _ hk => hk.2)⟩, ⟨by repeat (first | (with_reducible first | exact HB.out | apply below_alloc | apply pw_below_drewN | apply below_drew1) | exact HB.out)⟩⟩
   case round =>
    clear H'
    try clear c2
    try clear c2b0
    try clear c2b1
    try clear p2
    try clear c3
    try clear c3b0
    try clear c3b1
    try clear p6
    try clear c8
    obtain ⟨x3_1, x5_1, rfl, HA, HK1, HO_3, HO_4, HB⟩ := hrel
    cases gk with
    | zero => exact absurd HA.out (by simp [spec_tails.l0])
    | succ k1 =>
     have H := HA.out
     clear HA
     simp only [spec_tails.l0] at H
     by_cases c9 : x5_1 ≥ 0
     ·rw [if_pos c9] at H
      have c9b0 : decide (0 ≤ x5_1) = true := decide_eq_true c9
      clear c9
      by_cases c10 : 0 ≤ x5_1
      ·rw [if_pos c10] at H
       have c10b0 : decide (0 ≤ x5_1) = true := decide_eq_true c10
       clear c10
       by_cases c11 : x5_1 < (t494.length : Int)
       ·rw [if_pos c11] at H
        have c11b0 : decide (x5_1 < (t494.length : Int)) = true := decide_eq_true c11
        clear c11
        have H' := Aside0.mk H
        clear H
        have p497 : 0 ≤ (x5_1 : Int) := of_decide_eq_true (by first | (with_reducible assumption) | assumption)
        have q497 : x5_1 < (t494.length : Int) := of_decide_eq_true (by first | (with_reducible assumption) | assumption)
        obtain ⟨ad497, e497, hx497_0⟩ := Kd.at_int (Kd.R_reads' HO_4.out).2.2 x5_1 p497 q497
        cases e497
        replace p497 := eq_true p497
        replace q497 := eq_true q497
        go_wp2
        go_loopg [7, 8] k1 (fun kq v7 v8 w' => ∃ (x7_2 : Int) (x8_2 : Int), v7 = .int .i64 x7_2 ∧ v8 = .int .i64 x8_2 ∧ Aside0 (spec_tails.l1 kq l0 x3_1 t494 x5_1 (rd t494 x5_1) x7_2 x8_2 = some r) ∧ Aside0 (kq ≤ k1) ∧ Aside0 (Kd.R (Kd.int .i64) 3 w' w.heap.size (fun k_ => some k_ ≠ ((.slice (some ad497) t494.length co8) : Value).ownBlock) v492 x3_1) ∧ Aside0 (Kd.R (Kd.int .i64) 3 w' w.heap.size (fun k_ => some k_ ≠ (v492 : Value).ownBlock) (.slice (some ad497) t494.length co8) t494) ∧ Aside0 (Below w.heap.size w w'))
        case atStart => exact ⟨(0), (0), (by first | rfl | (simp; done) | (simp [*]; done)), (by first | rfl | (simp; done) | (simp [*]; done)), H', ⟨Nat.le_refl _⟩, ⟨by (with_reducible repeat (first | apply Kd.R_alloc | apply Kd.R_drewN | apply Kd.R_drew)); exact HO_3.out⟩, ⟨by (with_reducible repeat (first | apply Kd.R_alloc | apply Kd.R_drewN | apply Kd.R_drew)); exact HO_4.out⟩, ⟨by repeat (first | (with_reducible first | exact HB.out | apply below_alloc | apply pw_below_drewN | apply below_drew1) | exact HB.out)⟩⟩
        case round =>
         clear H'
         try clear c1
         try clear c2
         try clear c2b0
         try clear c2b1
         try clear p2
         try clear c3
         try clear c3b0
         try clear c3b1
         try clear p4
         try clear q4
         try clear hx4
         try clear p6
         try clear c8
         try clear c9
         try clear c9b0
         try clear c10
         try clear c10b0
         try clear c11
         try clear c11b0
         try clear hx497_0
         try clear p2
         try clear p497
         try clear p6
         try clear q497
         obtain ⟨x7_2, x8_2, rfl, rfl, HA, HK2, HO_3, HO_4, HB⟩ := hrel
         cases gk with
         | zero => exact absurd HA.out (by simp [spec_tails.l1])
         | succ k2 =>
          have H := HA.out
          clear HA
          simp only [spec_tails.l1] at H
          by_cases c12 : x8_2 < (l0.length : Int)
          ·rw [if_pos c12] at H
           have c12b0 : decide (x8_2 < (l0.length : Int)) = true := decide_eq_true c12
           clear c12
           by_cases c13 : 0 ≤ x8_2
           ·rw [if_pos c13] at H
            have c13b0 : decide (0 ≤ x8_2) = true := decide_eq_true c13
            clear c13
            replace H := Option.bind_eq_some_iff.mp H
            obtain ⟨t499, A140, H⟩ := H
            replace H : (if t499 = true then (if x8_2 < (x3_1.length : Int) then (spec_tails.l1 k2 l0 x3_1 t494 x5_1 (rd t494 x5_1) (mx x7_2 (rd x3_1 x8_2)) (wrap64 (x8_2 + 1))) else (none)) else (spec_tails.l1 k2 l0 x3_1 t494 x5_1 (rd t494 x5_1) x7_2 (wrap64 (x8_2 + 1)))) = some r := H
            have A14 := Aside0.mk A140
            clear A140
            by_cases c15 : t499 = true
            ·subst c15
             have H1 : (if x8_2 < (x3_1.length : Int) then (spec_tails.l1 k2 l0 x3_1 t494 x5_1 (rd t494 x5_1) (mx x7_2 (rd x3_1 x8_2)) (wrap64 (x8_2 + 1))) else (none)) = some r := by rw [if_pos rfl] at H; exact H
             clear H
             have H := H1
             clear H1
             by_cases c16 : x8_2 < (x3_1.length : Int)
             ·rw [if_pos c16] at H
              have c16b0 : decide (x8_2 < (x3_1.length : Int)) = true := decide_eq_true c16
              clear c16
              obtain ⟨ji17, hji17⟩ : ∃ j_ : Int, (mx x7_2 (rd x3_1 x8_2)) = j_ := ⟨_, rfl⟩
              replace H : (spec_tails.l1 k2 l0 x3_1 t494 x5_1 (rd t494 x5_1) ji17 (wrap64 (x8_2 + 1))) = some r := by first | (rw [hji17] at H; exact H) | (simp only [hji17] at H ⊢; exact H)
              (try rw [hji17] at A14)
              have hji17_ : (if x7_2 < (rd x3_1 x8_2) then (rd x3_1 x8_2) else x7_2) = ji17 := hji17
              have H' := Aside0.mk H
              clear H
              have p498 : 0 ≤ (x8_2 : Int) := of_decide_eq_true (by first | (with_reducible assumption) | assumption)
              have q498 : x8_2 < (l0.length : Int) := of_decide_eq_true (by first | (with_reducible assumption) | assumption)
              obtain ⟨ad498, A498_1, c498_1, e498, hx498_0, hx498_1, hx498_2, hx498_3, hl498_1, hi498_1⟩ := at_T39 HR0.out x8_2 p498 q498
              cases e498
              replace hx498_0 := (HB.out.cell (World.block_lt_of_cell? w _ hx498_0)).trans hx498_0
              replace hx498_1 := (HB.out.cell (World.block_lt_of_cell? w _ hx498_1)).trans hx498_1
              replace hx498_2 := (HB.out.cell (World.block_lt_of_cell? w _ hx498_2)).trans hx498_2
              replace hx498_3 := (HB.out.cell (World.block_lt_of_cell? w _ hx498_3)).trans hx498_3
              have HR498_1 := Aside0.mk hi498_1
              have HC498_1 := Aside0.mk hl498_1
              clear hi498_1 hl498_1
              replace p498 := eq_true p498
              replace q498 := eq_true q498
              go_wp2_with (first | ((with_reducible refine gate_callee (f := 45) rfl ?_); refine goesL_ (some 37) rfl rfl Tryd.func45 (by kernel_rfl) rfl #[.slice A498_1 ((rd_T39 l0 x8_2).f1).length c498_1, .int .i64 (rd t494 x5_1)] rfl (by (try simp only [List.map_toArray, List.map_cons, List.map_nil]); first | done | rfl | (simp only [List.length_drop, List.length_take]; rfl)) ?_; (with_reducible refine (spec_isIn.calls k2 _ _ ((rd_T39 l0 x8_2).f1) (rd t494 x5_1) true _ ?side1 ?side2 A14.out).mono ?_); (case side1 => repeat (first | exact (Kd.C_below HR498_1.out HB.out) | (with_reducible refine Kd.C_alloc ?_ _) | (with_reducible refine Kd.C_drewN ?_ _) | (with_reducible refine Kd.C_drew ?_))); (case side2 => exact HC498_1.out); rintro e w' ⟨rfl, ⟨nd, rfl⟩⟩; refine ⟨_, rfl, ?_⟩; obtain ⟨Ao18, co18, eo18⟩ := Kd.R_slice HO_3.out; subst eo18; have p500 : 0 ≤ (x8_2 : Int) := of_decide_eq_true (by first | (with_reducible assumption) | assumption); have q500 : x8_2 < (x3_1.length : Int) := of_decide_eq_true (by first | (with_reducible assumption) | assumption); obtain ⟨ad500, e500, hx500_0⟩ := Kd.at_int (Kd.R_reads' HO_3.out).2.2 x8_2 p500 q500; cases e500; replace p500 := eq_true p500; replace q500 := eq_true q500))
              go_roundg k2
              case measure => have := HK1.out; have := HK2.out; omega
              case rel => exact ⟨(ji17), (wrap64 (x8_2 + 1)), (by first | rfl | (simp; done) | (simp only [← hji17] <;> (first | rfl | simp)) | (simp [*]; done)), (by first | rfl | (simp; done) | (simp [*]; done)), H', ⟨by have := HK1.out; have := HK2.out; omega⟩, ⟨by (with_reducible repeat (first | apply Kd.R_alloc | apply Kd.R_drewN | apply Kd.R_drew)); exact HO_3.out⟩, ⟨by (with_reducible repeat (first | apply Kd.R_alloc | apply Kd.R_drewN | apply Kd.R_drew)); exact HO_4.out⟩, ⟨by repeat (first | (with_reducible first | exact HB.out | apply below_alloc | apply pw_below_drewN | apply below_drew1) | exact HB.out)⟩⟩
             ·rw [if_neg c16] at H
              exact absurd H (by simp)
            ·replace c15 := Bool.eq_false_iff.mpr c15
             subst c15
             have H1 : (spec_tails.l1 k2 l0 x3_1 t494 x5_1 (rd t494 x5_1) x7_2 (wrap64 (x8_2 + 1))) = some r := by rw [if_neg (show ¬ (false = true) by decide)] at H; exact H
             clear H
             have H := H1
             clear H1
             have H' := Aside0.mk H
             clear H
             have p498 : 0 ≤ (x8_2 : Int) := of_decide_eq_true (by first | (with_reducible assumption) | assumption)
             have q498 : x8_2 < (l0.length : Int) := of_decide_eq_true (by first | (with_reducible assumption) | assumption)
             obtain ⟨ad498, A498_1, c498_1, e498, hx498_0, hx498_1, hx498_2, hx498_3, hl498_1, hi498_1⟩ := at_T39 HR0.out x8_2 p498 q498
             cases e498
             replace hx498_0 := (HB.out.cell (World.block_lt_of_cell? w _ hx498_0)).trans hx498_0
             replace hx498_1 := (HB.out.cell (World.block_lt_of_cell? w _ hx498_1)).trans hx498_1
             replace hx498_2 := (HB.out.cell (World.block_lt_of_cell? w _ hx498_2)).trans hx498_2
             replace hx498_3 := (HB.out.cell (World.block_lt_of_cell? w _ hx498_3)).trans hx498_3
             have HR498_1 := Aside0.mk hi498_1
             have HC498_1 := Aside0.mk hl498_1
             clear hi498_1 hl498_1
             replace p498 := eq_true p498
             replace q498 := eq_true q498
             go_wp2_with (first | ((with_reducible refine gate_callee (f := 45) rfl ?_); refine goesL_ (some 37) rfl rfl Tryd.func45 (by kernel_rfl) rfl #[.slice A498_1 ((rd_T39 l0 x8_2).f1).length c498_1, .int .i64 (rd t494 x5_1)] rfl (by (try simp only [List.map_toArray, List.map_cons, List.map_nil]); first | done | rfl | (simp only [List.length_drop, List.length_take]; rfl)) ?_; (with_reducible refine (spec_isIn.calls k2 _ _ ((rd_T39 l0 x8_2).f1) (rd t494 x5_1) false _ ?side1 ?side2 A14.out).mono ?_); (case side1 => repeat (first | exact (Kd.C_below HR498_1.out HB.out) | (with_reducible refine Kd.C_alloc ?_ _) | (with_reducible refine Kd.C_drewN ?_ _) | (with_reducible refine Kd.C_drew ?_))); (case side2 => exact HC498_1.out); rintro e w' ⟨rfl, ⟨nd, rfl⟩⟩; refine ⟨_, rfl, ?_⟩))
             go_roundg k2
             case measure => have := HK1.out; have := HK2.out; omega
             case rel => exact ⟨(x7_2), (wrap64 (x8_2 + 1)), (by first | rfl | (simp; done) | (simp [*]; done)), (by first | rfl | (simp; done) | (simp [*]; done)), H', ⟨by have := HK1.out; have := HK2.out; omega⟩, ⟨by (with_reducible repeat (first | apply Kd.R_alloc | apply Kd.R_drewN | apply Kd.R_drew)); exact HO_3.out⟩, ⟨by (with_reducible repeat (first | apply Kd.R_alloc | apply Kd.R_drewN | apply Kd.R_drew)); exact HO_4.out⟩, ⟨by repeat (first | (with_reducible first | exact HB.out | apply below_alloc | apply pw_below_drewN | apply below_drew1) | exact HB.out)⟩⟩
           ·rw [if_neg c13] at H
            exact absurd H (by simp)
          ·rw [if_neg c12] at H
           have c12b0 : decide (x8_2 < (l0.length : Int)) = false := decide_eq_false c12
           clear c12
           by_cases c19 : 0 ≤ (rd t494 x5_1)
           ·rw [if_pos c19] at H
            have c19b0 : decide (0 ≤ (rd t494 x5_1)) = true := decide_eq_true c19
            clear c19
            by_cases c20 : (rd t494 x5_1) < (l0.length : Int)
            ·rw [if_pos c20] at H
             have c20b0 : decide ((rd t494 x5_1) < (l0.length : Int)) = true := decide_eq_true c20
             clear c20
             by_cases c21 : (rd t494 x5_1) < (x3_1.length : Int)
             ·rw [if_pos c21] at H
              have c21b0 : decide ((rd t494 x5_1) < (x3_1.length : Int)) = true := decide_eq_true c21
              clear c21
              obtain ⟨y502, hy502⟩ : ∃ y_ : List Int, y_ = (x3_1.set ((rd t494 x5_1) : Int).toNat (wrap64 (x7_2 + ((rd_T39 l0 (rd t494 x5_1)).f0)))) := ⟨_, rfl⟩
              replace H : (spec_tails.l0 k2 l0 y502 t494 (wrap64 (x5_1 - 1))) = some r := by first | (rw [hy502]; with_reducible exact H) | (have H2_ := (Option.bind_some _ _).symm.trans H; rw [hy502]; with_reducible exact H2_) | (have H2_ := (Option.bind_some _ _).symm.trans H; with_reducible exact H2_) | with_reducible exact H | (rw [hy502]; exact H) | exact H
              have Ny502 := Aside0.mk hy502
              clear hy502
              have H' := Aside0.mk H
              clear H
              have p501 : 0 ≤ ((rd t494 x5_1) : Int) := of_decide_eq_true (by first | (with_reducible assumption) | assumption)
              have q501 : (rd t494 x5_1) < (l0.length : Int) := of_decide_eq_true (by first | (with_reducible assumption) | assumption)
              obtain ⟨ad501, A501_1, c501_1, e501, hx501_0, hx501_1, hx501_2, hx501_3, hl501_1, hi501_1⟩ := at_T39 HR0.out (rd t494 x5_1) p501 q501
              cases e501
              replace hx501_0 := (HB.out.cell (World.block_lt_of_cell? w _ hx501_0)).trans hx501_0
              replace hx501_1 := (HB.out.cell (World.block_lt_of_cell? w _ hx501_1)).trans hx501_1
              replace hx501_2 := (HB.out.cell (World.block_lt_of_cell? w _ hx501_2)).trans hx501_2
              replace hx501_3 := (HB.out.cell (World.block_lt_of_cell? w _ hx501_3)).trans hx501_3
              have HR501_1 := Aside0.mk hi501_1
              have HC501_1 := Aside0.mk hl501_1
              clear hi501_1 hl501_1
              replace p501 := eq_true p501
              replace q501 := eq_true q501
              have p22 : 0 ≤ ((rd t494 x5_1) : Int) := of_decide_eq_true (by first | (with_reducible assumption) | assumption)
              have q22 : ((rd t494 x5_1) : Int) < ((x3_1.length : Int) : Int) := of_decide_eq_true (by first | (with_reducible assumption) | assumption)
              obtain ⟨go22, co22, eo22, gb22, gl22, cl22, HG22⟩ := Kd.R_form HO_3.out (by omega)
              (first | cases eo22 | (injection eo22 with ea_ en_ ec_; (first | subst ea_ | (injection ea_ with ea_; subst ea_)); subst ec_; clear en_))
              have GB22 := Aside0.mk gb22
              have GG22 := Aside0.mk HG22
              clear gb22 gl22 HG22
              obtain ⟨hx22_0, hf22_0⟩ := Kd.R_celln 0 HO_3.out ((rd t494 x5_1) : Int) p22 q22
              replace p22 := eq_true p22
              replace q22 := eq_true q22
              have HP23 := Kd.R_putg HO_3.out ((rd t494 x5_1) : Int) (wrap64 (x7_2 + ((rd_T39 l0 (rd t494 x5_1)).f0)))
              go_wp2_with (first | ((with_reducible refine gate_store (t := 3) (p := 53) rfl ?_); refine store_event (t := 3) (p := 53) (v := ?vo_w24) (w1 := (wr.setCell ⟨go22, ((rd t494 x5_1) : Int).toNat, none⟩ (.int .i64 (wrap64 (x7_2 + ((rd_T39 l0 (rd t494 x5_1)).f0)))))) ?hg ?ho ?hn ?hr ?_; (case ho => rfl); (case hg => rfl); (case hn => rfl); (case hr => first | (go_simp; done) | (go_simp; rfl)); intro w24 hw; have hg : wr.grownBy w24 (some go22) := (by rw [hw]; exact HP23.2); have hp_ : Kd.R (Kd.int .i64) 3 w24 w.heap.size (fun k_ => some k_ ≠ (.slice (some ad497) t494.length co8 : Value).ownBlock) (.slice (some ⟨go22, 0, none⟩) x3_1.length co22) y502 := (by rw [hw, Ny502.out]; exact HP23.1); clear HP23; have n0_ := Aside0.mk (hp_); have n1_ := Aside0.mk (Kd.R_after (v := (.slice (some ⟨go22, 0, none⟩) x3_1.length co22)) (v1 := (.slice (some ⟨go22, 0, none⟩) x3_1.length co22)) (ok := (fun _ => True)) (by (with_reducible repeat (first | apply Kd.R_alloc | apply Kd.R_drewN | apply Kd.R_drew)); exact Kd.R_mono HO_4.out (fun _ hk => ⟨trivial, hk⟩)) hg (.inl rfl)); have n2_ := Aside0.mk ((by rw [hw]; exact below_set (HB.out) GB22.out : Below w.heap.size w w24)); clear HO_3; clear HO_4; clear HB; have HO_3 := n0_; have HO_4 := n1_; have HB := n2_; clear n0_ n1_ n2_; clear hg hw hp_))
              go_roundg k2
              case measure => have := HK1.out; have := HK2.out; omega
              case rel => exact ⟨(y502), (wrap64 (x5_1 - 1)), (by first | rfl | (simp; done) | (simp [*]; done)), H', ⟨by have := HK1.out; have := HK2.out; omega⟩, ⟨by (with_reducible repeat (first | apply Kd.R_alloc | apply Kd.R_drewN | apply Kd.R_drew)); exact HO_3.out⟩, ⟨by (with_reducible repeat (first | apply Kd.R_alloc | apply Kd.R_drewN | apply Kd.R_drew)); exact Kd.R_mono HO_4.out (fun _ hk => hk.2)⟩, ⟨by repeat (first | (with_reducible first | exact HB.out | apply below_alloc | apply pw_below_drewN | apply below_drew1) | exact HB.out)⟩⟩
             ·rw [if_neg c21] at H
              exact absurd H (by simp)
            ·rw [if_neg c20] at H
             exact absurd H (by simp)
           ·rw [if_neg c19] at H
            exact absurd H (by simp)
       ·rw [if_neg c11] at H
        exact absurd H (by simp)
      ·rw [if_neg c10] at H
       exact absurd H (by simp)
     ·rw [if_neg c9] at H
      have c9b0 : decide (0 ≤ x5_1) = false := decide_eq_false c9
      clear c9
      obtain rfl := Option.some.inj H
      go_wp2
      go_ret
      exact ⟨_, by first | rfl | (simp [errW_none, errW_some] <;> rfl) | (simp [*, errW_none, errW_some] <;> rfl), by (with_reducible repeat (first | apply Kd.R_alloc | apply Kd.R_drewN | apply Kd.R_drew)); exact Kd.R_mono HO_3.out (fun _ hk => trivial), by repeat (first | (with_reducible first | exact HB.out | apply below_alloc | apply pw_below_drewN | apply below_drew1) | exact HB.out)⟩
  ·rw [if_neg c3] at H
   exact absurd H (by simp)
 ·rw [if_neg c2] at H
  exact absurd H (by simp)
end Go.Proofs.YtajapkjplgaigaaDoor.P
end
section
namespace Go.Proofs.YtajapkjplgaigaaDoor.P
open Go.RowKit Go.Proofs.YtajapkjplgaigaaDoorW.PrintWords Go.Proofs.YtajapkjplgaigaaDoorW.PrintLast Go.Proofs.YtajapkjplgaigaaDoorW.PrintMore
attribute [local go_sem] max2_int min2_int max_two min_two max_three min_three max_four min_four   -- for this text's walks alone
set_option linter.unusedVariables false
set_option linter.unusedSimpArgs false
def spec_timeLeft.l0 : Nat → Int → List Int → List Int → Int → Option (Int)
 | 0, _, _, _, _ => none
 | k + 1, x5, x6, x7, x8 => if x8 < (x7.length : Int) then (if 0 ≤ x8 then (if 0 ≤ (rd x7 x8) then (if (rd x7 x8) < (x6.length : Int) then (spec_timeLeft.l0 k (mx x5 (rd x6 (rd x7 x8))) x6 x7 (wrap64 (x8 + 1))) else (none)) else (none)) else (none)) else (some x5)
def spec_timeLeft.f (k : Nat) (l0 : List (S39)) (l1 : List Int) : Option (Int) := (spec_tails.f k l0).bind fun t503 => ((spec_ready.f k l0 l1).bind fun t506 => (spec_timeLeft.l0 k 0 t503 t506 0))
set_option maxHeartbeats 8000000 in
set_option maxRecDepth 100000 in
theorem spec_timeLeft.calls (k : Nat) (A0 : Option Addr) (c0 : Nat) (l0 : List (S39)) (A1 : Option Addr) (c1 : Nat) (l1 : List Int) (r : Int) (w : World) (hr0 : Kd.C k39 w A0 l0.length l0) (hc0 : l0.length ≤ c0) (hr1 : Kd.C (Kd.int .i64) w A1 l1.length l1) (hc1 : l1.length ≤ c1) (h : spec_timeLeft.f k l0 l1 = some r) :
  Calls Tryd.prog 55 #[.slice A0 l0.length c0, .slice A1 l1.length c1] w fun e w' => e = .returned (.int .i64 r) ∧ Below w.heap.size w w' := by
 have HR0 := Aside0.mk hr0
 have HC0 := Aside0.mk hc0
 clear hr0 hc0
 have HR1 := Aside0.mk hr1
 have HC1 := Aside0.mk hc1
 clear hr1 hc1
 have HB := Aside0.mk (Below.refl w.heap.size w)
 have H : ((spec_tails.f k l0).bind fun t503 => ((spec_ready.f k l0 l1).bind fun t506 => (spec_timeLeft.l0 k 0 t503 t506 0))) = some r := h
 clear h
 replace H := Option.bind_eq_some_iff.mp H
 obtain ⟨t503, A30, H⟩ := H
 replace H : ((spec_ready.f k l0 l1).bind fun t506 => (spec_timeLeft.l0 k 0 t503 t506 0)) = some r := H
 have A3 := Aside0.mk A30
 clear A30
 replace H := Option.bind_eq_some_iff.mp H
 obtain ⟨t506, A40, H⟩ := H
 replace H : (spec_timeLeft.l0 k 0 t503 t506 0) = some r := H
 have A4 := Aside0.mk A40
 clear A40
 have H' := Aside0.mk H
 clear H
 go_enter Tryd.func55, Tryd.ntmps55
 go_wp2_with (first | ((with_reducible refine gate_callee (f := 86) rfl ?_); refine goesL_ (some 10) rfl rfl Tryd.func86 (by kernel_rfl) rfl #[.slice A0 l0.length c0] rfl (by (try simp only [List.map_toArray, List.map_cons, List.map_nil]); first | done | rfl | (simp only [List.length_drop, List.length_take]; rfl)) ?_; (with_reducible refine (spec_tails.calls k _ _ l0 t503 _ ?side1 ?side2 A3.out).mono ?_); (case side1 => repeat (first | exact HR0.out | (with_reducible refine Kd.C_alloc ?_ _) | (with_reducible refine Kd.C_drewN ?_ _) | (with_reducible refine Kd.C_drew ?_))); (case side2 => exact HC0.out); rintro e w5 ⟨v504, rfl, ho0, hb⟩; refine ⟨_, rfl, ?_⟩; have n0_ := Aside0.mk (Kd.R_lower ho0 (below_size (by repeat (first | (with_reducible first | exact HB.out | apply below_alloc | apply pw_below_drewN | apply below_drew1) | exact HB.out)))); have n1_ := Aside0.mk (below_step (by repeat (first | (with_reducible first | exact HB.out | apply below_alloc | apply pw_below_drewN | apply below_drew1) | exact HB.out)) hb); clear HB; have HO505 := n0_; have HB := n1_; clear n0_ n1_; (try clear hb); (try clear hb2); (try clear hk); (try clear hi); (try clear ho0)) | ((with_reducible refine gate_callee (f := 87) rfl ?_); refine goesL_ (some 13) rfl rfl Tryd.func87 (by kernel_rfl) rfl #[.slice A0 l0.length c0, .slice A1 l1.length c1] rfl (by (try simp only [List.map_toArray, List.map_cons, List.map_nil]); first | done | rfl | (simp only [List.length_drop, List.length_take]; rfl)) ?_; (with_reducible refine (spec_ready.calls k _ _ l0 _ _ l1 t506 _ ?side1 ?side2 ?side3 ?side4 A4.out).mono ?_); (case side1 => repeat (first | exact (Kd.C_below HR0.out HB.out) | (with_reducible refine Kd.C_alloc ?_ _) | (with_reducible refine Kd.C_drewN ?_ _) | (with_reducible refine Kd.C_drew ?_))); (case side2 => exact HC0.out); (case side3 => repeat (first | exact (Kd.C_below HR1.out HB.out) | (with_reducible refine Kd.C_alloc ?_ _) | (with_reducible refine Kd.C_drewN ?_ _) | (with_reducible refine Kd.C_drew ?_))); (case side4 => exact HC1.out); rintro e w6 ⟨v507, rfl, ho0, hb⟩; refine ⟨_, rfl, ?_⟩; have n0_ := Aside0.mk (Kd.R_elder' (by (with_reducible repeat (first | apply Kd.R_alloc | apply Kd.R_drewN | apply Kd.R_drew)); exact HO505.out) (Kd.R_base ho0) hb); have n1_ := Aside0.mk (Kd.R_lower (Kd.R_new' ho0 (Kd.R_lt (by (with_reducible repeat (first | apply Kd.R_alloc | apply Kd.R_drewN | apply Kd.R_drew)); exact HO505.out))) (below_size (by repeat (first | (with_reducible first | exact HB.out | apply below_alloc | apply pw_below_drewN | apply below_drew1) | exact HB.out)))); have n2_ := Aside0.mk (below_step (by repeat (first | (with_reducible first | exact HB.out | apply below_alloc | apply pw_below_drewN | apply below_drew1) | exact HB.out)) hb); clear HO505; clear HB; have HO505 := n0_; have HO508 := n1_; have HB := n2_; clear n0_ n1_ n2_; (try clear hb); (try clear hb2); (try clear hk); (try clear hi); (try clear ho0)))
 go_loopg [5, 8] k (fun kq v5 v8 w' => ∃ (x5_1 : Int) (x8_1 : Int), v5 = .int .i64 x5_1 ∧ v8 = .int .i64 x8_1 ∧ Aside0 (spec_timeLeft.l0 kq x5_1 t503 t506 x8_1 = some r) ∧ Aside0 (kq ≤ k) ∧ Aside0 (Kd.R (Kd.int .i64) 3 w' w.heap.size (fun k_ => some k_ ≠ (v507 : Value).ownBlock) v504 t503) ∧ Aside0 (Kd.R (Kd.int .i64) 3 w' w.heap.size (fun k_ => some k_ ≠ (v504 : Value).ownBlock) v507 t506) ∧ Aside0 (Below w.heap.size w w'))
 case atStart => exact ⟨(0), (0), (by first | rfl | (simp; done) | (simp [*]; done)), (by first | rfl | (simp; done) | (simp [*]; done)), H', ⟨Nat.le_refl _⟩, ⟨by (with_reducible repeat (first | apply Kd.R_alloc | apply Kd.R_drewN | apply Kd.R_drew)); exact Kd.R_mono HO505.out (fun _ hk => hk.2)⟩, ⟨by (with_reducible repeat (first | apply Kd.R_alloc | apply Kd.R_drewN | apply Kd.R_drew)); exact Kd.R_mono HO508.out (fun _ hk => hk.2)⟩, ⟨by repeat (first | (with_reducible first | exact HB.out | apply below_alloc | apply pw_below_drewN | apply below_drew1) | exact HB.out)⟩⟩
 case round =>
  clear H'
  try clear c1
  try clear p2
  try clear c5
  obtain ⟨x5_1, x8_1, rfl, rfl, HA, HK1, HO_6, HO_7, HB⟩ := hrel
  cases gk with
  | zero => exact absurd HA.out (by simp [spec_timeLeft.l0])
  | succ k1 =>
   have H := HA.out
   clear HA
   simp only [spec_timeLeft.l0] at H
   by_cases c7 : x8_1 < (t506.length : Int)
   ·rw [if_pos c7] at H
    have c7b0 : decide (x8_1 < (t506.length : Int)) = true := decide_eq_true c7
    clear c7
    by_cases c8 : 0 ≤ x8_1
    ·rw [if_pos c8] at H
     have c8b0 : decide (0 ≤ x8_1) = true := decide_eq_true c8
     clear c8
     by_cases c9 : 0 ≤ (rd t506 x8_1)
     ·rw [if_pos c9] at H
      have c9b0 : decide (0 ≤ (rd t506 x8_1)) = true := decide_eq_true c9
      clear c9
      by_cases c10 : (rd t506 x8_1) < (t503.length : Int)
      ·rw [if_pos c10] at H
       have c10b0 : decide ((rd t506 x8_1) < (t503.length : Int)) = true := decide_eq_true c10
       clear c10
       obtain ⟨ji11, hji11⟩ : ∃ j_ : Int, (mx x5_1 (rd t503 (rd t506 x8_1))) = j_ := ⟨_, rfl⟩
       replace H : (spec_timeLeft.l0 k1 ji11 t503 t506 (wrap64 (x8_1 + 1))) = some r := by first | (rw [hji11] at H; exact H) | (simp only [hji11] at H ⊢; exact H)
       have hji11_ : (if x5_1 < (rd t503 (rd t506 x8_1)) then (rd t503 (rd t506 x8_1)) else x5_1) = ji11 := hji11
       have H' := Aside0.mk H
       clear H
       obtain ⟨Ao12, co12, eo12⟩ := Kd.R_slice HO_7.out
       subst eo12
       have p509 : 0 ≤ (x8_1 : Int) := of_decide_eq_true (by first | (with_reducible assumption) | assumption)
       have q509 : x8_1 < (t506.length : Int) := of_decide_eq_true (by first | (with_reducible assumption) | assumption)
       obtain ⟨ad509, e509, hx509_0⟩ := Kd.at_int (Kd.R_reads' HO_7.out).2.2 x8_1 p509 q509
       cases e509
       replace p509 := eq_true p509
       replace q509 := eq_true q509
       obtain ⟨Ao13, co13, eo13⟩ := Kd.R_slice HO_6.out
       subst eo13
       have p510 : 0 ≤ ((rd t506 x8_1) : Int) := of_decide_eq_true (by first | (with_reducible assumption) | assumption)
       have q510 : (rd t506 x8_1) < (t503.length : Int) := of_decide_eq_true (by first | (with_reducible assumption) | assumption)
       obtain ⟨ad510, e510, hx510_0⟩ := Kd.at_int (Kd.R_reads' HO_6.out).2.2 (rd t506 x8_1) p510 q510
       cases e510
       replace p510 := eq_true p510
       replace q510 := eq_true q510
       go_wp2
       go_roundg k1
       case measure => have := HK1.out; omega
       case rel => exact ⟨(ji11), (wrap64 (x8_1 + 1)), (by first | rfl | (simp; done) | (simp only [← hji11] <;> (first | rfl | simp)) | (simp [*]; done)), (by first | rfl | (simp; done) | (simp [*]; done)), H', ⟨by have := HK1.out; omega⟩, ⟨by (with_reducible repeat (first | apply Kd.R_alloc | apply Kd.R_drewN | apply Kd.R_drew)); exact HO_6.out⟩, ⟨by (with_reducible repeat (first | apply Kd.R_alloc | apply Kd.R_drewN | apply Kd.R_drew)); exact HO_7.out⟩, ⟨by repeat (first | (with_reducible first | exact HB.out | apply below_alloc | apply pw_below_drewN | apply below_drew1) | exact HB.out)⟩⟩
      ·rw [if_neg c10] at H
       exact absurd H (by simp)
     ·rw [if_neg c9] at H
      exact absurd H (by simp)
    ·rw [if_neg c8] at H
     exact absurd H (by simp)
   ·rw [if_neg c7] at H
    have c7b0 : decide (x8_1 < (t506.length : Int)) = false := decide_eq_false c7
    clear c7
    obtain rfl := Option.some.inj H
    obtain ⟨Ao14, co14, eo14⟩ := Kd.R_slice HO_7.out
    subst eo14
    go_wp2
    go_ret
    exact ⟨by first | rfl | (simp [errW_none, errW_some] <;> rfl) | (simp [*, errW_none, errW_some] <;> rfl), by repeat (first | (with_reducible first | exact HB.out | apply below_alloc | apply pw_below_drewN | apply below_drew1) | exact HB.out)⟩
end Go.Proofs.YtajapkjplgaigaaDoor.P
end
section
namespace Go.Proofs.YtajapkjplgaigaaDoor.P
open Go.RowKit Go.Proofs.YtajapkjplgaigaaDoorW.PrintWords Go.Proofs.YtajapkjplgaigaaDoorW.PrintLast Go.Proofs.YtajapkjplgaigaaDoorW.PrintMore
attribute [local go_sem] max2_int min2_int max_two min_two max_three min_three max_four min_four   -- for this text's walks alone
set_option linter.unusedVariables false
set_option linter.unusedSimpArgs false
def spec_TimeLeft.f (k : Nat) (l0 : List (S39)) (l1 : List Int) : Option (Int) := (spec_validDone.f k l0 l1).bind fun t511 => (if t511 = true then ((spec_timeLeft.f k l0 l1).bind fun t512 => (some t512)) else (some (-1)))
set_option maxHeartbeats 8000000 in
set_option maxRecDepth 100000 in
theorem spec_TimeLeft.calls (k : Nat) (A0 : Option Addr) (c0 : Nat) (l0 : List (S39)) (A1 : Option Addr) (c1 : Nat) (l1 : List Int) (r : Int) (w : World) (hr0 : Kd.C k39 w A0 l0.length l0) (hc0 : l0.length ≤ c0) (hr1 : Kd.C (Kd.int .i64) w A1 l1.length l1) (hc1 : l1.length ≤ c1) (h : spec_TimeLeft.f k l0 l1 = some r) :
  Calls Tryd.prog 25 #[.slice A0 l0.length c0, .slice A1 l1.length c1] w fun e w' => e = .returned (.int .i64 r) ∧ Below w.heap.size w w' := by
 have HR0 := Aside0.mk hr0
 have HC0 := Aside0.mk hc0
 clear hr0 hc0
 have HR1 := Aside0.mk hr1
 have HC1 := Aside0.mk hc1
 clear hr1 hc1
 have HB := Aside0.mk (Below.refl w.heap.size w)
 have H : ((spec_validDone.f k l0 l1).bind fun t511 => (if t511 = true then ((spec_timeLeft.f k l0 l1).bind fun t512 => (some t512)) else (some (-1)))) = some r := h
 clear h
 replace H := Option.bind_eq_some_iff.mp H
 obtain ⟨t511, A30, H⟩ := H
 replace H : (if t511 = true then ((spec_timeLeft.f k l0 l1).bind fun t512 => (some t512)) else (some (-1))) = some r := H
 have A3 := Aside0.mk A30
 clear A30
 by_cases c4 : t511 = true
 ·subst c4
  have H1 : ((spec_timeLeft.f k l0 l1).bind fun t512 => (some t512)) = some r := by rw [if_pos rfl] at H; exact H
  clear H
  have H := H1
  clear H1
  replace H := Option.bind_eq_some_iff.mp H
  obtain ⟨t512, A50, H⟩ := H
  replace H : (some t512) = some r := H
  have A5 := Aside0.mk A50
  clear A50
  obtain rfl := Option.some.inj H
  go_enter Tryd.func25, Tryd.ntmps25
  go_wp2_with (first | ((with_reducible refine gate_callee (f := 43) rfl ?_); refine goesL_ (some 7) rfl rfl Tryd.func43 (by kernel_rfl) rfl #[.slice A0 l0.length c0, .slice A1 l1.length c1] rfl (by (try simp only [List.map_toArray, List.map_cons, List.map_nil]); first | done | rfl | (simp only [List.length_drop, List.length_take]; rfl)) ?_; (with_reducible refine (spec_validDone.calls k _ _ l0 _ _ l1 true _ ?side1 ?side2 ?side3 ?side4 A3.out).mono ?_); (case side1 => repeat (first | exact HR0.out | (with_reducible refine Kd.C_alloc ?_ _) | (with_reducible refine Kd.C_drewN ?_ _) | (with_reducible refine Kd.C_drew ?_))); (case side2 => exact HC0.out); (case side3 => repeat (first | exact HR1.out | (with_reducible refine Kd.C_alloc ?_ _) | (with_reducible refine Kd.C_drewN ?_ _) | (with_reducible refine Kd.C_drew ?_))); (case side4 => exact HC1.out); rintro e w6 ⟨rfl, hb⟩; refine ⟨_, rfl, ?_⟩; have n0_ := Aside0.mk (below_step (by repeat (first | (with_reducible first | exact HB.out | apply below_alloc | apply pw_below_drewN | apply below_drew1) | exact HB.out)) hb); clear HB; have HB := n0_; clear n0_; (try clear hb); (try clear hb2); (try clear hk); (try clear hi)) | ((with_reducible refine gate_callee (f := 55) rfl ?_); refine goesL_ (some 11) rfl rfl Tryd.func55 (by kernel_rfl) rfl #[.slice A0 l0.length c0, .slice A1 l1.length c1] rfl (by (try simp only [List.map_toArray, List.map_cons, List.map_nil]); first | done | rfl | (simp only [List.length_drop, List.length_take]; rfl)) ?_; (with_reducible refine (spec_timeLeft.calls k _ _ l0 _ _ l1 t512 _ ?side1 ?side2 ?side3 ?side4 A5.out).mono ?_); (case side1 => repeat (first | exact (Kd.C_below HR0.out HB.out) | (with_reducible refine Kd.C_alloc ?_ _) | (with_reducible refine Kd.C_drewN ?_ _) | (with_reducible refine Kd.C_drew ?_))); (case side2 => exact HC0.out); (case side3 => repeat (first | exact (Kd.C_below HR1.out HB.out) | (with_reducible refine Kd.C_alloc ?_ _) | (with_reducible refine Kd.C_drewN ?_ _) | (with_reducible refine Kd.C_drew ?_))); (case side4 => exact HC1.out); rintro e w7 ⟨rfl, hb⟩; refine ⟨_, rfl, ?_⟩; have n0_ := Aside0.mk (below_step (by repeat (first | (with_reducible first | exact HB.out | apply below_alloc | apply pw_below_drewN | apply below_drew1) | exact HB.out)) hb); clear HB; have HB := n0_; clear n0_; (try clear hb); (try clear hb2); (try clear hk); (try clear hi)))
  go_ret
  exact ⟨by first | rfl | (simp [errW_none, errW_some] <;> rfl) | (simp [*, errW_none, errW_some] <;> rfl), by repeat (first | (with_reducible first | exact HB.out | apply below_alloc | apply pw_below_drewN | apply below_drew1) | exact HB.out)⟩
 ·replace c4 := Bool.eq_false_iff.mpr c4
  subst c4
  have H1 : (some (-1)) = some r := by rw [if_neg (show ¬ (false = true) by decide)] at H; exact H
  clear H
  have H := H1
  clear H1
  obtain rfl := Option.some.inj H
  go_enter Tryd.func25, Tryd.ntmps25
  go_wp2_with (first | ((with_reducible refine gate_callee (f := 43) rfl ?_); refine goesL_ (some 7) rfl rfl Tryd.func43 (by kernel_rfl) rfl #[.slice A0 l0.length c0, .slice A1 l1.length c1] rfl (by (try simp only [List.map_toArray, List.map_cons, List.map_nil]); first | done | rfl | (simp only [List.length_drop, List.length_take]; rfl)) ?_; (with_reducible refine (spec_validDone.calls k _ _ l0 _ _ l1 false _ ?side1 ?side2 ?side3 ?side4 A3.out).mono ?_); (case side1 => repeat (first | exact HR0.out | (with_reducible refine Kd.C_alloc ?_ _) | (with_reducible refine Kd.C_drewN ?_ _) | (with_reducible refine Kd.C_drew ?_))); (case side2 => exact HC0.out); (case side3 => repeat (first | exact HR1.out | (with_reducible refine Kd.C_alloc ?_ _) | (with_reducible refine Kd.C_drewN ?_ _) | (with_reducible refine Kd.C_drew ?_))); (case side4 => exact HC1.out); rintro e w8 ⟨rfl, hb⟩; refine ⟨_, rfl, ?_⟩; have n0_ := Aside0.mk (below_step (by repeat (first | (with_reducible first | exact HB.out | apply below_alloc | apply pw_below_drewN | apply below_drew1) | exact HB.out)) hb); clear HB; have HB := n0_; clear n0_; (try clear hb); (try clear hb2); (try clear hk); (try clear hi)))
  go_ret
  exact ⟨by first | rfl | (simp [errW_none, errW_some] <;> rfl) | (simp [*, errW_none, errW_some] <;> rfl), by repeat (first | (with_reducible first | exact HB.out | apply below_alloc | apply pw_below_drewN | apply below_drew1) | exact HB.out)⟩
end Go.Proofs.YtajapkjplgaigaaDoor.P
end
section
namespace Go.Proofs.YtajapkjplgaigaaDoor.P
open Go.RowKit Go.Proofs.YtajapkjplgaigaaDoorW.PrintWords Go.Proofs.YtajapkjplgaigaaDoorW.PrintLast Go.Proofs.YtajapkjplgaigaaDoorW.PrintMore
attribute [local go_sem] max2_int min2_int max_two min_two max_three min_three max_four min_four   -- for this text's walks alone
set_option linter.unusedVariables false
set_option linter.unusedSimpArgs false
mutual
def laws_FnTimeLeftLeast.j0 : Nat → List (S39) → List Int → Int → Bool → Option (Bool)
 | 0, _, _, _, _ => none
 | k + 1, x3, x4, x5, x27 => if x27 = true then ((spec_TimeLeft.f k x3 x4).bind fun t521 => (some (x5 == t521))) else (laws_FnTimeLeftLeast.l0 k x3 x4 x5 0 0)
def laws_FnTimeLeftLeast.l0 : Nat → List (S39) → List Int → Int → Int → Int → Option (Bool)
 | 0, _, _, _, _, _ => none
 | k + 1, x3, x4, x5, x6, x7 => if x7 < (x3.length : Int) then ((laws_isIn.f k x4 x7).bind fun t522 => (if t522 = true then (laws_FnTimeLeftLeast.l0 k x3 x4 x5 x6 (wrap64 (x7 + 1))) else (if 0 ≤ x7 then (laws_FnTimeLeftLeast.l0 k x3 x4 x5 (wrap64 (x6 + ((rd_T39 x3 x7).f0))) (wrap64 (x7 + 1))) else (none)))) else (some (decide (x5 ≤ x6)))
end
def laws_FnTimeLeftLeast.f (k : Nat) (l0 : List Int) : Option (Bool) := if (l0.length : Int) > 1048576 then (some true) else ((spec_DrawTimeLeft.f k l0).bind fun bt513 => ((impl_TimeLeft.f bt513.1 bt513.2).bind fun t519 => ((spec_TimeLeft.f k bt513.1 bt513.2).bind fun t520 => (if t519 = t520 then (laws_FnTimeLeftLeast.j0 k bt513.1 bt513.2 t519 (decide (t519 < 0))) else (laws_FnTimeLeftLeast.j0 k bt513.1 bt513.2 t519 true)))))
set_option maxHeartbeats 8000000 in
set_option maxRecDepth 100000 in
theorem laws_FnTimeLeftLeast.calls (k : Nat) (A0 : Option Addr) (c0 : Nat) (l0 : List Int) (r : Bool) (w : World) (hr0 : Kd.C (Kd.int .u8) w A0 l0.length l0) (hc0 : l0.length ≤ c0) (h : laws_FnTimeLeftLeast.f k l0 = some r) (hTab0 : TabOK w) :
  Calls Tryd.prog 5 #[.slice A0 l0.length c0] w fun e w' => e = .returned (.bool r) ∧ Below w.heap.size w w' := by
 have hTab := Aside0.mk hTab0
 clear hTab0
 have HR0 := Aside0.mk hr0
 have HC0 := Aside0.mk hc0
 clear hr0 hc0
 have HB := Aside0.mk (Below.refl w.heap.size w)
 have H : (if (l0.length : Int) > 1048576 then (some true) else ((spec_DrawTimeLeft.f k l0).bind fun bt513 => ((impl_TimeLeft.f bt513.1 bt513.2).bind fun t519 => ((spec_TimeLeft.f k bt513.1 bt513.2).bind fun t520 => (if t519 = t520 then (laws_FnTimeLeftLeast.j0 k bt513.1 bt513.2 t519 (decide (t519 < 0))) else (laws_FnTimeLeftLeast.j0 k bt513.1 bt513.2 t519 true)))))) = some r := h
 clear h
 by_cases c2 : (l0.length : Int) > 1048576
 ·rw [if_pos c2] at H
  have c2b0 : decide (1048576 < (l0.length : Int)) = true := decide_eq_true c2
  have c2b1 : decide (1048576 < l0.length) = true := decide_eq_true (by omega)
  clear c2
  obtain rfl := Option.some.inj H
  go_enter Tryd.func5, Tryd.ntmps5
  go_wp2
  go_ret
  exact ⟨by first | rfl | (simp [errW_none, errW_some] <;> rfl) | (simp [*, errW_none, errW_some] <;> rfl), by repeat (first | (with_reducible first | exact HB.out | apply below_alloc | apply pw_below_drewN | apply below_drew1) | exact HB.out)⟩
 ·rw [if_neg c2] at H
  have c2b0 : decide (1048576 < (l0.length : Int)) = false := decide_eq_false c2
  have c2b1 : decide (1048576 < l0.length) = false := decide_eq_false (by omega)
  clear c2
  replace H := Option.bind_eq_some_iff.mp H
  obtain ⟨⟨t513, t516⟩, A30, H⟩ := H
  replace H : ((impl_TimeLeft.f t513 t516).bind fun t519 => ((spec_TimeLeft.f k t513 t516).bind fun t520 => (if t519 = t520 then (laws_FnTimeLeftLeast.j0 k t513 t516 t519 (decide (t519 < 0))) else (laws_FnTimeLeftLeast.j0 k t513 t516 t519 true)))) = some r := H
  have A3 := Aside0.mk A30
  clear A30
  replace H := Option.bind_eq_some_iff.mp H
  obtain ⟨t519, A40, H⟩ := H
  replace H : ((spec_TimeLeft.f k t513 t516).bind fun t520 => (if t519 = t520 then (laws_FnTimeLeftLeast.j0 k t513 t516 t519 (decide (t519 < 0))) else (laws_FnTimeLeftLeast.j0 k t513 t516 t519 true))) = some r := H
  have A4 := Aside0.mk A40
  clear A40
  have HC5 := Aside0.mk H
  clear H
  go_enter Tryd.func5, Tryd.ntmps5
  go_upto_region 5 with (first | ((with_reducible refine gate_callee (f := 23) rfl ?_); refine goesL_ (some 13) rfl rfl Tryd.func23 (by kernel_rfl) rfl #[.slice A0 l0.length c0] rfl (by (try simp only [List.map_toArray, List.map_cons, List.map_nil]); first | done | rfl | (simp only [List.length_drop, List.length_take]; rfl)) ?_; (with_reducible refine (spec_DrawTimeLeft.calls k _ _ l0 t513 t516 _ ?side1 ?side2 A3.out).mono ?_); (case side1 => repeat (first | exact HR0.out | (with_reducible refine Kd.C_alloc ?_ _) | (with_reducible refine Kd.C_drewN ?_ _) | (with_reducible refine Kd.C_drew ?_))); (case side2 => exact HC0.out); rintro e w6 ⟨v514, v517, rfl, ho0, ho1, hb⟩; refine ⟨_, rfl, ?_⟩; have n0_ := Aside0.mk (Kd.N_lower (Kd.N_mono (ok' := fun k_ => some k_ ≠ (v517 : Value).ownBlock) ho0 (fun k_ hk_ => hk_.2)) (below_size (by repeat (first | (with_reducible first | exact HB.out | apply below_alloc | apply pw_below_drewN | apply below_drew1) | exact HB.out)))); have n1_ := Aside0.mk (Kd.Q_lower (Kd.Q_mono (ok' := fun k_ => True) ho1 (fun _ hk_ => trivial)) (below_size (by repeat (first | (with_reducible first | exact HB.out | apply below_alloc | apply pw_below_drewN | apply below_drew1) | exact HB.out)))); have n2_ := Aside0.mk (below_step (by repeat (first | (with_reducible first | exact HB.out | apply below_alloc | apply pw_below_drewN | apply below_drew1) | exact HB.out)) hb); clear HB; have HO515 := n0_; have HO518 := n1_; have HB := n2_; clear n0_ n1_ n2_; (try clear hb); (try clear hb2); (try clear hk); (try clear hi); (try clear ho0); (try clear ho1); obtain ⟨Ao7, co7, eo7⟩ := Kd.N_slice HO515.out; subst eo7; obtain ⟨Ao8, co8, eo8, _⟩ := Kd.Q_slice HO518.out; subst eo8) | ((with_reducible refine gate_callee (f := 24) rfl ?_); refine goesL_ (some 18) rfl rfl Tryd.func24 (by kernel_rfl) rfl #[.slice Ao7 t513.length co7, .slice Ao8 t516.length co8] rfl (by (try simp only [List.map_toArray, List.map_cons, List.map_nil]); first | done | rfl | (simp only [List.length_drop, List.length_take]; rfl)) ?_; (with_reducible refine (impl_TimeLeft.calls _ _ t513 _ _ t516 t519 _ ?side1 ?side2 ?side3 ?side4 A4.out ?sideTab).mono ?_); (case sideTab => exact TabOK.below hTab.out (by repeat (first | (with_reducible first | exact HB.out | apply below_alloc | apply pw_below_drewN | apply below_drew1) | exact HB.out))); (case side1 => repeat (first | exact (Kd.N_reads' HO515.out).2.2 | (with_reducible refine Kd.C_alloc ?_ _) | (with_reducible refine Kd.C_drewN ?_ _) | (with_reducible refine Kd.C_drew ?_))); (case side2 => exact (Kd.N_reads' HO515.out).2.1); (case side3 => repeat (first | exact (Kd.Q_reads' HO518.out).2.2 | (with_reducible refine Kd.C_alloc ?_ _) | (with_reducible refine Kd.C_drewN ?_ _) | (with_reducible refine Kd.C_drew ?_))); (case side4 => exact (Kd.Q_reads' HO518.out).2.1); rintro e w9 ⟨rfl, hb⟩; refine ⟨_, rfl, ?_⟩; have n0_ := Aside0.mk (Kd.N_below (by (with_reducible repeat (first | apply Kd.N_alloc | apply Kd.N_drewN | apply Kd.N_drew)); exact HO515.out) hb); have n1_ := Aside0.mk (Kd.Q_below (by (with_reducible repeat (first | apply Kd.Q_alloc | apply Kd.Q_drewN | apply Kd.Q_drew)); exact HO518.out) hb); have n2_ := Aside0.mk (below_step (by repeat (first | (with_reducible first | exact HB.out | apply below_alloc | apply pw_below_drewN | apply below_drew1) | exact HB.out)) hb); clear HO515; clear HO518; clear HB; have HO515 := n0_; have HO518 := n1_; have HB := n2_; clear n0_ n1_ n2_; (try clear hb); (try clear hb2); (try clear hk); (try clear hi)))
  (try simp only [Act.put, List.setIfInBounds_toArray, List.set_cons_zero, List.set_cons_succ])
  go_cut [27] (fun v27 wc => ∃ (kq : Nat) (x27_4 : Bool), v27 = .bool x27_4 ∧ Aside0 (laws_FnTimeLeftLeast.j0 kq t513 t516 t519 x27_4 = some r) ∧ Aside0 (kq ≤ k) ∧ Aside0 (Kd.N k39 39 wc w.heap.size (fun k_ => some k_ ≠ ((.slice Ao8 t516.length co8) : Value).ownBlock) (.slice Ao7 t513.length co7) t513) ∧ Aside0 (Kd.Q (Kd.int .i64) 3 wc w.heap.size (fun _ => True) (.slice Ao8 t516.length co8) t516) ∧ Aside0 (Below w.heap.size w wc))
  case first =>
   have H := HC5.out
   clear HC5
   replace H := Option.bind_eq_some_iff.mp H
   obtain ⟨t520, A100, H⟩ := H
   replace H : (if t519 = t520 then (laws_FnTimeLeftLeast.j0 k t513 t516 t519 (decide (t519 < 0))) else (laws_FnTimeLeftLeast.j0 k t513 t516 t519 true)) = some r := H
   have A10 := Aside0.mk A100
   clear A100
   by_cases c11 : t519 = t520
   ·rw [if_pos c11] at H
    have c11b0 : (t519 == t520) = true := beq_iff_eq.mpr c11
    have c11b1 : (t519 != t520) = false := bne_eq_false_iff_eq.mpr c11
    clear c11
    (first | rw [c11b0] | (simp only [i64_w, i32_w]; rw [c11b0]) | skip)
    have H' := Aside0.mk H
    clear H
    go_wp2_with (first | ((with_reducible refine gate_callee (f := 25) rfl ?_); refine goesL_ (some 22) rfl rfl Tryd.func25 (by kernel_rfl) rfl #[.slice Ao7 t513.length co7, .slice Ao8 t516.length co8] rfl (by (try simp only [List.map_toArray, List.map_cons, List.map_nil]); first | done | rfl | (simp only [List.length_drop, List.length_take]; rfl)) ?_; (with_reducible refine (spec_TimeLeft.calls k _ _ t513 _ _ t516 t520 _ ?side1 ?side2 ?side3 ?side4 A10.out).mono ?_); (case side1 => repeat (first | exact (Kd.N_reads' HO515.out).2.2 | (with_reducible refine Kd.C_alloc ?_ _) | (with_reducible refine Kd.C_drewN ?_ _) | (with_reducible refine Kd.C_drew ?_))); (case side2 => exact (Kd.N_reads' HO515.out).2.1); (case side3 => repeat (first | exact (Kd.Q_reads' HO518.out).2.2 | (with_reducible refine Kd.C_alloc ?_ _) | (with_reducible refine Kd.C_drewN ?_ _) | (with_reducible refine Kd.C_drew ?_))); (case side4 => exact (Kd.Q_reads' HO518.out).2.1); rintro e w12 ⟨rfl, hb⟩; refine ⟨_, rfl, ?_⟩; have n0_ := Aside0.mk (Kd.N_below (by (with_reducible repeat (first | apply Kd.N_alloc | apply Kd.N_drewN | apply Kd.N_drew)); exact HO515.out) hb); have n1_ := Aside0.mk (Kd.Q_below (by (with_reducible repeat (first | apply Kd.Q_alloc | apply Kd.Q_drewN | apply Kd.Q_drew)); exact HO518.out) hb); have n2_ := Aside0.mk (below_step (by repeat (first | (with_reducible first | exact HB.out | apply below_alloc | apply pw_below_drewN | apply below_drew1) | exact HB.out)) hb); clear HO515; clear HO518; clear HB; have HO515 := n0_; have HO518 := n1_; have HB := n2_; clear n0_ n1_ n2_; (try clear hb); (try clear hb2); (try clear hk); (try clear hi)))
    go_meet
    case rel => exact ⟨_, (decide (t519 < 0)), (by first | rfl | (simp; done) | (simp [*]; done)), H', ⟨by first | omega | exact Nat.le_refl _⟩, ⟨by (with_reducible repeat (first | apply Kd.N_alloc | apply Kd.N_drewN | apply Kd.N_drew)); exact HO515.out⟩, ⟨by (with_reducible repeat (first | apply Kd.Q_alloc | apply Kd.Q_drewN | apply Kd.Q_drew)); exact HO518.out⟩, ⟨by repeat (first | (with_reducible first | exact HB.out | apply below_alloc | apply pw_below_drewN | apply below_drew1) | exact HB.out)⟩⟩
   ·rw [if_neg c11] at H
    have c11b0 : (t519 == t520) = false := beq_eq_false_iff_ne.mpr c11
    have c11b1 : (t519 != t520) = true := bne_iff_ne.mpr c11
    (first | rw [c11b0] | (simp only [i64_w, i32_w]; rw [c11b0]) | skip)
    have H' := Aside0.mk H
    clear H
    go_wp2_with (first | ((with_reducible refine gate_callee (f := 25) rfl ?_); refine goesL_ (some 22) rfl rfl Tryd.func25 (by kernel_rfl) rfl #[.slice Ao7 t513.length co7, .slice Ao8 t516.length co8] rfl (by (try simp only [List.map_toArray, List.map_cons, List.map_nil]); first | done | rfl | (simp only [List.length_drop, List.length_take]; rfl)) ?_; (with_reducible refine (spec_TimeLeft.calls k _ _ t513 _ _ t516 t520 _ ?side1 ?side2 ?side3 ?side4 A10.out).mono ?_); (case side1 => repeat (first | exact (Kd.N_reads' HO515.out).2.2 | (with_reducible refine Kd.C_alloc ?_ _) | (with_reducible refine Kd.C_drewN ?_ _) | (with_reducible refine Kd.C_drew ?_))); (case side2 => exact (Kd.N_reads' HO515.out).2.1); (case side3 => repeat (first | exact (Kd.Q_reads' HO518.out).2.2 | (with_reducible refine Kd.C_alloc ?_ _) | (with_reducible refine Kd.C_drewN ?_ _) | (with_reducible refine Kd.C_drew ?_))); (case side4 => exact (Kd.Q_reads' HO518.out).2.1); rintro e w13 ⟨rfl, hb⟩; refine ⟨_, rfl, ?_⟩; have n0_ := Aside0.mk (Kd.N_below (by (with_reducible repeat (first | apply Kd.N_alloc | apply Kd.N_drewN | apply Kd.N_drew)); exact HO515.out) hb); have n1_ := Aside0.mk (Kd.Q_below (by (with_reducible repeat (first | apply Kd.Q_alloc | apply Kd.Q_drewN | apply Kd.Q_drew)); exact HO518.out) hb); have n2_ := Aside0.mk (below_step (by repeat (first | (with_reducible first | exact HB.out | apply below_alloc | apply pw_below_drewN | apply below_drew1) | exact HB.out)) hb); clear HO515; clear HO518; clear HB; have HO515 := n0_; have HO518 := n1_; have HB := n2_; clear n0_ n1_ n2_; (try clear hb); (try clear hb2); (try clear hk); (try clear hi)))
    go_meet
    case rel => exact ⟨_, (true), (by first | rfl | (simp; done) | (simp [*]; done)), H', ⟨by first | omega | exact Nat.le_refl _⟩, ⟨by (with_reducible repeat (first | apply Kd.N_alloc | apply Kd.N_drewN | apply Kd.N_drew)); exact HO515.out⟩, ⟨by (with_reducible repeat (first | apply Kd.Q_alloc | apply Kd.Q_drewN | apply Kd.Q_drew)); exact HO518.out⟩, ⟨by repeat (first | (with_reducible first | exact HB.out | apply below_alloc | apply pw_below_drewN | apply below_drew1) | exact HB.out)⟩⟩
  case rest =>
   clear HC5
   try clear c1
   try clear c2
   try clear c2b0
   try clear c2b1
   try clear p2
   try clear c5
   try clear c11
   try clear c11b0
   try clear c11b1
   obtain ⟨kq, x27_4, rfl, HA, HJ4, HO_3, HO_4, HB⟩ := hcut
   cases kq with
   | zero => exact absurd HA.out (by simp [laws_FnTimeLeftLeast.j0])
   | succ kj4 =>
    have H := HA.out
    clear HA
    simp only [laws_FnTimeLeftLeast.j0] at H
    by_cases c14 : x27_4 = true
    ·subst c14
     have H1 : ((spec_TimeLeft.f kj4 t513 t516).bind fun t521 => (some (t519 == t521))) = some r := by rw [if_pos rfl] at H; exact H
     clear H
     have H := H1
     clear H1
     replace H := Option.bind_eq_some_iff.mp H
     obtain ⟨t521, A150, H⟩ := H
     replace H : (some (t519 == t521)) = some r := H
     have A15 := Aside0.mk A150
     clear A150
     obtain rfl := Option.some.inj H
     go_wp2_with (first | ((with_reducible refine gate_callee (f := 25) rfl ?_); refine goesL_ (some 31) rfl rfl Tryd.func25 (by kernel_rfl) rfl #[.slice Ao7 t513.length co7, .slice Ao8 t516.length co8] rfl (by (try simp only [List.map_toArray, List.map_cons, List.map_nil]); first | done | rfl | (simp only [List.length_drop, List.length_take]; rfl)) ?_; (with_reducible refine (spec_TimeLeft.calls kj4 _ _ t513 _ _ t516 t521 _ ?side1 ?side2 ?side3 ?side4 A15.out).mono ?_); (case side1 => repeat (first | exact (Kd.N_reads' HO_3.out).2.2 | (with_reducible refine Kd.C_alloc ?_ _) | (with_reducible refine Kd.C_drewN ?_ _) | (with_reducible refine Kd.C_drew ?_))); (case side2 => exact (Kd.N_reads' HO_3.out).2.1); (case side3 => repeat (first | exact (Kd.Q_reads' HO_4.out).2.2 | (with_reducible refine Kd.C_alloc ?_ _) | (with_reducible refine Kd.C_drewN ?_ _) | (with_reducible refine Kd.C_drew ?_))); (case side4 => exact (Kd.Q_reads' HO_4.out).2.1); rintro e w16 ⟨rfl, hb⟩; refine ⟨_, rfl, ?_⟩; have n0_ := Aside0.mk (Kd.N_below (by (with_reducible repeat (first | apply Kd.N_alloc | apply Kd.N_drewN | apply Kd.N_drew)); exact HO_3.out) hb); have n1_ := Aside0.mk (Kd.Q_below (by (with_reducible repeat (first | apply Kd.Q_alloc | apply Kd.Q_drewN | apply Kd.Q_drew)); exact HO_4.out) hb); have n2_ := Aside0.mk (below_step (by repeat (first | (with_reducible first | exact HB.out | apply below_alloc | apply pw_below_drewN | apply below_drew1) | exact HB.out)) hb); clear HO_3; clear HO_4; clear HB; have HO_3 := n0_; have HO_4 := n1_; have HB := n2_; clear n0_ n1_ n2_; (try clear hb); (try clear hb2); (try clear hk); (try clear hi)))
     go_ret
     exact ⟨by first | rfl | (simp [errW_none, errW_some] <;> rfl) | (simp [*, errW_none, errW_some] <;> rfl), by repeat (first | (with_reducible first | exact HB.out | apply below_alloc | apply pw_below_drewN | apply below_drew1) | exact HB.out)⟩
    ·replace c14 := Bool.eq_false_iff.mpr c14
     subst c14
     have H1 : (laws_FnTimeLeftLeast.l0 kj4 t513 t516 t519 0 0) = some r := by rw [if_neg (show ¬ (false = true) by decide)] at H; exact H
     clear H
     have H := H1
     clear H1
     have H' := Aside0.mk H
     clear H
     go_wp2
     go_loopg [6, 7] kj4 (fun kq v6 v7 w' => ∃ (x6_2 : Int) (x7_2 : Int), v6 = .int .i64 x6_2 ∧ v7 = .int .i64 x7_2 ∧ Aside0 (laws_FnTimeLeftLeast.l0 kq t513 t516 t519 x6_2 x7_2 = some r) ∧ Aside0 (kq ≤ kj4) ∧ Aside0 (Kd.N k39 39 w' w.heap.size (fun k_ => some k_ ≠ ((.slice Ao8 t516.length co8) : Value).ownBlock) (.slice Ao7 t513.length co7) t513) ∧ Aside0 (Kd.Q (Kd.int .i64) 3 w' w.heap.size (fun _ => True) (.slice Ao8 t516.length co8) t516) ∧ Aside0 (Below w.heap.size w w'))
     case atStart => exact ⟨(0), (0), (by first | rfl | (simp; done) | (simp [*]; done)), (by first | rfl | (simp; done) | (simp [*]; done)), H', ⟨Nat.le_refl _⟩, ⟨by (with_reducible repeat (first | apply Kd.N_alloc | apply Kd.N_drewN | apply Kd.N_drew)); exact HO_3.out⟩, ⟨by (with_reducible repeat (first | apply Kd.Q_alloc | apply Kd.Q_drewN | apply Kd.Q_drew)); exact HO_4.out⟩, ⟨by repeat (first | (with_reducible first | exact HB.out | apply below_alloc | apply pw_below_drewN | apply below_drew1) | exact HB.out)⟩⟩
     case round =>
      clear H'
      try clear c1
      try clear c2
      try clear c2b0
      try clear c2b1
      try clear p2
      try clear c5
      try clear c11
      try clear c11b0
      try clear c11b1
      try clear c14
      try clear p2
      obtain ⟨x6_2, x7_2, rfl, rfl, HA, HK2, HO_3, HO_4, HB⟩ := hrel
      cases gk with
      | zero => exact absurd HA.out (by simp [laws_FnTimeLeftLeast.l0])
      | succ k2 =>
       have H := HA.out
       clear HA
       simp only [laws_FnTimeLeftLeast.l0] at H
       by_cases c17 : x7_2 < (t513.length : Int)
       ·rw [if_pos c17] at H
        have c17b0 : decide (x7_2 < (t513.length : Int)) = true := decide_eq_true c17
        clear c17
        replace H := Option.bind_eq_some_iff.mp H
        obtain ⟨t522, A180, H⟩ := H
        replace H : (if t522 = true then (laws_FnTimeLeftLeast.l0 k2 t513 t516 t519 x6_2 (wrap64 (x7_2 + 1))) else (if 0 ≤ x7_2 then (laws_FnTimeLeftLeast.l0 k2 t513 t516 t519 (wrap64 (x6_2 + ((rd_T39 t513 x7_2).f0))) (wrap64 (x7_2 + 1))) else (none))) = some r := H
        have A18 := Aside0.mk A180
        clear A180
        by_cases c19 : t522 = true
        ·subst c19
         have H1 : (laws_FnTimeLeftLeast.l0 k2 t513 t516 t519 x6_2 (wrap64 (x7_2 + 1))) = some r := by rw [if_pos rfl] at H; exact H
         clear H
         have H := H1
         clear H1
         have H' := Aside0.mk H
         clear H
         go_wp2_with (first | ((with_reducible refine gate_callee (f := 22) rfl ?_); refine goesL_ (some 41) rfl rfl Tryd.func22 (by kernel_rfl) rfl #[.slice Ao8 t516.length co8, .int .i64 x7_2] rfl (by (try simp only [List.map_toArray, List.map_cons, List.map_nil]); first | done | rfl | (simp only [List.length_drop, List.length_take]; rfl)) ?_; (with_reducible refine (laws_isIn.calls k2 _ _ t516 x7_2 true _ ?side1 ?side2 A18.out).mono ?_); (case side1 => repeat (first | exact (Kd.Q_reads' HO_4.out).2.2 | (with_reducible refine Kd.C_alloc ?_ _) | (with_reducible refine Kd.C_drewN ?_ _) | (with_reducible refine Kd.C_drew ?_))); (case side2 => exact (Kd.Q_reads' HO_4.out).2.1); rintro e w' ⟨rfl, ⟨nd, rfl⟩⟩; refine ⟨_, rfl, ?_⟩))
         go_roundg k2
         case measure => have := HJ4.out; have := HK2.out; omega
         case rel => exact ⟨(x6_2), (wrap64 (x7_2 + 1)), (by first | rfl | (simp; done) | (simp [*]; done)), (by first | rfl | (simp; done) | (simp [*]; done)), H', ⟨by have := HJ4.out; have := HK2.out; omega⟩, ⟨by (with_reducible repeat (first | apply Kd.N_alloc | apply Kd.N_drewN | apply Kd.N_drew)); exact HO_3.out⟩, ⟨by (with_reducible repeat (first | apply Kd.Q_alloc | apply Kd.Q_drewN | apply Kd.Q_drew)); exact HO_4.out⟩, ⟨by repeat (first | (with_reducible first | exact HB.out | apply below_alloc | apply pw_below_drewN | apply below_drew1) | exact HB.out)⟩⟩
        ·replace c19 := Bool.eq_false_iff.mpr c19
         subst c19
         have H1 : (if 0 ≤ x7_2 then (laws_FnTimeLeftLeast.l0 k2 t513 t516 t519 (wrap64 (x6_2 + ((rd_T39 t513 x7_2).f0))) (wrap64 (x7_2 + 1))) else (none)) = some r := by rw [if_neg (show ¬ (false = true) by decide)] at H; exact H
         clear H
         have H := H1
         clear H1
         by_cases c20 : 0 ≤ x7_2
         ·rw [if_pos c20] at H
          have c20b0 : decide (0 ≤ x7_2) = true := decide_eq_true c20
          clear c20
          have H' := Aside0.mk H
          clear H
          go_wp2_with (first | ((with_reducible refine gate_callee (f := 22) rfl ?_); refine goesL_ (some 41) rfl rfl Tryd.func22 (by kernel_rfl) rfl #[.slice Ao8 t516.length co8, .int .i64 x7_2] rfl (by (try simp only [List.map_toArray, List.map_cons, List.map_nil]); first | done | rfl | (simp only [List.length_drop, List.length_take]; rfl)) ?_; (with_reducible refine (laws_isIn.calls k2 _ _ t516 x7_2 false _ ?side1 ?side2 A18.out).mono ?_); (case side1 => repeat (first | exact (Kd.Q_reads' HO_4.out).2.2 | (with_reducible refine Kd.C_alloc ?_ _) | (with_reducible refine Kd.C_drewN ?_ _) | (with_reducible refine Kd.C_drew ?_))); (case side2 => exact (Kd.Q_reads' HO_4.out).2.1); rintro e w' ⟨rfl, ⟨nd, rfl⟩⟩; refine ⟨_, rfl, ?_⟩; have p523 : 0 ≤ (x7_2 : Int) := of_decide_eq_true (by first | (with_reducible assumption) | assumption); have q523 : x7_2 < (t513.length : Int) := of_decide_eq_true (by first | (with_reducible assumption) | assumption); obtain ⟨ad523, A523_1, c523_1, e523, hx523_0, hx523_1, hx523_2, hx523_3, hl523_1, hi523_1⟩ := at_T39 (Kd.N_reads' HO_3.out).2.2 x7_2 p523 q523; cases e523; obtain ⟨ce523, hce523, hMe523, hcc523⟩ := Kd.N_get HO_3.out z39 x7_2 p523 (by first | exact q523 | exact of_decide_eq_true (by first | (with_reducible assumption) | assumption) | (have e_ := (Kd.N_reads' HO_3.out).1; omega)); obtain ⟨ua523_1, uc523_1, rfl, ul523_1, ge523_1⟩ := k39_openF hMe523; have hv523_1 := hcc523 1 _ rfl; rw [add_field _ _ 1 (by omega)] at hv523_1; replace hv523_1 := Option.some.inj (hv523_1.symm.trans hx523_1); injection hv523_1 with hva_ hvn_ hvc_; rw [hva_] at ge523_1; rw [hvc_] at ul523_1; have HL523_1 := Aside0.mk (show Kd.V (Kd.int .i64) 3 _ w.heap.size _ _ ((rd_T39 t513 x7_2).f1) from Kd.V_mk ul523_1 ge523_1); clear hva_ hvn_ hvc_ ge523_1 ul523_1; clear hcc523 hce523; have HR523_1 := Aside0.mk hi523_1; have HC523_1 := Aside0.mk hl523_1; clear hi523_1 hl523_1; replace p523 := eq_true p523; replace q523 := eq_true q523))
          go_roundg k2
          case measure => have := HJ4.out; have := HK2.out; omega
          case rel => exact ⟨(wrap64 (x6_2 + ((rd_T39 t513 x7_2).f0))), (wrap64 (x7_2 + 1)), (by first | rfl | (simp; done) | (simp [*]; done)), (by first | rfl | (simp; done) | (simp [*]; done)), H', ⟨by have := HJ4.out; have := HK2.out; omega⟩, ⟨by (with_reducible repeat (first | apply Kd.N_alloc | apply Kd.N_drewN | apply Kd.N_drew)); exact HO_3.out⟩, ⟨by (with_reducible repeat (first | apply Kd.Q_alloc | apply Kd.Q_drewN | apply Kd.Q_drew)); exact HO_4.out⟩, ⟨by repeat (first | (with_reducible first | exact HB.out | apply below_alloc | apply pw_below_drewN | apply below_drew1) | exact HB.out)⟩⟩
         ·rw [if_neg c20] at H
          exact absurd H (by simp)
       ·rw [if_neg c17] at H
        have c17b0 : decide (x7_2 < (t513.length : Int)) = false := decide_eq_false c17
        clear c17
        obtain rfl := Option.some.inj H
        go_wp2
        go_ret
        exact ⟨by first | rfl | (simp [errW_none, errW_some] <;> rfl) | (simp [*, errW_none, errW_some] <;> rfl), by repeat (first | (with_reducible first | exact HB.out | apply below_alloc | apply pw_below_drewN | apply below_drew1) | exact HB.out)⟩
def laws_FnTimeLeftLeast.Pure : Prop := ∀ (l0 : List Int), l0.length ≤ maxLen → l0.length * 1 ≤ 140737488351232 → (∀ x ∈ l0, (Lit.int .u8 x).wf = true) → ∃ k, laws_FnTimeLeftLeast.f k l0 = some true
theorem laws_FnTimeLeftLeast.walk (P : laws_FnTimeLeftLeast.Pure) (a0 : Option Addr) (len0 cap0 : Nat) (z0 : List Int) (w : World) (w0 : (a0 = none ∧ len0 = 0 ∧ cap0 = 0 ∧ z0 = []) ∨ ∃ x, a0 = some x ∧ len0 ≤ cap0 ∧ cap0 ≤ maxLen ∧ z0.length = cap0 ∧ (∀ i, i < z0.length → w.cell? (x.add i) = some (.int .u8 (z0.getD i 0))) ∧ ∀ n ∈ z0, (Lit.int .u8 n).wf = true) (y0 : len0 * 1 ≤ 140737488351232) (hTab0 : TabOK w) :
  Calls Tryd.prog 5 #[.slice a0 len0 cap0] w fun e w' => e = .returned (.bool true) ∧ Below w.heap.size w w' := by
 obtain ⟨l0, rfl, hr0, hm0, hw0, hc0⟩ := ReadsInt.ofRowC w0
 obtain ⟨k, h⟩ := P l0 hm0 y0 hw0
 refine (laws_FnTimeLeftLeast.calls k _ _ l0 true w (Kd.C_of_reads (d := (0 : Int)) (h1 := fun _ => rfl) hr0) hc0 h hTab0).mono ?_
 rintro e w' ⟨rfl, hd⟩
 exact ⟨rfl, hd⟩
end Go.Proofs.YtajapkjplgaigaaDoor.P
end
section
namespace Go.Proofs.YtajapkjplgaigaaDoor.P
open Go.RowKit Go.Proofs.YtajapkjplgaigaaDoorW.PrintWords Go.Proofs.YtajapkjplgaigaaDoorW.PrintLast Go.Proofs.YtajapkjplgaigaaDoorW.PrintMore
set_option linter.unusedVariables false
set_option linter.unusedSimpArgs false
def Ev {α : Type} (f : Nat → Option α) (x : α) : Prop := ∃ K, ∀ k, K ≤ k → f k = some x
section
variable {α β : Type} {f f' : Nat → Option α} {x : α} {y : β}
theorem Ev.get (h : Ev f x) : ∃ k, f k = some x := by
 obtain ⟨K, h⟩ := h
 exact ⟨K, h K (Nat.le_refl _)⟩
theorem Ev.pure (x : α) : Ev (fun _ => some x) x := ⟨0, fun _ _ => rfl⟩
theorem Ev.eq {o : Option α} (h : o = some x) : Ev (fun _ => o) x := ⟨0, fun _ _ => h⟩
theorem Ev.bind {g : Nat → α → Option β} (hf : Ev f x) (hg : Ev (fun k => g k x) y) : Ev (fun k => (f k).bind (g k)) y := by
 obtain ⟨K, hf⟩ := hf
 obtain ⟨L, hg⟩ := hg
 exact ⟨max K L, fun k hk => by show (f k).bind (g k) = some y; rw [hf k (by omega)]; exact hg k (by omega)⟩
theorem Ev.pos {c : Prop} [Decidable c] (hc : c) (h : Ev f x) : Ev (fun k => if c then f k else f' k) x := by
 obtain ⟨K, h⟩ := h
 exact ⟨K, fun k hk => (if_pos hc).trans (h k hk)⟩
theorem Ev.neg {c : Prop} [Decidable c] (hc : ¬ c) (h : Ev f' x) : Ev (fun k => if c then f k else f' k) x := by
 obtain ⟨K, h⟩ := h
 exact ⟨K, fun k hk => (if_neg hc).trans (h k hk)⟩
theorem Ev.ite {c : Prop} [Decidable c] (h : c → Ev f x) (h' : ¬ c → Ev f' x) : Ev (fun k => if c then f k else f' k) x := by
 by_cases hc : c
 ·exact Ev.pos hc (h hc)
 ·exact Ev.neg hc (h' hc)
theorem Ev.succ (h : Ev (fun k => f (k + 1)) x) : Ev f x := by
 obtain ⟨K, h⟩ := h
 exact ⟨K + 1, fun k hk => by
  obtain ⟨j, rfl⟩ : ∃ j, k = j + 1 := ⟨k - 1, by omega⟩
  exact h j (by omega)⟩
end
theorem w64 {n : Int} (h : -9223372036854775808 ≤ n) (h' : n ≤ 9223372036854775807) : wrap64 n = n := by unfold wrap64; omega
theorem w64n (n : Nat) (h : n < 4611686018427387904) : wrap64 ((n : Int) + 1) = ((n + 1 : Nat) : Int) := by rw [w64 (by omega) (by omega)]; omega
theorem snoc_eq {α : Type} (pre : List α) (x : α) (r : List α) : pre ++ x :: r = (pre ++ [x]) ++ r := by simp
theorem len_lt {α : Type} (pre : List α) (x : α) (r : List α) : (pre.length : Int) < ((pre ++ x :: r).length : Int) := by simp only [List.length_append, List.length_cons]; omega
theorem len_nlt {α : Type} (pre : List α) : ¬ (pre.length : Int) < ((pre ++ []).length : Int) := by simp
theorem len_next {α : Type} (pre : List α) (x : α) (h : pre.length < 4611686018427387904) : wrap64 ((pre.length : Int) + 1) = ((pre ++ [x]).length : Int) := by rw [w64n _ h]; simp
theorem rdm (pre : List Int) (x : Int) (r : List Int) : rd (pre ++ x :: r) (pre.length : Int) = x := by simp [rd]
end Go.Proofs.YtajapkjplgaigaaDoor.P
end
section
namespace Go.Proofs.YtajapkjplgaigaaDoor.P
open Go.RowKit Go.Shelf Go.Proofs.YtajapkjplgaigaaDoorW.PrintWords Go.Proofs.YtajapkjplgaigaaDoorW.PrintLast Go.Proofs.YtajapkjplgaigaaDoorW.PrintMore
set_option linter.unusedVariables false
set_option linter.unusedSimpArgs false
def inB (a b x : Int) : Bool := decide (a ≤ x ∧ x ≤ b)
theorem inRange_eq (x a b : Int) : spec_inRange.f x a b = some (inB a b x) := by
 unfold spec_inRange.f inB
 by_cases h : a ≤ x
 ·rw [if_pos h]; simp [h]
 ·rw [if_neg h]; simp [h]
theorem allIn_go (a b : Int) : ∀ (r pre : List Int), pre.length + r.length < 4611686018427387904 → Ev (fun k => spec_allIn.l0 k (pre ++ r) a b (pre.length : Int)) (r.all (inB a b))
 | [], pre, _ => by
  refine Ev.succ ?_
  simp only [spec_allIn.l0]
  exact Ev.neg (len_nlt pre) (Ev.pure _)
 | x :: r, pre, h => by
  refine Ev.succ ?_
  simp only [spec_allIn.l0]
  refine Ev.pos (len_lt _ _ _) (Ev.pos (by omega) (Ev.bind (Ev.eq (inRange_eq _ _ _)) ?_))
  rw [rdm]
  have hl : pre.length < 4611686018427387904 := by simp only [List.length_cons] at h; omega
  refine Ev.ite (fun hc => ?_) (fun hc => ?_)
  ·rw [len_next pre x hl, snoc_eq, List.all_cons, hc, Bool.true_and]
   exact allIn_go a b r (pre ++ [x]) (by simp only [List.length_append, List.length_cons, List.length_nil] at h ⊢; omega)
  ·rw [List.all_cons, Bool.eq_false_iff.2 hc, Bool.false_and]
   exact Ev.pure _
theorem allIn_ev (l : List Int) (a b : Int) (h : l.length < 4611686018427387904) : Ev (fun k => spec_allIn.f k l a b) (l.all (inB a b)) := allIn_go a b l [] (by simpa using h)
def ascB : List Int → Bool
 | x :: y :: r => decide (x < y) && ascB (y :: r)
 | _ => true
theorem ascends_go : ∀ (r pre : List Int) (x : Int), pre.length + r.length + 1 < 4611686018427387904 → Ev (fun k => spec_ascends.l0 k (pre ++ x :: r) ((pre.length : Int) + 1)) (ascB (x :: r))
 | [], pre, x, _ => by
  refine Ev.succ ?_
  simp only [spec_ascends.l0]
  exact Ev.neg (by simp) (Ev.pure _)
 | y :: r, pre, x, h => by
  have hl : pre.length < 4611686018427387904 := by simp only [List.length_cons] at h; omega
  have h1 : wrap64 ((pre.length : Int) + 1 - 1) = (pre.length : Int) := by rw [w64 (by omega) (by omega)]; omega
  have h2 : rd (pre ++ x :: y :: r) ((pre.length : Int) + 1) = y := by
   simp [rd]
  refine Ev.succ ?_
  simp only [spec_ascends.l0, h1, h2, rdm]
  refine Ev.pos (by simp only [List.length_append, List.length_cons]; omega) (Ev.pos (by omega) (Ev.pos (by omega) (Ev.pos (len_lt _ _ _) (Ev.ite (fun hc => ?_) (fun hc => ?_)))))
  ·rw [ascB, decide_eq_false (by omega), Bool.false_and]
   exact Ev.pure _
  ·have h3 : wrap64 ((pre.length : Int) + 1 + 1) = ((pre ++ [x]).length : Int) + 1 := by
    simp only [List.length_append, List.length_cons, List.length_nil] at h ⊢
    rw [w64 (by omega) (by omega)]; omega
   rw [h3, snoc_eq, ascB, decide_eq_true (by omega : x < y), Bool.true_and]
   exact ascends_go r (pre ++ [x]) y (by simp only [List.length_append, List.length_cons, List.length_nil] at h ⊢; omega)
theorem ascends_ev (l : List Int) (h : l.length < 4611686018427387904) : Ev (fun k => spec_ascends.f k l) (ascB l) := by
 cases l with
 | nil =>
  unfold spec_ascends.f
  refine Ev.succ ?_
  simp only [spec_ascends.l0]
  exact Ev.neg (by simp) (Ev.pure _)
 | cons x r => exact ascends_go r [] x (by simp only [List.length_cons, List.length_nil] at h ⊢; omega)
def taskB (n : Nat) (t : TT) : Bool := inB 1 20 t.f0 && inB 0 2 t.f2 && inB 1 4 t.f3 && t.f1.all (inB 0 ((n : Int) - 1)) && ascB t.f1
theorem validTask_ev (n : Nat) (t : TT) (hn : n < 4611686018427387904) (h : t.f1.length < 4611686018427387904) : Ev (fun k => spec_validTask.f k t.f0 t.f1 t.f2 t.f3 (n : Int)) (taskB n t) := by
 unfold spec_validTask.f taskB
 have hw : wrap64 ((n : Int) - 1) = (n : Int) - 1 := w64 (by omega) (by omega)
 rw [hw]
 refine Ev.bind (Ev.eq (inRange_eq _ _ _)) (Ev.ite (fun h0 => ?_) (fun h0 => ?_))
 ·refine Ev.bind (Ev.eq (inRange_eq _ _ _)) (Ev.ite (fun h1 => ?_) (fun h1 => ?_))
  ·refine Ev.bind (Ev.eq (inRange_eq _ _ _)) (Ev.ite (fun h2 => ?_) (fun h2 => ?_))
   ·refine Ev.bind (allIn_ev _ _ _ h) (Ev.ite (fun h3 => ?_) (fun h3 => ?_))
    ·rw [h0, h1, h2, h3]
     exact Ev.bind (ascends_ev _ h) (Ev.pure _)
    ·rw [Bool.eq_false_iff.2 h3]; simp only [Bool.and_false, Bool.false_and]; exact Ev.pure _
   ·rw [Bool.eq_false_iff.2 h2]; simp only [Bool.and_false, Bool.false_and]; exact Ev.pure _
  ·rw [Bool.eq_false_iff.2 h1]; simp only [Bool.and_false, Bool.false_and]; exact Ev.pure _
 ·rw [Bool.eq_false_iff.2 h0]; simp only [Bool.and_false, Bool.false_and]; exact Ev.pure _
def Small (ts : List TT) : Prop := ts.length < 1099511627776 ∧ ∀ t ∈ ts, t.f1.length < 1099511627776
theorem rdT (pre : List TT) (x : TT) (r : List TT) : rd_T39 (pre ++ x :: r) (pre.length : Int) = x := by simp [rd_T39]
def fineB (ts : List TT) : Bool := ts.all (taskB ts.length) && decide (ts.length ≤ 8)
theorem tasksFine_go (ts : List TT) (hs : Small ts) : ∀ (r pre : List TT), pre ++ r = ts → Ev (fun k => spec_tasksFine.l0 k ts (pre.length : Int)) (r.all (taskB ts.length) && decide (ts.length ≤ 8))
 | [], pre, he => by
  subst he
  refine Ev.succ ?_
  simp only [spec_tasksFine.l0]
  refine Ev.neg (len_nlt pre) ?_
  simp only [List.all_nil, Bool.true_and]
  refine Ev.eq ?_
  congr 1
  exact decide_eq_decide.2 (by omega)
 | x :: r, pre, he => by
  have hl := hs.1
  have hx := hs.2 x (by rw [← he]; simp)
  have h1 : rd_T39 ts (pre.length : Int) = x := by rw [← he]; exact rdT pre x r
  have h2 : (pre.length : Int) < (ts.length : Int) := by rw [← he]; exact len_lt _ _ _
  refine Ev.succ ?_
  simp only [spec_tasksFine.l0, h1]
  refine Ev.pos h2 (Ev.pos (by omega) (Ev.bind (validTask_ev ts.length x (by omega) (by omega)) (Ev.ite (fun hc => ?_) (fun hc => ?_))))
  ·rw [len_next pre x (by omega), List.all_cons, hc, Bool.true_and]
   exact tasksFine_go ts hs r (pre ++ [x]) (by rw [← he]; simp)
  ·rw [List.all_cons, Bool.eq_false_iff.2 hc, Bool.false_and, Bool.false_and]
   exact Ev.pure _
theorem tasksFine_ev (ts : List TT) (hs : Small ts) : Ev (fun k => spec_tasksFine.f k ts) (fineB ts) := tasksFine_go ts hs ts [] rfl
theorem isIn_go (n : Int) : ∀ (r pre : List Int), pre.length + r.length < 4611686018427387904 → Ev (fun k => spec_isIn.l0 k (pre ++ r) n (pre.length : Int)) (decide (n ∈ r))
 | [], pre, _ => by
  refine Ev.succ ?_
  simp only [spec_isIn.l0]
  exact Ev.neg (len_nlt pre) (Ev.eq (by simp))
 | x :: r, pre, h => by
  have hl : pre.length < 4611686018427387904 := by simp only [List.length_cons] at h; omega
  refine Ev.succ ?_
  simp only [spec_isIn.l0, rdm]
  refine Ev.pos (len_lt _ _ _) (Ev.pos (by omega) (Ev.ite (fun hc => ?_) (fun hc => ?_)))
  ·rw [decide_eq_true (by rw [hc]; exact List.mem_cons_self)]
   exact Ev.pure _
  ·rw [len_next pre x hl, snoc_eq, show decide (n ∈ x :: r) = decide (n ∈ r) from decide_eq_decide.2 (by rw [List.mem_cons]; exact ⟨fun h => h.resolve_left (fun e => hc e.symm), Or.inr⟩)]
   exact isIn_go n r (pre ++ [x]) (by simp only [List.length_append, List.length_cons, List.length_nil] at h ⊢; omega)
theorem isIn_ev (l : List Int) (n : Int) (h : l.length < 4611686018427387904) : Ev (fun k => spec_isIn.f k l n) (decide (n ∈ l)) := isIn_go n l [] (by simpa using h)
def subL (needs done : List Int) : Bool := needs.all fun x => decide (x ∈ done)
theorem allDone_go (done : List Int) (hd : done.length < 4611686018427387904) : ∀ (r pre : List Int), pre.length + r.length < 4611686018427387904 → Ev (fun k => spec_allDone.l0 k (pre ++ r) done (pre.length : Int)) (subL r done)
 | [], pre, _ => by
  refine Ev.succ ?_
  simp only [spec_allDone.l0]
  exact Ev.neg (len_nlt pre) (Ev.pure _)
 | x :: r, pre, h => by
  have hl : pre.length < 4611686018427387904 := by simp only [List.length_cons] at h; omega
  refine Ev.succ ?_
  simp only [spec_allDone.l0, rdm]
  refine Ev.pos (len_lt _ _ _) (Ev.pos (by omega) (Ev.bind (isIn_ev _ _ hd) (Ev.ite (fun hc => ?_) (fun hc => ?_))))
  ·rw [len_next pre x hl, snoc_eq, subL, List.all_cons, hc, Bool.true_and]
   exact allDone_go done hd r (pre ++ [x]) (by simp only [List.length_append, List.length_cons, List.length_nil] at h ⊢; omega)
  ·rw [subL, List.all_cons, Bool.eq_false_iff.2 hc, Bool.false_and]
   exact Ev.pure _
theorem allDone_ev (l done : List Int) (h : l.length < 4611686018427387904) (hd : done.length < 4611686018427387904) : Ev (fun k => spec_allDone.f k l done) (subL l done) := allDone_go done hd l [] (by simpa using h)
end Go.Proofs.YtajapkjplgaigaaDoor.P
end
section
namespace Go.Proofs.YtajapkjplgaigaaDoor.P
open Go.RowKit Go.Shelf Go.Proofs.YtajapkjplgaigaaDoorW.PrintWords Go.Proofs.YtajapkjplgaigaaDoorW.PrintLast Go.Proofs.YtajapkjplgaigaaDoorW.PrintMore
set_option linter.unusedVariables false
set_option linter.unusedSimpArgs false
def maskL (l : List Int) : Nat := l.foldl (fun s i => s ||| 2 ^ i.toNat) 0
theorem mask_bit (l : List Int) : ∀ (s : Nat) (j : Nat), (∀ x ∈ l, 0 ≤ x) → (l.foldl (fun s i => s ||| 2 ^ i.toNat) s).testBit j = (s.testBit j || decide ((j : Int) ∈ l)) := by
 induction l with
 | nil => intro s j _; simp
 | cons x r ih =>
  intro s j h
  have hx := h x List.mem_cons_self
  rw [List.foldl_cons, ih _ _ (fun y hy => h y (List.mem_cons_of_mem _ hy)), Nat.testBit_or, Nat.testBit_two_pow, Bool.or_assoc]
  congr 1
  rw [← Bool.decide_or]
  refine decide_eq_decide.2 ?_
  rw [List.mem_cons]
  constructor
  ·rintro (h1 | h1)
   ·exact Or.inl (by omega)
   ·exact Or.inr h1
  ·rintro (h1 | h1)
   ·exact Or.inl (by omega)
   ·exact Or.inr h1
theorem maskL_bit {l : List Int} (h : ∀ x ∈ l, 0 ≤ x) (j : Nat) : (maskL l).testBit j = decide ((j : Int) ∈ l) := by
 unfold maskL; rw [mask_bit l 0 j h]; simp
theorem setGo_eq (n : Nat) : ∀ (l : List Int) (last : Int) (s : Nat), -1 ≤ last → setGo n l last s = if (ascB (last :: l) && l.all (inB 0 ((n : Int) - 1))) = true then some (l.foldl (fun s i => s ||| 2 ^ i.toNat) s) else none
 | [], last, s, h => by simp [setGo, ascB]
 | i :: r, last, s, h => by
  unfold setGo
  by_cases hc : last + 1 ≤ i ∧ i < n
  ·rw [if_pos hc, setGo_eq n r i _ (by omega)]
   rw [ascB, List.all_cons, decide_eq_true (by omega : last < i), Bool.true_and, show inB 0 ((n : Int) - 1) i = true from decide_eq_true (by omega), Bool.true_and]
   rfl
  ·rw [if_neg hc, if_neg]
   intro h2
   rw [ascB, List.all_cons] at h2
   simp only [Bool.and_eq_true, decide_eq_true_eq, inB] at h2
   omega
theorem ascB_neg {l : List Int} (h : ∀ x ∈ l, 0 ≤ x) : ascB (-1 :: l) = ascB l := by
 cases l with
 | nil => rfl
 | cons x r => rw [ascB, decide_eq_true (by have := h x List.mem_cons_self; omega), Bool.true_and]
theorem setP_eq (l : List Int) (n : Nat) : setP l n = if (ascB l && l.all (inB 0 ((n : Int) - 1))) = true then some (maskL l) else none := by
 unfold setP
 rw [setGo_eq n l (-1) 0 (by omega)]
 by_cases hA : l.all (inB 0 ((n : Int) - 1)) = true
 ·have h0 : ∀ x ∈ l, 0 ≤ x := fun x hx => by
   have := List.all_eq_true.1 hA x hx
   simp only [inB, decide_eq_true_eq] at this
   exact this.1
  rw [ascB_neg h0]; rfl
 ·rw [Bool.eq_false_iff.2 hA, Bool.and_false, Bool.and_false]; rfl
theorem taskP_eq (n : Nat) (t : TT) : taskP n t = if taskB n t = true then some (maskL t.f1) else none := by
 unfold taskP taskB
 rw [setP_eq]
 by_cases h1 : (ascB t.f1 && t.f1.all (inB 0 ((n : Int) - 1))) = true
 ·rw [if_pos h1]
  have h2 := Bool.and_eq_true_iff.1 h1
  rw [h2.1, h2.2]
  simp only [Bool.and_true, inB, Bool.and_eq_true, decide_eq_true_eq, and_assoc]
 ·rw [if_neg h1, if_neg]
  intro h
  simp only [Bool.and_eq_true] at h h1
  exact h1 ⟨h.2, h.1.2⟩
theorem needsGo_eq (n : Nat) : ∀ (r : List TT) (acc : List Nat), needsGo n r acc = if r.all (taskB n) = true then some (acc ++ r.map fun t => maskL t.f1) else none
 | [], acc => by simp [needsGo]
 | t :: r, acc => by
  unfold needsGo
  rw [taskP_eq]
  by_cases h : taskB n t = true
  ·rw [if_pos h]
   show needsGo n r (acc ++ [maskL t.f1]) = _
   rw [needsGo_eq n r, List.all_cons, h, Bool.true_and, List.map_cons, List.append_assoc]
   rfl
  ·rw [if_neg h, List.all_cons, Bool.eq_false_iff.2 h, Bool.false_and]
   rfl
def needsM (ts : List TT) : List Nat := ts.map fun t => maskL t.f1
theorem needsP_eq (ts : List TT) : needsP ts = if fineB ts = true then some (needsM ts) else none := by
 unfold needsP fineB
 by_cases h : ts.length > 8
 ·rw [if_pos h, decide_eq_false (by omega), Bool.and_false]; rfl
 ·rw [if_neg h, needsGo_eq, decide_eq_true (by omega : ts.length ≤ 8), Bool.and_true]; rfl
theorem fine_task {ts : List TT} (h : fineB ts = true) {i : Nat} (hi : i < ts.length) : taskB ts.length ts[i] = true := by
 have := (Bool.and_eq_true_iff.1 h).1
 exact List.all_eq_true.1 this _ (List.getElem_mem hi)
theorem fine_len {ts : List TT} (h : fineB ts = true) : ts.length ≤ 8 := of_decide_eq_true (Bool.and_eq_true_iff.1 h).2
theorem task_mem {n : Nat} {t : TT} (h : taskB n t = true) : (∀ x ∈ t.f1, 0 ≤ x ∧ x < n) ∧ ascB t.f1 = true := by
 unfold taskB at h
 simp only [Bool.and_eq_true] at h
 refine ⟨fun x hx => ?_, h.2⟩
 have := List.all_eq_true.1 h.1.2 x hx
 simp only [inB, decide_eq_true_eq] at this
 omega
theorem needsM_get (ts : List TT) (i : Nat) (hi : i < ts.length) : (needsM ts).getD i 0 = maskL (ts[i].f1) := by
 simp [needsM, List.getD_eq_getElem?_getD, List.getElem?_map, List.getElem?_eq_getElem hi]
theorem rdT_at (ts : List TT) (i : Nat) (hi : i < ts.length) : rd_T39 ts (i : Int) = ts[i] := by
 simp [rd_T39, List.getElem?_eq_getElem hi]
theorem sub_eq {l done : List Int} (hl : ∀ x ∈ l, 0 ≤ x) (s : Nat) (hs : ∀ j, s.testBit j = decide ((j : Int) ∈ done)) : (maskL l &&& s == maskL l) = subL l done := by
 rw [Bool.eq_iff_iff]
 unfold subL
 rw [List.all_eq_true, beq_iff_eq]
 constructor
 ·intro h x hx
  have hx0 := hl x hx
  have h1 : (maskL l).testBit x.toNat = true := by rw [maskL_bit hl, decide_eq_true]; rwa [Int.toNat_of_nonneg hx0]
  rw [← h, Nat.testBit_and, hs, Bool.and_eq_true] at h1
  have h2 := of_decide_eq_true h1.2
  rw [Int.toNat_of_nonneg hx0] at h2
  exact decide_eq_true h2
 ·intro h
  refine Nat.eq_of_testBit_eq fun j => ?_
  rw [Nat.testBit_and, hs, maskL_bit hl]
  by_cases hj : (j : Int) ∈ l
  ·have := h _ hj
   rw [this, Bool.and_true]
  ·rw [decide_eq_false hj, Bool.false_and]
theorem canP_eq {ts : List TT} (hf : fineB ts = true) {done : List Int} {s : Nat} (hs : ∀ j, s.testBit j = decide ((j : Int) ∈ done)) {i : Nat} (hi : i < ts.length) :
  canP (needsM ts) s i = (!decide ((i : Int) ∈ done) && subL ts[i].f1 done) := by
 unfold canP
 rw [needsM_get ts i hi, sub_eq (fun x hx => ((task_mem (fine_task hf hi)).1 x hx).1) s hs, hs]
def findFrom (p : Nat → Bool) (n j : Nat) : Option Nat := ((List.range n).drop j).find? p
theorem findFrom_step (p : Nat → Bool) (n j : Nat) (h : j < n) : findFrom p n j = if p j then some j else findFrom p n (j + 1) := by
 unfold findFrom
 rw [List.drop_eq_getElem_cons (by simpa using h), List.find?_cons, List.getElem_range]
 cases p j <;> rfl
theorem findFrom_end (p : Nat → Bool) (n : Nat) : findFrom p n n = none := by
 unfold findFrom
 rw [List.drop_eq_nil_of_le (by simp)]; rfl
theorem top_l1 (ts : List TT) (hs : Small ts) (hf : fineB ts = true) (out : List Nat) (s : Nat) (hb : ∀ j, s.testBit j = decide (((j : Nat) : Int) ∈ nI out)) (hl : out.length ≤ 8) (r : List Int)
  (hnone : firstP (needsM ts) s = none → r = nI out)
  (hsome : ∀ i, firstP (needsM ts) s = some i → Ev (fun k => spec_topOrder.l0 k ts (nI (out ++ [i]))) r) :
  ∀ (m j : Nat), j + m = ts.length → findFrom (canP (needsM ts) s) ts.length j = firstP (needsM ts) s → Ev (fun k => spec_topOrder.l1 k ts (nI out) (-1) (j : Int)) r := by
 have hlen : ts.length ≤ 8 := fine_len hf
 have hnl : (nI out).length = out.length := nI_length out
 intro m
 induction m with
 | zero =>
  intro j hj hfind
  have hjn : j = ts.length := by omega
  subst hjn
  rw [findFrom_end] at hfind
  refine Ev.succ ?_
  simp only [spec_topOrder.l1]
  refine Ev.neg (by omega) (Ev.succ ?_)
  simp only [spec_topOrder.j2]
  refine Ev.neg (by simp) (Ev.pos (by omega) ?_)
  rw [hnone hfind.symm]
  exact Ev.pure _
 | succ m ih =>
  intro j hj hfind
  have hjl : j < ts.length := by omega
  have hw : wrap64 ((j : Int) + 1) = ((j + 1 : Nat) : Int) := w64n j (by omega)
  rw [findFrom_step _ _ _ hjl, canP_eq hf hb hjl] at hfind
  refine Ev.succ ?_
  simp only [spec_topOrder.l1]
  refine Ev.pos (by omega) (Ev.succ ?_)
  simp only [spec_topOrder.j2]
  refine Ev.pos (by simp) (Ev.bind (isIn_ev _ _ (by omega)) (Ev.ite (fun hc => ?_) (fun hc => ?_)))
  ·rw [hc] at hfind
   simp only [Bool.not_true, Bool.false_and] at hfind
   rw [hw]
   exact ih (j + 1) (by omega) hfind
  ·rw [Bool.eq_false_iff.2 hc] at hfind
   simp only [Bool.not_false, Bool.true_and] at hfind
   rw [rdT_at ts j hjl, hw]
   have h1 := hs.2 ts[j] (List.getElem_mem hjl)
   refine Ev.pos (by omega) (Ev.pos (by omega) (Ev.bind (allDone_ev _ _ (by omega) (by omega)) (Ev.ite (fun hd => ?_) (fun hd => ?_))))
   ·rw [if_pos hd] at hfind
    refine Ev.succ ?_
    simp only [spec_topOrder.l1]
    have hgo : Ev (fun k => spec_topOrder.j2 k ts (nI out) (j : Int) ((j + 1 : Nat) : Int) false) r := by
     refine Ev.succ ?_
     simp only [spec_topOrder.j2]
     refine Ev.neg (by simp) (Ev.neg (by omega) (Ev.pos (by omega) ?_))
     have := hsome j hfind.symm
     simpa [nI] using this
    refine Ev.ite (fun h2 => ?_) (fun h2 => hgo)
    rw [decide_eq_false (by omega)]
    exact hgo
   ·rw [if_neg hd] at hfind
    exact ih (j + 1) (by omega) hfind
theorem nodup_len : ∀ (a b : List Nat), a.Nodup → (∀ x ∈ a, x ∈ b) → a.length ≤ b.length
 | [], b, _, _ => Nat.zero_le _
 | x :: a, b, h, hs => by
  have hx : x ∈ b := hs x List.mem_cons_self
  have h1 := nodup_len a (b.erase x) (List.nodup_cons.1 h).2 (fun y hy => (List.mem_erase_of_ne (fun (e : y = x) => (List.nodup_cons.1 h).1 (by rw [← e]; exact hy))).2 (hs y (List.mem_cons_of_mem _ hy)))
  rw [List.length_erase_of_mem hx] at h1
  have : 0 < b.length := List.length_pos_of_mem hx
  rw [List.length_cons]
  omega
structure OrdOk (n : Nat) (out : List Nat) (s : Nat) : Prop where
 nd : out.Nodup
 lt : ∀ i ∈ out, i < n
 bit : ∀ j, s.testBit j = decide (j ∈ out)
theorem mem_nI {out : List Nat} {j : Nat} : ((j : Nat) : Int) ∈ nI out ↔ j ∈ out := by
 unfold nI
 rw [List.mem_map]
 exact ⟨fun ⟨x, hx, he⟩ => by rwa [show j = x by omega], fun h => ⟨j, h, rfl⟩⟩
theorem OrdOk.bits {n : Nat} {out : List Nat} {s : Nat} (h : OrdOk n out s) (j : Nat) : s.testBit j = decide (((j : Nat) : Int) ∈ nI out) := by
 rw [h.bit]; exact decide_eq_decide.2 mem_nI.symm
theorem OrdOk.len {n : Nat} {out : List Nat} {s : Nat} (h : OrdOk n out s) : out.length ≤ n := by
 have := nodup_len out (List.range n) h.nd (fun i hi => List.mem_range.2 (h.lt i hi))
 simpa using this
theorem OrdOk.add {n : Nat} {out : List Nat} {s i : Nat} (h : OrdOk n out s) (hi : i < n) (hn : s.testBit i = false) : OrdOk n (out ++ [i]) (s ||| 2 ^ i) := by
 have hni : i ∉ out := fun hm => by rw [h.bit, decide_eq_true hm] at hn; cases hn
 refine ⟨List.nodup_append.2 ⟨h.nd, by simp, fun a ha b hb => by rw [List.mem_singleton] at hb; subst hb; exact fun e => hni (e ▸ ha)⟩, fun j hj => ?_, fun j => ?_⟩
 ·rcases List.mem_append.1 hj with hj | hj
  ·exact h.lt j hj
  ·rw [List.mem_singleton.1 hj]; exact hi
 ·rw [Nat.testBit_or, h.bit, Nat.testBit_two_pow, ← Bool.decide_or]
  refine decide_eq_decide.2 ?_
  rw [List.mem_append, List.mem_singleton]
  exact or_congr Iff.rfl eq_comm
theorem firstP_can {nd : List Nat} {s i : Nat} (h : firstP nd s = some i) : i < nd.length ∧ canP nd s i = true := by
 refine ⟨firstP_lt h, ?_⟩
 have := List.find?_some h
 exact this
theorem OrdOk.full {n : Nat} {out : List Nat} {s : Nat} (h : OrdOk n out s) (hl : out.length = n) (nd : List Nat) (hnl : nd.length = n) : firstP nd s = none := by
 cases hf : firstP nd s with
 | none => rfl
 | some i =>
  obtain ⟨h1, h2⟩ := firstP_can hf
  have h3 : s.testBit i = false := by unfold canP at h2; simp only [Bool.and_eq_true, Bool.not_eq_true'] at h2; exact h2.1
  have h4 := (h.add (by omega) h3).len
  simp only [List.length_append, List.length_cons, List.length_nil] at h4
  omega
theorem orderGo_none {nd : List Nat} {s : List Nat × Nat} (h : firstP nd s.2 = none) : ∀ m, orderGo nd m s = s
 | 0 => rfl
 | m + 1 => by
  have : orderStep nd s = s := by unfold orderStep; rw [h]
  rw [orderGo, this]
  exact orderGo_none h m
theorem top_l0 (ts : List TT) (hs : Small ts) (hf : fineB ts = true) : ∀ (m : Nat) (out : List Nat) (s : Nat), OrdOk ts.length out s → out.length + m = ts.length →
  Ev (fun k => spec_topOrder.l0 k ts (nI out)) (nI (orderGo (needsM ts) m (out, s)).1) ∧ OrdOk ts.length (orderGo (needsM ts) m (out, s)).1 (orderGo (needsM ts) m (out, s)).2 := by
 have hlen : ts.length ≤ 8 := fine_len hf
 have hnl : (needsM ts).length = ts.length := by simp [needsM]
 intro m
 induction m with
 | zero =>
  intro out s ho hm
  have hno := ho.full (by omega) (needsM ts) hnl
  refine ⟨?_, by simpa [orderGo] using ho⟩
  refine Ev.succ ?_
  simp only [spec_topOrder.l0, orderGo]
  exact top_l1 ts hs hf out s ho.bits (by omega) _ (fun _ => rfl) (fun i hi => by rw [hno] at hi; cases hi) ts.length 0 (by omega) (by unfold findFrom firstP; rw [List.drop_zero, hnl])
 | succ m ih =>
  intro out s ho hm
  cases hfi : firstP (needsM ts) s with
  | none =>
   rw [orderGo_none (s := (out, s)) hfi]
   refine ⟨?_, ho⟩
   refine Ev.succ ?_
   simp only [spec_topOrder.l0]
   exact top_l1 ts hs hf out s ho.bits (by omega) _ (fun _ => rfl) (fun i hi => by rw [hfi] at hi; cases hi) ts.length 0 (by omega) (by unfold findFrom firstP; rw [List.drop_zero, hnl])
  | some i =>
   obtain ⟨h1, h2⟩ := firstP_can hfi
   have h3 : s.testBit i = false := by unfold canP at h2; simp only [Bool.and_eq_true, Bool.not_eq_true'] at h2; exact h2.1
   have hstep : orderStep (needsM ts) (out, s) = (out ++ [i], s ||| 2 ^ i) := by unfold orderStep; simp only [hfi]
   rw [orderGo, hstep]
   obtain ⟨e1, e2⟩ := ih (out ++ [i]) (s ||| 2 ^ i) (ho.add (by omega) h3) (by simp only [List.length_append, List.length_cons, List.length_nil]; omega)
   refine ⟨?_, e2⟩
   refine Ev.succ ?_
   simp only [spec_topOrder.l0]
   exact top_l1 ts hs hf out s ho.bits (by omega) _ (fun h => by rw [hfi] at h; cases h) (fun i' hi => by rw [hfi] at hi; injection hi with hi; subst hi; exact e1) ts.length 0 (by omega) (by unfold findFrom firstP; rw [List.drop_zero, hnl])
theorem ordOk_nil (n : Nat) : OrdOk n [] 0 := ⟨List.nodup_nil, fun i hi => (by cases hi), fun j => (by simp)⟩
theorem topOrder_ev (ts : List TT) (hs : Small ts) (hf : fineB ts = true) : Ev (fun k => spec_topOrder.f k ts) (nI (orderP (needsM ts)).1) ∧ OrdOk ts.length (orderP (needsM ts)).1 (orderP (needsM ts)).2 := by
 have h := top_l0 ts hs hf ts.length [] 0 (ordOk_nil _) (by simp)
 unfold orderP
 have hnl : (needsM ts).length = ts.length := by simp [needsM]
 rw [hnl]
 exact h
theorem OrdOk.all {n : Nat} {out : List Nat} {s : Nat} (h : OrdOk n out s) : out.length = n ↔ s = 2 ^ n - 1 := by
 constructor
 ·intro hl
  refine Nat.eq_of_testBit_eq fun j => ?_
  rw [h.bit, Nat.testBit_two_pow_sub_one]
  refine decide_eq_decide.2 ⟨fun hj => h.lt j hj, fun hj => ?_⟩
  by_cases hm : j ∈ out
  ·exact hm
  ·have h4 := (h.add hj (by rw [h.bit, decide_eq_false hm])).len
   simp only [List.length_append, List.length_cons, List.length_nil] at h4
   omega
 ·intro he
  have := nodup_len (List.range n) out List.nodup_range (fun j hj => by
   have h1 := h.bit j
   rw [he, Nat.testBit_two_pow_sub_one, decide_eq_true (List.mem_range.1 hj)] at h1
   exact of_decide_eq_true h1.symm)
  rw [List.length_range] at this
  have := h.len
  omega
theorem graphP_some (ts : List TT) : (graphP ts).isSome = (fineB ts && decide ((orderP (needsM ts)).2 = 2 ^ ts.length - 1)) := by
 unfold graphP
 rw [needsP_eq]
 cases hf : fineB ts with
 | false => rfl
 | true =>
  simp only [if_true, Bool.true_and]
  by_cases h : (orderP (needsM ts)).2 = 2 ^ ts.length - 1
  ·rw [if_pos h, decide_eq_true h]; rfl
  ·rw [if_neg h, decide_eq_false h]; rfl
theorem graphP_fine {ts : List TT} {G : GrN} (h : graphP ts = some G) : fineB ts = true ∧ G.nd = needsM ts ∧ G.ts = ts := by
 obtain ⟨h1, h2, _⟩ := graphP_ok h
 rw [needsP_eq] at h2
 by_cases hf : fineB ts = true
 ·rw [if_pos hf] at h2
  injection h2 with h2
  exact ⟨hf, h2.symm, h1⟩
 ·rw [if_neg hf] at h2; cases h2
theorem validGraph_ev (ts : List TT) (hs : Small ts) : Ev (fun k => spec_validGraph.f k ts) (graphP ts).isSome := by
 unfold spec_validGraph.f
 rw [graphP_some]
 refine Ev.bind (tasksFine_ev ts hs) (Ev.ite (fun hf => ?_) (fun hf => ?_))
 ·obtain ⟨h1, h2⟩ := topOrder_ev ts hs hf
  refine Ev.bind h1 (Ev.eq ?_)
  congr 1
  rw [hf, Bool.true_and, nI_length, Bool.eq_iff_iff, beq_iff_eq, decide_eq_true_iff, ← h2.all]
  omega
 ·rw [Bool.eq_false_iff.2 hf]
  exact Ev.pure _
end Go.Proofs.YtajapkjplgaigaaDoor.P
end
section
namespace Go.Proofs.YtajapkjplgaigaaDoor.P
open Go.RowKit Go.Shelf Go.Proofs.YtajapkjplgaigaaDoorW.PrintWords Go.Proofs.YtajapkjplgaigaaDoorW.PrintLast Go.Proofs.YtajapkjplgaigaaDoorW.PrintMore
set_option linter.unusedVariables false
set_option linter.unusedSimpArgs false
def keepsL (ts : List TT) (done : List Int) (d : Int) : Bool := subL (rd_T39 ts d).f1 done
theorem small_rd {ts : List TT} (hs : Small ts) (i : Int) : (rd_T39 ts i).f1.length < 1099511627776 := by
 unfold rd_T39
 rw [List.getD_eq_getElem?_getD]
 cases h : ts[i.toNat]? with
 | none => simp [z39]
 | some t => exact hs.2 t (List.mem_of_getElem? h)
theorem validDone_go (ts : List TT) (hs : Small ts) (done : List Int) (hd : done.length < 1099511627776) (hr : ∀ x ∈ done, 0 ≤ x ∧ x < ts.length) : ∀ (r pre : List Int), pre ++ r = done → Ev (fun k => spec_validDone.l0 k ts done (pre.length : Int)) (r.all (keepsL ts done))
 | [], pre, he => by
  subst he
  refine Ev.succ ?_
  simp only [spec_validDone.l0]
  exact Ev.neg (len_nlt pre) (Ev.pure _)
 | x :: r, pre, he => by
  have hx := hr x (by rw [← he]; simp)
  have h1 : rd done (pre.length : Int) = x := by rw [← he]; exact rdm pre x r
  have h2 : (pre.length : Int) < (done.length : Int) := by rw [← he]; exact len_lt _ _ _
  refine Ev.succ ?_
  simp only [spec_validDone.l0, h1]
  refine Ev.pos h2 (Ev.pos (by omega) (Ev.pos hx.1 (Ev.pos hx.2 (Ev.bind (allDone_ev _ _ (by have := small_rd hs x; omega) (by omega)) (Ev.ite (fun hc => ?_) (fun hc => ?_))))))
  ·rw [len_next pre x (by omega), List.all_cons, show keepsL ts done x = true from hc, Bool.true_and]
   exact validDone_go ts hs done hd hr r (pre ++ [x]) (by rw [← he]; simp)
  ·rw [List.all_cons, show keepsL ts done x = false from Bool.eq_false_iff.2 hc, Bool.false_and]
   exact Ev.pure _
def doneB (ts : List TT) (done : List Int) : Bool := (graphP ts).isSome && ascB done && done.all (inB 0 ((ts.length : Int) - 1)) && done.all (keepsL ts done)
theorem inB_all {l : List Int} {n : Nat} (h : l.all (inB 0 ((n : Int) - 1)) = true) : ∀ x ∈ l, 0 ≤ x ∧ x < n := fun x hx => by
 have := List.all_eq_true.1 h x hx
 simp only [inB, decide_eq_true_eq] at this
 omega
theorem validDone_evB (ts : List TT) (hs : Small ts) (done : List Int) (hd : done.length < 1099511627776) : Ev (fun k => spec_validDone.f k ts done) (doneB ts done) := by
 unfold spec_validDone.f doneB
 have hl := hs.1
 rw [w64 (n := (ts.length : Int) - 1) (by omega) (by omega)]
 refine Ev.bind (validGraph_ev ts hs) (Ev.ite (fun h0 => ?_) (fun h0 => ?_))
 ·refine Ev.bind (ascends_ev done (by omega)) (Ev.ite (fun h1 => ?_) (fun h1 => ?_))
  ·refine Ev.bind (allIn_ev done _ _ (by omega)) (Ev.succ ?_)
   simp only [spec_validDone.j0]
   rw [h0, h1]
   refine Ev.ite (fun h2 => ?_) (fun h2 => ?_)
   ·rw [show done.all (inB 0 ((ts.length : Int) - 1)) = false by simpa using h2]
    exact Ev.pure _
   ·have h3 : done.all (inB 0 ((ts.length : Int) - 1)) = true := by simpa using h2
    rw [h3]
    exact validDone_go ts hs done hd (inB_all h3) done [] rfl
  ·rw [Bool.eq_false_iff.2 h1, Bool.and_false, Bool.false_and, Bool.false_and]
   refine Ev.succ ?_
   simp only [spec_validDone.j0]
   exact Ev.pos (by simp) (Ev.pure _)
 ·rw [Bool.eq_false_iff.2 h0, Bool.false_and, Bool.false_and, Bool.false_and]
  refine Ev.succ ?_
  simp only [spec_validDone.j0]
  exact Ev.pos (by simp) (Ev.pure _)
theorem closedP_eq {ts : List TT} (hf : fineB ts = true) {done : List Int} (hr : ∀ x ∈ done, 0 ≤ x ∧ x < ts.length) : closedP (needsM ts) (maskL done) = done.all (keepsL ts done) := by
 have h0 : ∀ x ∈ done, 0 ≤ x := fun x hx => (hr x hx).1
 have hlen := fine_len hf
 have hone : ∀ (i : Nat), i < ts.length → ((needsM ts).getD i 0 &&& maskL done == (needsM ts).getD i 0) = keepsL ts done (i : Int) := fun i hi => by
  rw [needsM_get ts i hi, keepsL, rdT_at ts i hi]
  exact sub_eq (fun x hx => ((task_mem (fine_task hf hi)).1 x hx).1) _ (maskL_bit h0)
 unfold closedP
 rw [Bool.eq_iff_iff, List.all_eq_true, List.all_eq_true]
 constructor
 ·intro h x hx
  have hx1 := hr x hx
  have := h x.toNat (mem_bitsN.2 ⟨by omega, by rw [maskL_bit h0]; exact decide_eq_true (by rw [Int.toNat_of_nonneg hx1.1]; exact hx)⟩)
  rw [hone _ (by omega), Int.toNat_of_nonneg hx1.1] at this
  exact this
 ·intro h i hi
  have h1 := (mem_bitsN.1 hi).2
  rw [maskL_bit h0] at h1
  have h2 := of_decide_eq_true h1
  rw [hone _ (by have := hr _ h2; omega)]
  exact h _ h2
structure DoneOk (ts : List TT) (done : List Int) (G : GrN) (s : Nat) : Prop where
 g : graphP ts = some G
 fine : fineB ts = true
 nd : G.nd = needsM ts
 gts : G.ts = ts
 s : s = maskL done
 asc : ascB done = true
 rng : ∀ x ∈ done, 0 ≤ x ∧ x < ts.length
 keeps : done.all (keepsL ts done) = true
theorem DoneOk.bit {ts : List TT} {done : List Int} {G : GrN} {s : Nat} (h : DoneOk ts done G s) (j : Nat) : s.testBit j = decide ((j : Int) ∈ done) := by
 rw [h.s]; exact maskL_bit (fun x hx => (h.rng x hx).1) j
theorem DoneOk.n8 {ts : List TT} {done : List Int} {G : GrN} {s : Nat} (h : DoneOk ts done G s) : ts.length ≤ 8 := fine_len h.fine
theorem doneP_eq (ts : List TT) (done : List Int) : (doneP ts done = none ∧ doneB ts done = false) ∨ ∃ G s, doneP ts done = some (G, s) ∧ doneB ts done = true ∧ DoneOk ts done G s := by
 unfold doneP doneB
 cases hg : graphP ts with
 | none => exact Or.inl ⟨rfl, rfl⟩
 | some G =>
  obtain ⟨hf, hnd, hts⟩ := graphP_fine hg
  simp only [Option.isSome_some, Bool.true_and]
  rw [setP_eq]
  by_cases h1 : (ascB done && done.all (inB 0 ((ts.length : Int) - 1))) = true
  ·rw [if_pos h1, h1, Bool.true_and]
   have h2 := Bool.and_eq_true_iff.1 h1
   have hr := inB_all h2.2
   have hc := closedP_eq hf hr
   rw [← hnd] at hc
   simp only
   rw [hc]
   by_cases h3 : done.all (keepsL ts done) = true
   ·rw [if_pos h3, h3]
    exact Or.inr ⟨G, maskL done, rfl, rfl, hg, hf, hnd, hts, rfl, h2.1, hr, h3⟩
   ·rw [if_neg h3, Bool.eq_false_iff.2 h3]
    exact Or.inl ⟨rfl, rfl⟩
  ·rw [if_neg h1, Bool.eq_false_iff.2 h1, Bool.false_and]
   exact Or.inl ⟨rfl, rfl⟩
theorem DoneOk.doneP {ts : List TT} {done : List Int} {G : GrN} {s : Nat} (h : DoneOk ts done G s) : doneP ts done = some (G, s) := by
 rcases doneP_eq ts done with ⟨_, h2⟩ | ⟨G', s', h1, _, h2⟩
 ·unfold doneB at h2
  have ha : done.all (inB 0 ((ts.length : Int) - 1)) = true := List.all_eq_true.2 fun x hx => by
   have := h.rng x hx
   exact decide_eq_true (by omega)
  rw [h.g, h.asc, ha, h.keeps] at h2
  cases h2
 ·have e1 : G' = G := by have := h2.g; rw [h.g] at this; injection this with this; exact this.symm
  have e2 : s' = s := h2.s.trans h.s.symm
  rw [h1, e1, e2]
theorem validDone_ev (ts : List TT) (hs : Small ts) (done : List Int) (hd : done.length < 1099511627776) : Ev (fun k => spec_validDone.f k ts done) (doneP ts done).isSome := by
 have h := validDone_evB ts hs done hd
 rcases doneP_eq ts done with ⟨h1, h2⟩ | ⟨G, s, h1, h2, _⟩
 ·rw [h1, Option.isSome_none, ← h2]; exact h
 ·rw [h1, Option.isSome_some, ← h2]; exact h
def pickN (p : Nat → Bool) (n : Nat) : List Nat := (List.range n).filter p
theorem bits_pick {m n : Nat} (hn : n ≤ 8) (hm : m < 2 ^ n) (p : Nat → Bool) (h : ∀ i, i < n → m.testBit i = p i) : bitsN m = pickN p n := by
 unfold bitsN pickN
 obtain ⟨c, rfl⟩ : ∃ c, c = 8 - n := ⟨_, rfl⟩
 have h8 : (8 : Nat) = n + (8 - n) := by omega
 rw [h8, List.range_add, List.filter_append]
 have h2 : ((List.range (8 - n)).map (n + ·)).filter (fun i => m.testBit i) = [] := by
  refine List.filter_eq_nil_iff.2 fun x hx => ?_
  obtain ⟨y, _, rfl⟩ := List.mem_map.1 hx
  rw [Nat.testBit_lt_two_pow (Nat.lt_of_lt_of_le hm (Nat.pow_le_pow_right (by omega) (by omega)))]
  simp
 rw [h2, List.append_nil]
 exact List.filter_congr fun x hx => h x (List.mem_range.1 hx)
theorem pickN_len (p : Nat → Bool) (n : Nat) : (pickN p n).length ≤ n := by
 have := List.length_filter_le p (List.range n)
 simpa [pickN] using this
def pR (ts : List TT) (done : List Int) (i : Nat) : Bool := !decide ((i : Int) ∈ done) && subL (rd_T39 ts (i : Int)).f1 done
theorem ready_go (ts : List TT) (hs : Small ts) (done : List Int) (hd : done.length < 1099511627776) : ∀ (m j : Nat) (acc : List Int), j + m = ts.length → acc.length ≤ j →
  Ev (fun k => spec_ready.l0 k ts done acc (j : Int)) (acc ++ nI ((List.range' j m).filter (pR ts done)))
 | 0, j, acc, hj, _ => by
  refine Ev.succ ?_
  simp only [spec_ready.l0]
  refine Ev.neg (by omega) (Ev.eq ?_)
  simp [nI]
 | m + 1, j, acc, hj, ha => by
  have hl := hs.1
  have hw : wrap64 ((j : Int) + 1) = ((j + 1 : Nat) : Int) := w64n j (by omega)
  refine Ev.succ ?_
  simp only [spec_ready.l0, hw]
  rw [List.range'_succ, List.filter_cons]
  refine Ev.pos (by omega) (Ev.bind (isIn_ev _ _ (by omega)) (Ev.ite (fun hc => ?_) (fun hc => ?_)))
  ·rw [if_neg (by unfold pR; rw [hc]; simp)]
   exact ready_go ts hs done hd m (j + 1) acc (by omega) (by omega)
  ·refine Ev.pos (by omega) (Ev.bind (allDone_ev _ _ (by have := small_rd hs (j : Int); omega) (by omega)) (Ev.ite (fun h2 => ?_) (fun h2 => ?_)))
   ·rw [if_pos (by unfold pR; rw [Bool.eq_false_iff.2 hc, h2]; rfl)]
    refine Ev.pos (by omega) ?_
    have := ready_go ts hs done hd m (j + 1) (acc ++ [(j : Int)]) (by omega) (by simp only [List.length_append, List.length_cons, List.length_nil]; omega)
    rw [List.append_assoc] at this
    exact this
   ·rw [if_neg (by unfold pR; rw [Bool.eq_false_iff.2 h2]; simp)]
    exact ready_go ts hs done hd m (j + 1) acc (by omega) (by omega)
def readyL (ts : List TT) (done : List Int) : List Int := nI (pickN (pR ts done) ts.length)
theorem ready_ev (ts : List TT) (hs : Small ts) (done : List Int) (hd : done.length < 1099511627776) : Ev (fun k => spec_ready.f k ts done) (readyL ts done) := by
 have := ready_go ts hs done hd ts.length 0 [] (by omega) (by simp)
 unfold readyL pickN
 rw [List.range_eq_range']
 exact this
theorem readyStep_bit (nd : List Nat) (s : Nat) : ∀ (l : List Nat) (o j : Nat), (l.foldl (readyStepN nd s) o).testBit j = (o.testBit j || (decide (j ∈ l) && canP nd s j))
 | [], o, j => by simp
 | i :: l, o, j => by
  rw [List.foldl_cons, readyStep_bit nd s l, readyStepN]
  by_cases hc : canP nd s i = true
  ·rw [if_pos hc, Nat.testBit_or, Nat.testBit_two_pow, Bool.or_assoc]
   congr 1
   by_cases hij : i = j
   ·subst hij
    rw [hc]
    simp
   ·rw [decide_eq_false hij, Bool.false_or]
    congr 1
    refine decide_eq_decide.2 ?_
    rw [List.mem_cons]
    exact ⟨Or.inr, fun h => h.resolve_left (fun e => hij e.symm)⟩
  ·rw [if_neg hc]
   congr 1
   by_cases hij : j = i
   ·subst hij
    rw [Bool.eq_false_iff.2 hc]
    simp
   ·congr 1
    refine decide_eq_decide.2 ?_
    rw [List.mem_cons]
    exact ⟨Or.inr, fun h => h.resolve_left hij⟩
theorem readyN_bit (nd : List Nat) (s j : Nat) : (readyN nd s).testBit j = (decide (j < nd.length) && canP nd s j) := by
 unfold readyN
 rw [readyStep_bit, Nat.zero_testBit, Bool.false_or]
 congr 1
 exact decide_eq_decide.2 List.mem_range
theorem needsM_len (ts : List TT) : (needsM ts).length = ts.length := by simp [needsM]
theorem DoneOk.lt {ts : List TT} {done : List Int} {G : GrN} {s : Nat} (h : DoneOk ts done G s) : s < 2 ^ ts.length := (doneP_ok h.doneP).2.2.2.2.2
theorem DoneOk.can {ts : List TT} {done : List Int} {G : GrN} {s : Nat} (h : DoneOk ts done G s) (i : Nat) (hi : i < ts.length) : canP G.nd s i = pR ts done i := by
 rw [h.nd, canP_eq h.fine h.bit hi, pR, rdT_at ts i hi]
theorem DoneOk.rbit {ts : List TT} {done : List Int} {G : GrN} {s : Nat} (h : DoneOk ts done G s) (i : Nat) (hi : i < ts.length) : (readyN G.nd s).testBit i = pR ts done i := by
 rw [readyN_bit, h.can i hi, h.nd, needsM_len, decide_eq_true hi, Bool.true_and]
theorem ivs_nI (l : List Nat) : ivs l = nI l := rfl
theorem readyN_lt {nd : List Nat} {s n : Nat} (hl : nd.length = n) : readyN nd s < 2 ^ n := by
 refine Nat.lt_pow_two_of_testBit _ fun i hi => ?_
 rw [readyN_bit, decide_eq_false (by omega), Bool.false_and]
theorem DoneOk.ready {ts : List TT} {done : List Int} {G : GrN} {s : Nat} (h : DoneOk ts done G s) : ivs (bitsN (readyN G.nd s)) = readyL ts done := by
 unfold readyL
 rw [ivs_nI, bits_pick h.n8 (readyN_lt (by rw [h.nd, needsM_len])) (pR ts done) h.rbit]
theorem ReadyTasks_ev (ts : List TT) (hs : Small ts) (done : List Int) (hd : done.length < 1099511627776) : ∃ r, Ev (fun k => spec_ReadyTasks.f k ts done) r ∧ impl_ReadyTasks.f ts done = some r ∧ r.length ≤ 8 := by
 unfold spec_ReadyTasks.f impl_ReadyTasks.f
 have hv := validDone_ev ts hs done hd
 rcases doneP_eq ts done with ⟨h1, _⟩ | ⟨G, s, h1, _, h2⟩
 ·rw [h1] at hv ⊢
  exact ⟨[], Ev.bind hv (Ev.neg (by simp) (Ev.pure _)), rfl, by simp⟩
 ·rw [h1] at hv ⊢
  refine ⟨readyL ts done, Ev.bind hv (Ev.pos rfl (Ev.bind (ready_ev ts hs done hd) (Ev.pure _))), ?_, ?_⟩
  ·simp only [h2.ready]
  ·have := pickN_len (pR ts done) ts.length
   have h8 := h2.n8
   unfold readyL
   rw [nI_length]; omega
def pF (done : List Int) (at_ : Int) (i : Nat) : Bool := decide ((i : Int) = at_) || decide ((i : Int) ∈ done)
theorem finish_go (ts : List TT) (hs : Small ts) (done : List Int) (hd : done.length < 1099511627776) (at_ : Int) : ∀ (m j : Nat) (acc : List Int), j + m = ts.length → acc.length ≤ j →
  Ev (fun k => spec_FinishTask.l0 k ts done at_ acc (j : Int)) (acc ++ nI ((List.range' j m).filter (pF done at_)), true)
 | 0, j, acc, hj, _ => by
  refine Ev.succ ?_
  simp only [spec_FinishTask.l0]
  refine Ev.neg (by omega) (Ev.eq ?_)
  simp [nI]
 | m + 1, j, acc, hj, ha => by
  have hl := hs.1
  have hw : wrap64 ((j : Int) + 1) = ((j + 1 : Nat) : Int) := w64n j (by omega)
  have hadd : Ev (fun k => spec_FinishTask.l0 k ts done at_ (acc ++ [(j : Int)]) ((j + 1 : Nat) : Int)) (acc ++ nI (j :: (List.range' (j + 1) m).filter (pF done at_)), true) := by
   have := finish_go ts hs done hd at_ m (j + 1) (acc ++ [(j : Int)]) (by omega) (by simp only [List.length_append, List.length_cons, List.length_nil]; omega)
   rw [List.append_assoc] at this
   exact this
  refine Ev.succ ?_
  simp only [spec_FinishTask.l0, hw]
  rw [List.range'_succ, List.filter_cons]
  refine Ev.pos (by omega) (Ev.ite (fun hc => ?_) (fun hc => ?_))
  ·rw [if_pos (by unfold pF; rw [decide_eq_true hc]; rfl)]
   exact Ev.pos (by omega) hadd
  ·refine Ev.bind (isIn_ev _ _ (by omega)) (Ev.ite (fun h2 => ?_) (fun h2 => ?_))
   ·rw [if_pos (by unfold pF; rw [h2]; simp)]
    exact Ev.pos (by omega) hadd
   ·rw [if_neg (by unfold pF; rw [decide_eq_false hc, Bool.eq_false_iff.2 h2]; simp)]
    exact finish_go ts hs done hd at_ m (j + 1) acc (by omega) (by omega)
def finishL (ts : List TT) (done : List Int) (at_ : Int) : List Int := nI (pickN (pF done at_) ts.length)
theorem mem_readyL {ts : List TT} {done : List Int} {x : Int} : x ∈ readyL ts done ↔ (0 ≤ x ∧ x < ts.length) ∧ pR ts done x.toNat = true := by
 unfold readyL pickN nI
 rw [List.mem_map]
 constructor
 ·rintro ⟨i, hi, rfl⟩
  rw [List.mem_filter, List.mem_range] at hi
  exact ⟨by omega, by simpa using hi.2⟩
 ·rintro ⟨h1, h2⟩
  exact ⟨x.toNat, List.mem_filter.2 ⟨List.mem_range.2 (by omega), h2⟩, by omega⟩
theorem DoneOk.finishP {ts : List TT} {done : List Int} {G : GrN} {s : Nat} (h : DoneOk ts done G s) (at_ : Int) : finishP ts done at_ = if at_ ∈ readyL ts done then some (finishL ts done at_) else none := by
 unfold Go.Proofs.YtajapkjplgaigaaDoor.P.finishP
 rw [h.doneP]
 simp only
 by_cases hr : 0 ≤ at_ ∧ at_ < ts.length
 ·rw [if_pos hr, h.rbit at_.toNat (by omega)]
  by_cases hp : pR ts done at_.toNat = true
  ·rw [if_pos hp, if_pos (mem_readyL.2 ⟨hr, hp⟩)]
   congr 1
   unfold finishL
   rw [ivs_nI, bits_pick h.n8 (m := s ||| 2 ^ at_.toNat) (Nat.or_lt_two_pow h.lt (Nat.pow_lt_pow_right (by omega) (by omega))) (pF done at_) (fun i hi => ?_)]
   rw [Nat.testBit_or, Nat.testBit_two_pow, h.bit, pF, Bool.or_comm]
   congr 1
   exact decide_eq_decide.2 (by omega)
  ·rw [if_neg hp, if_neg (fun hm => hp (mem_readyL.1 hm).2)]
 ·rw [if_neg hr, if_neg (fun hm => hr (mem_readyL.1 hm).1)]
theorem FinishTask_ev (ts : List TT) (hs : Small ts) (done : List Int) (hd : done.length < 1099511627776) (at_ : Int) : ∃ r, Ev (fun k => spec_FinishTask.f k ts done at_) r ∧ impl_FinishTask.f ts done at_ = some r ∧ r.1.length ≤ 8 := by
 have hv := validDone_ev ts hs done hd
 have hrd := ready_ev ts hs done hd
 rcases doneP_eq ts done with ⟨h1, _⟩ | ⟨G, s, h1, _, h2⟩
 ·rw [h1] at hv
  refine ⟨([], false), ?_, by unfold impl_FinishTask.f finishP; rw [h1], by simp⟩
  unfold spec_FinishTask.f
  refine Ev.bind (Ev.pure _) (Ev.bind hv (Ev.neg (by simp) (Ev.succ ?_)))
  simp only [spec_FinishTask.j0]
  exact Ev.pos (by simp) (Ev.pure _)
 ·rw [h1] at hv
  have h8 := h2.n8
  have hlr : (readyL ts done).length ≤ 8 := by
   have := pickN_len (pR ts done) ts.length
   unfold readyL
   rw [nI_length]; omega
  by_cases hm : at_ ∈ readyL ts done
  ·refine ⟨(finishL ts done at_, true), ?_, by unfold impl_FinishTask.f; rw [h2.finishP at_, if_pos hm], ?_⟩
   ·unfold spec_FinishTask.f
    refine Ev.bind (Ev.pure _) (Ev.bind hv (Ev.pos rfl (Ev.bind hrd (Ev.bind (isIn_ev _ _ (by omega)) (Ev.succ ?_)))))
    simp only [spec_FinishTask.j0]
    refine Ev.neg (by simp [hm]) ?_
    have := finish_go ts hs done hd at_ ts.length 0 [] (by omega) (by simp)
    unfold finishL pickN
    rw [List.range_eq_range']
    exact this
   ·have := pickN_len (pF done at_) ts.length
    show (finishL ts done at_).length ≤ 8
    unfold finishL
    rw [nI_length]; omega
  ·refine ⟨([], false), ?_, by unfold impl_FinishTask.f; rw [h2.finishP at_, if_neg hm], by simp⟩
   unfold spec_FinishTask.f
   refine Ev.bind (Ev.pure _) (Ev.bind hv (Ev.pos rfl (Ev.bind hrd (Ev.bind (isIn_ev _ _ (by omega)) (Ev.succ ?_)))))
   simp only [spec_FinishTask.j0]
   exact Ev.pos (by simp [hm]) (Ev.pure _)
end Go.Proofs.YtajapkjplgaigaaDoor.P
end
section
namespace Go.Proofs.YtajapkjplgaigaaDoor.P
open Go.RowKit Go.Shelf Go.Proofs.YtajapkjplgaigaaDoorW.PrintWords Go.Proofs.YtajapkjplgaigaaDoorW.PrintLast Go.Proofs.YtajapkjplgaigaaDoorW.PrintMore
set_option linter.unusedVariables false
set_option linter.unusedSimpArgs false
structure RdOk (B : List Int) : Prop where
 len : B.length ≤ 2000
 byte : ∀ x ∈ B, 0 ≤ x ∧ x ≤ 255
theorem RdOk.at {B : List Int} (hB : RdOk B) (i : Int) : 0 ≤ rd B i ∧ rd B i ≤ 255 := by
 unfold rd
 rw [List.getD_eq_getElem?_getD]
 cases h : B[i.toNat]? with
 | none => simp
 | some x => exact hB.byte x (List.mem_of_getElem? h)
def Dr {α : Type} (m p : Int) (good : α → Prop) (f : Nat → Option (α × Int)) : Prop := ∃ r q, Ev f (r, q) ∧ good r ∧ p ≤ q ∧ q ≤ p + m
section
variable {α β : Type} {good good' : α → Prop} {goodb : β → Prop} {m m' n p : Int} {f : Nat → Option (α × Int)}
theorem Dr.mono (h : Dr m p good f) (hm : m ≤ m') (hg : ∀ r, good r → good' r) : Dr m' p good' f := by
 obtain ⟨r, q, h1, h2, h3, h4⟩ := h
 exact ⟨r, q, h1, hg r h2, h3, by omega⟩
theorem Dr.bind {g : Nat → α × Int → Option (β × Int)} (hf : Dr m p good f) (hg : ∀ r q, good r → p ≤ q → q ≤ p + m → Dr n q goodb (fun k => g k (r, q))) : Dr (m + n) p goodb (fun k => (f k).bind (g k)) := by
 obtain ⟨r, q, h1, h2, h3, h4⟩ := hf
 obtain ⟨r', q', e1, e2, e3, e4⟩ := hg r q h2 h3 h4
 exact ⟨r', q', h1.bind e1, e2, by omega, by omega⟩
theorem Dr.bind0 {γ : Type} {f : Nat → Option γ} {x : γ} {g : Nat → γ → Option (β × Int)} (hf : Ev f x) (hg : Dr m p goodb (fun k => g k x)) : Dr m p goodb (fun k => (f k).bind (g k)) := by
 obtain ⟨r', q', e1, e2, e3, e4⟩ := hg
 exact ⟨r', q', hf.bind e1, e2, e3, e4⟩
theorem Dr.pure {r : α} {q : Int} (h : good r) (h1 : p ≤ q) (h2 : q ≤ p + m) : Dr m p good (fun _ => some (r, q)) := ⟨r, q, Ev.pure _, h, h1, h2⟩
theorem Dr.here {r : α} {q : Int} (h : good r) (h0 : 0 ≤ m) : Dr m q good (fun _ => some (r, q)) := ⟨r, q, Ev.pure _, h, Int.le_refl _, by omega⟩
theorem Dr.succ {f : Nat → Option (α × Int)} (h : Dr m p good (fun k => f (k + 1))) : Dr m p good f := by
 obtain ⟨r, q, h1, h2⟩ := h
 exact ⟨r, q, h1.succ, h2⟩
theorem Dr.pos {c : Prop} [Decidable c] {g : Nat → Option (α × Int)} (hc : c) (h : Dr m p good f) : Dr m p good (fun k => if c then f k else g k) := by
 obtain ⟨r, q, h1, h2⟩ := h
 exact ⟨r, q, h1.pos hc, h2⟩
theorem Dr.neg {c : Prop} [Decidable c] {g : Nat → Option (α × Int)} (hc : ¬ c) (h : Dr m p good f) : Dr m p good (fun k => if c then g k else f k) := by
 obtain ⟨r, q, h1, h2⟩ := h
 exact ⟨r, q, h1.neg hc, h2⟩
theorem Dr.ite {c : Prop} [Decidable c] {g : Nat → Option (α × Int)} (h : c → Dr m p good f) (h' : ¬ c → Dr m p good g) : Dr m p good (fun k => if c then f k else g k) := by
 by_cases hc : c
 ·exact Dr.pos hc (h hc)
 ·exact Dr.neg hc (h' hc)
end
theorem xor64_nn (a b : Nat) (ha : a < 2 ^ 62) (hb : b < 2 ^ 62) : 0 ≤ Go.bits .xor .i64 (a : Int) (b : Int) ∧ Go.bits .xor .i64 (a : Int) (b : Int) < 2 ^ 62 := by
 have h1 : (BitVec.ofInt 64 (a : Int)).toNat = a := by
  rw [BitVec.ofInt_natCast, BitVec.toNat_ofNat]; exact Nat.mod_eq_of_lt (by omega)
 have h2 : (BitVec.ofInt 64 (b : Int)).toNat = b := by
  rw [BitVec.ofInt_natCast, BitVec.toNat_ofNat]; exact Nat.mod_eq_of_lt (by omega)
 have h3 : Go.bits .xor .i64 (a : Int) (b : Int) = IntKind.i64.wrap ((a ^^^ b : Nat) : Int) := by
  show IntKind.i64.wrap ((BitVec.ofInt 64 (a : Int) ^^^ BitVec.ofInt 64 (b : Int)).toNat : Int) = _
  rw [BitVec.toNat_xor, h1, h2]
 have h4 : a ^^^ b < 2 ^ 62 := Nat.xor_lt_two_pow ha hb
 rw [h3, IntKind.wrap_i64]
 omega
theorem tmod_in {a n : Int} (ha : 0 ≤ a) (hn : 1 ≤ n) : 0 ≤ Int.tmod a n ∧ Int.tmod a n < n := ⟨Int.tmod_nonneg _ ha, Int.tmod_lt_of_pos _ (by omega)⟩
theorem pick_ev {B : List Int} (hB : RdOk B) (n p : Int) (hp : 0 ≤ p) (hp' : p ≤ 1000000) : Dr 1 p (fun r => 0 ≤ r ∧ (1 ≤ n → r < n) ∧ (n < 1 → r = 0)) (fun k => spec_reader_pick.f k B p n) := by
 have hlen := hB.len
 have e1 : wrap64 (p + 1) = p + 1 := w64 (by omega) (by omega)
 have e2 : wrap64 (p + 1 - 1) = p := by rw [w64 (by omega) (by omega)]; omega
 have e3 : wrap64 (p * 7) = p * 7 := w64 (by omega) (by omega)
 have e4 : wrap64 (p * 7 + 3) = p * 7 + 3 := w64 (by omega) (by omega)
 unfold spec_reader_pick.f
 rw [e1]
 refine Dr.ite (fun hn => ?_) (fun hn => ?_)
 ·refine Dr.succ ?_
  simp only [spec_reader_pick.j0]
  exact Dr.pos (by simp) (Dr.pure ⟨by omega, by omega, fun _ => rfl⟩ (by omega) (by omega))
 ·refine Dr.succ ?_
  simp only [spec_reader_pick.j0, e2]
  refine Dr.ite (fun h0 => Dr.pure ⟨by omega, by omega, by omega⟩ (by omega) (by omega)) (fun h0 => ?_)
  have hB0 : 0 < B.length := by
   rcases Nat.eq_zero_or_pos B.length with h | h
   ·exact absurd (by rw [h]; rfl) h0
   ·exact h
  refine Dr.ite (fun h1 => ?_) (fun h1 => ?_)
  ·refine Dr.pos hp (Dr.neg (by omega) ?_)
   have hb := hB.at p
   rw [w64 (by omega) (by omega)]
   have ht := tmod_in hb.1 (by omega : 1 ≤ n)
   exact Dr.pure ⟨ht.1, fun _ => ht.2, by omega⟩ (by omega) (by omega)
  ·have t1 := tmod_in hp (by omega : (1 : Int) ≤ B.length)
   have t2 := tmod_in (by omega : 0 ≤ p * 7 + 3) (by omega : (1 : Int) ≤ B.length)
   simp only [e3, e4]
   refine Dr.neg (by omega) (Dr.pos t1.1 (Dr.pos t1.2 (Dr.pos t2.1 (Dr.pos t2.2 (Dr.neg (by omega) ?_)))))
   have b1 := hB.at (Int.tmod p (B.length : Int))
   have b2 := hB.at (Int.tmod (p * 7 + 3) (B.length : Int))
   obtain ⟨x1, hx1⟩ : ∃ x, x = rd B (Int.tmod p (B.length : Int)) := ⟨_, rfl⟩
   obtain ⟨x2, hx2⟩ : ∃ x, x = rd B (Int.tmod (p * 7 + 3) (B.length : Int)) := ⟨_, rfl⟩
   obtain ⟨d, hd⟩ : ∃ x, x = Int.tdiv p (B.length : Int) := ⟨_, rfl⟩
   have d0 : 0 ≤ d := by rw [hd]; exact Int.tdiv_nonneg hp (by omega)
   have d1 : d ≤ p := by rw [hd, Int.tdiv_eq_ediv_of_nonneg hp]; exact Int.ediv_le_self _ hp
   rw [← hx1] at b1 ⊢
   rw [← hx2] at b2 ⊢
   rw [← hd]
   simp only [w64 (n := x1) (by omega) (by omega), w64 (n := x2) (by omega) (by omega), w64 (n := x1 * 131) (by omega) (by omega), w64 (n := x2 * 1117) (by omega) (by omega), w64 (n := p * 29) (by omega) (by omega), w64 (n := d) (by omega) (by omega), w64 (n := d * 53) (by omega) (by omega),
    w64 (n := x1 * 131 + x2 * 1117) (by omega) (by omega), w64 (n := x1 * 131 + x2 * 1117 + p * 29) (by omega) (by omega), w64 (n := x1 * 131 + x2 * 1117 + p * 29 + d * 53) (by omega) (by omega)]
   obtain ⟨s, hs⟩ : ∃ s : Nat, x1 * 131 + x2 * 1117 + p * 29 + d * 53 = (s : Int) := ⟨(x1 * 131 + x2 * 1117 + p * 29 + d * 53).toNat, by omega⟩
   have hs2 : s < 1000000000000 := by omega
   rw [hs]
   have hdiv : wrap64 (Int.tdiv (s : Int) 64) = ((s / 64 : Nat) : Int) := by
    rw [Int.tdiv_eq_ediv_of_nonneg (by omega), w64 (by omega) (by omega)]; omega
   rw [hdiv]
   have hx := xor64_nn s (s / 64) (by omega) (by omega)
   have ht := tmod_in hx.1 (by omega : 1 ≤ n)
   exact Dr.pure ⟨ht.1, fun _ => ht.2, by omega⟩ (by omega) (by omega)
theorem one_ev {B : List Int} (hB : RdOk B) (l : List Int) (p : Int) (hl : 0 < l.length) (hp : 0 ≤ p) (hp' : p ≤ 1000000) : Dr 1 p (fun r => r ∈ l) (fun k => spec_reader_one.f k B p l) := by
 unfold spec_reader_one.f
 refine ((pick_ev hB (l.length : Int) p hp hp').bind (n := 0) (fun r q hr h1 h2 => ?_)).mono (by omega) (fun _ h => h)
 have h3 := hr.2.1 (by omega)
 refine Dr.pos hr.1 (Dr.pos h3 (Dr.here ?_ (by omega)))
 unfold rd
 rw [List.getD_eq_getElem?_getD, List.getElem?_eq_getElem (by omega)]
 exact List.getElem_mem _
theorem copyInts_eq (l : List Int) (h : l.length < 1099511627776) : spec_copyInts.f l = some l := by
 unfold spec_copyInts.f
 simp only [Option.bind_some]
 rw [if_pos (by simp; omega)]
 rfl
theorem spoil_ev {B : List Int} (hB : RdOk B) (l : List Int) (n p : Int) (hl : l.length ≤ 1000) (hp : 0 ≤ p) (hp' : p ≤ 900000) : Dr 3 p (fun r => r.length ≤ l.length + 1) (fun k => spec_reader_spoil.f k B p l n) := by
 unfold spec_reader_spoil.f
 refine Dr.bind0 (Ev.eq (copyInts_eq l (by omega))) (((pick_ev hB 20 p hp (by omega)).bind (n := 2) (fun r q hr h1 h2 => ?_)).mono (by omega) (fun _ h => h))
 refine Dr.ite (fun _ => Dr.pos (by omega) (Dr.here (by simp) (by omega))) (fun _ => Dr.ite (fun _ => ?_) (fun _ => Dr.ite (fun _ => ?_) (fun _ => Dr.here (by simp) (by omega))))
 ·exact Dr.ite (fun h => Dr.pos (by omega) (Dr.here (by simp; omega) (by omega))) (fun _ => Dr.here (by simp) (by omega))
 ·refine Dr.ite (fun h => ?_) (fun _ => Dr.here (by simp) (by omega))
  refine ((pick_ev hB (l.length : Int) q (by omega) (by omega)).bind (n := 1) (fun r2 q2 hr2 h3 h4 => ?_)).mono (by omega) (fun _ h => h)
  refine ((one_ev hB _ q2 (by simp) (by omega) (by omega)).bind (n := 0) (fun r3 q3 hr3 h5 h6 => ?_)).mono (by omega) (fun _ h => h)
  exact Dr.pos hr2.1 (Dr.pos (hr2.2.1 (by omega)) (Dr.here (by simp) (by omega)))
def GB (L M : Nat) (ts : List TT) : Prop := ts.length ≤ L ∧ ∀ t ∈ ts, t.f1.length ≤ M
theorem GB.small {L M : Nat} {ts : List TT} (h : GB L M ts) (hL : L ≤ 1000) (hM : M ≤ 1000) : Small ts := ⟨by have := h.1; omega, fun t ht => by have := h.2 t ht; omega⟩
theorem GB.snoc {L M : Nat} {ts : List TT} {t : TT} (h : GB L M ts) (ht : t.f1.length ≤ M) : GB (L + 1) M (ts ++ [t]) :=
 ⟨by have := h.1; simp; omega, fun x hx => by
  rcases List.mem_append.1 hx with hx | hx
  ·exact h.2 x hx
  ·rw [List.mem_singleton.1 hx]; exact ht⟩
theorem GB.set {L M : Nat} {ts : List TT} {t : TT} {i : Nat} (h : GB L M ts) (ht : t.f1.length ≤ M) : GB L M (ts.set i t) :=
 ⟨by have := h.1; simp; omega, fun x hx => by
  rcases List.mem_or_eq_of_mem_set hx with hx | hx
  ·exact h.2 x hx
  ·rw [hx]; exact ht⟩
theorem GB.mono {L M L' M' : Nat} {ts : List TT} (h : GB L M ts) (hL : L ≤ L') (hM : M ≤ M') : GB L' M' ts := ⟨by have := h.1; omega, fun x hx => by have := h.2 x hx; omega⟩
theorem GB.rd {L M : Nat} {ts : List TT} (h : GB L M ts) (i : Int) : (rd_T39 ts i).f1.length ≤ M := by
 unfold rd_T39
 rw [List.getD_eq_getElem?_getD]
 cases hh : ts[i.toNat]? with
 | none => simp [z39]
 | some t => exact h.2 t (List.mem_of_getElem? hh)
theorem turned_l1 (Q : List TT → Prop) (g : List TT) (out : List TT) (last i : Int) (a b c : Int) (nd : List Int) (hn : nd.length ≤ 1000)
  (hgo : ∀ acc : List Int, acc.length ≤ nd.length → ∃ r : List TT, Ev (fun k => spec_turned.l0 k g (out ++ [⟨a, acc, b, c⟩]) last (wrap64 (i - 1))) r ∧ Q r) (ho : out.length ≤ 1000) :
  ∀ (m : Nat) (acc : List Int), m ≤ nd.length → acc.length + m ≤ nd.length → ∃ r : List TT, Ev (fun k => spec_turned.l1 k g out last i acc ((m : Int) - 1) a nd b c) r ∧ Q r
 | 0, acc, _, ha => by
  obtain ⟨r, h1, h2⟩ := hgo acc (by omega)
  refine ⟨r, Ev.succ ?_, h2⟩
  simp only [spec_turned.l1]
  exact Ev.neg (by omega) (Ev.pos (by omega) h1)
 | m + 1, acc, hm, ha => by
  have hw : wrap64 (((m + 1 : Nat) : Int) - 1 - 1) = (m : Int) - 1 := by rw [w64 (by omega) (by omega)]; omega
  obtain ⟨r, h1, h2⟩ := turned_l1 Q g out last i a b c nd hn hgo ho m (acc ++ [wrap64 (last - Go.Proofs.YtajapkjplgaigaaDoorW.PrintWords.rd nd (((m + 1 : Nat) : Int) - 1))]) (by omega) (by simp only [List.length_append, List.length_cons, List.length_nil]; omega)
  refine ⟨r, Ev.succ ?_, h2⟩
  simp only [spec_turned.l1, hw]
  exact Ev.pos (by omega) (Ev.pos (by omega) (Ev.pos (by omega) (Ev.pos (by omega) h1)))
theorem turned_l0 (L M : Nat) (hL : L ≤ 1000) (hM : M ≤ 1000) (g : List TT) (hg : GB L M g) (last : Int) : ∀ (m : Nat) (out : List TT), m ≤ g.length → GB (g.length - m) M out → ∃ r, Ev (fun k => spec_turned.l0 k g out last ((m : Int) - 1)) r ∧ GB L M r
 | 0, out, _, ho => by
  refine ⟨out, Ev.succ ?_, ho.mono (by have := hg.1; omega) (Nat.le_refl _)⟩
  simp only [spec_turned.l0]
  exact Ev.neg (by omega) (Ev.pure _)
 | m + 1, out, hm, ho => by
  have hgl := hg.1
  have hol := ho.1
  have hrd := hg.rd (((m + 1 : Nat) : Int) - 1)
  have hw : wrap64 (((m + 1 : Nat) : Int) - 1 - 1) = (m : Int) - 1 := by rw [w64 (by omega) (by omega)]; omega
  obtain ⟨t, ht⟩ : ∃ t, t = rd_T39 g (((m + 1 : Nat) : Int) - 1) := ⟨_, rfl⟩
  rw [← ht] at hrd
  have hw2 : wrap64 ((t.f1.length : Int) - 1) = (t.f1.length : Int) - 1 := w64 (by omega) (by omega)
  obtain ⟨r, h1, h2⟩ := turned_l1 (GB L M) g out last (((m + 1 : Nat) : Int) - 1) t.f0 t.f2 t.f3 t.f1 (by omega) (fun acc ha => by
   rw [hw]
   exact turned_l0 L M hL hM g hg last m _ (by omega) ((ho.snoc (t := ⟨t.f0, acc, t.f2, t.f3⟩) (by show acc.length ≤ M; omega)).mono (by omega) (Nat.le_refl _))) (by omega) t.f1.length [] (Nat.le_refl _) (by simp)
  refine ⟨r, Ev.succ ?_, h2⟩
  simp only [spec_turned.l0, ← ht, hw2]
  exact Ev.pos (by omega) (Ev.pos (by omega) (Ev.pos (by omega) h1))
theorem turned_ev (L M : Nat) (hL : L ≤ 1000) (hM : M ≤ 1000) (g : List TT) (hg : GB L M g) : ∃ r, Ev (fun k => spec_turned.f k g) r ∧ GB L M r := by
 unfold spec_turned.f
 have hgl := hg.1
 rw [w64 (by omega) (by omega)]
 exact turned_l0 L M hL hM g hg _ g.length [] (Nat.le_refl _) ⟨by simp, fun t ht => by cases ht⟩
theorem some_l1 {B : List Int} (hB : RdOk B) (M : Int) (hM : 0 ≤ M) (good : List TT → Prop) (g : List TT) (hg : g.length ≤ 8) (n : Int) (a b c : Int) (E : Int) (hE : E ≤ 10000)
  (hgo : ∀ (acc : List Int) (q : Int), acc.length ≤ g.length → 0 ≤ q → q ≤ E → Dr M q good (fun k => spec_someGraph.l0 k (g ++ [⟨a, acc, b, c⟩]) (wrap64 (n - 1)) B q)) :
  ∀ (m j : Nat) (acc : List Int) (p : Int), j + m = g.length → acc.length ≤ j → 0 ≤ p → p + m ≤ E → Dr (m + M) p good (fun k => spec_someGraph.l1 k g n (j : Int) B p a acc b c)
 | 0, j, acc, p, hj, ha, hp, hp' => by
  refine Dr.succ ?_
  simp only [spec_someGraph.l1]
  exact Dr.neg (by omega) (Dr.pos (by omega) ((hgo acc p (by omega) hp (by omega)).mono (by omega) (fun _ h => h)))
 | m + 1, j, acc, p, hj, ha, hp, hp' => by
  have hw : wrap64 ((j : Int) + 1) = ((j + 1 : Nat) : Int) := w64n j (by omega)
  refine Dr.succ ?_
  simp only [spec_someGraph.l1, hw]
  refine Dr.pos (by omega) (((pick_ev hB 3 p hp (by omega)).bind (n := m + M) (fun r q hr h1 h2 => ?_)).mono (by omega) (fun _ h => h))
  exact Dr.ite (fun _ => Dr.pos (by omega) (some_l1 hB M hM good g hg n a b c E hE hgo m (j + 1) _ q (by omega) (by simp only [List.length_append, List.length_cons, List.length_nil]; omega) (by omega) (by omega))) (fun _ => some_l1 hB M hM good g hg n a b c E hE hgo m (j + 1) acc q (by omega) (by omega) (by omega) (by omega))
theorem some_l0 {B : List Int} (hB : RdOk B) : ∀ (n : Nat) (g : List TT) (p : Int), g.length + n ≤ 8 → GB 8 8 g → 0 ≤ p → p + 11 * n ≤ 5000 → Dr (11 * n + 1) p (GB 8 8) (fun k => spec_someGraph.l0 k g (n : Int) B p)
 | 0, g, p, hn, hg, hp, hp' => by
  refine Dr.succ ?_
  simp only [spec_someGraph.l0]
  refine Dr.neg (by omega) (Dr.ite (fun h => ?_) (fun h => Dr.here hg (by omega)))
  refine ((pick_ev hB 4 p hp (by omega)).bind (n := 0) (fun r q hr h1 h2 => ?_)).mono (by omega) (fun _ h => h)
  obtain ⟨t, h3, h4⟩ := turned_ev 8 8 (by omega) (by omega) g hg
  exact Dr.ite (fun _ => Dr.bind0 h3 (Dr.here h4 (by omega))) (fun _ => Dr.here hg (by omega))
 | n + 1, g, p, hn, hg, hp, hp' => by
  have hw : wrap64 (((n + 1 : Nat) : Int) - 1) = (n : Int) := by rw [w64 (by omega) (by omega)]; omega
  refine Dr.succ ?_
  simp only [spec_someGraph.l0]
  refine Dr.pos (by omega) (((one_ev hB _ p (by simp) hp (by omega)).bind (n := 2 + (8 + (11 * n + 1))) (fun r q hr h1 h2 => ?_)).mono (by omega) (fun _ h => h))
  refine ((pick_ev hB 3 q (by omega) (by omega)).bind (n := 1 + (8 + (11 * n + 1))) (fun r2 q2 hr2 h3 h4 => ?_)).mono (by omega) (fun _ h => h)
  refine ((pick_ev hB 4 q2 (by omega) (by omega)).bind (n := 8 + (11 * n + 1)) (fun r3 q3 hr3 h5 h6 => ?_)).mono (by omega) (fun _ h => h)
  refine (some_l1 hB (11 * n + 1) (by omega) (GB 8 8) g (by omega) ((n + 1 : Nat) : Int) r r2 (wrap64 (1 + r3)) (q3 + g.length) (by omega) (fun acc q4 ha h7 h8 => ?_) g.length 0 [] q3 (by omega) (by simp) (by omega) (by omega)).mono (by omega) (fun _ h => h)
  rw [hw]
  exact some_l0 hB n _ q4 (by simp; omega) ⟨by simp; omega, (hg.snoc (t := ⟨r, acc, r2, wrap64 (1 + r3)⟩) (by show acc.length ≤ 8; omega)).2⟩ h7 (by omega)
theorem someGraph_ev {B : List Int} (hB : RdOk B) (p : Int) (hp : 0 ≤ p) (hp' : p ≤ 1000) : Dr 100 p (GB 8 8) (fun k => spec_someGraph.f k B p 8) := by
 unfold spec_someGraph.f
 refine ((one_ev hB _ p (by simp) hp (by omega)).bind (n := 99) (fun r q hr h1 h2 => ?_)).mono (by omega) (fun _ h => h)
 obtain ⟨n, hn, hn8⟩ : ∃ n : Nat, mn 8 r = (n : Int) ∧ n ≤ 8 := by
  simp only [List.mem_cons, List.not_mem_nil, or_false] at hr
  unfold mn
  rcases hr with h | h | h | h | h | h | h | h <;> subst h
  ·exact ⟨4, by decide, by omega⟩
  ·exact ⟨5, by decide, by omega⟩
  ·exact ⟨3, by decide, by omega⟩
  ·exact ⟨6, by decide, by omega⟩
  ·exact ⟨2, by decide, by omega⟩
  ·exact ⟨1, by decide, by omega⟩
  ·exact ⟨0, by decide, by omega⟩
  ·exact ⟨8, by decide, by omega⟩
 rw [hn]
 exact (some_l0 hB n [] q (by simpa using hn8) ⟨by simp, fun t ht => by cases ht⟩ (by omega) (by omega)).mono (by omega) (fun _ h => h)
theorem anyGraph_ev {B : List Int} (hB : RdOk B) (p : Int) (hp : 0 ≤ p) (hp' : p ≤ 100) : Dr 300 p (GB 16 16) (fun k => spec_anyGraph.f k B p) := by
 unfold spec_anyGraph.f
 refine ((someGraph_ev hB p hp (by omega)).bind (n := 200) (fun g q hg h1 h2 => ?_)).mono (by omega) (fun _ h => h)
 have hg16 := hg.mono (L' := 16) (M' := 16) (by omega) (by omega)
 have hgl := hg.1
 refine Dr.ite (fun _ => Dr.here hg16 (by omega)) (fun h0 => ?_)
 have h0' : ¬ (g.length : Int) = 0 := h0
 refine ((pick_ev hB (g.length : Int) q (by omega) (by omega)).bind (n := 199) (fun a q2 ha h3 h4 => ?_)).mono (by omega) (fun _ h => h)
 have ha2 := ha.2.1 (by omega)
 refine ((pick_ev hB 24 q2 (by omega) (by omega)).bind (n := 198) (fun b q3 hb h5 h6 => ?_)).mono (by omega) (fun _ h => h)
 have hrd := hg.rd a
 refine Dr.ite (fun _ => ?_) (fun _ => Dr.ite (fun _ => ?_) (fun _ => Dr.ite (fun _ => ?_) (fun _ => Dr.ite (fun _ => ?_) (fun _ => Dr.ite (fun _ => ?_) (fun _ => Dr.here hg16 (by omega))))))
 ·refine ((one_ev hB _ q3 (by simp) (by omega) (by omega)).bind (n := 0) (fun r q4 hr h7 h8 => ?_)).mono (by omega) (fun _ h => h)
  exact Dr.pos ha.1 (Dr.pos ha2 (Dr.here (hg16.set (by show _ ≤ 16; dsimp only; omega)) (by omega)))
 ·refine Dr.pos ha.1 (Dr.pos ha2 (Dr.bind0 (Ev.pure _) ?_))
  refine ((pick_ev hB (g.length : Int) q3 (by omega) (by omega)).bind (n := 3) (fun r q4 hr h7 h8 => ?_)).mono (by omega) (fun _ h => h)
  refine Dr.bind0 (Ev.pure _) (Dr.pos (by simp only [List.length_cons, List.length_nil]; omega) ?_)
  refine ((spoil_ev hB _ 8 q4 (by simp only [List.length_append, List.length_cons, List.length_nil]; omega) (by omega) (by omega)).bind (n := 0) (fun r2 q5 hr2 h9 h10 => ?_)).mono (by omega) (fun _ h => h)
  simp only [List.length_append, List.length_cons, List.length_nil] at hr2
  exact Dr.here (hg16.set (by show r2.length ≤ 16; omega)) (by omega)
 ·refine ((one_ev hB _ q3 (by simp) (by omega) (by omega)).bind (n := 0) (fun r q4 hr h7 h8 => ?_)).mono (by omega) (fun _ h => h)
  exact Dr.pos ha.1 (Dr.pos ha2 (Dr.here (hg16.set (by show _ ≤ 16; dsimp only; omega)) (by omega)))
 ·refine ((one_ev hB _ q3 (by simp) (by omega) (by omega)).bind (n := 0) (fun r q4 hr h7 h8 => ?_)).mono (by omega) (fun _ h => h)
  exact Dr.pos ha.1 (Dr.pos ha2 (Dr.here (hg16.set (by show _ ≤ 16; dsimp only; omega)) (by omega)))
 ·refine ((someGraph_ev hB q3 (by omega) (by omega)).bind (n := 0) (fun r q4 hr h7 h8 => ?_)).mono (by omega) (fun _ h => h)
  have hrl := hr.1
  refine Dr.pos (by show g.length + r.length < _; omega) (Dr.here (show GB 16 16 (g ++ r) from ⟨by simp; omega, fun t ht => ?_⟩) (by omega))
  rcases List.mem_append.1 ht with ht | ht
  ·have := hg.2 t ht; omega
  ·have := hr.2 t ht; omega
theorem newReader_ev (l : List Int) (hb : ∀ x ∈ l, (Lit.int .u8 x).wf = true) : ∃ B : List Int, spec_newReader.f l = some (B, 0) ∧ RdOk B := by
 have hbyte : ∀ x ∈ l, 0 ≤ x ∧ x ≤ 255 := fun x hx => by
  have := hb x hx
  have h2 : (decide (IntKind.u8.min ≤ x) && decide (x ≤ IntKind.u8.max)) = true := this
  rw [Bool.and_eq_true, decide_eq_true_eq, decide_eq_true_eq] at h2
  exact h2
 unfold spec_newReader.f
 by_cases h : (l.length : Int) > 2000
 ·rw [if_pos h, if_pos (by omega)]
  exact ⟨_, rfl, by simp; omega, fun x hx => hbyte x (List.mem_of_mem_take hx)⟩
 ·rw [if_neg h]
  exact ⟨_, rfl, by omega, hbyte⟩
end Go.Proofs.YtajapkjplgaigaaDoor.P
end
section
namespace Go.Proofs.YtajapkjplgaigaaDoor.P
open Go.RowKit Go.Shelf Go.Proofs.YtajapkjplgaigaaDoorW.PrintWords Go.Proofs.YtajapkjplgaigaaDoorW.PrintLast Go.Proofs.YtajapkjplgaigaaDoorW.PrintMore
attribute [local go_sem] Oper.semAt_some
set_option linter.unusedVariables false
set_option linter.unusedSimpArgs false
def totI (ts : List TT) (xs : List Nat) : Int := xs.foldl (fun (a : Int) (i : Nat) => a + (rd_T39 ts (i : Int)).f0) 0
def allN (n : Nat) : Nat := 2 ^ n - 1
def progressP (ts : List TT) (done : List Int) : Int := match doneP ts done with
 | none => -1
 | some (G, s) => if ts.length = 0 then 1000 else (1000 * totI ts (bitsN s)) / totI ts (bitsN (allN ts.length))
def impl_ProgressOf.f (l0 : List TT) (l1 : List Int) : Option (Int) := some (progressP l0 l1)
end Go.Proofs.YtajapkjplgaigaaDoor.P
end
section
namespace Go.Proofs.YtajapkjplgaigaaDoor.P
open Go.RowKit Go.Proofs.YtajapkjplgaigaaDoorW.PrintWords Go.Proofs.YtajapkjplgaigaaDoorW.PrintLast Go.Proofs.YtajapkjplgaigaaDoorW.PrintMore
attribute [local go_sem] max2_int min2_int max_two min_two max_three min_three max_four min_four   -- for this text's walks alone
set_option linter.unusedVariables false
set_option linter.unusedSimpArgs false
def spec_toInt.f (a0 : Bool) : Option (Int) := if a0 = true then (some 1) else (some 0)
end Go.Proofs.YtajapkjplgaigaaDoor.P
end
section
namespace Go.Proofs.YtajapkjplgaigaaDoor.P
open Go.RowKit Go.Proofs.YtajapkjplgaigaaDoorW.PrintWords Go.Proofs.YtajapkjplgaigaaDoorW.PrintLast Go.Proofs.YtajapkjplgaigaaDoorW.PrintMore
attribute [local go_sem] max2_int min2_int max_two min_two max_three min_three max_four min_four   -- for this text's walks alone
set_option linter.unusedVariables false
set_option linter.unusedSimpArgs false
def spec_ProgressOf.l0 : Nat → List (S39) → List Int → Int → Int → Int → Option (Int)
 | 0, _, _, _, _, _ => none
 | k + 1, x0, x1, x5, x6, x7 => if x7 < (x0.length : Int) then (if 0 ≤ x7 then ((spec_isIn.f k x1 x7).bind fun t363 => ((spec_toInt.f t363).bind fun t364 => (spec_ProgressOf.l0 k x0 x1 (wrap64 (x5 + (wrap64 (((rd_T39 x0 x7).f0) * t364)))) (wrap64 (x6 + ((rd_T39 x0 x7).f0))) (wrap64 (x7 + 1))))) else (none)) else (if x6 = 0 then (some 1000) else (some (wrap64 (Int.tdiv (wrap64 (1000 * x5)) x6))))
def spec_ProgressOf.f (k : Nat) (l0 : List (S39)) (l1 : List Int) : Option (Int) := (spec_validDone.f k l0 l1).bind fun t360 => (if t360 = true then (spec_ProgressOf.l0 k l0 l1 0 0 0) else (some (-1)))
end Go.Proofs.YtajapkjplgaigaaDoor.P
end
section
namespace Go.Proofs.YtajapkjplgaigaaDoor.P
open Go.RowKit Go.Shelf Go.Proofs.YtajapkjplgaigaaDoorW.PrintWords Go.Proofs.YtajapkjplgaigaaDoorW.PrintLast Go.Proofs.YtajapkjplgaigaaDoorW.PrintMore
set_option linter.unusedVariables false
set_option linter.unusedSimpArgs false
theorem someDone_l0 {B : List Int} (hB : RdOk B) (g : List TT) (hg : GB 16 16 g) : ∀ (n : Nat) (done : List Int) (p : Int), done.length ≤ 8 → 0 ≤ p → p + n ≤ 10000 → Dr (n + 3) p (fun r => r.length ≤ 9) (fun k => spec_someDone.l0 k g done (n : Int) B p)
 | 0, done, p, hd, hp, hp' => by
  refine Dr.succ ?_
  simp only [spec_someDone.l0]
  refine Dr.neg (by omega) (((spoil_ev hB done 8 p (by omega) hp (by omega)).bind (n := 0) (fun r q hr h1 h2 => ?_)).mono (by omega) (fun _ h => h))
  exact Dr.here (by show r.length ≤ 9; omega) (by omega)
 | n + 1, done, p, hd, hp, hp' => by
  have hw : wrap64 (((n + 1 : Nat) : Int) - 1) = (n : Int) := by rw [w64 (by omega) (by omega)]; omega
  have hs := hg.small (by omega) (by omega)
  obtain ⟨r, e1, _, hr8⟩ := ReadyTasks_ev g hs done (by omega)
  have hno : ∀ q, p ≤ q → q ≤ p + 1 → Dr (n + 3) q (fun r => r.length ≤ 9) (fun k => spec_someDone.l0 k g done (n : Int) B q) := fun q h1 h2 => someDone_l0 hB g hg n done q hd (by omega) (by omega)
  refine Dr.succ ?_
  simp only [spec_someDone.l0, hw]
  refine Dr.pos (by omega) (Dr.bind0 e1 (Dr.ite (fun h => ?_) (fun h => (hno p (by omega) (by omega)).mono (by omega) (fun _ h => h))))
  refine ((pick_ev hB (r.length : Int) p (by omega) (by omega)).bind (n := n + 3) (fun a q ha h1 h2 => ?_)).mono (by omega) (fun _ h => h)
  obtain ⟨f, e2, _, hf8⟩ := FinishTask_ev g hs done (by omega) (rd r a)
  refine Dr.pos ha.1 (Dr.pos (ha.2.1 (by omega)) (Dr.bind0 e2 (Dr.ite (fun _ => ?_) (fun _ => hno q (by omega) (by omega)))))
  exact someDone_l0 hB g hg n f.1 q hf8 (by omega) (by omega)
theorem someDone_ev {B : List Int} (hB : RdOk B) (g : List TT) (hg : GB 16 16 g) (p : Int) (hp : 0 ≤ p) (hp' : p ≤ 5000) : Dr 30 p (fun r => r.length ≤ 9) (fun k => spec_someDone.f k B p g) := by
 unfold spec_someDone.f
 have hgl := hg.1
 rw [w64 (n := (g.length : Int) + 1) (by omega) (by omega)]
 refine ((pick_ev hB ((g.length : Int) + 1) p hp (by omega)).bind (n := 25) (fun r q hr h1 h2 => ?_)).mono (by omega) (fun _ h => h)
 have h3 := hr.2.1 (by omega)
 obtain ⟨n, rfl⟩ : ∃ n : Nat, r = (n : Int) := ⟨r.toNat, by omega⟩
 exact (someDone_l0 hB g hg n [] q (by simp) (by omega) (by omega)).mono (by omega) (fun _ h => h)
def sumP (ts : List TT) (p : Nat → Bool) (l : List Nat) : Int := l.foldl (fun (a : Int) (i : Nat) => if p i then a + (rd_T39 ts (i : Int)).f0 else a) 0
theorem sum_fold (ts : List TT) (p : Nat → Bool) : ∀ (l : List Nat) (a : Int), l.foldl (fun (a : Int) (i : Nat) => if p i then a + (rd_T39 ts (i : Int)).f0 else a) a = a + sumP ts p l
 | [], a => by simp [sumP]
 | i :: l, a => by
  unfold sumP
  rw [List.foldl_cons, List.foldl_cons, sum_fold ts p l, sum_fold ts p l]
  split <;> omega
theorem sum_cons (ts : List TT) (p : Nat → Bool) (i : Nat) (l : List Nat) : sumP ts p (i :: l) = (if p i then (rd_T39 ts (i : Int)).f0 else 0) + sumP ts p l := by
 show (i :: l).foldl _ 0 = _
 rw [List.foldl_cons, sum_fold]
 split <;> omega
def inD (done : List Int) (i : Nat) : Bool := decide ((i : Int) ∈ done)
def progL (ts : List TT) (done : List Int) : Int := if ts.length = 0 then 1000 else (1000 * sumP ts (inD done) (List.range ts.length)) / sumP ts (fun _ => true) (List.range ts.length)
end Go.Proofs.YtajapkjplgaigaaDoor.P
end
section
namespace Go.Proofs.YtajapkjplgaigaaDoor.P
open Go.RowKit Go.Shelf Go.Proofs.YtajapkjplgaigaaDoorW.PrintWords Go.Proofs.YtajapkjplgaigaaDoorW.PrintLast Go.Proofs.YtajapkjplgaigaaDoorW.PrintMore
set_option linter.unusedVariables false
set_option linter.unusedSimpArgs false
theorem topo_go {ts : List TT} (hf : fineB ts = true) : ∀ (m : Nat) (s : List Nat × Nat), OrdOk ts.length s.1 s.2 → (∀ (a : List Nat) (i : Nat) (b : List Nat), s.1 = a ++ i :: b → ∀ x ∈ (rd_T39 ts (i : Int)).f1, x ∈ nI a) →
  ∀ (a : List Nat) (i : Nat) (b : List Nat), (orderGo (needsM ts) m s).1 = a ++ i :: b → ∀ x ∈ (rd_T39 ts (i : Int)).f1, x ∈ nI a
 | 0, s, _, h => h
 | m + 1, s, ho, h => by
  cases hfi : firstP (needsM ts) s.2 with
  | none =>
   rw [orderGo_none hfi]
   exact h
  | some i =>
   obtain ⟨h1, h2⟩ := firstP_can hfi
   rw [needsM_len] at h1
   have h3 : s.2.testBit i = false := by unfold canP at h2; simp only [Bool.and_eq_true, Bool.not_eq_true'] at h2; exact h2.1
   have hstep : orderStep (needsM ts) s = (s.1 ++ [i], s.2 ||| 2 ^ i) := by unfold orderStep; simp only [hfi]
   rw [orderGo, hstep]
   refine topo_go hf m _ (ho.add h1 h3) (fun a j b he x hx => ?_)
   rw [canP_eq hf ho.bits h1, Bool.and_eq_true] at h2
   rcases List.eq_nil_or_concat b with rfl | ⟨b', y, rfl⟩
   ·have h4 := List.append_inj' he rfl
    have h5 : i = j := by simpa using h4.2
    subst h5
    rw [← h4.1]
    rw [rdT_at ts i h1] at hx
    exact of_decide_eq_true (List.all_eq_true.1 h2.2 x hx)
   ·have h4 : s.1 ++ [i] = (a ++ j :: b') ++ [y] := by
     have h5 : s.1 ++ [i] = a ++ j :: b'.concat y := he
     rw [List.concat_eq_append] at h5
     rw [h5]; simp
    exact h a j b' (List.append_inj' h4 rfl).1 x hx
theorem order_topo {ts : List TT} (hf : fineB ts = true) (a : List Nat) (i : Nat) (b : List Nat) (h : (orderP (needsM ts)).1 = a ++ i :: b) : ∀ x ∈ (rd_T39 ts (i : Int)).f1, x ∈ nI a := by
 unfold orderP at h
 exact topo_go hf _ ([], 0) (ordOk_nil _) (fun a i b he => by simp at he) a i b h
def mstep (ts : List TT) (f : Nat → Int) (i : Nat) (m : Int) (k : Nat) : Int := if ((i : Int) ∈ (rd_T39 ts (k : Int)).f1) then mx m (f k) else m
def mostU (ts : List TT) (f : Nat → Int) (i : Nat) (l : List Nat) : Int := l.foldl (mstep ts f i) 0
def tailGo (ts : List TT) : List Nat → (Nat → Int) → (Nat → Int)
 | [], f => f
 | at_ :: r, f => tailGo ts r (fun i => if i = at_ then mostU ts f at_ (List.range ts.length) + (rd_T39 ts (at_ : Int)).f0 else f i)
def tailF (ts : List TT) : Nat → Int := tailGo ts (orderP (needsM ts)).1.reverse (fun _ => 0)
def tailL (ts : List TT) : List Int := (List.range ts.length).map (tailF ts)
theorem mx_in {a b B : Int} (ha : 0 ≤ a ∧ a ≤ B) (hb : 0 ≤ b ∧ b ≤ B) : 0 ≤ mx a b ∧ mx a b ≤ B := by unfold mx; split <;> omega
theorem mostU_in (ts : List TT) (f : Nat → Int) (i : Nat) (B : Int) (hf : ∀ k, 0 ≤ f k ∧ f k ≤ B) : ∀ (l : List Nat) (m : Int), 0 ≤ m ∧ m ≤ B → 0 ≤ l.foldl (mstep ts f i) m ∧ l.foldl (mstep ts f i) m ≤ B
 | [], m, h => h
 | k :: l, m, h => by
  rw [List.foldl_cons]
  refine mostU_in ts f i B hf l _ ?_
  unfold mstep
  split
  ·exact mx_in h (hf k)
  ·exact h
theorem map_set (f : Nat → Int) (n i : Nat) (v : Int) (hi : i < n) : ((List.range n).map f).set i v = (List.range n).map (fun k => if k = i then v else f k) := by
 refine List.ext_getElem (by simp) (fun j h1 h2 => ?_)
 simp only [List.length_set, List.length_map, List.length_range] at h1
 rw [List.getElem_set]
 simp only [List.getElem_map, List.getElem_range]
 by_cases h : i = j
 ·rw [if_pos h, if_pos h.symm]
 ·rw [if_neg h, if_neg (fun e => h e.symm)]
theorem rd_map (f : Nat → Int) (n i : Nat) (hi : i < n) : rd ((List.range n).map f) (i : Int) = f i := by simp [rd, hi]
theorem tails_l1 (ts : List TT) (hs : Small ts) (f : Nat → Int) (od : List Int) (idx : Int) (at_ : Nat) (ha : at_ < ts.length) (r : List Int) (B : Int) (hB : B ≤ 100000) (hf : ∀ k, 0 ≤ f k ∧ f k ≤ B) (ht : 0 ≤ (rd_T39 ts (at_ : Int)).f0 ∧ (rd_T39 ts (at_ : Int)).f0 ≤ 20) :
  ∀ (m j : Nat) (most : Int), j + m = ts.length → 0 ≤ most ∧ most ≤ B →
  Ev (fun k => spec_tails.l0 k ts ((List.range ts.length).map (fun k => if k = at_ then (List.range' j m).foldl (mstep ts f at_) most + (rd_T39 ts (at_ : Int)).f0 else f k)) od (wrap64 (idx - 1))) r →
  Ev (fun k => spec_tails.l1 k ts ((List.range ts.length).map f) od idx (at_ : Int) most (j : Int)) r
 | 0, j, most, hj, hm, hgo => by
  have hl : (((List.range ts.length).map f).length : Int) = (ts.length : Int) := by simp
  have hgo2 : Ev (fun k => spec_tails.l0 k ts ((List.range ts.length).map (fun k => if k = at_ then most + (rd_T39 ts (at_ : Int)).f0 else f k)) od (wrap64 (idx - 1))) r := hgo
  refine Ev.succ ?_
  simp only [spec_tails.l1]
  refine Ev.neg (by omega) (Ev.pos (by omega) (Ev.pos (by omega) (Ev.pos (by omega) ?_)))
  rw [Int.toNat_natCast, w64 (n := most + _) (by omega) (by omega), map_set f _ _ _ ha]
  exact hgo2
 | m + 1, j, most, hj, hm, hgo => by
  have hlen := hs.1
  have hl : (((List.range ts.length).map f).length : Int) = (ts.length : Int) := by simp
  have hw : wrap64 ((j : Int) + 1) = ((j + 1 : Nat) : Int) := w64n j (by omega)
  have hsr := small_rd hs (j : Int)
  rw [List.range'_succ, List.foldl_cons] at hgo
  refine Ev.succ ?_
  simp only [spec_tails.l1, hw]
  refine Ev.pos (by omega) (Ev.pos (by omega) (Ev.bind (isIn_ev _ _ (by omega)) (Ev.ite (fun hc => ?_) (fun hc => ?_))))
  ·refine Ev.pos (by omega) ?_
   rw [rd_map f _ _ (by omega)]
   have e : mstep ts f at_ most j = mx most (f j) := by unfold mstep; rw [if_pos (of_decide_eq_true hc)]
   rw [e] at hgo
   exact tails_l1 ts hs f od idx at_ ha r B hB hf ht m (j + 1) (mx most (f j)) (by omega) (mx_in hm (hf j)) hgo
  ·have e : mstep ts f at_ most j = most := by unfold mstep; rw [if_neg (fun h => hc (decide_eq_true h))]
   rw [e] at hgo
   exact tails_l1 ts hs f od idx at_ ha r B hB hf ht m (j + 1) most (by omega) hm hgo
theorem tails_l0 (ts : List TT) (hs : Small ts) (od : List Nat) (hod : ∀ i ∈ od, i < ts.length) (hol : od.length ≤ 8) (ht : ∀ i, i < ts.length → 0 ≤ (rd_T39 ts (i : Int)).f0 ∧ (rd_T39 ts (i : Int)).f0 ≤ 20) :
  ∀ (j : Nat) (f : Nat → Int), j ≤ od.length → (∀ k, 0 ≤ f k ∧ f k ≤ 20 * ((od.length : Int) - j)) → Ev (fun k => spec_tails.l0 k ts ((List.range ts.length).map f) (nI od) ((j : Int) - 1)) ((List.range ts.length).map (tailGo ts (od.take j).reverse f))
 | 0, f, _, _ => by
  refine Ev.succ ?_
  simp only [spec_tails.l0]
  exact Ev.neg (by omega) (Ev.pure _)
 | j + 1, f, hj, hf => by
  have hi : j < od.length := by omega
  have hat := hod od[j] (List.getElem_mem hi)
  have e1 : (((j + 1 : Nat) : Int) - 1) = (j : Int) := by omega
  have e2 : wrap64 ((j : Int) - 1) = (j : Int) - 1 := w64 (by omega) (by omega)
  have e3 : rd (nI od) (j : Int) = ((od[j] : Nat) : Int) := by rw [rd_nI]; simp [hi]
  have e4 : (od.take (j + 1)).reverse = od[j] :: (od.take j).reverse := by rw [List.take_succ_eq_append_getElem hi]; simp
  have hb := mostU_in ts f od[j] _ hf (List.range ts.length) 0 ⟨by omega, by have := hf 0; omega⟩
  have htt := ht od[j] hat
  refine Ev.succ ?_
  simp only [spec_tails.l0, e1, e3]
  refine Ev.pos (by omega) (Ev.pos (by omega) (Ev.pos (by rw [nI_length]; omega) ?_))
  refine tails_l1 ts hs f (nI od) (j : Int) od[j] hat _ (20 * ((od.length : Int) - ((j + 1 : Nat) : Int))) (by omega) hf htt ts.length 0 0 (by omega) ⟨by omega, by omega⟩ ?_
  rw [e2, e4, ← List.range_eq_range']
  refine tails_l0 ts hs od hod hol ht j _ (by omega) (fun k => ?_)
  have hfk := hf k
  show 0 ≤ (if k = od[j] then _ else f k) ∧ (if k = od[j] then _ else f k) ≤ _
  split
  ·exact ⟨by have := hb.1; omega, by have := hb.2; omega⟩
  ·omega
theorem tails_ev (ts : List TT) (hs : Small ts) (hf : fineB ts = true) : Ev (fun k => spec_tails.f k ts) (tailL ts) := by
 obtain ⟨h1, h2⟩ := topOrder_ev ts hs hf
 have h8 := fine_len hf
 have hol := h2.len
 unfold spec_tails.f
 refine Ev.pos (by omega) (Ev.pos (by omega) (Ev.bind h1 ?_))
 rw [nI_length, w64 (by omega) (by omega), Int.toNat_natCast]
 have e : List.replicate ts.length (0 : Int) = (List.range ts.length).map (fun _ => (0 : Int)) := by
  refine List.ext_getElem (by simp) (fun j h1 h2 => by simp)
 rw [e]
 have := tails_l0 ts hs (orderP (needsM ts)).1 h2.lt (by omega) (fun i hi => by
  have h := fine_task hf hi
  rw [rdT_at ts i hi]
  unfold taskB at h
  simp only [Bool.and_eq_true, inB, decide_eq_true_eq] at h
  omega) (orderP (needsM ts)).1.length (fun _ => 0) (Nat.le_refl _) (fun k => by omega)
 rw [List.take_length] at this
 exact this
end Go.Proofs.YtajapkjplgaigaaDoor.P
end
section
namespace Go.Proofs.YtajapkjplgaigaaDoor.P
open Go.RowKit Go.Shelf Go.Proofs.YtajapkjplgaigaaDoorW.PrintWords Go.Proofs.YtajapkjplgaigaaDoorW.PrintLast Go.Proofs.YtajapkjplgaigaaDoorW.PrintMore
set_option linter.unusedVariables false
set_option linter.unusedSimpArgs false
theorem mx_swap (a b c : Int) : mx (mx a b) c = mx (mx a c) b := by
 unfold mx
 repeat' split
 all_goals omega
theorem fold_mx (ts : List TT) (f : Nat → Int) (i : Nat) (v : Int) : ∀ (l : List Nat) (m : Int), l.foldl (mstep ts f i) (mx m v) = mx (l.foldl (mstep ts f i) m) v
 | [], m => rfl
 | k :: l, m => by
  rw [List.foldl_cons, List.foldl_cons]
  have e : mstep ts f i (mx m v) k = mx (mstep ts f i m k) v := by
   unfold mstep
   split
   ·exact mx_swap m v (f k)
   ·rfl
  rw [e, fold_mx ts f i v l]
theorem fold_same (ts : List TT) (f f' : Nat → Int) (i : Nat) : ∀ (l : List Nat) (m : Int), (∀ k ∈ l, f' k = f k) → l.foldl (mstep ts f' i) m = l.foldl (mstep ts f i) m
 | [], m, _ => rfl
 | k :: l, m, h => by
  rw [List.foldl_cons, List.foldl_cons]
  have e : mstep ts f' i m k = mstep ts f i m k := by unfold mstep; rw [h k List.mem_cons_self]
  rw [e, fold_same ts f f' i l _ (fun k hk => h k (List.mem_cons_of_mem _ hk))]
theorem mostU_upd (ts : List TT) (f : Nat → Int) (at_ i n : Nat) (v : Int) (ha : at_ < n) (hf0 : f at_ = 0) (hf : ∀ k, 0 ≤ f k) (B : Int) (hB : ∀ k, f k ≤ B) (hv : 0 ≤ v) :
  (List.range n).foldl (mstep ts (fun k => if k = at_ then v else f k) i) 0 = if ((i : Int) ∈ (rd_T39 ts (at_ : Int)).f1) then mx ((List.range n).foldl (mstep ts f i) 0) v else (List.range n).foldl (mstep ts f i) 0 := by
 obtain ⟨a, b, hab⟩ : ∃ a b, List.range n = a ++ at_ :: b := List.append_of_mem (List.mem_range.2 ha)
 have hnd : (a ++ at_ :: b).Nodup := by rw [← hab]; exact List.nodup_range
 have hna : ∀ k ∈ a, k ≠ at_ := fun k hk e => (List.nodup_append.1 hnd).2.2 k hk at_ List.mem_cons_self e
 have hnb : ∀ k ∈ b, k ≠ at_ := fun k hk e => (List.nodup_cons.1 (List.nodup_append.1 hnd).2.1).1 (e ▸ hk)
 rw [hab, List.foldl_append, List.foldl_append, List.foldl_cons, List.foldl_cons]
 rw [fold_same ts f _ i a 0 (fun k hk => if_neg (hna k hk)), fold_same ts f _ i b _ (fun k hk => if_neg (hnb k hk))]
 have hM := mostU_in ts f i B (fun k => ⟨hf k, hB k⟩) a 0 ⟨by omega, by have := hf 0; have := hB 0; omega⟩
 obtain ⟨M, hMe⟩ : ∃ M, M = a.foldl (mstep ts f i) 0 := ⟨_, rfl⟩
 rw [← hMe] at hM ⊢
 by_cases hc : ((i : Int) ∈ (rd_T39 ts (at_ : Int)).f1)
 ·rw [if_pos hc]
  have e1 : mstep ts (fun k => if k = at_ then v else f k) i M at_ = mx M v := by
   unfold mstep
   rw [if_pos hc]
   show mx M (if at_ = at_ then v else f at_) = mx M v
   rw [if_pos rfl]
  have e2 : mstep ts f i M at_ = M := by unfold mstep; rw [if_pos hc, hf0]; unfold mx; split <;> omega
  rw [e1, e2, fold_mx]
 ·rw [if_neg hc]
  have e1 : mstep ts (fun k => if k = at_ then v else f k) i M at_ = M := by unfold mstep; rw [if_neg hc]
  have e2 : mstep ts f i M at_ = M := by unfold mstep; rw [if_neg hc]
  rw [e1, e2]
def pushF (g : Nat → Int) (at_ : Nat) (l : List Nat) : Nat → Int := l.foldl (fun g k => fun i => if i = k then mx (g k) (g at_) else g i) g
def impStep (ts : List TT) (g : Nat → Int) (at_ : Nat) : Nat → Int := pushF (fun i => if i = at_ then g at_ + (rd_T39 ts (at_ : Int)).f0 else g i) at_ (bitsN ((needsM ts).getD at_ 0))
def impGo (ts : List TT) : List Nat → (Nat → Int) → (Nat → Int)
 | [], g => g
 | at_ :: r, g => impGo ts r (impStep ts g at_)
theorem push_at (at_ : Nat) : ∀ (l : List Nat) (g : Nat → Int), at_ ∉ l → l.Nodup → pushF g at_ l at_ = g at_ ∧ ∀ i, pushF g at_ l i = if i ∈ l then mx (g i) (g at_) else g i
 | [], g, _, _ => ⟨rfl, fun i => by simp [pushF]⟩
 | k :: l, g, h, hn => by
  have hk : at_ ≠ k := fun e => h (e ▸ List.mem_cons_self)
  have hn2 := List.nodup_cons.1 hn
  obtain ⟨h1, h2⟩ := push_at at_ l (fun i => if i = k then mx (g k) (g at_) else g i) (fun hm => h (List.mem_cons_of_mem _ hm)) hn2.2
  have e : pushF g at_ (k :: l) = pushF (fun i => if i = k then mx (g k) (g at_) else g i) at_ l := rfl
  rw [e]
  refine ⟨by rw [h1, if_neg hk], fun i => ?_⟩
  rw [h2 i, if_neg hk]
  by_cases hik : i = k
  ·subst hik
   rw [if_neg hn2.1, if_pos rfl, if_pos List.mem_cons_self]
  ·rw [if_neg hik]
   by_cases hil : i ∈ l
   ·rw [if_pos hil, if_pos (List.mem_cons_of_mem _ hil)]
   ·rw [if_neg hil, if_neg (fun hm => by rcases List.mem_cons.1 hm with e | e; exact hik e; exact hil e)]
theorem needs_bits {ts : List TT} (hf : fineB ts = true) {at_ : Nat} (ha : at_ < ts.length) (i : Nat) : i ∈ bitsN ((needsM ts).getD at_ 0) ↔ (i : Int) ∈ (rd_T39 ts (at_ : Int)).f1 := by
 have hn := (task_mem (fine_task hf ha)).1
 have h8 := fine_len hf
 rw [needsM_get ts at_ ha, mem_bitsN, maskL_bit (fun x hx => (hn x hx).1), rdT_at ts at_ ha, decide_eq_true_eq]
 exact ⟨fun h => h.2, fun h => ⟨by have := hn _ h; omega, h⟩⟩
theorem bitsN_nodup (s : Nat) : (bitsN s).Nodup := List.Pairwise.filter _ List.nodup_range
theorem imp_go {ts : List TT} (hf : fineB ts = true) (od : List Nat) (hod : ∀ i ∈ od, i < ts.length) (hnd : od.Nodup) (htopo : ∀ (a : List Nat) (i : Nat) (b : List Nat), od = a ++ i :: b → ∀ x ∈ (rd_T39 ts (i : Int)).f1, x ∈ nI a)
  (ht : ∀ i, i < ts.length → 0 ≤ (rd_T39 ts (i : Int)).f0) : ∀ (r P : List Nat) (f g : Nat → Int), P ++ r = od.reverse → (∀ k, 0 ≤ f k) → (∃ B, ∀ k, f k ≤ B) → (∀ i ∈ P, g i = f i) → (∀ i, i ∉ P → f i = 0 ∧ g i = (List.range ts.length).foldl (mstep ts f i) 0) →
  ∀ i ∈ od, impGo ts r g i = tailGo ts r f i
 | [], P, f, g, he, _, _, h1, _ => fun i hi => by
  rw [List.append_nil] at he
  exact h1 i (by rw [he]; exact List.mem_reverse.2 hi)
 | at_ :: r, P, f, g, he, hf0, hfB, h1, h2 => by
  obtain ⟨B, hB⟩ := hfB
  have hrn : (P ++ at_ :: r).Nodup := by rw [he]; exact List.pairwise_reverse.2 (hnd.imp (fun h => h.symm))
  have haP : at_ ∉ P := fun hm => (List.nodup_append.1 hrn).2.2 at_ hm at_ List.mem_cons_self rfl
  have hmem : ∀ x ∈ P ++ at_ :: r, x ∈ od := fun x hx => by rw [he] at hx; exact List.mem_reverse.1 hx
  have hat := hod at_ (hmem at_ (by simp))
  have hsplit : od = r.reverse ++ at_ :: P.reverse := by
   have := congrArg List.reverse he
   rw [List.reverse_reverse] at this
   rw [← this]
   simp
  have hneed : ∀ k, k ∈ bitsN ((needsM ts).getD at_ 0) → k ∈ r := fun k hk => by
   have h3 := htopo r.reverse at_ P.reverse hsplit _ ((needs_bits hf hat k).1 hk)
   exact List.mem_reverse.1 (mem_nI.1 h3)
  have hsep : ∀ k ∈ r, k ∉ P ∧ k ≠ at_ := fun k hk => ⟨fun hm => (List.nodup_append.1 hrn).2.2 k hm k (List.mem_cons_of_mem _ hk) rfl, fun e => (List.nodup_cons.1 (List.nodup_append.1 hrn).2.1).1 (e ▸ hk)⟩
  obtain ⟨fa, hfa⟩ : ∃ v, v = (List.range ts.length).foldl (mstep ts f at_) 0 + (rd_T39 ts (at_ : Int)).f0 := ⟨_, rfl⟩
  have hM := mostU_in ts f at_ B (fun k => ⟨hf0 k, hB k⟩) (List.range ts.length) 0 ⟨by omega, by have := hf0 0; have := hB 0; omega⟩
  have htt := ht at_ hat
  have hfa0 : 0 ≤ fa := by omega
  have hpush := push_at at_ (bitsN ((needsM ts).getD at_ 0)) (fun i => if i = at_ then g at_ + (rd_T39 ts (at_ : Int)).f0 else g i) (fun hm => (hsep at_ (hneed at_ hm)).2 rfl) (bitsN_nodup _)
  have hga : g at_ + (rd_T39 ts (at_ : Int)).f0 = fa := by rw [(h2 at_ haP).2, hfa]
  rw [if_pos rfl, hga] at hpush
  have hstep : ∀ i, impStep ts g at_ i = if i ∈ bitsN ((needsM ts).getD at_ 0) then mx (if i = at_ then fa else g i) fa else (if i = at_ then fa else g i) := fun i => by
   unfold impStep
   rw [hga]
   exact hpush.2 i
  have hgo : tailGo ts (at_ :: r) f = tailGo ts r (fun i => if i = at_ then fa else f i) := by rw [hfa]; rfl
  rw [hgo]
  show ∀ i ∈ od, impGo ts r (impStep ts g at_) i = _
  refine imp_go hf od hod hnd htopo ht r (P ++ [at_]) (fun i => if i = at_ then fa else f i) (impStep ts g at_) (by rw [← he]; simp) (fun k => ?_) ⟨max B fa, fun k => ?_⟩ (fun i hi => ?_) (fun i hi => ?_)
  ·show 0 ≤ if k = at_ then fa else f k
   split
   ·exact hfa0
   ·exact hf0 k
  ·show (if k = at_ then fa else f k) ≤ max B fa
   have := hB k
   split <;> omega
  ·rw [hstep]
   rcases List.mem_append.1 hi with hi | hi
   ·have hne : i ≠ at_ := fun e => haP (e ▸ hi)
    rw [if_neg (fun hm => (hsep i (hneed i hm)).1 hi), if_neg hne, if_neg hne]
    exact h1 i hi
   ·rw [List.mem_singleton] at hi
    subst hi
    rw [if_neg (fun hm => (hsep i (hneed i hm)).2 rfl), if_pos rfl, if_pos rfl]
  ·have hiP : i ∉ P := fun hm => hi (List.mem_append_left _ hm)
   have hne : i ≠ at_ := fun e => hi (List.mem_append_right _ (by rw [e]; exact List.mem_cons_self))
   refine ⟨by show (if i = at_ then fa else f i) = 0; rw [if_neg hne]; exact (h2 i hiP).1, ?_⟩
   rw [hstep, mostU_upd ts f at_ i ts.length fa hat (h2 at_ haP).1 hf0 B hB hfa0, if_neg hne, (h2 i hiP).2]
   by_cases hm : i ∈ bitsN ((needsM ts).getD at_ 0)
   ·rw [if_pos hm, if_pos ((needs_bits hf hat i).1 hm)]
   ·rw [if_neg hm, if_neg (fun h => hm ((needs_bits hf hat i).2 h))]
theorem imp_tails {ts : List TT} (hf : fineB ts = true) (hfull : (orderP (needsM ts)).2 = 2 ^ ts.length - 1) (hO : OrdOk ts.length (orderP (needsM ts)).1 (orderP (needsM ts)).2) (i : Nat) (hi : i < ts.length) :
  impGo ts (orderP (needsM ts)).1.reverse (fun _ => 0) i = tailF ts i := by
 have hm : i ∈ (orderP (needsM ts)).1 := by
  have h1 := hO.bit i
  rw [hfull, Nat.testBit_two_pow_sub_one, decide_eq_true hi] at h1
  exact of_decide_eq_true h1.symm
 have hz : ∀ (l : List Nat) (j : Nat), l.foldl (mstep ts (fun _ => 0) j) 0 = 0 := by
  intro l j
  induction l with
  | nil => rfl
  | cons k l ih =>
   rw [List.foldl_cons]
   have e : mstep ts (fun _ => 0) j 0 k = 0 := by unfold mstep; split <;> rfl
   rw [e, ih]
 exact imp_go hf _ hO.lt hO.nd (order_topo hf) (fun j hj => by
  have h := fine_task hf hj
  rw [rdT_at ts j hj]
  unfold taskB at h
  simp only [Bool.and_eq_true, inB, decide_eq_true_eq] at h
  omega) _ [] (fun _ => 0) (fun _ => 0) rfl (fun _ => Int.le_refl _) ⟨0, fun _ => Int.le_refl _⟩ (fun i hi => by cases hi) (fun j _ => ⟨rfl, (hz _ j).symm⟩) i hm
end Go.Proofs.YtajapkjplgaigaaDoor.P
end
section
namespace Go.Proofs.YtajapkjplgaigaaDoor.P
open Go.RowKit Go.Shelf Go.Proofs.YtajapkjplgaigaaDoorW.PrintWords Go.Proofs.YtajapkjplgaigaaDoorW.PrintLast Go.Proofs.YtajapkjplgaigaaDoorW.PrintMore
set_option linter.unusedVariables false
set_option linter.unusedSimpArgs false
def timeL (ts : List TT) (done : List Int) : Int := (readyL ts done).foldl (fun m x => mx m (rd (tailL ts) x)) 0
def timeLeftP (ts : List TT) (done : List Int) : Int := match doneP ts done with
 | none => -1
 | some _ => timeL ts done
theorem timeLeft_go (tl list : List Int) (hl : list.length < 1099511627776) (hin : ∀ x ∈ list, 0 ≤ x ∧ x < tl.length) : ∀ (r pre : List Int) (m : Int), pre ++ r = list → Ev (fun k => spec_timeLeft.l0 k m tl list (pre.length : Int)) (r.foldl (fun m x => mx m (rd tl x)) m)
 | [], pre, m, he => by
  have h2 : ¬ (pre.length : Int) < (list.length : Int) := by rw [← he]; exact len_nlt pre
  refine Ev.succ ?_
  simp only [spec_timeLeft.l0]
  exact Ev.neg h2 (Ev.pure _)
 | x :: r, pre, m, he => by
  have hx := hin x (by rw [← he]; simp)
  have h1 : rd list (pre.length : Int) = x := by rw [← he]; exact rdm pre x r
  have h2 : (pre.length : Int) < (list.length : Int) := by rw [← he]; exact len_lt _ _ _
  refine Ev.succ ?_
  simp only [spec_timeLeft.l0, h1]
  refine Ev.pos h2 (Ev.pos (by omega) (Ev.pos hx.1 (Ev.pos hx.2 ?_)))
  rw [len_next pre x (by omega)]
  exact timeLeft_go tl list hl hin r (pre ++ [x]) _ (by rw [← he]; simp)
theorem TimeLeft_ev (ts : List TT) (hs : Small ts) (done : List Int) (hd : done.length < 1099511627776) : Ev (fun k => spec_TimeLeft.f k ts done) (timeLeftP ts done) := by
 have hv := validDone_ev ts hs done hd
 unfold spec_TimeLeft.f timeLeftP
 rcases doneP_eq ts done with ⟨h1, _⟩ | ⟨G, s, h1, _, h2⟩
 ·rw [h1] at hv ⊢
  exact Ev.bind hv (Ev.neg (by simp) (Ev.pure _))
 ·rw [h1] at hv ⊢
  refine Ev.bind hv (Ev.pos rfl (Ev.bind ?_ (Ev.pure _)))
  unfold spec_timeLeft.f
  refine Ev.bind (tails_ev ts hs h2.fine) (Ev.bind (ready_ev ts hs done hd) ?_)
  have hr : (readyL ts done).length ≤ 8 := by
   have := pickN_len (pR ts done) ts.length
   have := h2.n8
   unfold readyL
   rw [nI_length]; omega
  exact timeLeft_go (tailL ts) (readyL ts done) (by omega) (fun x hx => by
   have := (mem_readyL.1 hx).1
   unfold tailL
   simpa using this) (readyL ts done) [] 0 rfl
end Go.Proofs.YtajapkjplgaigaaDoor.P
end
section
namespace Go.Proofs.YtajapkjplgaigaaDoor.P
open Go.RowKit Go.Shelf Go.Proofs.YtajapkjplgaigaaDoorW.PrintWords Go.Proofs.YtajapkjplgaigaaDoorW.PrintLast Go.Proofs.YtajapkjplgaigaaDoorW.PrintMore
set_option linter.unusedVariables false
set_option linter.unusedSimpArgs false
theorem most_le (ts : List TT) (f : Nat → Int) (i : Nat) (B : Int) : ∀ (l : List Nat) (m : Int), m ≤ B → (∀ k ∈ l, (i : Int) ∈ (rd_T39 ts (k : Int)).f1 → f k ≤ B) → l.foldl (mstep ts f i) m ≤ B
 | [], m, h, _ => h
 | k :: l, m, h, hk => by
  rw [List.foldl_cons]
  refine most_le ts f i B l _ ?_ (fun j hj => hk j (List.mem_cons_of_mem _ hj))
  unfold mstep
  split
  ·rename_i hc
   have := hk k List.mem_cons_self hc
   unfold mx
   split <;> omega
  ·exact h
theorem sum_nn (ts : List TT) (p : Nat → Bool) : ∀ (l : List Nat), (∀ i ∈ l, 0 ≤ (rd_T39 ts (i : Int)).f0) → 0 ≤ sumP ts p l
 | [], _ => by simp [sumP]
 | i :: l, h => by
  have h1 := h i List.mem_cons_self
  have h2 := sum_nn ts p l (fun j hj => h j (List.mem_cons_of_mem _ hj))
  rw [sum_cons]
  split <;> omega
theorem tail_le {ts : List TT} {done : List Int} {G : GrN} {s : Nat} (h : DoneOk ts done G s) (hto : ∀ i, i < ts.length → 0 ≤ (rd_T39 ts (i : Int)).f0) : ∀ (r Q : List Nat) (f : Nat → Int), (∀ i ∈ Q ++ r, i < ts.length) → (∀ i, i ∉ Q → f i = 0) → (∀ i ∈ Q, inD done i = false → f i ≤ sumP ts (fun i => !inD done i) Q) →
  ∀ i ∈ r.reverse ++ Q, inD done i = false → tailGo ts r f i ≤ sumP ts (fun i => !inD done i) (r.reverse ++ Q)
 | [], Q, f, _, _, h2 => fun i hi hd => by
  have h3 : i ∈ Q := by simpa using hi
  show f i ≤ sumP ts (fun i => !inD done i) Q
  exact h2 i h3 hd
 | at_ :: r, Q, f, hr, h1, h2 => fun i hi hd => by
  have hat := hr at_ (by simp)
  have hQ : ∀ i ∈ Q, i < ts.length := fun i hi => hr i (List.mem_append_left _ hi)
  have hnn := sum_nn ts (fun i => !inD done i) Q (fun j hj => hto j (hQ j hj))
  have htt := hto at_ hat
  have e : (at_ :: r).reverse ++ Q = r.reverse ++ (at_ :: Q) := by simp
  rw [e] at hi ⊢
  have hcons : sumP ts (fun i => !inD done i) (at_ :: Q) = (if (!inD done at_) = true then (rd_T39 ts (at_ : Int)).f0 else 0) + sumP ts (fun i => !inD done i) Q := sum_cons ts _ at_ Q
  refine tail_le h hto r (at_ :: Q) _ (fun j hj => hr j ?_) (fun j hj => ?_) (fun j hj hjd => ?_) i hi hd
  ·simp only [List.mem_append, List.mem_cons] at hj ⊢
   rcases hj with (hj | hj) | hj
   ·exact Or.inr (Or.inl hj)
   ·exact Or.inl hj
   ·exact Or.inr (Or.inr hj)
  ·have hne : j ≠ at_ := fun e => hj (e ▸ List.mem_cons_self)
   show (if j = at_ then _ else f j) = 0
   rw [if_neg hne]
   exact h1 j (fun hm => hj (List.mem_cons_of_mem _ hm))
  ·show (if j = at_ then mostU ts f at_ (List.range ts.length) + (rd_T39 ts (at_ : Int)).f0 else f j) ≤ _
   rw [hcons]
   by_cases hja : j = at_
   ·subst hja
    rw [if_pos rfl, hjd]
    have hm : mostU ts f j (List.range ts.length) ≤ sumP ts (fun i => !inD done i) Q := by
     refine most_le ts f j _ _ 0 hnn (fun k hk hkn => ?_)
     by_cases hkQ : k ∈ Q
     ·refine h2 k hkQ ?_
      cases hkd : inD done k with
      | false => rfl
      | true =>
       have hkm : (k : Int) ∈ done := of_decide_eq_true hkd
       have := List.all_eq_true.1 (List.all_eq_true.1 h.keeps _ hkm) _ hkn
       rw [show inD done j = true from this] at hjd
       cases hjd
     ·rw [h1 k hkQ]; exact hnn
    simp only [Bool.not_false, if_true]
    omega
   ·rw [if_neg hja]
    have hjQ : j ∈ Q := (List.mem_cons.1 hj).resolve_left hja
    have := h2 j hjQ hjd
    split <;> omega
end Go.Proofs.YtajapkjplgaigaaDoor.P
end
section
namespace Go.Proofs.YtajapkjplgaigaaDoor.P
open Go.RowKit Go.Shelf Go.Proofs.YtajapkjplgaigaaDoorW.PrintWords Go.Proofs.YtajapkjplgaigaaDoorW.PrintLast Go.Proofs.YtajapkjplgaigaaDoorW.PrintMore
set_option linter.unusedVariables false
set_option linter.unusedSimpArgs false
theorem push_in (at_ : Nat) (B : Int) : ∀ (l : List Nat) (g : Nat → Int), (∀ k, 0 ≤ g k ∧ g k ≤ B) → ∀ k, 0 ≤ pushF g at_ l k ∧ pushF g at_ l k ≤ B
 | [], g, h => h
 | k :: l, g, h => push_in at_ B l (fun i => if i = k then mx (g k) (g at_) else g i) (fun i => by
   show 0 ≤ (if i = k then mx (g k) (g at_) else g i) ∧ (if i = k then mx (g k) (g at_) else g i) ≤ B
   split
   ·exact mx_in (h k) (h at_)
   ·exact h i)
theorem impStep_in {ts : List TT} {g : Nat → Int} {at_ : Nat} {B : Int} (h : ∀ k, 0 ≤ g k ∧ g k ≤ B) (ht : 0 ≤ (rd_T39 ts (at_ : Int)).f0 ∧ (rd_T39 ts (at_ : Int)).f0 ≤ 20) : ∀ k, 0 ≤ impStep ts g at_ k ∧ impStep ts g at_ k ≤ B + 20 := by
 unfold impStep
 refine push_in at_ (B + 20) _ _ (fun i => ?_)
 have h1 := h at_
 have h2 := h i
 show 0 ≤ (if i = at_ then g at_ + _ else g i) ∧ (if i = at_ then g at_ + _ else g i) ≤ B + 20
 split <;> omega
theorem stepW_eq {ts : List TT} {g : Nat → Int} {at_ : Nat} (h0 : 0 ≤ g at_) (h1 : g at_ ≤ 100000) (ht : 0 ≤ (rd_T39 ts (at_ : Int)).f0 ∧ (rd_T39 ts (at_ : Int)).f0 ≤ 20) : stepW ts (needsM ts) g at_ = impStep ts g at_ := by
 unfold stepW impStep
 have e : addW ts g at_ = fun i => if i = at_ then g at_ + (rd_T39 ts (at_ : Int)).f0 else g i := by
  funext i
  unfold addW
  rw [w64 (by omega) (by omega)]
 rw [e]
 rfl
theorem tailsW_go {ts : List TT} : ∀ (l : List Nat) (g : Nat → Int) (B : Int), (∀ k, 0 ≤ g k ∧ g k ≤ B) → B + 20 * l.length ≤ 100000 → (∀ i ∈ l, 0 ≤ (rd_T39 ts (i : Int)).f0 ∧ (rd_T39 ts (i : Int)).f0 ≤ 20) →
  l.foldl (stepW ts (needsM ts)) g = impGo ts l g
 | [], g, B, _, _, _ => rfl
 | at_ :: l, g, B, h, hB, ht => by
  rw [List.length_cons] at hB
  have h1 := ht at_ List.mem_cons_self
  have h2 := h at_
  rw [List.foldl_cons, stepW_eq h2.1 (by omega) h1]
  exact tailsW_go l _ (B + 20) (impStep_in h h1) (by omega) (fun i hi => ht i (List.mem_cons_of_mem _ hi))
theorem fine_times {ts : List TT} (hf : fineB ts = true) (i : Nat) (hi : i < ts.length) : 1 ≤ (rd_T39 ts (i : Int)).f0 ∧ (rd_T39 ts (i : Int)).f0 ≤ 20 := by
 have h := fine_task hf hi
 rw [rdT_at ts i hi]
 unfold taskB at h
 simp only [Bool.and_eq_true, inB, decide_eq_true_eq] at h
 omega
theorem tailsW_eq {ts : List TT} (hs : Small ts) {G : GrN} (hg : graphP ts = some G) (i : Nat) (hi : i < ts.length) : tailsW G.ts G.nd G.od.reverse i = tailF ts i := by
 obtain ⟨hts, _, hOk⟩ := graphP_ok hg
 obtain ⟨hf, hnd, _⟩ := graphP_fine hg
 obtain ⟨_, hO⟩ := topOrder_ev ts hs hf
 have hfull := hOk.full
 have hod := hOk.ord
 have h8 := fine_len hf
 have hol := hO.len
 rw [hnd] at hod hfull
 rw [hts] at hfull
 unfold tailsW
 rw [hts, hnd, hod, tailsW_go _ (fun _ => 0) 0 (fun _ => ⟨Int.le_refl _, Int.le_refl _⟩) (by rw [List.length_reverse]; omega) (fun j hj => by
  have := fine_times hf j (hO.lt j (List.mem_reverse.1 hj))
  omega)]
 exact imp_tails hf hfull hO i hi
theorem most_same (f f' : Nat → Int) : ∀ (l : List Nat) (m : Int), (∀ i ∈ l, f i = f' i) → l.foldl (fun m i => mx m (f i)) m = l.foldl (fun m i => mx m (f' i)) m
 | [], m, _ => rfl
 | i :: l, m, h => by
  rw [List.foldl_cons, List.foldl_cons, h i List.mem_cons_self]
  exact most_same f f' l _ (fun j hj => h j (List.mem_cons_of_mem _ hj))
theorem timeL_most (ts : List TT) (done : List Int) : timeL ts done = mostF (tailF ts) (pickN (pR ts done) ts.length) := by
 unfold timeL mostF readyL nI
 rw [List.foldl_map]
 refine most_same (fun i => rd (tailL ts) (i : Int)) (tailF ts) _ 0 (fun i hi => ?_)
 unfold pickN at hi
 have h := List.mem_range.1 (List.mem_filter.1 hi).1
 exact rd_map (tailF ts) _ _ h
theorem timeLeft_eq (ts : List TT) (hs : Small ts) (done : List Int) : timeLeftW ts done = timeLeftP ts done := by
 unfold timeLeftW timeLeftP
 rcases doneP_eq ts done with ⟨h1, _⟩ | ⟨G, s, h1, _, h⟩
 ·rw [h1]
 ·rw [h1]
  show mostF _ (bitsN (readyN G.nd s)) = timeL ts done
  have e := h.ready
  have e2 : bitsN (readyN G.nd s) = pickN (pR ts done) ts.length := by
   have e3 : nI (bitsN (readyN G.nd s)) = nI (pickN (pR ts done) ts.length) := e
   have e4 := congrArg (List.map Int.toNat) e3
   simpa [nI, Function.comp_def] using e4
  rw [timeL_most, e2]
  refine most_same _ _ _ 0 (fun i hi => ?_)
  unfold pickN at hi
  exact tailsW_eq hs h.g i (List.mem_range.1 (List.mem_filter.1 hi).1)
theorem TimeLeft_is (ts : List TT) (hs : Small ts) (done : List Int) : impl_TimeLeft.f ts done = some (timeLeftP ts done) := by
 unfold impl_TimeLeft.f
 rw [timeLeft_eq ts hs]
end Go.Proofs.YtajapkjplgaigaaDoor.P
end
section
namespace Go.Proofs.YtajapkjplgaigaaDoor.P
open Go.RowKit Go.Proofs.YtajapkjplgaigaaDoorW.PrintWords Go.Proofs.YtajapkjplgaigaaDoorW.PrintLast Go.Proofs.YtajapkjplgaigaaDoorW.PrintMore
attribute [local go_sem] max2_int min2_int max_two min_two max_three min_three max_four min_four   -- for this text's walks alone
set_option linter.unusedVariables false
set_option linter.unusedSimpArgs false
def spec_someAt.f (k : Nat) (s0_0 : List Int) (s0_1 : Int) (l1 : List (S39)) : Option (Int × Int) := (spec_reader_pick.f k s0_0 s0_1 10).bind fun bt398 => (if bt398.1 = 0 then ((spec_reader_one.f k s0_0 bt398.2 (([(-1), (l1.length : Int), 0] : List Int))).bind fun bt403 => (some (bt403.1, bt403.2))) else ((spec_reader_pick.f k s0_0 bt398.2 (mx 1 (l1.length : Int))).bind fun bt405 => (some (bt405.1, bt405.2))))
end Go.Proofs.YtajapkjplgaigaaDoor.P
end
section
namespace Go.Proofs.YtajapkjplgaigaaDoor.P
open Go.RowKit Go.Proofs.YtajapkjplgaigaaDoorW.PrintWords Go.Proofs.YtajapkjplgaigaaDoorW.PrintLast Go.Proofs.YtajapkjplgaigaaDoorW.PrintMore
attribute [local go_sem] max2_int min2_int max_two min_two max_three min_three max_four min_four   -- for this text's walks alone
set_option linter.unusedVariables false
set_option linter.unusedSimpArgs false
mutual
def spec_WaitsFor.j0 : Nat → List (S39) → List Int → Int → List Int → Bool → Option (List Int)
 | 0, _, _, _, _, _ => none
 | k + 1, x0, x1, x2, x7, x21 => if x21 = true then (some ([] : List Int)) else (spec_WaitsFor.l0 k x0 x1 x2 x7 0)
def spec_WaitsFor.l0 : Nat → List (S39) → List Int → Int → List Int → Int → Option (List Int)
 | 0, _, _, _, _, _ => none
 | k + 1, x0, x1, x2, x7, x8 => if 0 ≤ x2 then (if x2 < (x0.length : Int) then (if x8 < (((rd_T39 x0 x2).f1).length : Int) then (if 0 ≤ x8 then ((spec_isIn.f k x1 (rd ((rd_T39 x0 x2).f1) x8)).bind fun t443 => (if t443 = true then (spec_WaitsFor.l0 k x0 x1 x2 x7 (wrap64 (x8 + 1))) else (if x7.length < 17592186044416 then (spec_WaitsFor.l0 k x0 x1 x2 (x7 ++ [rd ((rd_T39 x0 x2).f1) x8]) (wrap64 (x8 + 1))) else (none)))) else (none)) else (some x7)) else (none)) else (none)
end
def spec_WaitsFor.f (k : Nat) (l0 : List (S39)) (l1 : List Int) (a2 : Int) : Option (List Int) := (some (([] : List Int) : List Int)).bind fun y435 => ((spec_validDone.f k l0 l1).bind fun t438 => (if t438 = true then ((spec_inRange.f a2 0 (wrap64 ((l0.length : Int) - 1))).bind fun t439 => (spec_WaitsFor.j0 k l0 l1 a2 y435 (!t439))) else (spec_WaitsFor.j0 k l0 l1 a2 y435 true)))
end Go.Proofs.YtajapkjplgaigaaDoor.P
end
section
namespace Go.Proofs.YtajapkjplgaigaaDoor.P
open Go.RowKit Go.Proofs.YtajapkjplgaigaaDoorW.PrintWords Go.Proofs.YtajapkjplgaigaaDoorW.PrintLast Go.Proofs.YtajapkjplgaigaaDoorW.PrintMore
attribute [local go_sem] max2_int min2_int max_two min_two max_three min_three max_four min_four   -- for this text's walks alone
set_option linter.unusedVariables false
set_option linter.unusedSimpArgs false
def laws_equalInts.l0 : Nat → List Int → List Int → Int → Option (Bool)
 | 0, _, _, _ => none
 | k + 1, x0, x1, x5 => if x5 < (x0.length : Int) then (if 0 ≤ x5 then (if x5 < (x1.length : Int) then (if (rd x0 x5) = (rd x1 x5) then (laws_equalInts.l0 k x0 x1 (wrap64 (x5 + 1))) else (some false)) else (none)) else (none)) else (some true)
def laws_equalInts.f (k : Nat) (l0 : List Int) (l1 : List Int) : Option (Bool) := if (l0.length : Int) = (l1.length : Int) then (laws_equalInts.l0 k l0 l1 0) else (some false)
end Go.Proofs.YtajapkjplgaigaaDoor.P
end
section
namespace Go.Proofs.YtajapkjplgaigaaDoor.P
open Go.RowKit Go.Shelf Go.Proofs.YtajapkjplgaigaaDoorW.PrintWords Go.Proofs.YtajapkjplgaigaaDoorW.PrintLast Go.Proofs.YtajapkjplgaigaaDoorW.PrintMore
set_option linter.unusedVariables false
set_option linter.unusedSimpArgs false
def waitL (needs done : List Int) : List Int := needs.filter fun x => !decide (x ∈ done)
def waitsL (ts : List TT) (done : List Int) (a : Int) : List Int := if (doneP ts done).isSome = true ∧ 0 ≤ a ∧ a < ts.length then waitL (rd_T39 ts a).f1 done else []
theorem lawIsIn_go (n : Int) : ∀ (r pre : List Int), pre.length + r.length < 4611686018427387904 → Ev (fun k => laws_isIn.l0 k (pre ++ r) n (pre.length : Int)) (decide (n ∈ r))
 | [], pre, _ => by
  refine Ev.succ ?_
  simp only [laws_isIn.l0]
  exact Ev.neg (len_nlt pre) (Ev.eq (by simp))
 | x :: r, pre, h => by
  have hl : pre.length < 4611686018427387904 := by simp only [List.length_cons] at h; omega
  refine Ev.succ ?_
  simp only [laws_isIn.l0, rdm]
  refine Ev.pos (len_lt _ _ _) (Ev.pos (by omega) (Ev.ite (fun hc => ?_) (fun hc => ?_)))
  ·rw [decide_eq_true (by rw [hc]; exact List.mem_cons_self)]
   exact Ev.pure _
  ·rw [len_next pre x hl, snoc_eq, show decide (n ∈ x :: r) = decide (n ∈ r) from decide_eq_decide.2 (by rw [List.mem_cons]; exact ⟨fun h => h.resolve_left (fun e => hc e.symm), Or.inr⟩)]
   exact lawIsIn_go n r (pre ++ [x]) (by simp only [List.length_append, List.length_cons, List.length_nil] at h ⊢; omega)
theorem lawIsIn_ev (l : List Int) (n : Int) (h : l.length < 4611686018427387904) : Ev (fun k => laws_isIn.f k l n) (decide (n ∈ l)) := lawIsIn_go n l [] (by simpa using h)
end Go.Proofs.YtajapkjplgaigaaDoor.P
end
section
namespace Go.Proofs.YtajapkjplgaigaaDoor.P
open Go.RowKit Go.Shelf Go.Proofs.YtajapkjplgaigaaDoorW.PrintWords Go.Proofs.YtajapkjplgaigaaDoorW.PrintLast Go.Proofs.YtajapkjplgaigaaDoorW.PrintMore
set_option linter.unusedVariables false
set_option linter.unusedSimpArgs false
theorem mx_le {a b B : Int} (ha : a ≤ B) (hb : b ≤ B) : mx a b ≤ B := by unfold mx; split <;> omega
theorem mostF_fold_le (f : Nat → Int) (B : Int) : ∀ (l : List Nat) (m : Int), m ≤ B → (∀ i ∈ l, f i ≤ B) → l.foldl (fun m i => mx m (f i)) m ≤ B
 | [], m, h, _ => h
 | i :: l, m, h, hl => by
  rw [List.foldl_cons]
  exact mostF_fold_le f B l _ (mx_le h (hl i List.mem_cons_self)) (fun j hj => hl j (List.mem_cons_of_mem _ hj))
theorem mostF_le {f : Nat → Int} {B : Int} {l : List Nat} (h0 : 0 ≤ B) (h : ∀ i ∈ l, f i ≤ B) : mostF f l ≤ B := mostF_fold_le f B l 0 h0 h
theorem full_mem {ts : List TT} {G : GrN} (hs : Small ts) (hg : graphP ts = some G) {i : Nat} (hi : i < ts.length) : i ∈ (orderP (needsM ts)).1 := by
 obtain ⟨hts, _, hOk⟩ := graphP_ok hg
 obtain ⟨hf, hnd, _⟩ := graphP_fine hg
 obtain ⟨_, hO⟩ := topOrder_ev ts hs hf
 have hfull := hOk.full
 rw [hnd, hts] at hfull
 have h1 := hO.bit i
 rw [hfull, Nat.testBit_two_pow_sub_one, decide_eq_true hi] at h1
 exact of_decide_eq_true h1.symm
theorem DoneOk.time {ts : List TT} {done : List Int} {G : GrN} {s : Nat} (h : DoneOk ts done G s) : timeLeftP ts done = timeL ts done := by
 unfold timeLeftP
 rw [h.doneP]
theorem mem_pick {p : Nat → Bool} {n i : Nat} : i ∈ pickN p n ↔ i < n ∧ p i = true := by simp [pickN]
end Go.Proofs.YtajapkjplgaigaaDoor.P
end
section
namespace Go.Proofs.YtajapkjplgaigaaDoor.Pure
open Go.RowKit Go.Proofs.YtajapkjplgaigaaDoor.P
open Go.Proofs.YtajapkjplgaigaaDoorW.PrintWords (rd)
set_option linter.unusedVariables false
theorem sum_perm (ts : List TT) (p : Nat → Bool) {l l' : List Nat} (h : l.Perm l') : sumP ts p l = sumP ts p l' := by
 induction h with
 | nil => rfl
 | cons x _ ih => rw [sum_cons, sum_cons, ih]
 | swap x y l => simp only [sum_cons]; omega
 | trans _ _ h1 h2 => exact h1.trans h2
theorem perm_of_nodup {l l' : List Nat} (h : l.Nodup) (h' : l'.Nodup) (hm : ∀ i, i ∈ l ↔ i ∈ l') : l.Perm l' := (List.perm_ext_iff_of_nodup h h').2 hm
theorem least_l0 (ts : List TT) (done : List Int) (hn : ts.length ≤ 8) (hd : done.length < 1099511627776) (ht : ∀ i : Nat, i < ts.length → 0 ≤ (rd_T39 ts (i : Int)).f0 ∧ (rd_T39 ts (i : Int)).f0 ≤ 20) (n : Int) : ∀ (m j : Nat) (left : Int), j + m = ts.length → 0 ≤ left → left ≤ 20 * j → n ≤ left + sumP ts (fun i => !inD done i) (List.range' j m) →
  Ev (fun k => laws_FnTimeLeftLeast.l0 k ts done n left (j : Int)) true
 | 0, j, left, hj, h0, h1, h => by
  have e : sumP ts (fun i => !inD done i) (List.range' j 0) = 0 := rfl
  rw [e] at h
  refine Ev.succ ?_
  simp only [laws_FnTimeLeftLeast.l0]
  exact Ev.neg (by omega) (Ev.eq (by rw [decide_eq_true (by omega)]))
 | m + 1, j, left, hj, h0, h1, h => by
  have hw : wrap64 ((j : Int) + 1) = ((j + 1 : Nat) : Int) := w64n j (by omega)
  have htj := ht j (by omega)
  rw [List.range'_succ, sum_cons] at h
  refine Ev.succ ?_
  simp only [laws_FnTimeLeftLeast.l0, hw]
  refine Ev.pos (by omega) (Ev.bind (lawIsIn_ev _ _ (by omega)) (Ev.ite (fun hc => ?_) (fun hc => ?_)))
  ·have e : inD done j = true := hc
   rw [e] at h
   exact least_l0 ts done hn hd ht n m (j + 1) left (by omega) h0 (by omega) (by simpa using h)
  ·have e : inD done j = false := Bool.eq_false_iff.2 hc
   rw [e] at h
   refine Ev.pos (by omega) ?_
   rw [w64 (by omega) (by omega)]
   exact least_l0 ts done hn hd ht n m (j + 1) _ (by omega) (by omega) (by omega) (by simp only [Bool.not_false, if_true] at h; omega)
theorem FnTimeLeftLeast : laws_FnTimeLeftLeast.Pure := by
 intro l0 _ _ hb
 refine Ev.get (f := fun k => laws_FnTimeLeftLeast.f k l0) ?_
 unfold laws_FnTimeLeftLeast.f
 refine Ev.ite (fun _ => Ev.pure _) (fun _ => ?_)
 obtain ⟨B, e0, hB⟩ := newReader_ev l0 hb
 obtain ⟨g, q, e1, hg, h1, h2⟩ := anyGraph_ev hB 0 (by omega) (by omega)
 obtain ⟨done, q2, e2, hd, h3, h4⟩ := someDone_ev hB g hg q (by omega) (by omega)
 have hs := hg.small (by omega) (by omega)
 have hp := TimeLeft_ev g hs done (by omega)
 have hdraw : Ev (fun k => spec_DrawTimeLeft.f k l0) (g, done) := by
  unfold spec_DrawTimeLeft.f spec_DrawValidDone.f
  exact Ev.bind (Ev.bind (Ev.eq e0) (Ev.bind e1 (Ev.bind e2 (Ev.pure _)))) (Ev.pure _)
 refine Ev.bind hdraw (Ev.bind (x := timeLeftP g done) (Ev.eq (TimeLeft_is g hs done)) (Ev.bind hp (Ev.pos rfl ?_)))
 refine Ev.succ ?_
 simp only [laws_FnTimeLeftLeast.j0]
 refine Ev.ite (fun _ => Ev.bind hp (Ev.eq (by simp))) (fun hn => ?_)
 rcases doneP_eq g done with ⟨h5, _⟩ | ⟨G, s, h5, _, h6⟩
 ·exfalso
  refine hn (decide_eq_true ?_)
  show timeLeftP g done < 0
  unfold timeLeftP
  rw [h5]
  show (-1 : Int) < 0
  omega
 ·have hf := h6.fine
  have ht : ∀ i : Nat, i < g.length → 0 ≤ (rd_T39 g (i : Int)).f0 ∧ (rd_T39 g (i : Int)).f0 ≤ 20 := fun i hi => by have := fine_times hf i hi; omega
  obtain ⟨_, hO⟩ := topOrder_ev g hs hf
  have hall := tail_le h6 (fun i hi => (ht i hi).1) (orderP (needsM g)).1.reverse [] (fun _ => 0) (fun i hi => hO.lt i (by simpa using hi)) (fun _ _ => rfl) (fun i hi => (by cases hi))
  rw [List.reverse_reverse, List.append_nil] at hall
  have hperm : sumP g (fun i => !inD done i) (orderP (needsM g)).1 = sumP g (fun i => !inD done i) (List.range g.length) := sum_perm g _ (perm_of_nodup hO.nd List.nodup_range (fun i => ⟨fun hi => List.mem_range.2 (hO.lt i hi), fun hi => full_mem hs h6.g (List.mem_range.1 hi)⟩))
  have hnn := sum_nn g (fun i => !inD done i) (List.range g.length) (fun i hi => (ht i (List.mem_range.1 hi)).1)
  refine least_l0 g done (fine_len hf) (by omega) ht (timeLeftP g done) g.length 0 0 (by omega) (by omega) (by omega) ?_
  rw [← List.range_eq_range', h6.time, timeL_most, Int.zero_add]
  refine mostF_le hnn (fun i hi => ?_)
  obtain ⟨h7, h8⟩ := mem_pick.1 hi
  have hid : inD done i = false := by
   unfold pR at h8
   simp only [Bool.and_eq_true, Bool.not_eq_true', decide_eq_false_iff_not] at h8
   exact decide_eq_false h8.1
  have := hall i (full_mem hs h6.g h7) hid
  rw [hperm] at this
  exact this
end Go.Proofs.YtajapkjplgaigaaDoor.Pure
end
section
namespace Go.Proofs.YtajapkjplgaigaaDoor.fnTimeLeftLeast
open Go.ChangeShapes Go.WideShapes Go.ChangeAt Go.RowKit
open Go.ChangeMaps (open_string shut_string)
open Go.Proofs.YtajapkjplgaigaaDoorW
set_option linter.unusedVariables false
theorem own : ownKnob Tryd.prog.godebug = none := by kernel_rfl
theorem laidOut : laidOutB Tryd.prog = true := by kernel_rfl
def IsRow (k : IntKind) (w : World) (a : Option Addr) (len cap : Nat) (zs : List Int) : Prop :=
 (a = none ∧ len = 0 ∧ cap = 0 ∧ zs = []) ∨
 ∃ x, a = some x ∧ len ≤ cap ∧ cap ≤ maxLen ∧ zs.length = cap ∧ (∀ i, i < zs.length → w.cell? (x.add i) = some (.int k (zs.getD i 0))) ∧ ∀ n ∈ zs, (Lit.int k n).wf = true
theorem gTab : Tryd.prog.globalNamed "math/bits.deBruijn32tab" = some 0 := by kernel_rfl
theorem gTabType : (Tryd.prog.globals[0]?).map (·.type) = some 107 := by kernel_rfl
theorem cellsTab : Tryd.prog.cellsOf 107 = 32 := by kernel_rfl
theorem cellsByte : Tryd.prog.cellsOf 5 = 1 := by kernel_rfl
theorem table {W : World} (h : laidMetH Tryd.prog Rows.fnTimeLeftLeastRow.laid W) : Lib.TabIs Tryd.prog W "math/bits.deBruijn32tab" .u8 [0, 1, 28, 2, 29, 14, 24, 3, 30, 22, 20, 15, 25, 17, 4, 8, 31, 27, 13, 23, 21, 19, 16, 7, 26, 12, 18, 6, 11, 5, 10, 9] :=
 Lib.tabIs_of_head (rest := []) gTab gTabType Tryd.underlying107 Tryd.underlying5 cellsByte cellsTab h
theorem tabOK {W : World} (h : laidMetH Tryd.prog Rows.fnTimeLeftLeastRow.laid W) : TabOK W := by
 intro j hj
 have h2 := (table h).cell gTab j (by simpa using hj)
 rw [h2]
 have h3 : ∀ j, j < 32 → (([0, 1, 28, 2, 29, 14, 24, 3, 30, 22, 20, 15, 25, 17, 4, 8, 31, 27, 13, 23, 21, 19, 16, 7, 26, 12, 18, 6, 11, 5, 10, 9] : List Int).getD j 0) = ((Lib.deBruijn32tab.getD j 0 : Nat) : Int) := by decide
 have h4 := h3 j hj
 simp only [List.getD_eq_getElem?_getD] at h4 ⊢
 first | (rw [h4]) | (simp at h4 ⊢; exact h4) | exact congrArg (fun z => some (Value.int IntKind.u8 z)) h4
noncomputable def laidWorld (os : Os) : World :=
 { World.holding Tryd.prog os ⟨#[], #[], []⟩ with heap := (World.holding Tryd.prog os ⟨#[], #[], []⟩).heap.modify 0 fun
   | .cells _ t frozen => .cells #[.int .u8 0, .int .u8 1, .int .u8 28, .int .u8 2, .int .u8 29, .int .u8 14, .int .u8 24, .int .u8 3, .int .u8 30, .int .u8 22, .int .u8 20, .int .u8 15, .int .u8 25, .int .u8 17, .int .u8 4, .int .u8 8, .int .u8 31, .int .u8 27, .int .u8 13, .int .u8 23, .int .u8 21, .int .u8 19, .int .u8 16, .int .u8 7, .int .u8 26, .int .u8 12, .int .u8 18, .int .u8 6, .int .u8 11, .int .u8 5, .int .u8 10, .int .u8 9] t frozen
   | o => o }
theorem laid_met (os : Os) : laidMet Tryd.prog Rows.fnTimeLeftLeastRow.laid ((laidWorld os).forCall (fun _ _ => 0) ⟨#[], #[.slice none 0 0], []⟩).memory :=
 laidMet_of_run' 8 (by kernel_rfl) (by kernel_rfl)
theorem reads (os : Os) {H : Type} (enc : TypeId × Value → H) : ∃ places, DataW.whole enc Tryd.prog ((laidWorld os).forCall (fun _ _ => 0) ⟨#[], #[.slice none 0 0], []⟩).memory Tryd.f5.params.toList Rows.fnTimeLeftLeastSpec.vars false #[Value.slice none 0 0].toList 8 = some ([.nil], [], places) :=
 ⟨[], by kernel_rfl⟩
set_option maxRecDepth 100000 in
theorem lifted (os : Os) (started : os.Started) (H : Type) (enc : TypeId × Value → H) (F : Stop.Interp) :
  ReturnsInHanded {} Tryd.checked os 5 .any ((OpenSpec.ofChange Rows.fnTimeLeftLeastSpec).preRow enc Tryd.prog Tryd.f5 Rows.fnTimeLeftLeastRow.domain false Rows.fnTimeLeftLeastRow.laid) (((OpenSpec.ofChange Rows.fnTimeLeftLeastSpec).at F).post enc Tryd.prog Tryd.f5 false true false false) := by
 obtain ⟨places, hx⟩ := reads os enc
 refine returnsInHanded_of_row (C := Tryd.checked) (s := OpenSpec.ofChange Rows.fnTimeLeftLeastSpec) own started (by kernel_rfl) Tryd.func5
  (witness_row_at (enc := enc) (C := Tryd.checked) false (laidWorld os) #[.slice none 0 0] rfl (by kernel_rfl) (by kernel_rfl) (by kernel_rfl)
   (OpenSpec.preRow_of_cond 8 hx (by kernel_rfl) (fun k hk => by cases hk) (by kernel_rfl) (laid_met os))) ?_
 intro W base args ds gs before hval0 hW hcnd _ hsz0 hL _ _
 have hsz : (DataW.weightsEach Tryd.prog (Tryd.f5.params.toList ++ Rows.fnTimeLeftLeastSpec.plain.varTypes Tryd.prog) (ds ++ gs)).all (· ≤ reachBytes) = true := hsz0
 have hval : ∀ (j : Nat) t v, Tryd.f5.params[j]? = some t → args[j]? = some v → Value.okWide Tryd.prog W .any base t v := hval0
 have hW' := hW
 obtain ⟨p, q, hA0, hV, rfl, hfz, hnd⟩ := hW
 have hA : DataW.TrodAll enc Tryd.prog W 0 (fun _ => true) true Tryd.f5.params.toList args.toList ds p := hA0
 rw [Tryd.params5] at hA hval hsz
 obtain ⟨v0, vs0, d0, ds0, p0, q0, hargs, rfl, rfl, h0, r0⟩ := trodAll_cons hA
 obtain ⟨rfl, rfl, rfl⟩ := trodAll_nil r0
 obtain rfl : args = #[v0] := by cases args; simp_all
 obtain ⟨rfl, rfl⟩ := trodVars_none hV
 obtain ⟨a0, len0, cap0, rfl⟩ := okWide_slice Tryd.underlying22 (hval 0 22 v0 rfl rfl)
 have k0 := h0
 have lt0 : ∀ x ∈ p0, x.block < W.heap.size := by obtain ⟨m, hm⟩ := k0; exact DataW.trod_lt m _ _ _ hm
 obtain ⟨z0, w0⟩ : ∃ zs, IsRow .u8 W a0 len0 cap0 zs := by
  obtain ⟨fuel, hf⟩ := h0
  rcases open_ints Tryd.underlying22 Tryd.underlying5 (by kernel_rfl) hf with ⟨hcs, _⟩ | ⟨x, l, c, zs, hcs, _, hl, hm, hz, _, hcell, hwz⟩
  ·simp [Value.cells] at hcs
   obtain ⟨rfl, rfl, rfl⟩ := hcs
   exact ⟨[], .inl ⟨rfl, rfl, rfl, rfl⟩⟩
  ·simp [Value.cells] at hcs
   obtain ⟨rfl, rfl, rfl⟩ := hcs
   exact ⟨zs, .inr ⟨_, rfl, hl, hm, by simpa using hz, hcell, hwz⟩⟩
 have y0 : len0 * 1 ≤ 140737488351232 := PrintWords.sized_ints hsz (j := 0) (t := 22) rfl rfl Tryd.underlying22 Tryd.underlying5 (by kernel_rfl) (by kernel_rfl) h0
 clear hA0 hval0 hsz0 hsz
 refine (P.laws_FnTimeLeftLeast.walk Pure.FnTimeLeftLeast a0 len0 cap0 z0 W w0 y0 (tabOK hL)).mono fun e W' ⟨he, bel⟩ => ?_
 subst he
 exact ⟨_, rfl, _, _, _, [], _, [], hW', trodAll_mk1 (shut_bool Tryd.underlying4 _), (trodAll_cons_mk (Below.trod laidOut (by kernel_rfl) (of_decide_eq_true (by kernel_rfl)) k0 bel lt0) trodAll_mk0), rfl, bel.frame _, fun h => by cases h⟩
theorem said : Rows.FnTimeLeftLeastSaid :=
 OpenClaim.holds_of_cond 5 Tryd.f5 rfl rfl rfl rfl rfl rfl rfl ⟨rfl, rfl, rfl, rfl, rfl⟩ rfl rfl rfl rfl rfl (by kernel_rfl) Tryd.func5 (by kernel_rfl)
  (of_decide_eq_true (by kernel_rfl)) (by unfold Func.isWrapper; first | (rw [if_pos (by decide +kernel)]; kernel_rfl) | (rw [if_neg (by decide +kernel)]; exact ⟨rfl, rfl⟩))
  (fun os started H enc _ F => by rw [OpenClaim.pre_eq_preRow]; exact lifted os started H enc F)
theorem plain (f : FuncId) (fn : Func) (hf : Tryd.pinned.checked.prog.funcNamed "loop.example/buildscheduler/laws.FnTimeLeftLeast" = some f) (hfn : Tryd.pinned.checked.prog.funcs[f]? = some fn) :
  false = Tryd.pinned.checked.prog.looks [] ∧ ∀ (j : Nat) t, fn.params[j]? = some t → Tryd.pinned.checked.prog.wantsStandIn t = false := by
 obtain rfl : f = 5 := Option.some.inj ((show Tryd.prog.funcNamed "loop.example/buildscheduler/laws.FnTimeLeftLeast" = some 5 by kernel_rfl).symm.trans hf) |>.symm
 obtain rfl : fn = Tryd.f5 := (Option.some.inj (Tryd.func5.symm.trans hfn)).symm
 refine ⟨by kernel_rfl, fun j t ht => ?_⟩
 rw [Tryd.params5] at ht
 obtain rfl : t = 22 := by simpa using Array.mem_of_getElem? ht
 exact (show Tryd.prog.wantsStandIn 22 = false by kernel_rfl)
theorem card : Rows.FnTimeLeftLeastCardSaid :=
 Claim7.holds_tied_plain_at .later [] _ _ _ _ said (fun _ h => by cases h) (by kernel_rfl) (fun _ h => by cases h) fnTimeLeftLeast_row_tie rfl ⟨rfl, rfl⟩ (by kernel_rfl) rfl plain (by kernel_rfl)
end Go.Proofs.YtajapkjplgaigaaDoor.fnTimeLeftLeast
namespace Go.Proofs.YtajapkjplgaigaaDoor
theorem fnTimeLeftLeast_card : Rows.FnTimeLeftLeastCardSaid := fnTimeLeftLeast.card
end Go.Proofs.YtajapkjplgaigaaDoor
end
