/- Merged texts of one claim: part 25 of what the statement's proof stands on. No condition. -/
import Derived.Test.YtdmeiiedbhfniaaDoorE11
import Derived.Test.YtdmeiiedbhfniaaDoorE10
import Derived.Test.YtdmeiiedbhfniaaDoorE1WMore
set_option linter.unusedSimpArgs false
set_option linter.unusedVariables false
section
namespace Go.Proofs.YtdmeiiedbhfniaaDoor.P
open Go.RowKit Go.Shelf YtdmeiiedbhfniaaDoorW.PrintWords YtdmeiiedbhfniaaDoorW.PrintLast YtdmeiiedbhfniaaDoorW.PrintMore
attribute [local go_sem] Oper.semAt_some
def overW (ts : List TT) (nd : List Nat) (f : Nat → Int) (i : Nat) : Int := (bitsN (nd.getD i 0)).foldl (fun a k => mx a (wrap64 (f k + timeW ts k))) 0
def runsB (ts : List TT) (f : Nat → Int) (now : Int) (k : Nat) : Bool := decide (f k ≤ now) && decide (now < wrap64 (f k + timeW ts k))
def cntF (ts : List TT) (f : Nat → Int) (now : Int) (c : Int × List Int) (k : Nat) : Int × List Int := if runsB ts f now k then (addN c.1 1, addU c.2 (rd_T38 ts (k : Int)).f2 (rd_T38 ts (k : Int)).f3 1) else c
def cntW (ts : List TT) (f : Nat → Int) (now : Int) (l : List Nat) : Int × List Int := l.foldl (cntF ts f now) (0, [0, 0, 0])
theorem cntW_snoc (ts : List TT) (f : Nat → Int) (now : Int) (l : List Nat) (x : Nat) : cntW ts f now (l ++ [x]) = cntF ts f now (cntW ts f now l) x := by simp [cntW]
def freeAt (ts : List TT) (f : Nat → Int) (p i : Nat) (room : List Int) (workers now : Int) : Bool := takesB (cntW ts f now (bitsN p)).1 (cntW ts f now (bitsN p)).2 (rd_T38 ts (i : Int)).f2 (rd_T38 ts (i : Int)).f3 room workers
def freeTo (ts : List TT) (f : Nat → Int) (p i : Nat) (room : List Int) (workers a : Int) (j : Nat) : Bool := (List.range j).all fun k => freeAt ts f p i room workers (a + (k : Int))
theorem freeTo_succ (ts : List TT) (f : Nat → Int) (p i : Nat) (room : List Int) (workers a : Int) (j : Nat) : freeTo ts f p i room workers a (j + 1) = (freeTo ts f p i room workers a j && freeAt ts f p i room workers (a + (j : Int))) := by
 unfold freeTo
 rw [List.range_succ, List.all_append]
 simp
theorem freeTo_mono {ts : List TT} {f : Nat → Int} {p i : Nat} {room : List Int} {workers a : Int} {j d : Nat} (h : freeTo ts f p i room workers a j = false) (hj : j ≤ d) : freeTo ts f p i room workers a d = false := by
 cases hd : freeTo ts f p i room workers a d with
 | false => rfl
 | true =>
  exfalso
  unfold freeTo at h hd
  rw [List.all_eq_true] at hd
  have : (List.range j).all (fun k => freeAt ts f p i room workers (a + (k : Int))) = true := List.all_eq_true.2 (fun k hk => hd k (List.mem_range.2 (Nat.lt_of_lt_of_le (List.mem_range.1 hk) hj)))
  rw [this] at h
  cases h
theorem keeps_drewN (B : Nat) (W : World) (m : Nat) : KeepsFrom B W (W.drewN m) := ⟨(KeepsFrom.refl B W).size, (KeepsFrom.refl B W).same⟩
structure Fe (w : World) (g q b n : Nat) (a : Int) (W : World) : Prop where
 bel : Below w.heap.size w W
 hx : Boxed W q 59 (.pointer (some ⟨g, 0, none⟩))
 hs : Boxed W (q + 1) 23 (slv b n)
 ha : Boxed W (q + 1 + 1) 3 (.int .i64 a)
theorem own_Fe {β : Type} (w : World) (g q b n : Nat) (a : β → Int) (B : Nat) (hB : w.heap.size ≤ B) : OwnFrom B (fun s W => Fe w g q b n (a s) W) := by
 intro s W W' row h hg hr
 exact ⟨(ownFrom_below (Nat.le_refl _) hB) s W W' row h.bel hg hr, own_box B q _ (fun _ => _) s W W' row h.hx hg hr, own_box B (q + 1) _ (fun _ => _) s W W' row h.hs hg hr, own_box B (q + 1 + 1) _ (fun s => .int .i64 (a s)) s W W' row h.ha hg hr⟩
theorem Fe.alloc {w W : World} {g q b n : Nat} {a : Int} (h : Fe w g q b n a W) (o : Obj) : Fe w g q b n a (W.alloc o) := ⟨h.bel.alloc h.bel.size o, h.hx.alloc o, h.hs.alloc o, h.ha.alloc o⟩
theorem Fe.drewN {w W : World} {g q b n : Nat} {a : Int} (h : Fe w g q b n a W) (m : Nat) : Fe w g q b n a (W.drewN m) := ⟨pw_below_drewN h.bel m, h.hx, h.hs, h.ha⟩
theorem Fe.put {w W : World} {g q b n : Nat} {a : Int} (h : Fe w g q b n a W) (hge : w.heap.size ≤ q) (m : Nat) (v : Int) : Fe w g q b n v ((W.drewN m).setCell ⟨q + 1 + 1, 0, none⟩ (.int .i64 v)) := by
 have hg := grown_set W m (q + 1 + 1) 0 (.int .i64 v)
 exact ⟨(pw_below_drewN h.bel m).setCell (show w.heap.size ≤ q + 1 + 1 by omega) _, blk_grown h.hx hg (fun e => by injection e; omega), blk_grown h.hs hg (fun e => by injection e; omega), (blk_set (w := W.drewN m) h.ha 0 _).trans rfl⟩
theorem Fe.grown {w W W' : World} {g q b n : Nat} {a : Int} (h : Fe w g q b n a W) (hq : w.heap.size ≤ q) {row : Option Nat} (hg : W.grownBy W' row) (hr : ∀ k, row = some k → q + 1 + 1 < k) : Fe w g q b n a W' :=
 ⟨h.bel.grown hg h.bel.size (fun k e => by have := hr k e; omega), blk_grown h.hx hg (fun e => by have := hr q e.symm; omega), blk_grown h.hs hg (fun e => by have := hr _ e.symm; omega), blk_grown h.ha hg (fun e => by have := hr _ e.symm; omega)⟩
set_option maxRecDepth 100000 in
set_option maxHeartbeats 8000000 in
theorem earliest_calls (g : Nat) (G : GrN) (hOk : GOk G) (b : Nat) (f : Nat → Int) (p i : Nat) (hp : p < 2 ^ G.ts.length) (hi : i < G.ts.length) (R : Option Addr) (cr : Nat) (room : List Int) (hrl : room.length = 3) (workers res : Int) (w : World) (hG : IsG w g G.gr) (hT : TabOK w)
  (hb : w.heap[b]? = some (rowL (fnL G.ts.length f))) (hR : Kd.C (Kd.int .i64) w R room.length room) (h0 : 0 ≤ overW G.ts G.nd f i) (h1 : overW G.ts G.nd f i ≤ res) (h9 : res ≤ 100000) (hd : 0 ≤ timeW G.ts i ∧ timeW G.ts i ≤ 20)
  (hyes : freeTo G.ts f p i room workers res (timeW G.ts i).toNat = true) (hno : ∀ a, overW G.ts G.nd f i ≤ a → a < res → freeTo G.ts f p i room workers a (timeW G.ts i).toNat = false) :
  Calls Tryd.prog 52 #[.pointer (some ⟨g, 0, none⟩), slv b G.ts.length, .int .u16 (p : Int), .int .i64 (i : Int), .slice R room.length cr, .int .i64 workers] w fun e w' => e = .returned (.int .i64 res) ∧ Below w.heap.size w w' := by
 refine calls_of_wpM Tryd.func52 rfl ?_
 simp only [Tryd.ntmps52, List.size_toArray, List.length_cons, List.length_nil, Nat.reduceAdd, Nat.reduceSub, Array.replicate_succ, Array.replicate_zero, List.push_toArray, List.append_toArray, List.nil_append, List.cons_append]
 have hT' := Aside0.mk hT
 have hG' := Aside0.mk hG
 have hOk' := Aside0.mk hOk
 have hi' := Aside0.mk hi
 have hp' := Aside0.mk hp
 have hb' := Aside0.mk hb
 have hR' := Aside0.mk hR
 have h0' := Aside0.mk h0
 have h1' := Aside0.mk h1
 have h9' := Aside0.mk h9
 have hd' := Aside0.mk hd
 have hyes' := Aside0.mk hyes
 have hno' := Aside0.mk hno
 have hrl' := Aside0.mk hrl
 clear hT hG hOk hi hp hb hR h0 h1 h9 hd hyes hno hrl
 have hn8 := Aside0.mk hOk'.out.n8
 obtain ⟨n, hn⟩ : ∃ n, n = G.ts.length := ⟨_, rfl⟩
 have hn' := Aside0.mk hn
 simp only [← hn]
 clear hn
 go_upto_region 2 with (fail)
 obtain ⟨q, hq⟩ : ∃ q, q = w.heap.size := ⟨_, rfl⟩
 have hF0 : Fe w g q b n 0 (((w.alloc (.cells #[.pointer (some ⟨g, 0, none⟩)] 59)).alloc (.cells #[slv b n] 23)).alloc (.cells #[.int .i64 0] 3)) := by
  subst hq
  exact ⟨(((Below.refl _ w).alloc (Nat.le_refl _) _).alloc (by simp) _).alloc (by simp; omega) _, ((Boxed.new w _ _).alloc _).alloc _, (box_at _ _ _ _ (by simp)).alloc _, box_at _ _ _ _ (by simp)⟩
 have hs0 : (((w.alloc (.cells #[.pointer (some ⟨g, 0, none⟩)] 59)).alloc (.cells #[slv b n] 23)).alloc (.cells #[.int .i64 0] 3)).heap.size = q + 1 + 1 + 1 := by simp [hq]
 simp only [← hq]
 have hq' := Aside0.mk (show w.heap.size ≤ q by omega)
 clear hq
 generalize ((w.alloc (.cells #[.pointer (some ⟨g, 0, none⟩)] 59)).alloc (.cells #[slv b n] 23)).alloc (.cells #[.int .i64 0] 3) = W1 at *
 obtain ⟨A0', c0', A1', c1', A2', c2', A3', c3', A4', c4', hblk, _, ⟨hC1, _⟩, _⟩ := (hG'.out.below hF0.bel)
 have hnl : i < G.gr.nd.length := by show i < (nI G.nd).length; rw [nI_length, hOk'.out.nl]; exact hi'.out
 obtain ⟨ad2, rfl, hx1⟩ := Kd.at_int hC1 (i : Int) (by omega) (by omega)
 obtain ⟨sn, hsn⟩ : ∃ sn, G.nd.getD i 0 = sn := ⟨_, rfl⟩
 have hsn' := Aside0.mk hsn
 have hsb := Aside0.mk (show sn < 2 ^ G.ts.length by rw [← hsn]; exact hOk'.out.nlt i)
 have hn2 : rd G.gr.nd (i : Int) = ((G.nd.getD i 0 : Nat) : Int) := rd_nI _ _
 simp only [Int.toNat_natCast, hn2, hsn] at hx1
 clear hn2 hsn
 have hnlI : (i : Int) < (G.gr.nd.length : Int) := by omega
 have hg1 : W1.cell? ⟨g, 1, none⟩ = some (.slice (some ad2) G.gr.nd.length c1') := (blk_cell hblk 1).trans rfl
 have k0 := hF0.hx.cell
 have hF0' := Aside0.mk hF0
 clear hF0 hblk hC1 hnl
 go_wp2_with (go_at_call 83; refine (all_calls _ _).mono ?_; rintro e w' ⟨rfl, rfl⟩)
 have hF2 := hF0'.out.alloc (.cells #[.int .u16 (sn : Int)] 64)
 have hk2 : (W1.alloc (.cells #[.int .u16 (sn : Int)] 64)).cell? ⟨W1.heap.size, 0, none⟩ = some (.int .u16 (sn : Int)) := (Boxed.new W1 64 (.int .u16 (sn : Int))).cell
 have hs2 : (W1.alloc (.cells #[.int .u16 (sn : Int)] 64)).heap.size = W1.heap.size + 1 := by simp
 clear hg1 k0 hx1 hnlI
 generalize W1.alloc (.cells #[.int .u16 (sn : Int)] 64) = W2 at *
 rw [hs0] at hs2 hk2
 try rw [hs0]
 clear hs0
 refine wp_all1 (q + 1 + 1 + 1) sn (lt256 hsb.out hn8.out) rfl (by omega) hk2 (hT'.out.below hF2.bel) rfl rfl rfl (by simp)
  (fun pre W => Fe w g q b n (pre.foldl (fun a k => mx a (wrap64 (f k + timeW G.ts k))) 0) W) (fun _ _ _ => False)
  (own_Fe _ _ _ _ _ _ _ (by have := hq'.out; omega)) (fun _ _ _ _ _ hs _ _ => hs) hF2 (fun pre W h => hT'.out.below h.bel) ?body ?done ?stop
 case stop => intro D c pre W _ _ h _; exact h.elim
 case body =>
  rintro l pre x W' hx8 hxs hF3 hlen
  simp only [List.setIfInBounds_toArray, List.set_cons_zero, List.set_cons_succ]
  have hxn : x < n := by rw [hn'.out]; exact bit_lt hsb.out hxs
  generalize hfp : pre.foldl (fun a k => mx a (wrap64 (f k + timeW G.ts k))) 0 = fp at *
  obtain ⟨A0', c0', A1', c1', A2', c2', A3', c3', A4', c4', hblk2, ⟨hC0, _⟩, _⟩ := (hG'.out.below hF3.bel)
  have hxI : (x : Int) < (n : Int) := by omega
  have hgn : (x : Int) < (G.gr.ts.length : Int) := by have := hn'.out; show (x : Int) < (G.ts.length : Int); omega
  obtain ⟨ad, B1, d1, rfl, hx0, _⟩ := at_T38 hC0 (x : Int) (by omega) hgn
  simp only [Int.toNat_natCast] at hx0
  have hg0 : W'.cell? ⟨g, 0, none⟩ = some (.slice (some ad) G.gr.ts.length c0') := (blk_cell hblk2 0).trans rfl
  have hbW : W'.heap[b]? = some (rowL (fnL n f)) := by rw [hn'.out]; exact (hF3.bel.block b (Array.getElem?_eq_some_iff.1 hb'.out).1).trans hb'.out
  have kf := rowF_cell hbW x hxn
  have k0 := hF3.hx.cell
  have k1 := hF3.hs.cell
  have k2 := hF3.ha.cell
  have f2 := hF3.ha.frozen
  have hF3' := Aside0.mk hF3
  have hfp' := Aside0.mk hfp
  clear hF3 hfp hF2 hk2 hs2 hblk2 hC0 hbW
  gi_wp2
  refine wpIn_region_tail 15 (by rintro ⟨_, _, h⟩; exact h) (by kernel_rfl) (by kernel_rfl) (by kernel_rfl) ?_
  simp only [List.take_succ_cons, List.take_zero, List.drop_succ_cons, List.drop_zero]
  repeat still_step
  refine wpStill_nil ?_
  rw [show (if IntKind.i64.wrap (f x + (rd_T38 G.gr.ts (x : Int)).f0) > fp then IntKind.i64.wrap (f x + (rd_T38 G.gr.ts (x : Int)).f0) else fp) = mx fp (wrap64 (f x + timeW G.ts x)) from by simp only [i64_w]; rfl]
  go_wp2
  refine ⟨((KeepsOthers.setCell _ _ _).trans (KeepsOthers.drew _)).from _, ?_⟩
  show Fe w g q b n ((pre ++ [x]).foldl (fun a k => mx a (wrap64 (f k + timeW G.ts k))) 0) _
  rw [List.foldl_append, hfp'.out]
  exact hF3'.out.put hq'.out 1 _
 case done =>
  rintro D W3 hD hF3 hK3
  have hM3 := Aside0.mk (show Marks w.heap.size [markOf D] W3 from (Marks.nil w.heap.size W3).cons (by have := hq'.out; omega) hK3 (fun d h => by cases h))
  have hF3' := Aside0.mk (show Fe w g q b n (overW G.ts G.nd f i) W3 by unfold overW; rw [hsn'.out]; exact hF3)
  clear hF3 hK3 hF2 hk2 hs2
  go_wp2_with (fail)
  refine wp_loop_slots [15, 16, 17, 43, 44, 45, 46, 47, 48, 49, 50, 51, 52, 53, 54, 55, 56, 57, 58, 59, 60, 61, 62, 63, 64, 97, 98, 99, 100, 101, 102, 103, 104, 105, 106, 107, 108, 109] [undef, undef, undef, undef, undef, undef, undef, undef, undef, undef, undef, undef, undef, undef, undef, undef, undef, undef, undef, undef, undef, undef, undef, undef, undef, undef, undef, undef, undef, undef, undef, undef, undef, undef, undef, undef, undef, undef] (fun kq vs ds W => ∃ a : Int, ∃ u15 u16 u17 u43 u44 u45 u46 u47 u48 u49 u50 u51 u52 u53 u54 u55 u56 u57 u58 u59 u60 u61 u62 u63 u64 u97 u98 u99 u100 u101 u102 u103 u104 u105 u106 u107 u108 u109, vs = [u15, u16, u17, u43, u44, u45, u46, u47, u48, u49, u50, u51, u52, u53, u54, u55, u56, u57, u58, u59, u60, u61, u62, u63, u64, u97, u98, u99, u100, u101, u102, u103, u104, u105, u106, u107, u108, u109] ∧ Aside0 ((kq : Int) = res - a ∧ overW G.ts G.nd f i ≤ a ∧ a ≤ res) ∧ Aside0 (Fe w g q b n a W) ∧ Aside0 (Marks w.heap.size ds W)) (res - overW G.ts G.nd f i).toNat (by simp only [setAll, List.setIfInBounds_toArray, List.set_cons_zero, List.set_cons_succ]) ⟨overW G.ts G.nd f i, undef, undef, undef, undef, undef, undef, undef, undef, undef, undef, undef, undef, undef, undef, undef, undef, undef, undef, undef, undef, undef, undef, undef, undef, undef, undef, undef, undef, undef, undef, undef, undef, undef, undef, undef, undef, undef, undef, rfl, ⟨by have := h1'.out; omega⟩, hF3', hM3⟩ ?_
  clear hF3' hM3
  rintro gk vs ds W ⟨a, u15, u16, u17, u43, u44, u45, u46, u47, u48, u49, u50, u51, u52, u53, u54, u55, u56, u57, u58, u59, u60, u61, u62, u63, u64, u97, u98, u99, u100, u101, u102, u103, u104, u105, u106, u107, u108, u109, rfl, ha, hF, hM⟩ K hK
  have hK' := Aside0.mk hK
  have hF' := hF
  clear hK
  simp only [setAll, List.setIfInBounds_toArray, List.set_cons_zero, List.set_cons_succ]
  have k2 := hF.out.ha.cell
  go_wp2_with (fail)
  have hFa := Aside0.mk (hF'.out.alloc (.cells #[.int .i64 a] 3))
  have hbn := Aside0.mk (show Boxed (W.alloc (.cells #[.int .i64 a] 3)) W.heap.size 3 (.int .i64 (a + ((0 : Nat) : Int))) by
   rw [show a + ((0 : Nat) : Int) = a by omega]
   exact Boxed.new W 3 (.int .i64 a))
  have hMa := Aside0.mk (hM.out.block hM.out.ltOf (fun k hk => Below.heap_alloc W (.cells #[.int .i64 a] 3) k hk))
  have hqn := Aside0.mk (show q + 1 + 1 < W.heap.size from hF'.out.ha.lt)
  clear hF hM hF' k2
  generalize W.alloc (.cells #[.int .i64 a] 3) = Wa at *
  generalize W.heap.size = qn0 at *
  refine wp_loop_slots [15, 16, 17, 46, 47, 48, 49, 50, 51, 52, 53, 54, 55, 56, 57, 58, 59, 60, 61, 62, 63, 64, 97, 98, 99, 100, 101, 102, 103, 104, 105, 106, 107] [.bool true, .pointer (some ⟨qn0, 0, none⟩), u17, u46, u47, u48, u49, u50, u51, u52, u53, u54, u55, u56, u57, u58, u59, u60, u61, u62, u63, u64, u97, u98, u99, u100, u101, u102, u103, u104, u105, u106, u107] (fun kq vs ds W => ∃ (j : Nat) (fr : Bool) (qn : Nat), ∃ u17 u46 u47 u48 u49 u50 u51 u52 u53 u54 u55 u56 u57 u58 u59 u60 u61 u62 u63 u64 u97 u98 u99 u100 u101 u102 u103 u104 u105 u106 u107, vs = [.bool fr, .pointer (some ⟨qn, 0, none⟩), u17, u46, u47, u48, u49, u50, u51, u52, u53, u54, u55, u56, u57, u58, u59, u60, u61, u62, u63, u64, u97, u98, u99, u100, u101, u102, u103, u104, u105, u106, u107] ∧ Aside0 (kq + j = (timeW G.ts i).toNat ∧ fr = freeTo G.ts f p i room workers a j ∧ q + 1 + 1 < qn) ∧ Aside0 (Boxed W qn 3 (.int .i64 (a + (j : Int)))) ∧ Aside0 (Fe w g q b n a W) ∧ Aside0 (Marks w.heap.size ds W)) (timeW G.ts i).toNat (by simp only [setAll, List.setIfInBounds_toArray, List.set_cons_zero, List.set_cons_succ]) ⟨0, true, qn0, u17, u46, u47, u48, u49, u50, u51, u52, u53, u54, u55, u56, u57, u58, u59, u60, u61, u62, u63, u64, u97, u98, u99, u100, u101, u102, u103, u104, u105, u106, u107, rfl, ⟨by omega, rfl, hqn.out⟩, hbn, hFa, hMa⟩ ?_
  clear hFa hbn hMa hqn
  rintro gk2 vs ds2 W2 ⟨j, fr, qn, u17, u46, u47, u48, u49, u50, u51, u52, u53, u54, u55, u56, u57, u58, u59, u60, u61, u62, u63, u64, u97, u98, u99, u100, u101, u102, u103, u104, u105, u106, u107, rfl, hj, hbn, hF, hM⟩ K2 hK2
  have hK2' := Aside0.mk hK2
  clear hK2
  simp only [setAll, List.setIfInBounds_toArray, List.set_cons_zero, List.set_cons_succ]
  have k2 := hF.out.ha.cell
  have kn := hbn.out.cell
  have k0 := hF.out.hx.cell
  by_cases hfr : fr = true
  case neg =>
   have hff : fr = false := Bool.eq_false_iff.2 hfr
   subst hff
   have f2 := hF.out.ha.frozen
   have hne := Aside0.mk (show a < res by
    rcases Int.lt_or_eq_of_le ha.out.2.2 with h | h
    ·exact h
    ·exfalso
     have h2 := freeTo_mono (show freeTo G.ts f p i room workers a j = false from hj.out.2.1.symm) (show j ≤ (timeW G.ts i).toNat by have := hj.out.1; omega)
     rw [h] at h2
     rw [hyes'.out] at h2
     cases h2)
   have hF' := hF
   have hM' := hM
   clear hF hM hbn hK2'
   go_wp2_with (fail)
   go_quiet (fail)
   go_wp2_with (fail)
   have hcast : wrap64 (a + 1) = a + 1 := by have h1 := hne.out; have h2 := ha.out; have h3 := h9'.out; have h4 := h0'.out; rw [IntWalk.wrap64_in _ (by omega)]
   rw [hcast]
   have h := fun (v15 v16 v17 v43 v44 v45 v46 v47 v48 v49 v50 v51 v52 v53 v54 v55 v56 v57 v58 v59 v60 v61 v62 v63 v64 v97 v98 v99 v100 v101 v102 v103 v104 v105 v106 v107 v108 v109 : Value) => hK'.out (gk - 1) [v15, v16, v17, v43, v44, v45, v46, v47, v48, v49, v50, v51, v52, v53, v54, v55, v56, v57, v58, v59, v60, v61, v62, v63, v64, v97, v98, v99, v100, v101, v102, v103, v104, v105, v106, v107, v108, v109] ds2 _ (by have h1 := hne.out; have h2 := ha.out; omega) ⟨a + 1, v15, v16, v17, v43, v44, v45, v46, v47, v48, v49, v50, v51, v52, v53, v54, v55, v56, v57, v58, v59, v60, v61, v62, v63, v64, v97, v98, v99, v100, v101, v102, v103, v104, v105, v106, v107, v108, v109, rfl, ⟨by have h1 := hne.out; have h2 := ha.out; omega⟩, ⟨hF'.out.put hq'.out nq (a + 1)⟩, ⟨hM'.out.keeps (keeps_set _ _ nq _ _)⟩⟩
   simp only [setAll, List.setIfInBounds_toArray, List.set_cons_zero, List.set_cons_succ] at h
   exact h _ _ _ _ _ _ _ _ _ _ _ _ _ _ _ _ _ _ _ _ _ _ _ _ _ _ _ _ _ _ _ _ _ _ _ _ _ _
  case pos =>
   subst hfr
   have hgI : (i : Int) < (G.gr.ts.length : Int) := by have := hi'.out; show (i : Int) < (G.ts.length : Int); omega
   obtain ⟨A0', c0', A1', c1', A2', c2', A3', c3', A4', c4', hblk2, ⟨hC0, _⟩, _⟩ := (hG'.out.below hF.out.bel)
   obtain ⟨ad, B1, d1, rfl, hx0, hx1, hx2, hx3, _⟩ := at_T38 hC0 (i : Int) (by omega) hgI
   simp only [Int.toNat_natCast] at hx0 hx1 hx2 hx3
   have hg0 : W2.cell? ⟨g, 0, none⟩ = some (.slice (some ad) G.gr.ts.length c0') := (blk_cell hblk2 0).trans rfl
   clear hblk2 hC0
   have hw : IntKind.i64.wrap (a + (rd_T38 G.gr.ts (i : Int)).f0) = wrap64 (a + (rd_T38 G.gr.ts (i : Int)).f0) := by simp only [i64_w]
   have hwv : wrap64 (a + (rd_T38 G.gr.ts (i : Int)).f0) = a + timeW G.ts i := by
    have h2 := ha.out; have h3 := h9'.out; have h4 := h0'.out; have h5 := hd'.out
    show wrap64 (a + timeW G.ts i) = _
    rw [IntWalk.wrap64_in _ (by omega)]
   by_cases hjd : j < (timeW G.ts i).toNat
   case neg =>
    have hb1 : decide (a + (j : Int) < wrap64 (a + (rd_T38 G.gr.ts (i : Int)).f0)) = false := decide_eq_false (by rw [hwv]; have h5 := hd'.out; omega)
    have hb2 : decide (a + (j : Int) < IntKind.i64.wrap (a + (rd_T38 G.gr.ts (i : Int)).f0)) = false := by rw [hw]; exact hb1
    have hres := Aside0.mk (show a = res by
     rcases Int.lt_or_eq_of_le ha.out.2.2 with h | h
     ·exfalso
      have h2 := hno'.out a ha.out.2.1 h
      have h3 := hj.out.2.1
      have h4 : j = (timeW G.ts i).toNat := by have := hj.out.1; omega
      rw [h4, h2] at h3
      cases h3
     ·exact h)
    clear hw hwv hbn hK2' hK' hx1 hx2 hx3
    have hF' := hF
    have hM' := hM
    clear hF hM
    go_wp2_with (fail)
    go_quiet (fail)
    go_wp2_with (fail)
    refine retM (B := w.heap.size) (fun W => Below w.heap.size w W) (ownFrom_below (Nat.le_refl _) (Nat.le_refl _)) (hM'.out.block hM'.out.ltOf (fun k _ => rfl)) (pw_below_drewN hF'.out.bel nq) ?_
    intro W' hbb
    exact ⟨_, (results_tmp (t := 12) rfl _ _ _).trans rfl, by rw [← hres.out]; rfl, hbb⟩
   case pos =>
    have hb1 : decide (a + (j : Int) < wrap64 (a + (rd_T38 G.gr.ts (i : Int)).f0)) = true := decide_eq_true (by rw [hwv]; have h5 := hd'.out; omega)
    have hb2 : decide (a + (j : Int) < IntKind.i64.wrap (a + (rd_T38 G.gr.ts (i : Int)).f0)) = true := by rw [hw]; exact hb1
    have hwj := Aside0.mk (show wrap64 (a + (j : Int) + 1) = a + ((j + 1 : Nat) : Int) by
     have h2 := ha.out; have h3 := h9'.out; have h4 := h0'.out; have h5 := hd'.out
     rw [IntWalk.wrap64_in _ (by omega)]
     omega)
    have hk1 := Aside0.mk (show gk2 - 1 < gk2 by have := hj.out.1; omega)
    have hk2 := Aside0.mk (show gk2 - 1 + (j + 1) = (timeW G.ts i).toNat by have := hj.out.1; omega)
    clear hw hwv hx1 hx2 hx3
    have hF' := hF
    have hM' := hM
    have hbn' := hbn
    clear hF hM hbn
    go_wp2_with (fail)
    go_quiet (fail)
    go_wp2_with (go_at_call 83; refine (all_calls _ _).mono ?_; rintro e w' ⟨rfl, rfl⟩)
    obtain ⟨qc, hqc⟩ : ∃ qc, qc = W2.heap.size := ⟨_, rfl⟩
    have hF3 : Aside0 (Fe w g q b n a (((W2.drewN nq).alloc (.cells #[.int .i64 0, .int .i64 0, .int .i64 0, .int .i64 0] 101)).alloc (.cells #[.int .u16 (p : Int)] 64))) := ⟨((hF'.out.drewN nq).alloc _).alloc _⟩
    have hbn3 : Aside0 (Boxed (((W2.drewN nq).alloc (.cells #[.int .i64 0, .int .i64 0, .int .i64 0, .int .i64 0] 101)).alloc (.cells #[.int .u16 (p : Int)] 64)) qn 3 (.int .i64 (a + (j : Int)))) := ⟨((show Boxed (W2.drewN nq) qn 3 (.int .i64 (a + (j : Int))) from hbn'.out).alloc _).alloc _⟩
    have hC3 : Aside0 (IsC (((W2.drewN nq).alloc (.cells #[.int .i64 0, .int .i64 0, .int .i64 0, .int .i64 0] 101)).alloc (.cells #[.int .u16 (p : Int)] 64)) qc 0 [0, 0, 0]) := ⟨(show IsC ((W2.drewN nq).alloc (.cells #[.int .i64 0, .int .i64 0, .int .i64 0, .int .i64 0] 101)) qc 0 [0, 0, 0] from ⟨rfl, by rw [hqc]; exact blk_new (W2.drewN nq) _⟩).alloc _⟩
    have hM3 : Aside0 (Marks w.heap.size ds2 (((W2.drewN nq).alloc (.cells #[.int .i64 0, .int .i64 0, .int .i64 0, .int .i64 0] 101)).alloc (.cells #[.int .u16 (p : Int)] 64))) := ⟨hM'.out.block hM'.out.ltOf (fun k hk => (Below.heap_alloc ((W2.drewN nq).alloc (.cells #[.int .i64 0, .int .i64 0, .int .i64 0, .int .i64 0] 101)) _ k (by simp [World.drewN]; omega)).trans (Below.heap_alloc (W2.drewN nq) _ k hk))⟩
    have hlt2 := Aside0.mk (show MarksLt qc ds2 by rw [hqc]; exact hM'.out.ltOf)
    have hk3 : (((W2.drewN nq).alloc (.cells #[.int .i64 0, .int .i64 0, .int .i64 0, .int .i64 0] 101)).alloc (.cells #[.int .u16 (p : Int)] 64)).cell? ⟨qc + 1, 0, none⟩ = some (.int .u16 (p : Int)) := (box_at ((W2.drewN nq).alloc (.cells #[.int .i64 0, .int .i64 0, .int .i64 0, .int .i64 0] 101)) 64 (.int .u16 (p : Int)) (qc + 1) (by rw [hqc]; simp [World.drewN])).cell
    have hs3 : (((W2.drewN nq).alloc (.cells #[.int .i64 0, .int .i64 0, .int .i64 0, .int .i64 0] 101)).alloc (.cells #[.int .u16 (p : Int)] 64)).heap.size = qc + 1 + 1 := by rw [hqc]; simp [World.drewN]
    have hqnc := Aside0.mk (show qn < qc by rw [hqc]; exact hbn'.out.lt)
    have hqqn := Aside0.mk hj.out.2.2
    have e3 : ((W2.drewN nq).alloc (.cells #[.int .i64 0, .int .i64 0, .int .i64 0, .int .i64 0] 101)).heap.size = qc + 1 := by rw [hqc]; simp [World.drewN]
    try rw [e3]
    simp only [← hqc]
    clear hqc e3 hF' hM' hbn' k0 k2 kn hg0 hx0 hb1 hb2
    generalize (((W2.drewN nq).alloc (.cells #[.int .i64 0, .int .i64 0, .int .i64 0, .int .i64 0] 101)).alloc (.cells #[.int .u16 (p : Int)] 64)) = W3 at *
    refine wp_all1 (qc + 1) p (lt256 hp'.out hn8.out) rfl (by omega) hk3 (hT'.out.below hF3.out.bel) rfl rfl rfl (by simp)
     (fun pre W => ((Fe w g q b n a W ∧ Boxed W qn 3 (.int .i64 (a + (j : Int)))) ∧ IsC W qc (cntW G.ts f (a + (j : Int)) pre).1 (cntW G.ts f (a + (j : Int)) pre).2) ∧ Marks w.heap.size ds2 W) (fun _ _ _ => False)
     (OwnFrom.and (OwnFrom.and (OwnFrom.and (own_Fe _ _ _ _ _ _ _ (by have h1 := hq'.out; have h2 := hqqn.out; have h3 := hqnc.out; omega)) (own_box _ _ _ _)) (own_C _ _ _ _)) (own_marks _ _ _ (hlt2.out.le (by omega)))) (fun _ _ _ _ _ hs _ _ => hs) ⟨⟨⟨hF3.out, hbn3.out⟩, hC3.out⟩, hM3.out⟩ (fun pre W h => hT'.out.below h.1.1.1.bel) ?bodyc ?donec ?stopc
    case stopc => intro D c pre W _ _ h _; exact h.elim
    case bodyc =>
     rintro l pre x W' hx8 hxs ⟨⟨⟨hF4, hbn4⟩, hC4⟩, hM4⟩ hlen
     simp only [List.setIfInBounds_toArray, List.set_cons_zero, List.set_cons_succ]
     have hxn : x < n := by rw [hn'.out]; exact bit_lt hp'.out hxs
     have hxI : (x : Int) < (n : Int) := by omega
     obtain ⟨cv, hcv⟩ : ∃ cv, cntW G.ts f (a + (j : Int)) pre = cv := ⟨_, rfl⟩
     simp only [hcv] at hC4
     obtain ⟨A0', c0', A1', c1', A2', c2', A3', c3', A4', c4', hblk2, ⟨hC0, _⟩, _⟩ := (hG'.out.below hF4.bel)
     have hgn : (x : Int) < (G.gr.ts.length : Int) := by have := hn'.out; show (x : Int) < (G.ts.length : Int); omega
     obtain ⟨adx, Bx1, dx1, rfl, hx0, hx1, hx2, hx3, _⟩ := at_T38 hC0 (x : Int) (by omega) hgn
     simp only [Int.toNat_natCast] at hx0 hx1 hx2 hx3
     have hg0 : W'.cell? ⟨g, 0, none⟩ = some (.slice (some adx) G.gr.ts.length c0') := (blk_cell hblk2 0).trans rfl
     have hbW : W'.heap[b]? = some (rowL (fnL n f)) := by rw [hn'.out]; exact (hF4.bel.block b (Array.getElem?_eq_some_iff.1 hb'.out).1).trans hb'.out
     have kf := rowF_cell hbW x hxn
     have k0 := hF4.hx.cell
     have k1 := hF4.hs.cell
     have kn := hbn4.cell
     have hpool := hOk'.out.pool x (by rw [← hn'.out]; exact hxn)
     have hF4' := Aside0.mk hF4
     have hbn4' := Aside0.mk hbn4
     have hC4' := Aside0.mk hC4
     have hM4' := Aside0.mk hM4
     have hcv' := Aside0.mk hcv
     have hpool' := Aside0.mk hpool
     clear hF4 hbn4 hC4 hM4 hcv hpool hF3 hbn3 hC3 hM3 hk3 hs3 hK' hK2' hblk2 hC0 hbW
     have hw : IntKind.i64.wrap (f x + (rd_T38 G.gr.ts (x : Int)).f0) = wrap64 (f x + (rd_T38 G.gr.ts (x : Int)).f0) := by simp only [i64_w]
     have hdr := Aside0.mk (show ((Fe w g q b n a W' ∧ Boxed W' qn 3 (.int .i64 (a + (j : Int)))) ∧ IsC W' qc cv.1 cv.2) ∧ Marks w.heap.size ds2 W' from ⟨⟨⟨hF4'.out, hbn4'.out⟩, hC4'.out⟩, hM4'.out⟩)
     have hdr2 := Aside0.mk (show ∀ m, ((Fe w g q b n a (W'.drewN m) ∧ Boxed (W'.drewN m) qn 3 (.int .i64 (a + (j : Int)))) ∧ IsC (W'.drewN m) qc cv.1 cv.2) ∧ Marks w.heap.size ds2 (W'.drewN m) from fun m => ⟨⟨⟨hF4'.out.drewN m, hbn4'.out⟩, hC4'.out⟩, hM4'.out.block hM4'.out.ltOf (fun k _ => rfl)⟩)
     by_cases hA : f x ≤ a + (j : Int)
     case neg =>
      have hAd : decide (f x ≤ a + (j : Int)) = false := decide_eq_false hA
      have hrun : runsB G.ts f (a + (j : Int)) x = false := by unfold runsB; rw [hAd]; rfl
      clear hA hw
      gi_wp2
      refine wpIn_region_quiet_lit (by rintro ⟨_, _, h⟩; exact h) (by kernel_rfl) (by kernel_rfl) (by kernel_rfl) ?_
      repeat (go_big_quiet_step (fail))
      refine wpQuiet_nil ?_
      rintro _ ⟨nq2, rfl⟩
      gi_wp2
      refine ⟨keeps_drewN _ _ _, ?_⟩
      have e : cntW G.ts f (a + (j : Int)) (pre ++ [x]) = cv := by rw [cntW_snoc, hcv'.out]; unfold cntF; rw [hrun]; rfl
      show ((Fe w g q b n a _ ∧ Boxed _ qn 3 _) ∧ IsC _ qc (cntW G.ts f (a + (j : Int)) (pre ++ [x])).1 (cntW G.ts f (a + (j : Int)) (pre ++ [x])).2) ∧ Marks w.heap.size ds2 _
      rw [e]
      exact hdr2.out nq2
     case pos =>
      have hAd : decide (f x ≤ a + (j : Int)) = true := decide_eq_true hA
      by_cases hB : a + (j : Int) < wrap64 (f x + (rd_T38 G.gr.ts (x : Int)).f0)
      case neg =>
       have hBd1 : decide (a + (j : Int) < wrap64 (f x + (rd_T38 G.gr.ts (x : Int)).f0)) = false := decide_eq_false hB
       have hBd2 : decide (a + (j : Int) < IntKind.i64.wrap (f x + (rd_T38 G.gr.ts (x : Int)).f0)) = false := by rw [hw]; exact hBd1
       have hrun : runsB G.ts f (a + (j : Int)) x = false := by
        unfold runsB
        rw [show decide (a + (j : Int) < wrap64 (f x + timeW G.ts x)) = false from hBd1, Bool.and_false]
       clear hA hB hw
       gi_wp2
       refine wpIn_region_quiet_lit (by rintro ⟨_, _, h⟩; exact h) (by kernel_rfl) (by kernel_rfl) (by kernel_rfl) ?_
       repeat (go_big_quiet_step (fail))
       refine wpQuiet_nil ?_
       rintro _ ⟨nq2, rfl⟩
       gi_wp2
       refine ⟨keeps_drewN _ _ _, ?_⟩
       have e : cntW G.ts f (a + (j : Int)) (pre ++ [x]) = cv := by rw [cntW_snoc, hcv'.out]; unfold cntF; rw [hrun]; rfl
       show ((Fe w g q b n a _ ∧ Boxed _ qn 3 _) ∧ IsC _ qc (cntW G.ts f (a + (j : Int)) (pre ++ [x])).1 (cntW G.ts f (a + (j : Int)) (pre ++ [x])).2) ∧ Marks w.heap.size ds2 _
       rw [e]
       exact hdr2.out nq2
      case pos =>
       have hBd1 : decide (a + (j : Int) < wrap64 (f x + (rd_T38 G.gr.ts (x : Int)).f0)) = true := decide_eq_true hB
       have hBd2 : decide (a + (j : Int) < IntKind.i64.wrap (f x + (rd_T38 G.gr.ts (x : Int)).f0)) = true := by rw [hw]; exact hBd1
       have hrun : runsB G.ts f (a + (j : Int)) x = true := by
        unfold runsB
        rw [hAd, show decide (a + (j : Int) < wrap64 (f x + timeW G.ts x)) = true from hBd1]
        rfl
       clear hA hB hw
       gi_wp2
       refine wpIn_region_quiet_lit (by rintro ⟨_, _, h⟩; exact h) (by kernel_rfl) (by kernel_rfl) (by kernel_rfl) ?_
       repeat (go_big_quiet_step (fail))
       refine wpQuiet_nil ?_
       rintro _ ⟨nq2, rfl⟩
       have ac := Aside0.mk (add_calls qc cv.1 cv.2 (rd_T38 G.gr.ts (x : Int)).f0 (rd_T38 G.gr.ts (x : Int)).f2 (rd_T38 G.gr.ts (x : Int)).f3 1 Bx1 (rd_T38 G.gr.ts (x : Int)).f1.length dx1 hpool'.out.1 hpool'.out.2 (W'.drewN nq2) (hdr2.out nq2).1.2)
       gi_wp2_with (refine ⟨trivial, ?_⟩; gi_at_call 88; refine (CallsIn.inRound l (callsIn_wide.2 ac.out)).mono ?_; rintro e w1 ⟨rfl, hC1, hg1⟩)
       have e : cntW G.ts f (a + (j : Int)) (pre ++ [x]) = (addN cv.1 1, addU cv.2 (rd_T38 G.ts (x : Int)).f2 (rd_T38 G.ts (x : Int)).f3 1) := by rw [cntW_snoc, hcv'.out]; unfold cntF; rw [hrun]; rfl
       have hlq := hqqn.out
       have hlc := hqnc.out
       have hI := hdr2.out nq2
       have hkk : KeepsFrom W3.heap.size (W'.drewN nq2) w1 := (KeepsOthers.of_grownBy hg1 (fun jj o e ho => by cases e; rw [hI.1.2.2] at ho; cases ho; rfl)).from _
       have hkk2 : KeepsFrom w.heap.size (W'.drewN nq2) w1 := (KeepsOthers.of_grownBy hg1 (fun jj o e ho => by cases e; rw [hI.1.2.2] at ho; cases ho; rfl)).from _
       refine ⟨(keeps_drewN _ W' nq2).trans hkk, ?_⟩
       show ((Fe w g q b n a _ ∧ Boxed _ qn 3 _) ∧ IsC _ qc (cntW G.ts f (a + (j : Int)) (pre ++ [x])).1 (cntW G.ts f (a + (j : Int)) (pre ++ [x])).2) ∧ Marks w.heap.size ds2 _
       rw [e]
       exact ⟨⟨⟨hI.1.1.1.grown hq'.out hg1 (fun k e => by cases e; omega), hI.1.1.2.kept hg1 (fun e => by injection e; omega)⟩, hC1⟩, hI.2.keeps hkk2⟩
    case donec =>
     rintro D W4 hD ⟨⟨⟨hF5, hbn5⟩, hC5⟩, hM5⟩ hK5
     obtain ⟨A0', c0', A1', c1', A2', c2', A3', c3', A4', c4', hblk2, ⟨hC0, _⟩, _⟩ := (hG'.out.below hF5.bel)
     obtain ⟨ad, B1, d1, rfl, hx0, hx1, hx2, hx3, _⟩ := at_T38 hC0 (i : Int) (by omega) hgI
     simp only [Int.toNat_natCast] at hx0 hx1 hx2 hx3
     have hg0 : W4.cell? ⟨g, 0, none⟩ = some (.slice (some ad) G.gr.ts.length c0') := (blk_cell hblk2 0).trans rfl
     have k0 := hF5.hx.cell
     have kn := hbn5.cell
     have hpool := hOk'.out.pool i hi'.out
     have tc := Aside0.mk (takes_calls qc _ _ (rd_T38 G.gr.ts (i : Int)).f0 (rd_T38 G.gr.ts (i : Int)).f2 (rd_T38 G.gr.ts (i : Int)).f3 workers B1 (rd_T38 G.gr.ts (i : Int)).f1.length d1 R cr room hpool.1 hpool.2 W4 hC5 (Kd.C_below hR'.out hF5.bel) hrl'.out)
     have hM6 := Aside0.mk (hM5.cons (D := D) (by have h1 := hq'.out; have h2 := hqqn.out; have h3 := hqnc.out; omega) hK5 (hlt2.out.le (by omega)))
     have hF5' := Aside0.mk hF5
     have hbn5' := Aside0.mk hbn5
     have hC5' := Aside0.mk hC5
     have hqcD := Aside0.mk (show qc + 1 < D by omega)
     clear hF5 hbn5 hC5 hM5 hK5 hF3 hbn3 hC3 hM3 hk3 hs3 hblk2 hC0 hpool
     go_wp2_with (go_at_call 89; go_loud (refine tc.out.mono ?_; rintro e w5 ⟨rfl, _, _, hg5⟩; have hF6 := Aside0.mk (hF5'.out.grown hq'.out hg5 (fun k e => by cases e; have h2 := hqqn.out; have h3 := hqnc.out; omega)); have hbn6 := Aside0.mk (hbn5'.out.kept hg5 (fun e => by injection e with e; have h3 := hqnc.out; omega)); have hM7 := Aside0.mk (hM6.out.keeps ((KeepsOthers.of_grownBy hg5 (fun jj o e ho => by cases e; rw [hC5'.out.2] at ho; cases ho; rfl)).from w.heap.size)); have kn5 := hbn6.out.cell; clear hg5))
     have hfr2 : takesB (cntW G.ts f (a + (j : Int)) (bitsN p)).1 (cntW G.ts f (a + (j : Int)) (bitsN p)).2 (rd_T38 G.gr.ts (i : Int)).f2 (rd_T38 G.gr.ts (i : Int)).f3 room workers = freeTo G.ts f p i room workers a (j + 1) := by
      rw [freeTo_succ, ← hj.out.2.1, Bool.true_and]
      rfl
     rw [hfr2, hwj.out]
     have hbx := Aside0.mk (Boxed.new w5 3 (.int .i64 (a + ((j + 1 : Nat) : Int))))
     have hFx := Aside0.mk (hF6.out.alloc (.cells #[.int .i64 (a + ((j + 1 : Nat) : Int))] 3))
     have hMx := Aside0.mk (hM7.out.block hM7.out.ltOf (fun k hk => Below.heap_alloc w5 (.cells #[.int .i64 (a + ((j + 1 : Nat) : Int))] 3) k hk))
     have hqx := Aside0.mk (show q + 1 + 1 < w5.heap.size from hF6.out.ha.lt)
     have h := fun (v17 v46 v47 v48 v49 v50 v51 v52 v53 v54 v55 v56 v57 v58 v59 v60 v61 v62 v63 v64 v97 v98 v99 v100 v101 v102 v103 v104 v105 v106 v107 : Value) => hK2'.out (gk2 - 1) [.bool (freeTo G.ts f p i room workers a (j + 1)), .pointer (some ⟨w5.heap.size, 0, none⟩), v17, v46, v47, v48, v49, v50, v51, v52, v53, v54, v55, v56, v57, v58, v59, v60, v61, v62, v63, v64, v97, v98, v99, v100, v101, v102, v103, v104, v105, v106, v107] (markOf D :: ds2) _ hk1.out ⟨j + 1, freeTo G.ts f p i room workers a (j + 1), w5.heap.size, v17, v46, v47, v48, v49, v50, v51, v52, v53, v54, v55, v56, v57, v58, v59, v60, v61, v62, v63, v64, v97, v98, v99, v100, v101, v102, v103, v104, v105, v106, v107, rfl, ⟨hk2.out, rfl, hqx.out⟩, hbx, hFx, hMx⟩
     simp only [setAll, List.setIfInBounds_toArray, List.set_cons_zero, List.set_cons_succ] at h
     exact h _ _ _ _ _ _ _ _ _ _ _ _ _ _ _ _ _ _ _ _ _ _ _ _ _ _ _ _ _ _ _
end Go.Proofs.YtdmeiiedbhfniaaDoor.P
end
section
namespace Go.Proofs.YtdmeiiedbhfniaaDoor.P
open Go.RowKit YtdmeiiedbhfniaaDoorW.PrintWords YtdmeiiedbhfniaaDoorW.PrintLast YtdmeiiedbhfniaaDoorW.PrintMore
def impl_ValidRoom.l0 : Nat → List Int → Int → Int → Option (Bool)
 | 0, _, _, _ => none
 | k + 1, x8, x9, x10 => if x10 < x9 then (if 0 ≤ x10 then (if x10 < (x8.length : Int) then ((impl_within.f (rd x8 x10) 4 8).bind fun t235 => (if t235 = true then (impl_ValidRoom.l0 k x8 x9 (wrap64 (x10 + 1))) else (some false))) else (none)) else (none)) else (some true)
def impl_ValidRoom.f (k : Nat) (l0 : List Int) : Option (Bool) := if (l0.length : Int) = 3 then (impl_ValidRoom.l0 k l0 (l0.length : Int) 0) else (some false)
set_option maxHeartbeats 8000000 in
set_option maxRecDepth 100000 in
theorem impl_ValidRoom.calls (k : Nat) (A0 : Option Addr) (c0 : Nat) (l0 : List Int) (r : Bool) (w : World) (hr0 : Kd.C (Kd.int .i64) w A0 l0.length l0) (hc0 : l0.length ≤ c0) (h : impl_ValidRoom.f k l0 = some r) :
  Calls Tryd.prog 106 #[.slice A0 l0.length c0] w fun e w' => e = .returned (.bool r) ∧ Drawn0 w w' := by
 have HR0 := Aside0.mk hr0
 have HC0 := Aside0.mk hc0
 clear hr0 hc0
 have H : (if (l0.length : Int) = 3 then (impl_ValidRoom.l0 k l0 (l0.length : Int) 0) else (some false)) = some r := h
 clear h
 by_cases c2 : (l0.length : Int) = 3
 ·rw [if_pos c2] at H
  have c2b0 : ((l0.length : Int) == 3) = true := beq_iff_eq.mpr c2
  have c2b1 : ((l0.length : Int) != 3) = false := bne_eq_false_iff_eq.mpr c2
  clear c2
  have H' := Aside0.mk H
  clear H
  go_enter Tryd.func106, Tryd.ntmps106
  go_wp2
  go_loopg [10] k (fun kq v10 w' => ∃ (x10_1 : Int), v10 = .int .i64 x10_1 ∧ Aside0 (impl_ValidRoom.l0 kq l0 (l0.length : Int) x10_1 = some r) ∧ Aside0 (kq ≤ k) ∧ Drawn0 w w')
  case atStart => exact ⟨(0), (by first | rfl | (simp; done) | (simp [*]; done)), H', ⟨Nat.le_refl _⟩, by repeat (first | exact Drawn0.refl _ | apply Drawn0.step)⟩
  case round =>
   clear H'
   try clear c1
   try clear c2
   try clear c2b0
   try clear c2b1
   try clear p2
   obtain ⟨x10_1, rfl, HA, HK1, ⟨m1, rfl⟩⟩ := hrel
   cases gk with
   | zero => exact absurd HA.out (by simp [impl_ValidRoom.l0])
   | succ k1 =>
    have H := HA.out
    clear HA
    simp only [impl_ValidRoom.l0] at H
    by_cases c3 : x10_1 < (l0.length : Int)
    ·rw [if_pos c3] at H
     have c3b0 : decide (x10_1 < (l0.length : Int)) = true := decide_eq_true c3
     clear c3
     by_cases c4 : 0 ≤ x10_1
     ·rw [if_pos c4] at H
      have c4b0 : decide (0 ≤ x10_1) = true := decide_eq_true c4
      clear c4
      by_cases c5 : x10_1 < (l0.length : Int)
      ·rw [if_pos c5] at H
       have c5b0 : decide (x10_1 < (l0.length : Int)) = true := decide_eq_true c5
       clear c5
       replace H := Option.bind_eq_some_iff.mp H
       obtain ⟨t235, A60, H⟩ := H
       replace H : (if t235 = true then (impl_ValidRoom.l0 k1 l0 (l0.length : Int) (wrap64 (x10_1 + 1))) else (some false)) = some r := H
       have A6 := Aside0.mk A60
       clear A60
       by_cases c7 : t235 = true
       ·subst c7
        have H1 : (impl_ValidRoom.l0 k1 l0 (l0.length : Int) (wrap64 (x10_1 + 1))) = some r := by rw [if_pos rfl] at H; exact H
        clear H
        have H := H1
        clear H1
        have H' := Aside0.mk H
        clear H
        have p234 : 0 ≤ (x10_1 : Int) := of_decide_eq_true (by with_reducible assumption)
        have q234 : x10_1 < (l0.length : Int) := of_decide_eq_true (by with_reducible assumption)
        obtain ⟨ad234, e234, hx234_0⟩ := Kd.at_int HR0.out x10_1 p234 q234
        cases e234
        replace p234 := eq_true p234
        replace q234 := eq_true q234
        go_wp2_with (first | ((with_reducible refine gate_callee (f := 49) rfl ?_); refine goesL_ (some 15) rfl rfl Tryd.func49 (by kernel_rfl) rfl #[.int .i64 (rd l0 x10_1), .int .i64 4, .int .i64 8] rfl (by (try simp only [List.map_toArray, List.map_cons, List.map_nil]); first | done | rfl | (simp only [List.length_drop, List.length_take]; rfl)) ?_; (with_reducible refine (impl_within.calls (rd l0 x10_1) 4 8 true _ A6.out).mono ?_); rintro e w' ⟨rfl, ⟨nd, rfl⟩⟩; refine ⟨_, rfl, ?_⟩))
        go_roundg k1
        case measure => have := HK1.out; omega
        case rel => exact ⟨(wrap64 (x10_1 + 1)), (by first | rfl | (simp; done) | (simp [*]; done)), H', ⟨by have := HK1.out; omega⟩, by repeat (first | exact Drawn0.refl _ | apply Drawn0.step)⟩
       ·replace c7 := Bool.eq_false_iff.mpr c7
        subst c7
        have H1 : (some false) = some r := by rw [if_neg (show ¬ (false = true) by decide)] at H; exact H
        clear H
        have H := H1
        clear H1
        obtain rfl := Option.some.inj H
        have p234 : 0 ≤ (x10_1 : Int) := of_decide_eq_true (by with_reducible assumption)
        have q234 : x10_1 < (l0.length : Int) := of_decide_eq_true (by with_reducible assumption)
        obtain ⟨ad234, e234, hx234_0⟩ := Kd.at_int HR0.out x10_1 p234 q234
        cases e234
        replace p234 := eq_true p234
        replace q234 := eq_true q234
        go_wp2_with (first | ((with_reducible refine gate_callee (f := 49) rfl ?_); refine goesL_ (some 15) rfl rfl Tryd.func49 (by kernel_rfl) rfl #[.int .i64 (rd l0 x10_1), .int .i64 4, .int .i64 8] rfl (by (try simp only [List.map_toArray, List.map_cons, List.map_nil]); first | done | rfl | (simp only [List.length_drop, List.length_take]; rfl)) ?_; (with_reducible refine (impl_within.calls (rd l0 x10_1) 4 8 false _ A6.out).mono ?_); rintro e w' ⟨rfl, ⟨nd, rfl⟩⟩; refine ⟨_, rfl, ?_⟩))
        go_ret
        exact ⟨by first | rfl | (simp; done) | (simp [*]; done), by repeat (first | exact Drawn0.refl _ | apply Drawn0.step)⟩
      ·rw [if_neg c5] at H
       exact absurd H (by simp)
     ·rw [if_neg c4] at H
      exact absurd H (by simp)
    ·rw [if_neg c3] at H
     have c3b0 : decide (x10_1 < (l0.length : Int)) = false := decide_eq_false c3
     clear c3
     obtain rfl := Option.some.inj H
     go_wp2
     go_ret
     exact ⟨by first | rfl | (simp; done) | (simp [*]; done), by repeat (first | exact Drawn0.refl _ | apply Drawn0.step)⟩
 ·rw [if_neg c2] at H
  have c2b0 : ((l0.length : Int) == 3) = false := beq_eq_false_iff_ne.mpr c2
  have c2b1 : ((l0.length : Int) != 3) = true := bne_iff_ne.mpr c2
  obtain rfl := Option.some.inj H
  go_enter Tryd.func106, Tryd.ntmps106
  go_wp2
  go_ret
  exact ⟨by first | rfl | (simp; done) | (simp [*]; done), by repeat (first | exact Drawn0.refl _ | apply Drawn0.step)⟩
end Go.Proofs.YtdmeiiedbhfniaaDoor.P
end
section
namespace Go.Proofs.YtdmeiiedbhfniaaDoor.P
open Go.RowKit YtdmeiiedbhfniaaDoorW.PrintWords YtdmeiiedbhfniaaDoorW.PrintLast YtdmeiiedbhfniaaDoorW.PrintMore
def impl_workersValid.f (a0 : Int) : Option (Bool) := (impl_within.f a0 1 4).bind fun t236 => (some t236)
set_option maxHeartbeats 8000000 in
set_option maxRecDepth 100000 in
theorem impl_workersValid.calls (a0 : Int) (r : Bool) (w : World) (h : impl_workersValid.f a0 = some r) :
  Calls Tryd.prog 107 #[.int .i64 a0] w fun e w' => e = .returned (.bool r) ∧ Drawn0 w w' := by
 have H : ((impl_within.f a0 1 4).bind fun t236 => (some t236)) = some r := h
 clear h
 replace H := Option.bind_eq_some_iff.mp H
 obtain ⟨t236, A20, H⟩ := H
 replace H : (some t236) = some r := H
 have A2 := Aside0.mk A20
 clear A20
 obtain rfl := Option.some.inj H
 go_enter Tryd.func107, Tryd.ntmps107
 go_wp2_with (first | ((with_reducible refine gate_callee (f := 49) rfl ?_); refine goesL_ (some 4) rfl rfl Tryd.func49 (by kernel_rfl) rfl #[.int .i64 a0, .int .i64 1, .int .i64 4] rfl (by (try simp only [List.map_toArray, List.map_cons, List.map_nil]); first | done | rfl | (simp only [List.length_drop, List.length_take]; rfl)) ?_; (with_reducible refine (impl_within.calls a0 1 4 t236 _ A2.out).mono ?_); rintro e w' ⟨rfl, ⟨nd, rfl⟩⟩; refine ⟨_, rfl, ?_⟩))
 go_ret
 exact ⟨by first | rfl | (simp; done) | (simp [*]; done), by repeat (first | exact Drawn0.refl _ | apply Drawn0.step)⟩
end Go.Proofs.YtdmeiiedbhfniaaDoor.P
end
section
namespace Go.Proofs.YtdmeiiedbhfniaaDoor.P
open Go.RowKit Go.Shelf YtdmeiiedbhfniaaDoorW.PrintWords YtdmeiiedbhfniaaDoorW.PrintLast YtdmeiiedbhfniaaDoorW.PrintMore
def roomP (room : List Int) : Bool := decide (room.length = 3) && room.all fun n => decide (4 ≤ n ∧ n ≤ 8)
theorem room_l0 (k : Nat) (a b c : Int) : impl_ValidRoom.l0 (k + 4) [a, b, c] 3 0 = some ((decide (4 ≤ a ∧ a ≤ 8)) && ((decide (4 ≤ b ∧ b ≤ 8)) && (decide (4 ≤ c ∧ c ≤ 8)))) := by
 have w1 : wrap64 (0 + 1) = 1 := by unfold wrap64; omega
 have w2 : wrap64 (1 + 1) = 2 := by unfold wrap64; omega
 have w3 : wrap64 (2 + 1) = 3 := by unfold wrap64; omega
 have r0 : rd [a, b, c] 0 = a := rfl
 have r1 : rd [a, b, c] 1 = b := rfl
 have r2 : rd [a, b, c] 2 = c := rfl
 rw [impl_ValidRoom.l0, if_pos (by omega), if_pos (by omega), if_pos (by simp), within_eq, Option.bind_some, r0, w1]
 by_cases ha : 4 ≤ a ∧ a ≤ 8
 ·rw [decide_eq_true ha, if_pos rfl, Bool.true_and, impl_ValidRoom.l0, if_pos (by omega), if_pos (by omega), if_pos (by simp), within_eq, Option.bind_some, r1, w2]
  by_cases hb : 4 ≤ b ∧ b ≤ 8
  ·rw [decide_eq_true hb, if_pos rfl, Bool.true_and, impl_ValidRoom.l0, if_pos (by omega), if_pos (by omega), if_pos (by simp), within_eq, Option.bind_some, r2, w3]
   by_cases hc : 4 ≤ c ∧ c ≤ 8
   ·rw [decide_eq_true hc, if_pos rfl, impl_ValidRoom.l0, if_neg (by omega)]
   ·rw [decide_eq_false hc, if_neg (by simp)]
  ·rw [decide_eq_false hb, if_neg (by simp), Bool.false_and]
 ·rw [decide_eq_false ha, if_neg (by simp), Bool.false_and]
theorem room_eq (room : List Int) : impl_ValidRoom.f 100 room = some (roomP room) := by
 unfold impl_ValidRoom.f roomP
 by_cases h : room.length = 3
 ·match room, h with
  | [a, b, c], _ =>
   rw [if_pos (by rfl)]
   exact (room_l0 96 a b c).trans (by simp)
 ·rw [if_neg (by omega), decide_eq_false h, Bool.false_and]
theorem roomP_len {room : List Int} (h : roomP room = true) : room.length = 3 := of_decide_eq_true (Bool.and_eq_true_iff.1 h).1
theorem workers_eq (a : Int) : impl_workersValid.f a = some (decide (1 ≤ a ∧ a ≤ 4)) := by
 unfold impl_workersValid.f
 rw [within_eq]; rfl
end Go.Proofs.YtdmeiiedbhfniaaDoor.P
end
section
namespace Go.Proofs.YtdmeiiedbhfniaaDoor.P
open Go.RowKit Go.Shelf YtdmeiiedbhfniaaDoorW.PrintWords YtdmeiiedbhfniaaDoorW.PrintLast YtdmeiiedbhfniaaDoorW.PrintMore
attribute [local go_sem] Oper.semAt_some
def placeP (ts : List TT) (room : List Int) (workers : Int) : Option GrN := match graphP ts with
 | none => none
 | some G => if (roomP room && decide (1 ≤ workers ∧ workers ≤ 4)) = true then some G else none
def fewP (ts : List TT) (room : List Int) (workers : Int) : Option GrN := if 5 < ts.length then none else placeP ts room workers
theorem placeP_ok {ts : List TT} {room : List Int} {workers : Int} {G : GrN} (h : placeP ts room workers = some G) : graphP ts = some G ∧ roomP room = true ∧ 1 ≤ workers ∧ workers ≤ 4 := by
 unfold placeP at h
 cases hg : graphP ts with
 | none => rw [hg] at h; cases h
 | some G' =>
  rw [hg] at h
  simp only at h
  split at h
  ·rename_i hc
   rw [Bool.and_eq_true] at hc
   exact ⟨h, hc.1, (of_decide_eq_true hc.2).1, (of_decide_eq_true hc.2).2⟩
  ·cases h
theorem fewP_ok {ts : List TT} {room : List Int} {workers : Int} {G : GrN} (h : fewP ts room workers = some G) : ts.length ≤ 5 ∧ placeP ts room workers = some G := by
 unfold fewP at h
 split at h
 ·cases h
 ·exact ⟨by omega, h⟩
set_option maxRecDepth 100000 in
set_option maxHeartbeats 1000000 in
theorem placeIn_calls (A0 : Option Addr) (c0 : Nat) (l0 : List TT) (A1 : Option Addr) (c1 : Nat) (l1 : List Int) (a2 : Int) (w : World) (hr0 : Kd.C k38 w A0 l0.length l0) (hc0 : l0.length ≤ c0) (hr1 : Kd.C (Kd.int .i64) w A1 l1.length l1) (hc1 : l1.length ≤ c1) (hTab : TabOK w) :
  Calls Tryd.prog 77 #[.slice A0 l0.length c0, .slice A1 l1.length c1, .int .i64 a2] w fun e w' => ∃ g b, e = .returned (.tuple #[.pointer g, .bool b]) ∧ Below w.heap.size w w' ∧ (placeP l0 l1 a2 = none → b = false) ∧ (∀ G, placeP l0 l1 a2 = some G → b = true ∧ ∃ a, g = some ⟨a, 0, none⟩ ∧ IsG w' a G.gr) := by
 have gc := Aside0.mk (graphOf_all A0 c0 l0 w hr0 hc0 hTab)
 have hr0' := Aside0.mk hr0
 have hr1' := Aside0.mk hr1
 have hc1' := Aside0.mk hc1
 have vr := Aside0.mk (room_eq l1)
 have vw := Aside0.mk (workers_eq a2)
 clear hr0 hr1 hTab
 cases hg : graphP l0 with
 | none =>
  have hp : placeP l0 l1 a2 = none := by unfold placeP; rw [hg]
  rw [hp]
  have hg' := Aside0.mk hg
  clear hg hp
  go_enter Tryd.func77, Tryd.ntmps77
  go_wp2_with (go_at_call 73; refine gc.out.mono ?_; rintro e w1 ⟨g, b, rfl, hB, hno, hyes⟩; obtain ⟨rfl, rfl⟩ := hno hg'.out; have hB1 := Aside0.mk hB; clear hB hno hyes)
  go_ret2
  exact ⟨none, false, rfl, hB1.out, fun _ => rfl, fun G h => by cases h⟩
 | some G =>
  have hg' := Aside0.mk hg
  cases hv : roomP l1 with
  | false =>
   have hp : placeP l0 l1 a2 = none := by unfold placeP; rw [hg, hv]; rfl
   rw [hp]
   rw [hv] at vr
   clear hg hp hv
   go_enter Tryd.func77, Tryd.ntmps77
   go_wp2_with (first | (go_at_call 73; refine gc.out.mono ?_; rintro e w1 ⟨g, b, rfl, hB, hno, hyes⟩; obtain ⟨rfl, a, rfl, hG0⟩ := hyes G hg'.out; have hB1 := Aside0.mk hB; clear hB hno hyes hG0) | (go_at_call 106; refine (impl_ValidRoom.calls 100 A1 c1 l1 _ _ (Kd.C_below hr1'.out hB1.out) hc1'.out vr.out).mono ?_; rintro e w2 ⟨rfl, ⟨m2, rfl⟩⟩))
   go_ret2
   exact ⟨none, false, rfl, pw_below_drewN hB1.out m2, fun _ => rfl, fun G h => by cases h⟩
  | true =>
   rw [hv] at vr
   by_cases hw : 1 ≤ a2 ∧ a2 ≤ 4
   ·have hp : placeP l0 l1 a2 = some G := by unfold placeP; rw [hg, hv, decide_eq_true hw]; rfl
    rw [hp]
    have vw2 := vw.out
    rw [decide_eq_true hw] at vw2
    have vw3 := Aside0.mk vw2
    clear hg hp hv hw vw vw2
    go_enter Tryd.func77, Tryd.ntmps77
    go_wp2_with (first | (go_at_call 73; refine gc.out.mono ?_; rintro e w1 ⟨g, b, rfl, hB, hno, hyes⟩; obtain ⟨rfl, a, rfl, hG0⟩ := hyes G hg'.out; have hG1 := Aside0.mk (graphOf_at hr0'.out hB hG0); have hB1 := Aside0.mk hB; clear hB hno hyes hG0) | (go_at_call 106; refine (impl_ValidRoom.calls 100 A1 c1 l1 _ _ (Kd.C_below hr1'.out hB1.out) hc1'.out vr.out).mono ?_; rintro e w2 ⟨rfl, ⟨m2, rfl⟩⟩) | (go_at_call 107; refine (impl_workersValid.calls a2 _ _ vw3.out).mono ?_; rintro e w3 ⟨rfl, ⟨m3, rfl⟩⟩))
    go_ret2
    refine ⟨some ⟨a, 0, none⟩, true, rfl, pw_below_drewN hB1.out _, fun h => (by cases h), fun G' h => ?_⟩
    injection h with h
    subst h
    exact ⟨rfl, a, rfl, hG1.out.drewN _⟩
   ·have hp : placeP l0 l1 a2 = none := by unfold placeP; rw [hg, hv, decide_eq_false hw]; rfl
    rw [hp]
    have vw2 := vw.out
    rw [decide_eq_false hw] at vw2
    have vw3 := Aside0.mk vw2
    clear hg hp hv hw vw vw2
    go_enter Tryd.func77, Tryd.ntmps77
    go_wp2_with (first | (go_at_call 73; refine gc.out.mono ?_; rintro e w1 ⟨g, b, rfl, hB, hno, hyes⟩; obtain ⟨rfl, a, rfl, hG0⟩ := hyes G hg'.out; have hB1 := Aside0.mk hB; clear hB hno hyes hG0) | (go_at_call 106; refine (impl_ValidRoom.calls 100 A1 c1 l1 _ _ (Kd.C_below hr1'.out hB1.out) hc1'.out vr.out).mono ?_; rintro e w2 ⟨rfl, ⟨m2, rfl⟩⟩) | (go_at_call 107; refine (impl_workersValid.calls a2 _ _ vw3.out).mono ?_; rintro e w3 ⟨rfl, ⟨m3, rfl⟩⟩))
    go_ret2
    exact ⟨none, false, rfl, pw_below_drewN hB1.out _, fun _ => rfl, fun G h => by cases h⟩
set_option maxRecDepth 100000 in
set_option maxHeartbeats 1000000 in
theorem fewIn_calls (A0 : Option Addr) (c0 : Nat) (l0 : List TT) (A1 : Option Addr) (c1 : Nat) (l1 : List Int) (a2 : Int) (w : World) (hr0 : Kd.C k38 w A0 l0.length l0) (hc0 : l0.length ≤ c0) (hr1 : Kd.C (Kd.int .i64) w A1 l1.length l1) (hc1 : l1.length ≤ c1) (hTab : TabOK w) :
  Calls Tryd.prog 47 #[.slice A0 l0.length c0, .slice A1 l1.length c1, .int .i64 a2] w fun e w' => ∃ g b, e = .returned (.tuple #[.pointer g, .bool b]) ∧ Below w.heap.size w w' ∧ (fewP l0 l1 a2 = none → b = false) ∧ (∀ G, fewP l0 l1 a2 = some G → b = true ∧ ∃ a, g = some ⟨a, 0, none⟩ ∧ IsG w' a G.gr) := by
 by_cases hn : 5 < l0.length
 ·have hp : fewP l0 l1 a2 = none := by unfold fewP; rw [if_pos hn]
  rw [hp]
  have hd : decide (5 < (l0.length : Int)) = true := decide_eq_true (by omega)
  have hd2 : decide ((l0.length : Int) > 5) = true := hd
  clear hp hr0 hr1
  go_enter Tryd.func47, Tryd.ntmps47
  go_wp2
  go_ret2
  exact ⟨none, false, rfl, Below.refl _ _, fun _ => rfl, fun G h => by cases h⟩
 ·have hp : fewP l0 l1 a2 = placeP l0 l1 a2 := by unfold fewP; rw [if_neg hn]
  rw [hp]
  have hd : decide (5 < (l0.length : Int)) = false := decide_eq_false (by omega)
  have hd2 : decide ((l0.length : Int) > 5) = false := hd
  have pc := Aside0.mk (placeIn_calls A0 c0 l0 A1 c1 l1 a2 w hr0 hc0 hr1 hc1 hTab)
  clear hp hr0 hr1
  go_enter Tryd.func47, Tryd.ntmps47
  go_wp2_with (go_at_call 77; refine pc.out.mono ?_; rintro e w1 ⟨g, b, rfl, hB, hno, hyes⟩; have hall := Aside0.mk (show Below w.heap.size w w1 ∧ (placeP l0 l1 a2 = none → b = false) ∧ (∀ G, placeP l0 l1 a2 = some G → b = true ∧ ∃ a, g = some ⟨a, 0, none⟩ ∧ IsG w1 a G.gr) from ⟨hB, hno, hyes⟩); clear hB hno hyes)
  go_ret2
  exact ⟨g, b, rfl, hall.out⟩
end Go.Proofs.YtdmeiiedbhfniaaDoor.P
end
section
namespace Go.Proofs.YtdmeiiedbhfniaaDoor.P
open Go.RowKit Go.Shelf YtdmeiiedbhfniaaDoorW.PrintWords YtdmeiiedbhfniaaDoorW.PrintLast YtdmeiiedbhfniaaDoorW.PrintMore
def earlyGo (ts : List TT) (f : Nat → Int) (p i : Nat) (room : List Int) (workers : Int) : Nat → Int → Int
 | 0, a => a
 | k + 1, a => if freeTo ts f p i room workers a (timeW ts i).toNat = true then a else earlyGo ts f p i room workers k (a + 1)
def earlyP (ts : List TT) (nd : List Nat) (f : Nat → Int) (p i : Nat) (room : List Int) (workers : Int) : Int := earlyGo ts f p i room workers 1000 (overW ts nd f i)
theorem earlyGo_spec (ts : List TT) (f : Nat → Int) (p i : Nat) (room : List Int) (workers : Int) : ∀ (k : Nat) (a E : Int), a ≤ E → E ≤ a + k → freeTo ts f p i room workers E (timeW ts i).toNat = true →
  a ≤ earlyGo ts f p i room workers k a ∧ earlyGo ts f p i room workers k a ≤ E ∧ freeTo ts f p i room workers (earlyGo ts f p i room workers k a) (timeW ts i).toNat = true ∧ ∀ x, a ≤ x → x < earlyGo ts f p i room workers k a → freeTo ts f p i room workers x (timeW ts i).toNat = false
 | 0, a, E, h1, h2, h3 => by
  have e : E = a := by omega
  subst e
  exact ⟨Int.le_refl _, Int.le_refl _, h3, fun x hx hx2 => by unfold earlyGo at hx2; omega⟩
 | k + 1, a, E, h1, h2, h3 => by
  unfold earlyGo
  by_cases hc : freeTo ts f p i room workers a (timeW ts i).toNat = true
  ·rw [if_pos hc]
   exact ⟨Int.le_refl _, h1, hc, fun x hx hx2 => by omega⟩
  ·rw [if_neg hc]
   have hne : a ≠ E := fun e => hc (by rw [e]; exact h3)
   obtain ⟨e1, e2, e3, e4⟩ := earlyGo_spec ts f p i room workers k (a + 1) E (by omega) (by omega) h3
   refine ⟨by omega, e2, e3, fun x hx hx2 => ?_⟩
   by_cases hxa : x = a
   ·rw [hxa]; exact Bool.eq_false_iff.2 hc
   ·exact e4 x (by omega) hx2
theorem fold_over (ts : List TT) (f : Nat → Int) (E : Int) : ∀ (l : List Nat) (a : Int), 0 ≤ a → a ≤ E → (∀ k ∈ l, 0 ≤ f k + timeW ts k ∧ f k + timeW ts k ≤ E) → E ≤ 100000 →
  a ≤ l.foldl (fun a k => mx a (wrap64 (f k + timeW ts k))) a ∧ l.foldl (fun a k => mx a (wrap64 (f k + timeW ts k))) a ≤ E ∧ (∀ k ∈ l, f k + timeW ts k ≤ l.foldl (fun a k => mx a (wrap64 (f k + timeW ts k))) a)
 | [], a, h0, h1, _, _ => ⟨Int.le_refl _, h1, fun k hk => by cases hk⟩
 | k :: l, a, h0, h1, hl, hE => by
  have hk := hl k List.mem_cons_self
  have e : wrap64 (f k + timeW ts k) = f k + timeW ts k := IntWalk.wrap64_in _ (by omega)
  have hm : a ≤ mx a (f k + timeW ts k) ∧ f k + timeW ts k ≤ mx a (f k + timeW ts k) ∧ mx a (f k + timeW ts k) ≤ E := by unfold mx; split <;> omega
  rw [List.foldl_cons, e]
  obtain ⟨e1, e2, e3⟩ := fold_over ts f E l (mx a (f k + timeW ts k)) (by omega) hm.2.2 (fun j hj => hl j (List.mem_cons_of_mem _ hj)) hE
  refine ⟨by omega, e2, fun j hj => ?_⟩
  rcases List.mem_cons.1 hj with rfl | hj
  ·omega
  ·exact e3 j hj
theorem cntW_none (ts : List TT) (f : Nat → Int) (now : Int) : ∀ (l : List Nat) (c : Int × List Int), (∀ k ∈ l, runsB ts f now k = false) → l.foldl (cntF ts f now) c = c
 | [], c, _ => rfl
 | k :: l, c, h => by
  rw [List.foldl_cons]
  have e : cntF ts f now c k = c := by unfold cntF; rw [h k List.mem_cons_self]; rfl
  rw [e]
  exact cntW_none ts f now l c (fun j hj => h j (List.mem_cons_of_mem _ hj))
theorem GOk.timeW {G : GrN} (h : GOk G) (i : Nat) (hi : i < G.ts.length) : 1 ≤ timeW G.ts i ∧ P.timeW G.ts i ≤ 20 := by
 have := taskP_lt (h.task i _ (List.getElem?_eq_getElem hi))
 have e : rd_T38 G.ts (i : Int) = G.ts[i] := by simp [rd_T38, hi]
 unfold P.timeW
 rw [e]
 omega
theorem GOk.units {G : GrN} (h : GOk G) (i : Nat) (hi : i < G.ts.length) : 1 ≤ (rd_T38 G.ts (i : Int)).f3 ∧ (rd_T38 G.ts (i : Int)).f3 ≤ 4 := by
 have := taskP_lt (h.task i _ (List.getElem?_eq_getElem hi))
 have e : rd_T38 G.ts (i : Int) = G.ts[i] := by simp [rd_T38, hi]
 rw [e]
 omega
theorem takes_alone {G : GrN} (hOk : GOk G) {i : Nat} (hi : i < G.ts.length) {room : List Int} (hr : roomP room = true) {workers : Int} (hw : 1 ≤ workers) : takesB 0 [0, 0, 0] (rd_T38 G.ts (i : Int)).f2 (rd_T38 G.ts (i : Int)).f3 room workers = true := by
 have hp := hOk.pool i hi
 have hu := hOk.units i hi
 have hl := roomP_len hr
 unfold roomP at hr
 rw [Bool.and_eq_true] at hr
 have hall := List.all_eq_true.1 hr.2
 obtain ⟨P, hP⟩ : ∃ P, (rd_T38 G.ts (i : Int)).f2 = P := ⟨_, rfl⟩
 rw [hP] at hp ⊢
 have h0 : rd [0, 0, 0] P = 0 := by
  have : P = 0 ∨ P = 1 ∨ P = 2 := by omega
  rcases this with rfl | rfl | rfl <;> rfl
 have h4 : 4 ≤ rd room P := by
  have hlt : P.toNat < room.length := by omega
  have := of_decide_eq_true (hall room[P.toNat] (List.getElem_mem hlt))
  simp [rd, hlt]
  exact this.1
 unfold takesB
 rw [h0, IntWalk.wrap64_in _ (by omega), decide_eq_false (by omega), decide_eq_false (by omega)]
 rfl
theorem early_spec {G : GrN} (hOk : GOk G) {i : Nat} (hi : i < G.ts.length) {room : List Int} (hr : roomP room = true) {workers : Int} (hw : 1 ≤ workers) {f : Nat → Int} {p : Nat} {E : Int} (hE0 : 0 ≤ E) (hE9 : E ≤ 900)
  (hf : ∀ k ∈ bitsN p, 0 ≤ f k ∧ f k + timeW G.ts k ≤ E) (hn : ∀ k ∈ bitsN (G.nd.getD i 0), k ∈ bitsN p) (ht : ∀ k, k ∈ bitsN p → k < G.ts.length) :
  0 ≤ overW G.ts G.nd f i ∧ overW G.ts G.nd f i ≤ earlyP G.ts G.nd f p i room workers ∧ earlyP G.ts G.nd f p i room workers ≤ E ∧ freeTo G.ts f p i room workers (earlyP G.ts G.nd f p i room workers) (timeW G.ts i).toNat = true ∧ (∀ a, overW G.ts G.nd f i ≤ a → a < earlyP G.ts G.nd f p i room workers → freeTo G.ts f p i room workers a (timeW G.ts i).toNat = false) ∧ (∀ k ∈ bitsN (G.nd.getD i 0), f k + timeW G.ts k ≤ overW G.ts G.nd f i) := by
 obtain ⟨o1, o2, o3⟩ := fold_over G.ts f E (bitsN (G.nd.getD i 0)) 0 (Int.le_refl _) hE0 (fun k hk => by
  have h1 := hf k (hn k hk)
  have h2 := hOk.timeW k (ht k (hn k hk))
  omega) (by omega)
 have hfree : freeTo G.ts f p i room workers E (timeW G.ts i).toNat = true := by
  unfold freeTo
  refine List.all_eq_true.2 (fun j _ => ?_)
  unfold freeAt cntW
  rw [cntW_none G.ts f (E + (j : Int)) (bitsN p) (0, [0, 0, 0]) (fun k hk => ?_)]
  ·exact takes_alone hOk hi hr hw
  ·have h1 := hf k hk
   have h2 := hOk.timeW k (ht k hk)
   unfold runsB
   rw [IntWalk.wrap64_in _ (by omega), decide_eq_false (show ¬ E + (j : Int) < f k + P.timeW G.ts k by omega), Bool.and_false]
 obtain ⟨e1, e2, e3, e4⟩ := earlyGo_spec G.ts f p i room workers 1000 (overW G.ts G.nd f i) E o2 (by unfold overW; omega) hfree
 exact ⟨o1, e1, e2, e3, e4, o3⟩
def okGo (n : Nat) (nd : List Nat) : List Int → Nat → Bool
 | [], _ => true
 | i :: r, s => if (0 ≤ i ∧ i < n) ∧ s.testBit i.toNat = false ∧ nd.getD i.toNat 0 &&& s = nd.getD i.toNat 0 then okGo n nd r (s ||| 2 ^ i.toNat) else false
def maskN (l : List Nat) : Nat := l.foldl (fun s i => s ||| 2 ^ i) 0
theorem maskN_snoc (l : List Nat) (x : Nat) : maskN (l ++ [x]) = maskN l ||| 2 ^ x := by simp [maskN]
theorem okGo_split (n : Nat) (nd : List Nat) : ∀ (pre r : List Int) (s : Nat), okGo n nd (pre ++ r) s = true → okGo n nd r ((pre.map Int.toNat).foldl (fun s i => s ||| 2 ^ i) s) = true
 | [], r, s, h => h
 | x :: pre, r, s, h => by
  rw [List.cons_append] at h
  unfold okGo at h
  split at h
  ·exact okGo_split n nd pre r _ h
  ·cases h
theorem okGo_at {n : Nat} {nd : List Nat} {list : List Int} (h : okGo n nd list 0 = true) (j : Nat) (hj : j < list.length) : (0 ≤ list[j] ∧ list[j] < n) ∧ (maskN ((list.map Int.toNat).take j)).testBit list[j].toNat = false ∧ nd.getD list[j].toNat 0 &&& maskN ((list.map Int.toNat).take j) = nd.getD list[j].toNat 0 := by
 have e : list = list.take j ++ list[j] :: list.drop (j + 1) := by rw [← List.drop_eq_getElem_cons hj, List.take_append_drop]
 have h2 := okGo_split n nd (list.take j) (list[j] :: list.drop (j + 1)) 0 (by rw [← e]; exact h)
 rw [List.map_take] at h2
 unfold okGo at h2
 split at h2
 ·rename_i hc; exact hc
 ·cases h2
def stepS (ts : List TT) (nd : List Nat) (room : List Int) (workers : Int) (st : (Nat → Int) × Nat) (i : Nat) : (Nat → Int) × Nat := (fun k => if k = i then earlyP ts nd st.1 st.2 i room workers else st.1 k, st.2 ||| 2 ^ i)
def startsS (ts : List TT) (nd : List Nat) (room : List Int) (workers : Int) (l : List Nat) : (Nat → Int) × Nat := l.foldl (stepS ts nd room workers) (fun _ => 0, 0)
theorem startsS_snoc (ts : List TT) (nd : List Nat) (room : List Int) (workers : Int) (l : List Nat) (x : Nat) : startsS ts nd room workers (l ++ [x]) = stepS ts nd room workers (startsS ts nd room workers l) x := by simp [startsS]
theorem startsS_mask (ts : List TT) (nd : List Nat) (room : List Int) (workers : Int) (l : List Nat) : (startsS ts nd room workers l).2 = maskN l := by
 unfold startsS maskN
 have : ∀ (l : List Nat) (st : (Nat → Int) × Nat), (l.foldl (stepS ts nd room workers) st).2 = l.foldl (fun s i => s ||| 2 ^ i) st.2 := by
  intro l
  induction l with
  | nil => intro st; rfl
  | cons x l ih => intro st; rw [List.foldl_cons, List.foldl_cons, ih]; rfl
 exact this l _
structure StOk (G : GrN) (f : Nat → Int) (p m : Nat) : Prop where
 lt : p < 2 ^ G.ts.length
 pos : ∀ k, 0 ≤ f k
 le : ∀ k ∈ bitsN p, f k + timeW G.ts k ≤ 20 * m
theorem StOk.mem {G : GrN} {f : Nat → Int} {p m : Nat} (h : StOk G f p m) : ∀ k ∈ bitsN p, k < G.ts.length := bitsN_lt h.lt
theorem bits_or {p i k : Nat} : k ∈ bitsN (p ||| 2 ^ i) ↔ k ∈ bitsN p ∨ (k < 8 ∧ k = i) := by
 rw [mem_bitsN, mem_bitsN, Nat.testBit_or, Nat.testBit_two_pow]
 simp only [Bool.or_eq_true, decide_eq_true_eq]
 constructor
 ·rintro ⟨h8, h | h⟩
  ·exact Or.inl ⟨h8, h⟩
  ·exact Or.inr ⟨h8, h.symm⟩
 ·rintro (⟨h8, h⟩ | ⟨h8, h⟩)
  ·exact ⟨h8, Or.inl h⟩
  ·exact ⟨h8, Or.inr h.symm⟩
theorem StOk.early {G : GrN} (hOk : GOk G) {f : Nat → Int} {p m i : Nat} (h : StOk G f p m) (hm : m ≤ 40) (hi : i < G.ts.length) {room : List Int} (hr : roomP room = true) {workers : Int} (hw : 1 ≤ workers) (hn : G.nd.getD i 0 &&& p = G.nd.getD i 0) :
  0 ≤ overW G.ts G.nd f i ∧ overW G.ts G.nd f i ≤ earlyP G.ts G.nd f p i room workers ∧ earlyP G.ts G.nd f p i room workers ≤ 20 * m ∧ freeTo G.ts f p i room workers (earlyP G.ts G.nd f p i room workers) (timeW G.ts i).toNat = true ∧ (∀ a, overW G.ts G.nd f i ≤ a → a < earlyP G.ts G.nd f p i room workers → freeTo G.ts f p i room workers a (timeW G.ts i).toNat = false) ∧ (∀ k ∈ bitsN (G.nd.getD i 0), f k + timeW G.ts k ≤ overW G.ts G.nd f i) :=
 early_spec hOk hi hr hw (E := 20 * m) (by omega) (by omega) (fun k hk => ⟨h.pos k, h.le k hk⟩) (fun k hk => by
  rw [mem_bitsN] at hk ⊢
  refine ⟨hk.1, ?_⟩
  have := hk.2
  rw [← hn, Nat.testBit_and, Bool.and_eq_true] at this
  exact this.2) h.mem
theorem StOk.step {G : GrN} (hOk : GOk G) {f : Nat → Int} {p m i : Nat} (h : StOk G f p m) (hm : m ≤ 40) (hi : i < G.ts.length) {room : List Int} (hr : roomP room = true) {workers : Int} (hw : 1 ≤ workers) (hn : G.nd.getD i 0 &&& p = G.nd.getD i 0) (hni : p.testBit i = false) :
  StOk G (fun k => if k = i then earlyP G.ts G.nd f p i room workers else f k) (p ||| 2 ^ i) (m + 1) := by
 obtain ⟨h0, h1, h2, _⟩ := h.early hOk hm hi hr hw hn
 have ht := hOk.timeW i hi
 refine ⟨with_lt h.lt hi, fun k => ?_, fun k hk => ?_⟩
 ·show 0 ≤ if k = i then _ else f k
  split
  ·omega
  ·exact h.pos k
 ·show (if k = i then earlyP G.ts G.nd f p i room workers else f k) + P.timeW G.ts k ≤ 20 * ((m + 1 : Nat) : Int)
  rcases bits_or.1 hk with hk | ⟨_, hk⟩
  ·have hne : k ≠ i := fun e => by rw [mem_bitsN, e, hni] at hk; cases hk.2
   rw [if_neg hne]
   have := h.le k hk
   omega
  ·rw [if_pos hk, hk]
   omega
theorem starts_ok {G : GrN} (hOk : GOk G) {room : List Int} (hr : roomP room = true) {workers : Int} (hw : 1 ≤ workers) {list : List Int} (hl : list.length ≤ 8) (h : okGo G.ts.length G.nd list 0 = true) : ∀ j, j ≤ list.length → StOk G (startsS G.ts G.nd room workers ((list.map Int.toNat).take j)).1 (startsS G.ts G.nd room workers ((list.map Int.toNat).take j)).2 j
 | 0, _ => ⟨Nat.two_pow_pos _, fun _ => Int.le_refl _, fun k hk => by
   have : k ∈ bitsN 0 := hk
   rw [bitsN_zero] at this; cases this⟩
 | j + 1, hj => by
  have hjl : j < list.length := by omega
  have hjm : j < (list.map Int.toNat).length := by simpa using hjl
  have ih := starts_ok hOk hr hw hl h j (by omega)
  obtain ⟨a1, a2, a3⟩ := okGo_at h j hjl
  have hm := startsS_mask G.ts G.nd room workers ((list.map Int.toNat).take j)
  rw [← hm] at a2 a3
  have e : (list.map Int.toNat).take (j + 1) = (list.map Int.toNat).take j ++ [list[j].toNat] := by
   rw [List.take_succ_eq_append_getElem hjm]
   simp
  rw [e, startsS_snoc]
  exact ih.step hOk (by omega) (by omega) hr hw a3 a2
end Go.Proofs.YtdmeiiedbhfniaaDoor.P
end
section
namespace Go.Proofs.YtdmeiiedbhfniaaDoor.P
open Go.RowKit Go.Shelf YtdmeiiedbhfniaaDoorW.PrintWords YtdmeiiedbhfniaaDoorW.PrintLast YtdmeiiedbhfniaaDoorW.PrintMore
attribute [local go_sem] Oper.semAt_some
def readyStepN (nd : List Nat) (s : Nat) (o i : Nat) : Nat := if canP nd s i then o ||| 2 ^ i else o
def readyN (nd : List Nat) (s : Nat) : Nat := (List.range nd.length).foldl (readyStepN nd s) 0
def impl_ValidDone.f (l0 : List TT) (l1 : List Int) : Option (Bool) := some (doneP l0 l1).isSome
def impl_ReadyTasks.f (l0 : List TT) (l1 : List Int) : Option (List Int) := some (match doneP l0 l1 with | none => [] | some (G, s) => ivs (bitsN (readyN G.nd s)))
end Go.Proofs.YtdmeiiedbhfniaaDoor.P
end
section
namespace Go.Proofs.YtdmeiiedbhfniaaDoor.P
open Go.RowKit Go.Shelf YtdmeiiedbhfniaaDoorW.PrintWords YtdmeiiedbhfniaaDoorW.PrintLast YtdmeiiedbhfniaaDoorW.PrintMore
attribute [local go_sem] Oper.semAt_some
def diffN (a b : Nat) : Nat := a ^^^ (a &&& b)
theorem within_calls (a b c : Int) (r : Bool) (hr : decide (b ≤ a ∧ a ≤ c) = r) (w : World) : Calls Tryd.prog 49 #[.int .i64 a, .int .i64 b, .int .i64 c] w fun e w' => e = .returned (.bool r) ∧ Drawn0 w w' :=
 impl_within.calls a b c _ w (by rw [within_eq, hr])
theorem size_callsN (g : Nat) (G : GrN) (n : Nat) (hn : G.ts.length = n) (w : World) (hG : IsG w g G.gr) : Calls Tryd.prog 48 #[.pointer (some ⟨g, 0, none⟩)] w fun e w' => e = .returned (.int .i64 (n : Int)) ∧ Drawn0 w w' := by
 subst hn
 exact size_calls g G.gr w hG
theorem has_callsN (s i : Nat) (hs : s < 256) (hi : i < 8) (w : World) : Calls Tryd.prog 50 #[.int .u16 (s : Int), .int .i64 (i : Int)] w fun e w' => e = .returned (.bool (s.testBit i)) ∧ Drawn0 w w' := by
 have := hasB_calls (s : Int) (i : Int) (by omega) w
 rw [hasB_nat s hs i hi] at this
 exact this
theorem with_callsN (s i : Nat) (hs : s < 256) (hi : i < 8) (w : World) : Calls Tryd.prog 51 #[.int .u16 (s : Int), .int .i64 (i : Int)] w fun e w' => e = .returned (.int .u16 ((s ||| 2 ^ i : Nat) : Int)) ∧ Drawn0 w w' := by
 have := withI_calls (s : Int) (i : Int) (by omega) w
 rw [withI_nat s i hs hi] at this
 exact this
def finishP (ts : List TT) (done : List Int) (at_ : Int) : Option (List Int) := match doneP ts done with
 | none => none
 | some (G, s) => if 0 ≤ at_ ∧ at_ < ts.length then (if (readyN G.nd s).testBit at_.toNat then some (ivs (bitsN (s ||| 2 ^ at_.toNat))) else none) else none
def impl_FinishTask.f (l0 : List TT) (l1 : List Int) (a2 : Int) : Option (List Int × Bool) := some (match finishP l0 l1 a2 with | none => ([], false) | some l => (l, true))
def impl_WaitsFor.f (l0 : List TT) (l1 : List Int) (a2 : Int) : Option (List Int) := some (match doneP l0 l1 with
 | none => []
 | some (G, s) => if 0 ≤ a2 ∧ a2 < l0.length then ivs (bitsN (diffN (G.nd.getD a2.toNat 0) s)) else [])
end Go.Proofs.YtdmeiiedbhfniaaDoor.P
end
section
namespace Go.Proofs.YtdmeiiedbhfniaaDoor.P
open Go.RowKit Go.Shelf YtdmeiiedbhfniaaDoorW.PrintWords YtdmeiiedbhfniaaDoorW.PrintLast YtdmeiiedbhfniaaDoorW.PrintMore
attribute [local go_sem] Oper.semAt_some
theorem rowL_own {W : World} {b base : Nat} {l : List Int} (h : W.heap[b]? = some (rowL l)) (hb : base ≤ b) (hl : l.length ≤ 8) : W.ownsRow base 3 1 (slv b l.length) l.length (encs (Value.int .i64) l) := by
 refine ⟨by simp [encs], .inr ⟨b, l.length, _, rfl, hb, h, Nat.le_refl _, by unfold maxLen; omega, by simp, by simp [encs, List.take_of_length_le]⟩⟩
theorem rowF_R {W : World} {b base n : Nat} {f : Nat → Int} (h : W.heap[b]? = some (rowL (fnL n f))) (hb : base ≤ b) (hn : n ≤ 8) : Kd.R (Kd.int .i64) 3 W base (fun _ => True) (slv b n) (fnL n f) := by
 have := rowL_own h hb (by rw [fnL_len]; exact hn)
 have e := fnL_len n f
 have h2 := Kd.R_of_own (enc := Value.int .i64) (h1 := fun _ => rfl) (e := 3) (ok := fun _ => True) this (fun _ _ => trivial)
 rw [e] at h2
 exact h2
def impl_HeadTimes.f (l0 : List TT) : Option (List Int) := some (match graphP l0 with | none => [] | some G => fnL G.ts.length (headsW (timeW G.ts) G.nd G.od))
def impl_TailTimes.f (l0 : List TT) : Option (List Int) := some (match graphP l0 with | none => [] | some G => fnL G.ts.length (tailsW G.ts G.nd G.od.reverse))
def impl_StageOf.f (l0 : List TT) : Option (List Int) := some (match graphP l0 with | none => [] | some G => fnL G.ts.length (headsW (fun _ => 1) G.nd G.od))
end Go.Proofs.YtdmeiiedbhfniaaDoor.P
end
section
namespace Go.Proofs.YtdmeiiedbhfniaaDoor.P
open Go.RowKit Go.Shelf YtdmeiiedbhfniaaDoorW.PrintWords YtdmeiiedbhfniaaDoorW.PrintLast YtdmeiiedbhfniaaDoorW.PrintMore
attribute [local go_sem] Oper.semAt_some
def orderStartsW (ts : List TT) (room : List Int) (workers : Int) (list : List Int) : List Int := match fewP ts room workers with
 | none => []
 | some G => if list.length = ts.length ∧ okGo G.ts.length G.nd list 0 = true then fnL G.ts.length (startsS G.ts G.nd room workers (list.map Int.toNat)).1 else []
def impl_OrderStarts.f (l0 : List TT) (l1 : List Int) (a2 : Int) (l3 : List Int) : Option (List Int) := some (orderStartsW l0 l1 a2 l3)
set_option maxRecDepth 100000 in
set_option maxHeartbeats 4000000 in
theorem impl_OrderStarts.calls (A0 : Option Addr) (c0 : Nat) (l0 : List TT) (A1 : Option Addr) (c1 : Nat) (l1 : List Int) (a2 : Int) (A3 : Option Addr) (c3 : Nat) (l3 : List Int) (r : List Int) (w : World) (hr0 : Kd.C k38 w A0 l0.length l0) (hc0 : l0.length ≤ c0) (hr1 : Kd.C (Kd.int .i64) w A1 l1.length l1) (hc1 : l1.length ≤ c1) (hr3 : Kd.C (Kd.int .i64) w A3 l3.length l3) (hc3 : l3.length ≤ c3) (h : impl_OrderStarts.f l0 l1 a2 l3 = some r) (hTab : TabOK w) :
  Calls Tryd.prog 17 #[.slice A0 l0.length c0, .slice A1 l1.length c1, .int .i64 a2, .slice A3 l3.length c3] w fun e w' => ∃ v0_ : Value, e = .returned (v0_) ∧ Kd.R (Kd.int .i64) 3 w' w.heap.size (fun _ => True) v0_ r ∧ Below w.heap.size w w' := by
 have fc := Aside0.mk (fewIn_calls A0 c0 l0 A1 c1 l1 a2 w hr0 hc0 hr1 hc1 hTab)
 have hT' := Aside0.mk hTab
 have hr1' := Aside0.mk hr1
 have hr3' := Aside0.mk hr3
 unfold impl_OrderStarts.f orderStartsW at h
 injection h with h
 clear hr0 hr1 hr3 hTab
 cases hd : fewP l0 l1 a2 with
 | none =>
  rw [hd] at h
  simp only at h
  subst h
  have hd' := Aside0.mk hd
  clear hd
  go_enter Tryd.func17, Tryd.ntmps17
  go_wp2_with (go_at_call 47; refine fc.out.mono ?_; rintro e w1 ⟨g, b, rfl, hB, hno, hyes⟩; obtain rfl := hno hd'.out; have hB' := Aside0.mk hB; clear hB hno hyes)
  go_ret
  exact ⟨_, rfl, Kd.R_nil _ _ _ _ _, hB'.out⟩
 | some G =>
  rw [hd] at h
  simp only at h
  obtain ⟨h5, hpl⟩ := fewP_ok hd
  obtain ⟨hg, hrm, hw1, hw4⟩ := placeP_ok hpl
  obtain ⟨hts, hnP, hOk⟩ := graphP_ok hg
  have hd' := Aside0.mk hd
  have hOk' := Aside0.mk hOk
  have hts' := Aside0.mk hts
  have hrm' := Aside0.mk hrm
  have hw1' := Aside0.mk hw1
  have hn5 := Aside0.mk (show G.ts.length ≤ 5 by rw [hts]; exact h5)
  clear hd hpl hg hts hnP hOk hrm hw1 hw4 h5
  by_cases hl : l3.length = l0.length
  case neg =>
   rw [if_neg (fun hc => hl hc.1)] at h
   subst h
   have hdl : ((l3.length : Int) != (l0.length : Int)) = true := by simpa [bne] using (show ¬ (l3.length : Int) = (l0.length : Int) by omega)
   have hdl2 : ((l3.length : Int) == (l0.length : Int)) = false := by simpa using (show ¬ (l3.length : Int) = (l0.length : Int) by omega)
   go_enter Tryd.func17, Tryd.ntmps17
   go_wp2_with (go_at_call 47; refine fc.out.mono ?_; rintro e w1 ⟨g, b, rfl, hB, hno, hyes⟩; obtain ⟨rfl, a, rfl, hG⟩ := hyes G hd'.out; have hB' := Aside0.mk hB; clear hB hno hyes hG)
   go_ret
   exact ⟨_, rfl, Kd.R_nil _ _ _ _ _, hB'.out⟩
  case pos =>
   have hdl : ((l3.length : Int) != (l0.length : Int)) = false := by simp [hl]
   have hdl2 : ((l3.length : Int) == (l0.length : Int)) = true := by simp [hl]
   have hl' := Aside0.mk (show l3.length = G.ts.length by rw [hts'.out]; exact hl)
   have h' := Aside0.mk h
   obtain ⟨n, hn⟩ : ∃ n, n = G.ts.length := ⟨_, rfl⟩
   have hn' := Aside0.mk hn
   clear h hl hn
   go_enter Tryd.func17, Tryd.ntmps17
   go_wp2_with (first | (go_at_call 47; refine fc.out.mono ?_; rintro e w1 ⟨g, b, rfl, hB, hno, hyes⟩; obtain ⟨rfl, a, rfl, hG⟩ := hyes G hd'.out; have hB' := Aside0.mk hB; have hG' := Aside0.mk hG; have hT1 := Aside0.mk (hT'.out.below hB); have hR1 := Aside0.mk (Kd.C_below hr1'.out hB); have hR3 := Aside0.mk (Kd.C_below hr3'.out hB); clear hB hno hyes hG) | (go_at_call 48; go_loud (refine (size_callsN a G n hn'.out.symm _ hG'.out).mono ?_; rintro e w2 ⟨rfl, ⟨m2, rfl⟩⟩)) | ((with_reducible refine gate_dst (N := 35) rfl ?_); go_loud (refine mk_ints rfl _ _ rfl n rfl rfl (by rw [hn'.out]; exact hOk'.out.n8) ?_)))
   obtain ⟨b, hb⟩ : ∃ b, b = w1.heap.size := ⟨_, rfl⟩
   have hrow : Aside0 (((w1.drewN m2).alloc (rowL (fnL n fun x => 0))).heap[b]? = some (rowL (fnL n fun x => 0))) := ⟨by rw [hb]; exact World.alloc_heap_new (w1.drewN m2) _⟩
   have hBa : Aside0 (Below w1.heap.size w1 ((w1.drewN m2).alloc (rowL (fnL n fun x => 0)))) := ⟨(pw_below_drewN (Below.refl w1.heap.size w1) m2).alloc (Nat.le_refl _) _⟩
   have hbw := Aside0.mk (show w1.heap.size ≤ b by omega)
   simp only [← hb]
   clear hb fc
   generalize (w1.drewN m2).alloc (rowL (fnL n fun x => 0)) = Wa at *
   have hok : Aside0 (okGo G.ts.length G.nd (l3.drop 0) 0 = okGo G.ts.length G.nd l3 0) := ⟨rfl⟩
   go_loopg [12, 38] l3.length (fun kq v12 v38 w' => ∃ (j s m : Nat), v12 = .int .u16 (s : Int) ∧ v38 = .int .i64 (j : Int) ∧ Aside0 (kq + j = l3.length) ∧ Aside0 (s < 2 ^ G.ts.length ∧ okGo G.ts.length G.nd (l3.drop j) s = okGo G.ts.length G.nd l3 0) ∧ w' = Wa.drewN m)
   case atStart => exact ⟨0, 0, 0, rfl, rfl, ⟨by omega⟩, ⟨Nat.two_pow_pos _, rfl⟩, rfl⟩
   case round =>
    obtain ⟨j, s, m, rfl, rfl, hk, hs, rfl⟩ := hrel
    have hk1 := Aside0.mk (show j < l3.length → gk - 1 < gk by have := hk.out; omega)
    have hk2 := Aside0.mk (show j < l3.length → gk - 1 + (j + 1) = l3.length by have := hk.out; omega)
    have hwj := Aside0.mk (show wrap64 ((j : Int) + 1) = ((j + 1 : Nat) : Int) by have h1 := hk.out; have h2 := hl'.out; have h3 := hn5.out; rw [IntWalk.wrap64_in _ (by omega)]; omega)
    by_cases hj : j < l3.length
    case pos =>
     have hjI : (j : Int) < (l3.length : Int) := by omega
     have hjb : decide ((j : Int) < (l3.length : Int)) = true := decide_eq_true hjI
     obtain ⟨ad3, rfl, hx3⟩ := Kd.at_int (Kd.C_drewN (Kd.C_below hR3.out hBa.out) m) (j : Int) (by omega) hjI
     obtain ⟨x, hx⟩ : ∃ x, l3[j] = x := ⟨_, rfl⟩
     have hrd : rd l3 (j : Int) = x := by simp [rd, hj, hx]
     rw [hrd] at hx3
     simp only [Int.toNat_natCast] at hx3
     have hdrop := Aside0.mk (show l3.drop j = x :: l3.drop (j + 1) by rw [List.drop_eq_getElem_cons hj, hx])
     have hws : Aside0 (wrap64 ((n : Int) - 1) = (n : Int) - 1) := ⟨by have h1 := hn5.out; have h2 := hn'.out; rw [IntWalk.wrap64_in _ (by omega)]⟩
     by_cases hc1 : 0 ≤ x ∧ x ≤ (n : Int) - 1
     case neg =>
      have hno := Aside0.mk (show okGo G.ts.length G.nd l3 0 = false by
       rw [← hs.out.2, hdrop.out]
       unfold okGo
       rw [if_neg (fun hc => hc1 (by have := hc.1; have := hn'.out; omega))])
      have hcd := Aside0.mk (decide_eq_false hc1)
      clear hc1
      go_wp2_with (first | (go_at_call 48; refine (size_callsN a G n hn'.out.symm _ ((hG'.out.below hBa.out).drewN m)).mono ?_; rintro e w3 ⟨rfl, ⟨m3, rfl⟩⟩) | (go_at_call 49; go_loud (try rw [hws.out]; refine (within_calls x 0 _ false hcd.out _).mono ?_; rintro e w4 ⟨rfl, ⟨m4, rfl⟩⟩)))
      go_ret
      have hr := h'.out
      rw [if_neg (fun hc => by rw [hno.out] at hc; cases hc.2)] at hr
      subst hr
      exact ⟨_, rfl, Kd.R_nil _ _ _ _ _, pw_below_drewN (below_step hB'.out hBa.out) _⟩
     case pos =>
      obtain ⟨i, rfl⟩ : ∃ i : Nat, x = (i : Int) := ⟨x.toNat, by omega⟩
      have hcd := Aside0.mk (decide_eq_true hc1)
      have hi8 := Aside0.mk (show i < 8 by have h1 := hn5.out; have h2 := hn'.out; omega)
      have hin := Aside0.mk (show i < G.ts.length by have h2 := hn'.out; omega)
      clear hc1
      cases hb : s.testBit i with
      | true =>
       have htb := Aside0.mk hb
       have hno := Aside0.mk (show okGo G.ts.length G.nd l3 0 = false by
        rw [← hs.out.2, hdrop.out]
        unfold okGo
        rw [if_neg (fun hc => by have h2 := hc.2.1; rw [Int.toNat_natCast, hb] at h2; cases h2)])
       clear hb
       go_wp2_with (first | (go_at_call 48; refine (size_callsN a G n hn'.out.symm _ ((hG'.out.below hBa.out).drewN m)).mono ?_; rintro e w3 ⟨rfl, ⟨m3, rfl⟩⟩) | (go_at_call 49; go_loud (try rw [hws.out]; refine (within_calls (i : Int) 0 _ true hcd.out _).mono ?_; rintro e w4 ⟨rfl, ⟨m4, rfl⟩⟩)) | (go_at_call 50; go_loud (refine (has_callsN s i (lt256 hs.out.1 hOk'.out.n8) hi8.out _).mono ?_; rintro e w5 ⟨rfl, ⟨m5, rfl⟩⟩; rw [htb.out])))
       go_ret
       have hr := h'.out
       rw [if_neg (fun hc => by rw [hno.out] at hc; cases hc.2)] at hr
       subst hr
       exact ⟨_, rfl, Kd.R_nil _ _ _ _ _, pw_below_drewN (below_step hB'.out hBa.out) _⟩
      | false =>
       have htb := Aside0.mk hb
       obtain ⟨sn, hsn⟩ : ∃ sn, G.nd.getD i 0 = sn := ⟨_, rfl⟩
       have hsn' := Aside0.mk hsn
       have hsb := Aside0.mk (show sn < 2 ^ G.ts.length by rw [← hsn]; exact hOk'.out.nlt i)
       clear hb hsn
       have hnl : i < G.gr.nd.length := by show i < (nI G.nd).length; rw [nI_length, hOk'.out.nl]; exact hin.out
       have hnlI : (i : Int) < (G.gr.nd.length : Int) := by omega
       obtain ⟨A0', c0', A1', c1', A2', c2', A3', c3', A4', c4', hblk, _, ⟨hCn, _⟩, _⟩ := (hG'.out.below hBa.out)
       obtain ⟨ad2, rfl, hx1⟩ := Kd.at_int hCn (i : Int) (by omega) hnlI
       have hn2 : rd G.gr.nd (i : Int) = ((G.nd.getD i 0 : Nat) : Int) := rd_nI _ _
       simp only [Int.toNat_natCast, hn2, hsn'.out] at hx1
       clear hn2 hnl hCn
       have hg1 : Wa.cell? ⟨a, 1, none⟩ = some (.slice (some ad2) G.gr.nd.length c1') := (blk_cell hblk 1).trans rfl
       clear hblk
       by_cases hnd : sn &&& s = sn
       case neg =>
        have hno := Aside0.mk (show okGo G.ts.length G.nd l3 0 = false by
         rw [← hs.out.2, hdrop.out]
         unfold okGo
         rw [if_neg (fun hc => by have h2 := hc.2.2; rw [Int.toNat_natCast, hsn'.out] at h2; exact hnd h2)])
        have hz : (Go.bits .andNot .u16 (sn : Int) (s : Int) == 0) = false := beq_eq_false_iff_ne.2 (fun e => hnd ((andNot_zero sn (lt256 hsb.out hOk'.out.n8) s (lt256 hs.out.1 hOk'.out.n8)).1 e))
        have hz2 : (Go.bits .andNot .u16 (sn : Int) (s : Int) != 0) = true := by simp only [bne, hz]; rfl
        clear hnd
        go_wp2_with (first | (go_at_call 48; refine (size_callsN a G n hn'.out.symm _ ((hG'.out.below hBa.out).drewN m)).mono ?_; rintro e w3 ⟨rfl, ⟨m3, rfl⟩⟩) | (go_at_call 49; go_loud (try rw [hws.out]; refine (within_calls (i : Int) 0 _ true hcd.out _).mono ?_; rintro e w4 ⟨rfl, ⟨m4, rfl⟩⟩)) | (go_at_call 50; go_loud (refine (has_callsN s i (lt256 hs.out.1 hOk'.out.n8) hi8.out _).mono ?_; rintro e w5 ⟨rfl, ⟨m5, rfl⟩⟩; rw [htb.out])))
        go_ret
        have hr := h'.out
        rw [if_neg (fun hc => by rw [hno.out] at hc; cases hc.2)] at hr
        subst hr
        exact ⟨_, rfl, Kd.R_nil _ _ _ _ _, pw_below_drewN (below_step hB'.out hBa.out) _⟩
       case pos =>
        have hgo := Aside0.mk (show s ||| 2 ^ i < 2 ^ G.ts.length ∧ okGo G.ts.length G.nd (l3.drop (j + 1)) (s ||| 2 ^ i) = okGo G.ts.length G.nd l3 0 by
         refine ⟨with_lt hs.out.1 hin.out, ?_⟩
         rw [← hs.out.2, hdrop.out]
         have h3 : okGo G.ts.length G.nd ((i : Int) :: l3.drop (j + 1)) s = okGo G.ts.length G.nd (l3.drop (j + 1)) (s ||| 2 ^ (i : Int).toNat) := by
          conv => lhs; unfold okGo
          rw [if_pos ⟨⟨by omega, by have := hin.out; omega⟩, by rw [Int.toNat_natCast]; exact htb.out, by rw [Int.toNat_natCast, hsn'.out]; exact hnd⟩]
         rw [h3, Int.toNat_natCast])
        have hz : (Go.bits .andNot .u16 (sn : Int) (s : Int) == 0) = true := by rw [(andNot_zero sn (lt256 hsb.out hOk'.out.n8) s (lt256 hs.out.1 hOk'.out.n8)).2 hnd]; rfl
        have hz2 : (Go.bits .andNot .u16 (sn : Int) (s : Int) != 0) = false := by simp only [bne, hz]; rfl
        clear hnd
        go_wp2_with (first | (go_at_call 48; refine (size_callsN a G n hn'.out.symm _ ((hG'.out.below hBa.out).drewN m)).mono ?_; rintro e w3 ⟨rfl, ⟨m3, rfl⟩⟩) | (go_at_call 49; go_loud (try rw [hws.out]; refine (within_calls (i : Int) 0 _ true hcd.out _).mono ?_; rintro e w4 ⟨rfl, ⟨m4, rfl⟩⟩)) | (go_at_call 50; go_loud (refine (has_callsN s i (lt256 hs.out.1 hOk'.out.n8) hi8.out _).mono ?_; rintro e w5 ⟨rfl, ⟨m5, rfl⟩⟩; rw [htb.out])) | (go_at_call 51; go_loud (refine (with_callsN s i (lt256 hs.out.1 hOk'.out.n8) hi8.out _).mono ?_; rintro e w6 ⟨rfl, ⟨m6, rfl⟩⟩)))
        go_roundg (gk - 1)
        case measure => exact hk1.out hj
        case rel => exact ⟨j + 1, s ||| 2 ^ i, _, rfl, by rw [hwj.out], ⟨hk2.out hj⟩, hgo, rfl⟩
    case neg =>
     have hgood := Aside0.mk (show okGo G.ts.length G.nd l3 0 = true by
      rw [← hs.out.2, List.drop_eq_nil_of_le (by omega)]
      rfl)
     obtain rfl : j = l3.length := by have := hk.out; omega
     have hjb : decide ((l3.length : Int) < (l3.length : Int)) = false := decide_eq_false (by omega)
     have hrW : Aside0 ((Wa.drewN m).heap[b]? = some (rowL (fnL n (startsS G.ts G.nd l1 a2 ((l3.map Int.toNat).take 0)).1))) := hrow
     have hBW := Aside0.mk (pw_below_drewN hBa.out m)
     have hst := Aside0.mk (starts_ok hOk'.out hrm'.out hw1'.out (by have h1 := hl'.out; have h2 := hn5.out; omega) hgood.out)
     clear hk1 hk2 hwj hs hk hj hrow hBa hok
     go_wp2_with (fail)
     generalize Wa.drewN m = Wb at *
     go_loopg [12, 71] l3.length (fun kq v12 v71 w' => ∃ (j : Nat), v12 = .int .u16 (((startsS G.ts G.nd l1 a2 ((l3.map Int.toNat).take j)).2 : Nat) : Int) ∧ v71 = .int .i64 (j : Int) ∧ Aside0 (kq + j = l3.length) ∧ Aside0 (w'.heap[b]? = some (rowL (fnL n (startsS G.ts G.nd l1 a2 ((l3.map Int.toNat).take j)).1))) ∧ Aside0 (Below w1.heap.size w1 w'))
     case atStart => exact ⟨0, rfl, rfl, ⟨by omega⟩, hrW, hBW⟩
     case round =>
      clear hrW hBW
      obtain ⟨j, rfl, rfl, hk, hrj, hBj⟩ := hrel
      have hk1 := Aside0.mk (show j < l3.length → gk - 1 < gk by have := hk.out; omega)
      have hk2 := Aside0.mk (show j < l3.length → gk - 1 + (j + 1) = l3.length by have := hk.out; omega)
      have hwj := Aside0.mk (show wrap64 ((j : Int) + 1) = ((j + 1 : Nat) : Int) by have h1 := hk.out; have h2 := hl'.out; have h3 := hn5.out; rw [IntWalk.wrap64_in _ (by omega)]; omega)
      by_cases hj : j < l3.length
      case pos =>
       have hjI : (j : Int) < (l3.length : Int) := by omega
       have hjb : decide ((j : Int) < (l3.length : Int)) = true := decide_eq_true hjI
       obtain ⟨ad3, rfl, hx3⟩ := Kd.at_int (Kd.C_below hR3.out hBj.out) (j : Int) (by omega) hjI
       obtain ⟨q1, q2, q3⟩ := okGo_at hgood.out j hj
       obtain ⟨i, hi⟩ : ∃ i : Nat, l3[j] = (i : Int) := ⟨l3[j].toNat, by omega⟩
       have hrd : rd l3 (j : Int) = (i : Int) := by simp [rd, hj, hi]
       rw [hrd] at hx3
       simp only [Int.toNat_natCast] at hx3
       rw [hi, Int.toNat_natCast] at q2 q3
       rw [hi] at q1
       have hin := Aside0.mk (show i < G.ts.length by omega)
       have hiI : (i : Int) < (n : Int) := by have h2 := hn'.out; omega
       have hi8 := Aside0.mk (show i < 8 by have h1 := hn5.out; have h2 := hin.out; omega)
       have hm := startsS_mask G.ts G.nd l1 a2 ((l3.map Int.toNat).take j)
       rw [← hm] at q2 q3
       obtain ⟨st, hst0⟩ : ∃ st, startsS G.ts G.nd l1 a2 ((l3.map Int.toNat).take j) = st := ⟨_, rfl⟩
       have hsj := hst.out j (by omega)
       have hsn : startsS G.ts G.nd l1 a2 ((l3.map Int.toNat).take (j + 1)) = stepS G.ts G.nd l1 a2 st i := by
        have e : (l3.map Int.toNat).take (j + 1) = (l3.map Int.toNat).take j ++ [i] := by
         rw [List.take_succ_eq_append_getElem (by simpa using hj)]
         simp [hi]
        rw [e, startsS_snoc, hst0]
       rw [hst0] at hsj q2 q3 hrj
       simp only [hst0]
       obtain ⟨z0, z1, z2, z3, z4, z5⟩ := hsj.early hOk'.out (by have h1 := hl'.out; have h2 := hn5.out; omega) hin.out hrm'.out hw1'.out q3
       have htw := hOk'.out.timeW i hin.out
       have ec := Aside0.mk (earliest_calls a G hOk'.out b st.1 st.2 i hsj.lt hin.out A1 c1 l1 (roomP_len hrm'.out) a2 (earlyP G.ts G.nd st.1 st.2 i l1 a2) wr (hG'.out.below hBj.out) (hT1.out.below hBj.out) (by rw [← hn'.out]; exact hrj.out) (Kd.C_below hR1.out hBj.out) z0 z1 (by have h1 := hl'.out; have h2 := hn5.out; omega) ⟨by omega, htw.2⟩ z3 z4)
       have hsj' := Aside0.mk hsj
       have hsn' := Aside0.mk hsn
       have hfz := Aside0.mk (blk_frozen hrj.out i)
       rw [← hn'.out] at ec
       clear q1 q2 q3 hm hst0 hsj hsn z0 z1 z2 z3 z4 z5 htw hi hrd
       go_wp2_with (first | (go_at_call 52; go_loud (refine ec.out.mono ?_; rintro e w5 ⟨rfl, hB5⟩; have hr5 := Aside0.mk ((hB5.block b (Array.getElem?_eq_some_iff.1 hrj.out).1).trans hrj.out); have hBx := Aside0.mk (below_step hBj.out hB5); have kf := rowF_cell hr5.out i (by have h2 := hn'.out; have h3 := hin.out; omega); have ff := blk_frozen hr5.out i; clear hB5)) | (go_at_call 51; go_loud (refine (with_callsN st.2 i (lt256 hsj'.out.lt hOk'.out.n8) hi8.out _).mono ?_; rintro e w6 ⟨rfl, ⟨m6, rfl⟩⟩)))
       go_roundg (gk - 1)
       case measure => exact hk1.out hj
       case rel =>
        refine ⟨j + 1, ?_, by rw [hwj.out], ⟨hk2.out hj⟩, ⟨?_⟩, ⟨?_⟩⟩
        ·rw [hsn'.out]
         rfl
        ·rw [hsn'.out]
         exact rowF_set hr5.out i _
        ·exact pw_below_drewN (hBx.out.setCell (p := ⟨b, i, none⟩) hbw.out _) _
      case neg =>
       obtain rfl : j = l3.length := by have := hk.out; omega
       have hjb : decide ((l3.length : Int) < (l3.length : Int)) = false := decide_eq_false (by omega)
       have hr := h'.out
       rw [if_pos ⟨by rw [← hts'.out]; exact hl'.out, hgood.out⟩] at hr
       subst hr
       go_wp2_with (fail)
       go_ret
       refine ⟨_, rfl, ?_, below_step hB'.out hBj.out⟩
       have e : (l3.map Int.toNat).take l3.length = l3.map Int.toNat := by rw [List.take_of_length_le (by simp)]
       have hrr := hrj.out
       rw [e] at hrr
       rw [← hn'.out]
       exact rowF_R hrr (Nat.le_trans hB'.out.size hbw.out) (by rw [hn'.out]; exact hOk'.out.n8)
end Go.Proofs.YtdmeiiedbhfniaaDoor.P
end
section
namespace Go.Proofs.YtdmeiiedbhfniaaDoor.P
open Go.RowKit YtdmeiiedbhfniaaDoorW.PrintWords YtdmeiiedbhfniaaDoorW.PrintLast YtdmeiiedbhfniaaDoorW.PrintMore
def IsS105 (w0 W : World) (g : Nat) (f0 : List Int) (f1 : Int) : Prop := ∃ A0 c0, W.heap[g]? = some (.cells #[.slice A0 f0.length c0, .int .i64 f1] 105 (0, 0)) ∧ w0.heap.size ≤ g ∧ Kd.C (Kd.int .u8) w0 A0 f0.length f0
theorem IsS105.grown {w0 W : World} {g : Nat} {f0 : List Int} {f1 : Int} {W1 : World} {row : Option Nat} (h : IsS105 w0 W g f0 f1) (hw : W.grownBy W1 row) (hne : some g ≠ row) : IsS105 w0 W1 g f0 f1 := by
 obtain ⟨A0, c0, hb, hg, hr0⟩ := h
 exact ⟨A0, c0, blk_grown hb hw hne, hg, hr0⟩
theorem IsS105.own_neN {w0 W : World} {g : Nat} {f0 : List Int} {f1 : Int} {α : Type} {d : Kd α} {e : Nat} {base : Nat} {ok : Nat → Prop} {v : Value} {xs : List α} (h : IsS105 w0 W g f0 f1) (ho : Kd.N d e W base ok v xs) (ht : e ≠ 105) : some g ≠ v.ownBlock := by
 obtain ⟨A0, c0, hb, hg, hr0⟩ := h
 exact Kd.N_ne ho hb ht
theorem IsS105.fresh {w0 W : World} {g : Nat} {f0 : List Int} {f1 : Int} (h : IsS105 w0 W g f0 f1) : ∀ k, W.heap.size ≤ k → k ≠ g := by
 obtain ⟨A0, c0, hb, hg, hr0⟩ := h
 exact Kd.freshB hb
theorem IsS105.below {w0 W : World} {g : Nat} {f0 : List Int} {f1 : Int} {W1 : World} (h : IsS105 w0 W g f0 f1) (hw : Below W.heap.size W W1) : IsS105 w0 W1 g f0 f1 := h.grown (grown_of_below hw none) (by simp)
theorem IsS105.alloc {w0 W : World} {g : Nat} {f0 : List Int} {f1 : Int} (h : IsS105 w0 W g f0 f1) (o : Obj) : IsS105 w0 (W.alloc o) g f0 f1 := h.below (below_alloc (Below.refl _ _) o)
theorem IsS105.drewN {w0 W : World} {g : Nat} {f0 : List Int} {f1 : Int} (h : IsS105 w0 W g f0 f1) (m : Nat) : IsS105 w0 (W.drewN m) g f0 f1 := h
theorem IsS105.drew {w0 W : World} {g : Nat} {f0 : List Int} {f1 : Int} (h : IsS105 w0 W g f0 f1) : IsS105 w0 W.drew g f0 f1 := h
theorem IsS105.apart {w0 W : World} {g : Nat} {f0 : List Int} {f1 : Int} {α : Type} {d : Kd α} {e : Nat} {base : Nat} {ok : Nat → Prop} {v : Value} {xs : List α} (h : IsS105 w0 W g f0 f1) (ho : d.R e W base ok v xs) (ht : ∀ q, q ∈ e :: d.E → q ≠ 105) : d.R e W base (fun k => ok k ∧ k ≠ g) v xs := by
 obtain ⟨A0, c0, hb, hg, hr0⟩ := h
 exact Kd.R_types ho hb ht
theorem IsS105.own_ne {w0 W : World} {g : Nat} {f0 : List Int} {f1 : Int} {α : Type} {d : Kd α} {e : Nat} {base : Nat} {ok : Nat → Prop} {v : Value} {xs : List α} (h : IsS105 w0 W g f0 f1) (ho : d.R e W base ok v xs) (ht : e ≠ 105) : some g ≠ v.ownBlock := by
 obtain ⟨A0, c0, hb, hg, hr0⟩ := h
 exact Kd.R_ne ho hb ht
theorem IsS105.apartQ {w0 W : World} {g : Nat} {f0 : List Int} {f1 : Int} {α : Type} {d : Kd α} {e : Nat} {base : Nat} {ok : Nat → Prop} {v : Value} {xs : List α} (h : IsS105 w0 W g f0 f1) (ho : d.Q e W base ok v xs) (ht : ∀ q, q ∈ e :: d.E → q ≠ 105) : d.Q e W base (fun k => ok k ∧ k ≠ g) v xs := by
 obtain ⟨A0, c0, hb, hg, hr0⟩ := h
 exact Kd.Q_types ho hb ht
theorem IsS105.apartS {w0 W : World} {g : Nat} {f0 : List Int} {f1 : Int} {α : Type} {d : Kd α} {e : Nat} {base : Nat} {ok : Nat → Prop} {v : Value} {xs : List α} (h : IsS105 w0 W g f0 f1) (ho : d.S e W base ok v xs) (ht : ∀ q, q ∈ e :: d.E → q ≠ 105) : d.S e W base (fun k => ok k ∧ k ≠ g) v xs := by
 obtain ⟨A0, c0, hb, hg, hr0⟩ := h
 exact Kd.S_types ho hb ht
theorem IsS105.own_neS {w0 W : World} {g : Nat} {f0 : List Int} {f1 : Int} {α : Type} {d : Kd α} {e : Nat} {base : Nat} {ok : Nat → Prop} {v : Value} {xs : List α} (h : IsS105 w0 W g f0 f1) (ho : d.S e W base ok v xs) (ht : e ≠ 105) : some g ≠ v.ownBlock := by
 obtain ⟨A0, c0, hb, hg, hr0⟩ := h
 exact Kd.S_ne ho hb ht
theorem IsS105.lt {w0 W : World} {g : Nat} {f0 : List Int} {f1 : Int} (h : IsS105 w0 W g f0 f1) : g < W.heap.size := by
 obtain ⟨A0, c0, hb, hg, hr0⟩ := h
 exact blk_lt hb
theorem IsS105.ge {w0 W : World} {g : Nat} {f0 : List Int} {f1 : Int} (h : IsS105 w0 W g f0 f1) : w0.heap.size ≤ g := by
 obtain ⟨A0, c0, hb, hg, hr0⟩ := h
 exact hg
theorem IsS105.far {w0 W : World} {g : Nat} {f0 : List Int} {f1 : Int} {p : Addr} (h : IsS105 w0 W g f0 f1) (hne : g ≠ p.block) (u : Value) : IsS105 w0 (W.setCell p u) g f0 f1 := by
 obtain ⟨A0, c0, hb, hg, hr0⟩ := h
 exact ⟨A0, c0, blk_far hb hne u, hg, hr0⟩
theorem cellS105_0 {W : World} {g : Nat} {A0 : Option Addr} {c0 : Nat} {f0 : List Int} {f1 : Int} (h : W.heap[g]? = some (.cells #[.slice A0 f0.length c0, .int .i64 f1] 105 (0, 0))) : W.cell? ⟨g, 0, none⟩ = some (.slice A0 f0.length c0) := (blk_cell h 0).trans rfl
theorem cellS105_1 {W : World} {g : Nat} {A0 : Option Addr} {c0 : Nat} {f0 : List Int} {f1 : Int} (h : W.heap[g]? = some (.cells #[.slice A0 f0.length c0, .int .i64 f1] 105 (0, 0))) : W.cell? ⟨g, 1, none⟩ = some (.int .i64 f1) := (blk_cell h 1).trans rfl
theorem IsS105.set_1 {w0 W : World} {g : Nat} {f0 : List Int} {f1 : Int} (h : IsS105 w0 W g f0 f1) (x : Int) : IsS105 w0 (W.setCell ⟨g, 1, none⟩ (.int .i64 x)) g f0 x := by
 obtain ⟨A0, c0, hb, hg, hr0⟩ := h
 exact ⟨A0, c0, by simpa using blk_set hb 1 (.int .i64 x), hg, hr0⟩
def spec_newReader.f (l0 : List Int) : Option (List Int × Int) := if (l0.length : Int) > 2000 then (if 2000 ≤ (l0.length : Int) then (some (l0.take 2000, 0)) else (none)) else (some (l0, 0))
set_option maxHeartbeats 8000000 in
set_option maxRecDepth 100000 in
theorem spec_newReader.calls (A0 : Option Addr) (c0 : Nat) (l0 : List Int) (r1 : List Int) (r2 : Int) (w0 w : World) (hB : Below w0.heap.size w0 w) (hr0 : Kd.C (Kd.int .u8) w0 A0 l0.length l0) (hc0 : l0.length ≤ c0) (h : spec_newReader.f l0 = some (r1, r2)) :
  Calls Tryd.prog 54 #[.slice A0 l0.length c0] w fun e w' => ∃ g_ : Nat, e = .returned (.pointer (some ⟨g_, 0, none⟩)) ∧ IsS105 w0 w' g_ r1 r2 ∧ Below w0.heap.size w0 w' ∧ Below w.heap.size w w' := by
 have hu105 := Tryd.underlying105
 have HR0 := Aside0.mk hr0
 have HC0 := Aside0.mk hc0
 clear hr0 hc0
 have HBW := Aside0.mk (Below.refl w.heap.size w)
 have HW0 := Aside0.mk hB.size
 have HB := Aside0.mk hB
 clear hB
 have H : (if (l0.length : Int) > 2000 then (if 2000 ≤ (l0.length : Int) then (some (l0.take 2000, 0)) else (none)) else (some (l0, 0))) = some (r1, r2) := h
 clear h
 by_cases c2 : (l0.length : Int) > 2000
 ·rw [if_pos c2] at H
  have c2b0 : decide (2000 < (l0.length : Int)) = true := decide_eq_true c2
  have c2b1 : decide (2000 < l0.length) = true := decide_eq_true (by omega)
  clear c2
  by_cases c3 : 2000 ≤ (l0.length : Int)
  ·rw [if_pos c3] at H
   have c3b0 := eq_true c3
   have c3b1 : decide (2000 ≤ (l0.length : Int)) = true := decide_eq_true c3
   clear c3
   simp only [Option.some.injEq, Prod.mk.injEq] at H
   obtain ⟨rfl, rfl⟩ := H
   obtain ⟨i04, hi04, _, hsz4, _⟩ := info_parts info5
   obtain ⟨hcut4, hA4, hC4⟩ := print_take_of (P := Tryd.prog) (Value.int .u8) 0 34 5 .i64 Tryd.underlying34 hi04 hsz4 A0 c0 l0 2000 (by omega) (of_decide_eq_true (by with_reducible assumption)) HC0.out
   have HR291 := Aside0.mk (Kd.C_of_reads (h1 := fun _ => rfl) (hA4 _ (Kd.reads_of_C HR0.out)))
   have HC291 := Aside0.mk hC4
   clear hA4 hC4 hi04 hsz4
   go_enter Tryd.func54, Tryd.ntmps54
   go_wp2_with (first | ((with_reducible refine gate_dst (N := 10) rfl ?_); refine box_event ?hg (N := 10) ?hd (cs := #[.slice A0 (l0.take 2000).length c0, .int .i64 0]) (t := 105) ?hr ?_; (case hd => rfl); (case hg => rfl); (case hr => first | (go_simp; done) | (go_simp; rfl)); intro gb292 hg w5 hbox hb; have n0_ := Aside0.mk (below_step HBW.out hb); have n1_ := Aside0.mk (below_step (by repeat (with_reducible first | exact HB.out | apply below_alloc | apply pw_below_drewN | apply below_drew1)) hb); have n2_ := Aside0.mk (hbox); have n3_ := Aside0.mk ((by rw [hg]; exact (below_size (by repeat (with_reducible first | exact HBW.out | apply below_alloc | apply pw_below_drewN | apply below_drew1))) : w.heap.size ≤ gb292)); have n4_ := Aside0.mk ((Nat.le_trans HW0.out (by rw [hg]; exact (below_size (by repeat (with_reducible first | exact HBW.out | apply below_alloc | apply pw_below_drewN | apply below_drew1))) : w.heap.size ≤ gb292) : w0.heap.size ≤ gb292)); clear HBW; clear HB; have HBW := n0_; have HB := n1_; have BK292 := n2_; have GW292 := n3_; have GE292 := n4_; clear n0_ n1_ n2_ n3_ n4_; clear hb hbox hg))
   go_ret
   exact ⟨_, rfl, (show IsS105 w0 _ gb292 (l0.take 2000) 0 from ⟨_, _, by (with_reducible repeat (first | refine blk_drewN ?_ _ | refine blk_drew ?_ | refine blk_alloc ?_ _)); exact BK292.out, GE292.out, HR291.out⟩), by repeat (with_reducible first | exact HB.out | apply below_alloc | apply pw_below_drewN | apply below_drew1 | refine below_set ?_ GE292.out), by repeat (with_reducible first | exact HBW.out | apply below_alloc | apply pw_below_drewN | apply below_drew1 | refine below_set ?_ GW292.out)⟩
  ·rw [if_neg c3] at H
   exact absurd H (by simp)
 ·rw [if_neg c2] at H
  have c2b0 : decide (2000 < (l0.length : Int)) = false := decide_eq_false c2
  have c2b1 : decide (2000 < l0.length) = false := decide_eq_false (by omega)
  clear c2
  simp only [Option.some.injEq, Prod.mk.injEq] at H
  obtain ⟨rfl, rfl⟩ := H
  go_enter Tryd.func54, Tryd.ntmps54
  go_wp2_with (first | ((with_reducible refine gate_dst (N := 10) rfl ?_); refine box_event ?hg (N := 10) ?hd (cs := #[.slice A0 l0.length c0, .int .i64 0]) (t := 105) ?hr ?_; (case hd => rfl); (case hg => rfl); (case hr => first | (go_simp; done) | (go_simp; rfl)); intro gb293 hg w6 hbox hb; have n0_ := Aside0.mk (below_step HBW.out hb); have n1_ := Aside0.mk (below_step (by repeat (with_reducible first | exact HB.out | apply below_alloc | apply pw_below_drewN | apply below_drew1)) hb); have n2_ := Aside0.mk (hbox); have n3_ := Aside0.mk ((by rw [hg]; exact (below_size (by repeat (with_reducible first | exact HBW.out | apply below_alloc | apply pw_below_drewN | apply below_drew1))) : w.heap.size ≤ gb293)); have n4_ := Aside0.mk ((Nat.le_trans HW0.out (by rw [hg]; exact (below_size (by repeat (with_reducible first | exact HBW.out | apply below_alloc | apply pw_below_drewN | apply below_drew1))) : w.heap.size ≤ gb293) : w0.heap.size ≤ gb293)); clear HBW; clear HB; have HBW := n0_; have HB := n1_; have BK293 := n2_; have GW293 := n3_; have GE293 := n4_; clear n0_ n1_ n2_ n3_ n4_; clear hb hbox hg))
  go_ret
  exact ⟨_, rfl, (show IsS105 w0 _ gb293 l0 0 from ⟨_, _, by (with_reducible repeat (first | refine blk_drewN ?_ _ | refine blk_drew ?_ | refine blk_alloc ?_ _)); exact BK293.out, GE293.out, HR0.out⟩), by repeat (with_reducible first | exact HB.out | apply below_alloc | apply pw_below_drewN | apply below_drew1 | refine below_set ?_ GE293.out), by repeat (with_reducible first | exact HBW.out | apply below_alloc | apply pw_below_drewN | apply below_drew1 | refine below_set ?_ GW293.out)⟩
end Go.Proofs.YtdmeiiedbhfniaaDoor.P
end
section
namespace Go.Proofs.YtdmeiiedbhfniaaDoor.P
open Go.RowKit YtdmeiiedbhfniaaDoorW.PrintWords YtdmeiiedbhfniaaDoorW.PrintLast YtdmeiiedbhfniaaDoorW.PrintMore
def spec_reader_pick.j0 : Nat → Int → Bool → List Int → Int → Option (Int × Int)
 | 0, _, _, _, _ => none
 | k + 1, x1, x24, x1000, x1001 => if x24 = true then (some (0, x1001)) else (if (wrap64 (x1001 - 1)) < (x1000.length : Int) then (if 0 ≤ (wrap64 (x1001 - 1)) then (if x1 = 0 then (none) else (some (Int.tmod (wrap64 (rd x1000 (wrap64 (x1001 - 1)))) x1, x1001))) else (none)) else (if (x1000.length : Int) = 0 then (none) else (if 0 ≤ (Int.tmod (wrap64 (x1001 - 1)) (x1000.length : Int)) then (if (Int.tmod (wrap64 (x1001 - 1)) (x1000.length : Int)) < (x1000.length : Int) then (if 0 ≤ (Int.tmod (wrap64 ((wrap64 ((wrap64 (x1001 - 1)) * 7)) + 3)) (x1000.length : Int)) then (if (Int.tmod (wrap64 ((wrap64 ((wrap64 (x1001 - 1)) * 7)) + 3)) (x1000.length : Int)) < (x1000.length : Int) then (if x1 = 0 then (none) else (some (Int.tmod (Go.bits .xor .i64 (wrap64 ((wrap64 ((wrap64 ((wrap64 ((wrap64 (rd x1000 (Int.tmod (wrap64 (x1001 - 1)) (x1000.length : Int)))) * 131)) + (wrap64 ((wrap64 (rd x1000 (Int.tmod (wrap64 ((wrap64 ((wrap64 (x1001 - 1)) * 7)) + 3)) (x1000.length : Int)))) * 1117)))) + (wrap64 ((wrap64 (x1001 - 1)) * 29)))) + (wrap64 ((wrap64 (Int.tdiv (wrap64 (x1001 - 1)) (x1000.length : Int))) * 53)))) (wrap64 (Int.tdiv (wrap64 ((wrap64 ((wrap64 ((wrap64 ((wrap64 (rd x1000 (Int.tmod (wrap64 (x1001 - 1)) (x1000.length : Int)))) * 131)) + (wrap64 ((wrap64 (rd x1000 (Int.tmod (wrap64 ((wrap64 ((wrap64 (x1001 - 1)) * 7)) + 3)) (x1000.length : Int)))) * 1117)))) + (wrap64 ((wrap64 (x1001 - 1)) * 29)))) + (wrap64 ((wrap64 (Int.tdiv (wrap64 (x1001 - 1)) (x1000.length : Int))) * 53)))) 64))) x1, x1001))) else (none)) else (none)) else (none)) else (none))))
def spec_reader_pick.f (k : Nat) (s0_0 : List Int) (s0_1 : Int) (a1 : Int) : Option (Int × Int) := if a1 < 1 then (spec_reader_pick.j0 k a1 true s0_0 (wrap64 (s0_1 + 1))) else (spec_reader_pick.j0 k a1 ((s0_0.length : Int) == 0) s0_0 (wrap64 (s0_1 + 1)))
set_option maxHeartbeats 8000000 in
set_option maxRecDepth 100000 in
theorem spec_reader_pick.calls (k : Nat) (g : Nat) (s0_0 : List Int) (s0_1 : Int) (a1 : Int) (r1 : Int) (r2 : Int) (w0 w : World) (hI : IsS105 w0 w g s0_0 s0_1) (hB : Below w0.heap.size w0 w) (h : spec_reader_pick.f k s0_0 s0_1 a1 = some (r1, r2)) :
  Calls Tryd.prog 60 #[.pointer (some ⟨g, 0, none⟩), .int .i64 a1] w fun e w' => e = .returned (.int .i64 r1) ∧ IsS105 w0 w' g s0_0 r2 ∧ Below w0.heap.size w0 w' ∧ KeepBut w w' g none := by
 have HI0 := Aside0.mk hI
 have HK := Aside0.mk (KeepBut.refl w g none)
 have HL := Aside0.mk hB.size
 clear hI
 have HW0 := Aside0.mk hB.size
 have HB := Aside0.mk hB
 clear hB
 have H : (if a1 < 1 then (spec_reader_pick.j0 k a1 true s0_0 (wrap64 (s0_1 + 1))) else (spec_reader_pick.j0 k a1 ((s0_0.length : Int) == 0) s0_0 (wrap64 (s0_1 + 1)))) = some (r1, r2) := h
 clear h
 have HC3 := Aside0.mk H
 clear H
 obtain ⟨ASz4_0, cSz4_0, HGz4, hgz4, HSz4_0⟩ := HI0.out
 have hcz4_0 := cellS105_0 HGz4
 have hcz4_1 := cellS105_1 HGz4
 have hfz4_1 := blk_frozen HGz4 1
 clear HGz4 hgz4
 go_enter Tryd.func60, Tryd.ntmps60
 go_upto_region 2 with (fail)
 repeat (go_quiet (fail); go_upto_region 2 with (fail))
 go_cut [24] (fun v24 wc => ∃ (kq : Nat) (x24_2 : Bool), v24 = .bool x24_2 ∧ Aside0 (spec_reader_pick.j0 kq a1 x24_2 s0_0 (wrap64 (s0_1 + 1)) = some (r1, r2)) ∧ Aside0 (kq ≤ k) ∧ Aside0 (IsS105 w0 wc g s0_0 (wrap64 (s0_1 + 1))) ∧ Aside0 (KeepBut w wc g none) ∧ Aside0 (Below w0.heap.size w0 wc))
 case first =>
  have H := HC3.out
  clear HC3
  by_cases c5 : a1 < 1
  ·rw [if_pos c5] at H
   have c5b0 : decide (a1 < 1) = true := decide_eq_true c5
   clear c5
   (first | rw [c5b0] | (simp only [i64_w, i32_w]; rw [c5b0]) | skip)
   have H' := Aside0.mk H
   clear H
   go_wp2
   repeat (go_quiet (fail); try go_wp2)
   go_meet
   case rel => exact ⟨_, (true), (by first | rfl | (simp; done) | (simp [*]; done)), H', ⟨by first | omega | exact Nat.le_refl _⟩, ⟨by repeat (with_reducible first | exact HI0.out | apply IsS105.alloc | apply IsS105.drewN | apply IsS105.drew | apply IsS105.set_1)⟩, ⟨by repeat (with_reducible first | exact HK.out | apply KeepBut.set_ | apply keep_drewN | apply keep_drew | apply keep_alloc)⟩, ⟨by repeat (with_reducible first | exact HB.out | apply below_alloc | apply pw_below_drewN | apply below_drew1 | refine below_set ?_ (IsS105.ge HI0.out))⟩⟩
  ·rw [if_neg c5] at H
   have c5b0 : decide (a1 < 1) = false := decide_eq_false c5
   clear c5
   (first | rw [c5b0] | (simp only [i64_w, i32_w]; rw [c5b0]) | skip)
   have H' := Aside0.mk H
   clear H
   obtain ⟨ASz6_0, cSz6_0, HGz6, hgz6, HSz6_0⟩ := HI0.out
   have hcz6_0 := cellS105_0 HGz6
   have hcz6_1 := cellS105_1 HGz6
   have hfz6_1 := blk_frozen HGz6 1
   clear HGz6 hgz6
   go_wp2
   repeat (go_quiet (fail); try go_wp2)
   go_meet
   case rel => exact ⟨_, (((s0_0.length : Int) == 0)), (by first | rfl | (simp; done) | (simp [*]; done)), H', ⟨by first | omega | exact Nat.le_refl _⟩, ⟨by repeat (with_reducible first | exact HI0.out | apply IsS105.alloc | apply IsS105.drewN | apply IsS105.drew | apply IsS105.set_1)⟩, ⟨by repeat (with_reducible first | exact HK.out | apply KeepBut.set_ | apply keep_drewN | apply keep_drew | apply keep_alloc)⟩, ⟨by repeat (with_reducible first | exact HB.out | apply below_alloc | apply pw_below_drewN | apply below_drew1 | refine below_set ?_ (IsS105.ge HI0.out))⟩⟩
 case rest =>
  clear HC3
  try clear p2
  try clear c5
  try clear c5b0
  try clear c6
  try clear p6
  try clear hcz4_0
  try clear hcz4_1
  try clear hcz6_0
  try clear hcz6_1
  try clear hfz4_1
  try clear hfz6_1
  obtain ⟨kq, x24_2, rfl, HA, HJ2, HI0, HK, HB⟩ := hcut
  cases kq with
  | zero => exact absurd HA.out (by simp [spec_reader_pick.j0])
  | succ kj2 =>
   have H := HA.out
   clear HA
   simp only [spec_reader_pick.j0] at H
   by_cases c7 : x24_2 = true
   ·subst c7
    have H1 : (some (0, (wrap64 (s0_1 + 1)))) = some (r1, r2) := by rw [if_pos rfl] at H; exact H
    clear H
    have H := H1
    clear H1
    simp only [Option.some.injEq, Prod.mk.injEq] at H
    obtain ⟨rfl, rfl⟩ := H
    go_wp2
    repeat (go_quiet (fail); try go_wp2)
    go_ret
    exact ⟨by first | rfl | (simp [errW_none, errW_some] <;> rfl) | (simp [*, errW_none, errW_some] <;> rfl), by repeat (with_reducible first | exact HI0.out | apply IsS105.alloc | apply IsS105.drewN | apply IsS105.drew | apply IsS105.set_1), by repeat (with_reducible first | exact HB.out | apply below_alloc | apply pw_below_drewN | apply below_drew1 | refine below_set ?_ (IsS105.ge HI0.out)), by repeat (with_reducible first | exact HK.out | apply KeepBut.set_ | apply keep_drewN | apply keep_drew | apply keep_alloc)⟩
   ·replace c7 := Bool.eq_false_iff.mpr c7
    subst c7
    have H1 : (if (wrap64 ((wrap64 (s0_1 + 1)) - 1)) < (s0_0.length : Int) then (if 0 ≤ (wrap64 ((wrap64 (s0_1 + 1)) - 1)) then (if a1 = 0 then (none) else (some (Int.tmod (wrap64 (rd s0_0 (wrap64 ((wrap64 (s0_1 + 1)) - 1)))) a1, (wrap64 (s0_1 + 1))))) else (none)) else (if (s0_0.length : Int) = 0 then (none) else (if 0 ≤ (Int.tmod (wrap64 ((wrap64 (s0_1 + 1)) - 1)) (s0_0.length : Int)) then (if (Int.tmod (wrap64 ((wrap64 (s0_1 + 1)) - 1)) (s0_0.length : Int)) < (s0_0.length : Int) then (if 0 ≤ (Int.tmod (wrap64 ((wrap64 ((wrap64 ((wrap64 (s0_1 + 1)) - 1)) * 7)) + 3)) (s0_0.length : Int)) then (if (Int.tmod (wrap64 ((wrap64 ((wrap64 ((wrap64 (s0_1 + 1)) - 1)) * 7)) + 3)) (s0_0.length : Int)) < (s0_0.length : Int) then (if a1 = 0 then (none) else (some (Int.tmod (Go.bits .xor .i64 (wrap64 ((wrap64 ((wrap64 ((wrap64 ((wrap64 (rd s0_0 (Int.tmod (wrap64 ((wrap64 (s0_1 + 1)) - 1)) (s0_0.length : Int)))) * 131)) + (wrap64 ((wrap64 (rd s0_0 (Int.tmod (wrap64 ((wrap64 ((wrap64 ((wrap64 (s0_1 + 1)) - 1)) * 7)) + 3)) (s0_0.length : Int)))) * 1117)))) + (wrap64 ((wrap64 ((wrap64 (s0_1 + 1)) - 1)) * 29)))) + (wrap64 ((wrap64 (Int.tdiv (wrap64 ((wrap64 (s0_1 + 1)) - 1)) (s0_0.length : Int))) * 53)))) (wrap64 (Int.tdiv (wrap64 ((wrap64 ((wrap64 ((wrap64 ((wrap64 (rd s0_0 (Int.tmod (wrap64 ((wrap64 (s0_1 + 1)) - 1)) (s0_0.length : Int)))) * 131)) + (wrap64 ((wrap64 (rd s0_0 (Int.tmod (wrap64 ((wrap64 ((wrap64 ((wrap64 (s0_1 + 1)) - 1)) * 7)) + 3)) (s0_0.length : Int)))) * 1117)))) + (wrap64 ((wrap64 ((wrap64 (s0_1 + 1)) - 1)) * 29)))) + (wrap64 ((wrap64 (Int.tdiv (wrap64 ((wrap64 (s0_1 + 1)) - 1)) (s0_0.length : Int))) * 53)))) 64))) a1, (wrap64 (s0_1 + 1))))) else (none)) else (none)) else (none)) else (none)))) = some (r1, r2) := by rw [if_neg (show ¬ (false = true) by decide)] at H; exact H
    clear H
    have H := H1
    clear H1
    by_cases c8 : (wrap64 ((wrap64 (s0_1 + 1)) - 1)) < (s0_0.length : Int)
    ·rw [if_pos c8] at H
     have c8b0 : decide ((wrap64 ((wrap64 (s0_1 + 1)) - 1)) < (s0_0.length : Int)) = true := decide_eq_true c8
     clear c8
     obtain ⟨ji9, hji9⟩ : ∃ j_ : Int, (wrap64 ((wrap64 (s0_1 + 1)) - 1)) = j_ := ⟨_, rfl⟩
     replace H : (if 0 ≤ (ji9) then (if a1 = 0 then (none) else (some (Int.tmod (wrap64 (rd s0_0 (ji9))) a1, (wrap64 (s0_1 + 1))))) else (none)) = some (r1, r2) := by first | (rw [hji9] at H; exact H) | (simp only [hji9] at H ⊢; exact H)
     (try rw [hji9] at c8b0)
     have hji9w : (IntKind.i64.wrap ((wrap64 (s0_1 + 1)) - 1)) = ji9 := (i64_w _).trans hji9
     by_cases c10 : 0 ≤ (ji9)
     ·rw [if_pos c10] at H
      have c10b0 : decide (0 ≤ (ji9)) = true := decide_eq_true c10
      clear c10
      by_cases c11 : a1 = 0
      ·rw [if_pos c11] at H
       exact absurd H (by simp)
      ·rw [if_neg c11] at H
       have c11b0 : (a1 == 0) = false := beq_eq_false_iff_ne.mpr c11
       have c11b1 : (a1 != 0) = true := bne_iff_ne.mpr c11
       simp only [Option.some.injEq, Prod.mk.injEq] at H
       obtain ⟨rfl, rfl⟩ := H
       obtain ⟨ASz12_0, cSz12_0, HGz12, hgz12, HSz12_0⟩ := HI0.out
       have hcz12_0 := cellS105_0 HGz12
       have hcz12_1 := cellS105_1 HGz12
       have hfz12_1 := blk_frozen HGz12 1
       clear HGz12 hgz12
       have p294 : 0 ≤ ((ji9) : Int) := of_decide_eq_true (by with_reducible assumption)
       have q294 : (ji9) < (s0_0.length : Int) := of_decide_eq_true (by with_reducible assumption)
       obtain ⟨ad294, e294, hx294_0⟩ := Kd.at_int HSz12_0 (ji9) p294 q294
       cases e294
       replace hx294_0 := pw_cell_below HB.out hx294_0
       replace p294 := eq_true p294
       replace q294 := eq_true q294
       go_wp2
       repeat (go_quiet (fail); try go_wp2)
       go_ret
       exact ⟨by first | rfl | (simp [errW_none, errW_some] <;> rfl) | (simp only [← hji9]; first | rfl | (simp [errW_none, errW_some] <;> rfl)) | (simp [*, errW_none, errW_some] <;> rfl), by repeat (with_reducible first | exact HI0.out | apply IsS105.alloc | apply IsS105.drewN | apply IsS105.drew | apply IsS105.set_1), by repeat (with_reducible first | exact HB.out | apply below_alloc | apply pw_below_drewN | apply below_drew1 | refine below_set ?_ (IsS105.ge HI0.out)), by repeat (with_reducible first | exact HK.out | apply KeepBut.set_ | apply keep_drewN | apply keep_drew | apply keep_alloc)⟩
     ·rw [if_neg c10] at H
      exact absurd H (by simp)
    ·rw [if_neg c8] at H
     have c8b0 : decide ((wrap64 ((wrap64 (s0_1 + 1)) - 1)) < (s0_0.length : Int)) = false := decide_eq_false c8
     clear c8
     by_cases c13 : (s0_0.length : Int) = 0
     ·rw [if_pos c13] at H
      exact absurd H (by simp)
     ·rw [if_neg c13] at H
      have c13b0 : ((s0_0.length : Int) == 0) = false := beq_eq_false_iff_ne.mpr c13
      have c13b1 : ((s0_0.length : Int) != 0) = true := bne_iff_ne.mpr c13
      have c13b2 : ¬ (s0_0 = []) := fun h_ => c13 (by rw [h_]; rfl)
      obtain ⟨ji14, hji14⟩ : ∃ j_ : Int, (Int.tmod (wrap64 ((wrap64 (s0_1 + 1)) - 1)) (s0_0.length : Int)) = j_ := ⟨_, rfl⟩
      replace H : (if 0 ≤ (ji14) then (if (ji14) < (s0_0.length : Int) then (if 0 ≤ (Int.tmod (wrap64 ((wrap64 ((wrap64 ((wrap64 (s0_1 + 1)) - 1)) * 7)) + 3)) (s0_0.length : Int)) then (if (Int.tmod (wrap64 ((wrap64 ((wrap64 ((wrap64 (s0_1 + 1)) - 1)) * 7)) + 3)) (s0_0.length : Int)) < (s0_0.length : Int) then (if a1 = 0 then (none) else (some (Int.tmod (Go.bits .xor .i64 (wrap64 ((wrap64 ((wrap64 ((wrap64 ((wrap64 (rd s0_0 (ji14))) * 131)) + (wrap64 ((wrap64 (rd s0_0 (Int.tmod (wrap64 ((wrap64 ((wrap64 ((wrap64 (s0_1 + 1)) - 1)) * 7)) + 3)) (s0_0.length : Int)))) * 1117)))) + (wrap64 ((wrap64 ((wrap64 (s0_1 + 1)) - 1)) * 29)))) + (wrap64 ((wrap64 (Int.tdiv (wrap64 ((wrap64 (s0_1 + 1)) - 1)) (s0_0.length : Int))) * 53)))) (wrap64 (Int.tdiv (wrap64 ((wrap64 ((wrap64 ((wrap64 ((wrap64 (rd s0_0 (ji14))) * 131)) + (wrap64 ((wrap64 (rd s0_0 (Int.tmod (wrap64 ((wrap64 ((wrap64 ((wrap64 (s0_1 + 1)) - 1)) * 7)) + 3)) (s0_0.length : Int)))) * 1117)))) + (wrap64 ((wrap64 ((wrap64 (s0_1 + 1)) - 1)) * 29)))) + (wrap64 ((wrap64 (Int.tdiv (wrap64 ((wrap64 (s0_1 + 1)) - 1)) (s0_0.length : Int))) * 53)))) 64))) a1, (wrap64 (s0_1 + 1))))) else (none)) else (none)) else (none)) else (none)) = some (r1, r2) := by first | (rw [hji14] at H; exact H) | (simp only [hji14] at H ⊢; exact H)
      by_cases c15 : 0 ≤ (ji14)
      ·rw [if_pos c15] at H
       have c15b0 : decide (0 ≤ (ji14)) = true := decide_eq_true c15
       clear c15
       by_cases c16 : (ji14) < (s0_0.length : Int)
       ·rw [if_pos c16] at H
        have c16b0 : decide ((ji14) < (s0_0.length : Int)) = true := decide_eq_true c16
        clear c16
        obtain ⟨ji17, hji17⟩ : ∃ j_ : Int, (Int.tmod (wrap64 ((wrap64 ((wrap64 ((wrap64 (s0_1 + 1)) - 1)) * 7)) + 3)) (s0_0.length : Int)) = j_ := ⟨_, rfl⟩
        replace H : (if 0 ≤ (ji17) then (if (ji17) < (s0_0.length : Int) then (if a1 = 0 then (none) else (some (Int.tmod (Go.bits .xor .i64 (wrap64 ((wrap64 ((wrap64 ((wrap64 ((wrap64 (rd s0_0 (ji14))) * 131)) + (wrap64 ((wrap64 (rd s0_0 (ji17))) * 1117)))) + (wrap64 ((wrap64 ((wrap64 (s0_1 + 1)) - 1)) * 29)))) + (wrap64 ((wrap64 (Int.tdiv (wrap64 ((wrap64 (s0_1 + 1)) - 1)) (s0_0.length : Int))) * 53)))) (wrap64 (Int.tdiv (wrap64 ((wrap64 ((wrap64 ((wrap64 ((wrap64 (rd s0_0 (ji14))) * 131)) + (wrap64 ((wrap64 (rd s0_0 (ji17))) * 1117)))) + (wrap64 ((wrap64 ((wrap64 (s0_1 + 1)) - 1)) * 29)))) + (wrap64 ((wrap64 (Int.tdiv (wrap64 ((wrap64 (s0_1 + 1)) - 1)) (s0_0.length : Int))) * 53)))) 64))) a1, (wrap64 (s0_1 + 1))))) else (none)) else (none)) = some (r1, r2) := by first | (rw [hji17] at H; exact H) | (simp only [hji17] at H ⊢; exact H)
        by_cases c18 : 0 ≤ (ji17)
        ·rw [if_pos c18] at H
         have c18b0 : decide (0 ≤ (ji17)) = true := decide_eq_true c18
         clear c18
         by_cases c19 : (ji17) < (s0_0.length : Int)
         ·rw [if_pos c19] at H
          have c19b0 : decide ((ji17) < (s0_0.length : Int)) = true := decide_eq_true c19
          clear c19
          by_cases c20 : a1 = 0
          ·rw [if_pos c20] at H
           exact absurd H (by simp)
          ·rw [if_neg c20] at H
           have c20b0 : (a1 == 0) = false := beq_eq_false_iff_ne.mpr c20
           have c20b1 : (a1 != 0) = true := bne_iff_ne.mpr c20
           simp only [Option.some.injEq, Prod.mk.injEq] at H
           obtain ⟨rfl, rfl⟩ := H
           obtain ⟨ASz21_0, cSz21_0, HGz21, hgz21, HSz21_0⟩ := HI0.out
           have hcz21_0 := cellS105_0 HGz21
           have hcz21_1 := cellS105_1 HGz21
           have hfz21_1 := blk_frozen HGz21 1
           clear HGz21 hgz21
           have p295 : 0 ≤ ((ji14) : Int) := of_decide_eq_true (by with_reducible assumption)
           have q295 : (ji14) < (s0_0.length : Int) := of_decide_eq_true (by with_reducible assumption)
           obtain ⟨ad295, e295, hx295_0⟩ := Kd.at_int HSz21_0 (ji14) p295 q295
           cases e295
           replace hx295_0 := pw_cell_below HB.out hx295_0
           replace p295 := eq_true p295
           replace q295 := eq_true q295
           have p296 : 0 ≤ ((ji17) : Int) := of_decide_eq_true (by with_reducible assumption)
           have q296 : (ji17) < (s0_0.length : Int) := of_decide_eq_true (by with_reducible assumption)
           obtain ⟨ad296, e296, hx296_0⟩ := Kd.at_int HSz21_0 (ji17) p296 q296
           obtain rfl : ad295 = ad296 := (by injection e296)
           replace hx296_0 := pw_cell_below HB.out hx296_0
           replace p296 := eq_true p296
           replace q296 := eq_true q296
           go_wp2
           repeat (go_quiet (fail); try go_wp2)
           go_ret
           exact ⟨by first | rfl | (simp [errW_none, errW_some] <;> rfl) | (simp only [← hji14, ← hji17]; first | rfl | (simp [errW_none, errW_some] <;> rfl)) | (simp [*, errW_none, errW_some] <;> rfl), by repeat (with_reducible first | exact HI0.out | apply IsS105.alloc | apply IsS105.drewN | apply IsS105.drew | apply IsS105.set_1), by repeat (with_reducible first | exact HB.out | apply below_alloc | apply pw_below_drewN | apply below_drew1 | refine below_set ?_ (IsS105.ge HI0.out)), by repeat (with_reducible first | exact HK.out | apply KeepBut.set_ | apply keep_drewN | apply keep_drew | apply keep_alloc)⟩
         ·rw [if_neg c19] at H
          exact absurd H (by simp)
        ·rw [if_neg c18] at H
         exact absurd H (by simp)
       ·rw [if_neg c16] at H
        exact absurd H (by simp)
      ·rw [if_neg c15] at H
       exact absurd H (by simp)
end Go.Proofs.YtdmeiiedbhfniaaDoor.P
end
section
namespace Go.Proofs.YtdmeiiedbhfniaaDoor.P
open Go.RowKit YtdmeiiedbhfniaaDoorW.PrintWords YtdmeiiedbhfniaaDoorW.PrintLast YtdmeiiedbhfniaaDoorW.PrintMore
def spec_copyInts.f (l0 : List Int) : Option (List Int) := (some (([] : List Int) : List Int)).bind fun y297 => (if y297.length + l0.length < 17592186044416 then (some (y297 ++ l0)) else (none))
set_option maxHeartbeats 8000000 in
set_option maxRecDepth 100000 in
theorem spec_copyInts.calls (A0 : Option Addr) (c0 : Nat) (l0 : List Int) (r : List Int) (w : World) (hr0 : Kd.C (Kd.int .i64) w A0 l0.length l0) (hc0 : l0.length ≤ c0) (h : spec_copyInts.f l0 = some r) :
  Calls Tryd.prog 71 #[.slice A0 l0.length c0] w fun e w' => ∃ v0_ : Value, e = .returned (v0_) ∧ Kd.R (Kd.int .i64) 3 w' w.heap.size (fun _ => True) v0_ r ∧ Below w.heap.size w w' := by
 have HR0 := Aside0.mk hr0
 have HC0 := Aside0.mk hc0
 clear hr0 hc0
 have HB := Aside0.mk (Below.refl w.heap.size w)
 have H : ((some (([] : List Int) : List Int)).bind fun y297 => (if y297.length + l0.length < 17592186044416 then (some (y297 ++ l0)) else (none))) = some r := h
 clear h
 obtain ⟨y297, hy297⟩ : ∃ y_ : List Int, y_ = (([] : List Int)) := ⟨_, rfl⟩
 replace H : (if y297.length + l0.length < 17592186044416 then (some (y297 ++ l0)) else (none)) = some r := by first | (rw [hy297]; with_reducible exact H) | (have H2_ := (Option.bind_some _ _).symm.trans H; rw [hy297]; with_reducible exact H2_) | (have H2_ := (Option.bind_some _ _).symm.trans H; with_reducible exact H2_) | with_reducible exact H | (rw [hy297]; exact H) | exact H
 have Ny297 := Aside0.mk hy297
 clear hy297
 by_cases c2 : y297.length + l0.length < 17592186044416
 ·rw [if_pos c2] at H
  have LMc2 := Aside0.mk c2
  clear c2
  obtain ⟨y300, hy300⟩ : ∃ y_ : List Int, y_ = (y297 ++ l0) := ⟨_, rfl⟩
  replace H : (some y300) = some r := by first | (rw [hy300]; with_reducible exact H) | (have H2_ := (Option.bind_some _ _).symm.trans H; rw [hy300]; with_reducible exact H2_) | (have H2_ := (Option.bind_some _ _).symm.trans H; with_reducible exact H2_) | with_reducible exact H | (rw [hy300]; exact H) | exact H
  have Ny300 := Aside0.mk hy300
  clear hy300
  obtain rfl := Option.some.inj H
  go_enter Tryd.func71, Tryd.ntmps71
  go_wp2_with (first | ((with_reducible refine gate_dst (N := 3) rfl ?_); refine Kd.R_lit (Kd.int .i64) _ 3 ?hg (N := 3) ?hd (xs := ([] : List Int)) (inner := []) (ok := fun _ => True) (okp := fun _ => True) ?hr ?hp (fun _ hk => hk) trivial (Below.refl _ _) (Nat.le_refl _) (by simp) ?_; (case hd => rfl); (case hg => rfl); (case hr => first | (go_simp; done) | (go_simp; rfl)); (case hp => exact (Reps.none _ _)); intro v298 w3 ho4 hb hg_ hnew_; clear hg_ hnew_; (first | rw [← Ny297.out] at ho4 | (simp only [Int.reduceToNat] at ho4; rw [← Ny297.out] at ho4)); have n0_ := Aside0.mk (Kd.R_lower ho4 (below_size (by repeat (with_reducible first | exact HB.out | apply below_alloc | apply pw_below_drewN | apply below_drew1)))); have n1_ := Aside0.mk (below_step (by repeat (with_reducible first | exact HB.out | apply below_alloc | apply pw_below_drewN | apply below_drew1)) hb); clear HB; have HO299 := n0_; have HB := n1_; clear n0_ n1_; clear hb ho4) | ((with_reducible refine gate_builtin (b := .append) (xs := #[.tmp 3, .tmp 4]) rfl ?_); at_builtin; refine Kd.R_append_rows (Kd.int .i64) (w0 := w) w.heap.size rfl (.tmp 3) (.tmp 4) 23 3 (.int .i64 0) 8 rfl Tryd.underlying23 info3 rfl (by decide) (by omega) v298 y297 l0 _ _ _ (fun _ => True) (fun _ => False) rfl rfl ?aO ?aR (fun _ _ h => h) (fun _ h => h.elim) ?aF ?aB ?aS ?aL ?_; (case aR => repeat (first | exact (Kd.C_below HR0.out HB.out) | (with_reducible refine Kd.C_alloc ?_ _) | (with_reducible refine Kd.C_drewN ?_ _) | (with_reducible refine Kd.C_drew ?_))); (case aB => exact (by repeat (with_reducible first | exact HB.out | apply below_alloc | apply pw_below_drewN | apply below_drew1))); (case aF => exact (fun _ _ => trivial)); (case aO => exact (by (with_reducible repeat (first | apply Kd.R_alloc | apply Kd.R_drewN | apply Kd.R_drew)); exact HO299.out)); (case aS => exact (below_size (by repeat (with_reducible first | exact HB.out | apply below_alloc | apply pw_below_drewN | apply below_drew1)))); (case aL => have := LMc2.out; omega); intro v301 w5 ho hb hg hat; rw [← Ny300.out] at ho; have n0_ := Aside0.mk (hb); have n1_ := Aside0.mk (ho); clear HB; clear HO299; have HB := n0_; have HO302 := n1_; clear n0_ n1_; clear ho hb hg hat))
  go_ret
  exact ⟨_, by first | rfl | (simp [errW_none, errW_some] <;> rfl) | (simp [*, errW_none, errW_some] <;> rfl), by (with_reducible repeat (first | apply Kd.R_alloc | apply Kd.R_drewN | apply Kd.R_drew)); exact HO302.out, by repeat (with_reducible first | exact HB.out | apply below_alloc | apply pw_below_drewN | apply below_drew1)⟩
 ·rw [if_neg c2] at H
  exact absurd H (by simp)
end Go.Proofs.YtdmeiiedbhfniaaDoor.P
end
section
namespace Go.Proofs.YtdmeiiedbhfniaaDoor.P
open Go.RowKit YtdmeiiedbhfniaaDoorW.PrintWords YtdmeiiedbhfniaaDoorW.PrintLast YtdmeiiedbhfniaaDoorW.PrintMore
def spec_reader_one.f (k : Nat) (s0_0 : List Int) (s0_1 : Int) (l1 : List Int) : Option (Int × Int) := (spec_reader_pick.f k s0_0 s0_1 (l1.length : Int)).bind fun bt303 => (if 0 ≤ bt303.1 then (if bt303.1 < (l1.length : Int) then (some (rd l1 bt303.1, bt303.2)) else (none)) else (none))
set_option maxHeartbeats 8000000 in
set_option maxRecDepth 100000 in
theorem spec_reader_one.calls (k : Nat) (g : Nat) (s0_0 : List Int) (s0_1 : Int) (A1 : Option Addr) (c1 : Nat) (l1 : List Int) (r1 : Int) (r2 : Int) (w0 w : World) (hI : IsS105 w0 w g s0_0 s0_1) (hB : Below w0.heap.size w0 w) (hr1 : Kd.C (Kd.int .i64) w A1 l1.length l1) (hc1 : l1.length ≤ c1) (hf1 : ∀ ad, A1 = some ad → 0 < l1.length → ad.block ≠ g) (h : spec_reader_one.f k s0_0 s0_1 l1 = some (r1, r2)) :
  Calls Tryd.prog 91 #[.pointer (some ⟨g, 0, none⟩), .slice A1 l1.length c1] w fun e w' => e = .returned (.int .i64 r1) ∧ IsS105 w0 w' g s0_0 r2 ∧ Below w0.heap.size w0 w' ∧ KeepBut w w' g none := by
 have HR1 := Aside0.mk hr1
 have HC1 := Aside0.mk hc1
 clear hr1 hc1
 have HI0 := Aside0.mk hI
 have HK := Aside0.mk (KeepBut.refl w g none)
 have HL := Aside0.mk hB.size
 clear hI
 have HW0 := Aside0.mk hB.size
 have HB := Aside0.mk hB
 clear hB
 have H : ((spec_reader_pick.f k s0_0 s0_1 (l1.length : Int)).bind fun bt303 => (if 0 ≤ bt303.1 then (if bt303.1 < (l1.length : Int) then (some (rd l1 bt303.1, bt303.2)) else (none)) else (none))) = some (r1, r2) := h
 clear h
 replace H := Option.bind_eq_some_iff.mp H
 obtain ⟨⟨t303, t304⟩, A30, H⟩ := H
 replace H : (if 0 ≤ t303 then (if t303 < (l1.length : Int) then (some (rd l1 t303, t304)) else (none)) else (none)) = some (r1, r2) := H
 have A3 := Aside0.mk A30
 clear A30
 by_cases c4 : 0 ≤ t303
 ·rw [if_pos c4] at H
  have c4b0 : decide (0 ≤ t303) = true := decide_eq_true c4
  clear c4
  by_cases c5 : t303 < (l1.length : Int)
  ·rw [if_pos c5] at H
   have c5b0 : decide (t303 < (l1.length : Int)) = true := decide_eq_true c5
   clear c5
   simp only [Option.some.injEq, Prod.mk.injEq] at H
   obtain ⟨rfl, rfl⟩ := H
   go_enter Tryd.func91, Tryd.ntmps91
   go_wp2_with (first | ((with_reducible refine gate_callee (f := 60) rfl ?_); refine goesL_ (some 9) rfl rfl Tryd.func60 (by kernel_rfl) rfl #[.pointer (some ⟨g, 0, none⟩), .int .i64 (l1.length : Int)] rfl (by (try simp only [List.map_toArray, List.map_cons, List.map_nil]); first | done | rfl | (simp only [List.length_drop, List.length_take]; rfl)) ?_; (with_reducible refine (spec_reader_pick.calls k g s0_0 s0_1 (l1.length : Int) t303 t304 w0 _ ?side1 ?side2 A3.out).mono ?_); (case side1 => repeat (with_reducible first | exact HI0.out | apply IsS105.alloc | apply IsS105.drewN | apply IsS105.drew | apply IsS105.set_1)); (case side2 => repeat (with_reducible first | exact HB.out | apply below_alloc | apply pw_below_drewN | apply below_drew1 | refine below_set ?_ (IsS105.ge HI0.out))); rintro e w6 ⟨rfl, hi, hb, hk⟩; refine ⟨_, rfl, ?_⟩; have n0_ := Aside0.mk (KeepBut.trans (by repeat (with_reducible first | exact HK.out | apply KeepBut.set_ | apply keep_drewN | apply keep_drew | apply keep_alloc)) hk (.inl rfl)); have n1_ := Aside0.mk (hb); have n2_ := Aside0.mk (hi); clear HK; clear HB; clear HI0; have HK := n0_; have HB := n1_; have HI0 := n2_; clear n0_ n1_ n2_; (try clear hb); (try clear hb2); (try clear hk); (try clear hi); have p305 : 0 ≤ (t303 : Int) := of_decide_eq_true (by with_reducible assumption); have q305 : t303 < (l1.length : Int) := of_decide_eq_true (by with_reducible assumption); obtain ⟨ad305, e305, hx305_0⟩ := Kd.at_int HR1.out t303 p305 q305; cases e305; replace hx305_0 := keep_cell HK.out hx305_0 (by first | (rw [add_block]; exact hf1 _ rfl (by omega)) | exact hf1 _ rfl (by omega) | exact hf1 ad305 rfl (by omega)); replace p305 := eq_true p305; replace q305 := eq_true q305))
   go_ret
   exact ⟨by first | rfl | (simp [errW_none, errW_some] <;> rfl) | (simp [*, errW_none, errW_some] <;> rfl), by repeat (with_reducible first | exact HI0.out | apply IsS105.alloc | apply IsS105.drewN | apply IsS105.drew | apply IsS105.set_1), by repeat (with_reducible first | exact HB.out | apply below_alloc | apply pw_below_drewN | apply below_drew1 | refine below_set ?_ (IsS105.ge HI0.out)), by repeat (with_reducible first | exact HK.out | apply KeepBut.set_ | apply keep_drewN | apply keep_drew | apply keep_alloc)⟩
  ·rw [if_neg c5] at H
   exact absurd H (by simp)
 ·rw [if_neg c4] at H
  exact absurd H (by simp)
end Go.Proofs.YtdmeiiedbhfniaaDoor.P
end
section
namespace Go.Proofs.YtdmeiiedbhfniaaDoor.P
open Go.RowKit YtdmeiiedbhfniaaDoorW.PrintWords YtdmeiiedbhfniaaDoorW.PrintLast YtdmeiiedbhfniaaDoorW.PrintMore
def spec_reader_spoil.f (k : Nat) (s0_0 : List Int) (s0_1 : Int) (l1 : List Int) (a2 : Int) : Option (List Int × Int) := (spec_copyInts.f l1).bind fun t306 => ((spec_reader_pick.f k s0_0 s0_1 20).bind fun bt309 => (if bt309.1 = 0 then (if t306.length < 17592186044416 then (some ((t306 ++ [a2]), bt309.2)) else (none)) else (if bt309.1 = 1 then (if (t306.length : Int) > 0 then (if 1 ≤ (t306.length : Int) then (some ((t306.drop (1 : Int).toNat), bt309.2)) else (none)) else (some (t306, bt309.2))) else (if bt309.1 = 2 then (if (t306.length : Int) > 0 then ((spec_reader_pick.f k s0_0 bt309.2 (t306.length : Int)).bind fun bt317 => ((spec_reader_one.f k s0_0 bt317.2 (([(-1), a2, 0, 1] : List Int))).bind fun bt322 => (if 0 ≤ bt317.1 then (if bt317.1 < (t306.length : Int) then (some ((t306.set (bt317.1 : Int).toNat bt322.1), bt322.2)) else (none)) else (none)))) else (some (t306, bt309.2))) else (some (t306, bt309.2))))))
set_option maxHeartbeats 8000000 in
set_option maxRecDepth 100000 in
theorem spec_reader_spoil.calls (k : Nat) (g : Nat) (s0_0 : List Int) (s0_1 : Int) (A1 : Option Addr) (c1 : Nat) (l1 : List Int) (a2 : Int) (r1 : List Int) (r2 : Int) (w0 w : World) (hI : IsS105 w0 w g s0_0 s0_1) (hB : Below w0.heap.size w0 w) (hr1 : Kd.C (Kd.int .i64) w A1 l1.length l1) (hc1 : l1.length ≤ c1) (hf1 : ∀ ad, A1 = some ad → 0 < l1.length → ad.block ≠ g) (h : spec_reader_spoil.f k s0_0 s0_1 l1 a2 = some (r1, r2)) :
  Calls Tryd.prog 61 #[.pointer (some ⟨g, 0, none⟩), .slice A1 l1.length c1, .int .i64 a2] w fun e w' => ∃ v0_ : Value, e = .returned (v0_) ∧ Kd.Q (Kd.int .i64) 3 w' w.heap.size (fun _ => True) v0_ r1 ∧ IsS105 w0 w' g s0_0 r2 ∧ Below w0.heap.size w0 w' ∧ KeepBut w w' g none := by
 have HR1 := Aside0.mk hr1
 have HC1 := Aside0.mk hc1
 clear hr1 hc1
 have HI0 := Aside0.mk hI
 have HK := Aside0.mk (KeepBut.refl w g none)
 have HL := Aside0.mk hB.size
 clear hI
 have HW0 := Aside0.mk hB.size
 have HB := Aside0.mk hB
 clear hB
 have H : ((spec_copyInts.f l1).bind fun t306 => ((spec_reader_pick.f k s0_0 s0_1 20).bind fun bt309 => (if bt309.1 = 0 then (if t306.length < 17592186044416 then (some ((t306 ++ [a2]), bt309.2)) else (none)) else (if bt309.1 = 1 then (if (t306.length : Int) > 0 then (if 1 ≤ (t306.length : Int) then (some ((t306.drop (1 : Int).toNat), bt309.2)) else (none)) else (some (t306, bt309.2))) else (if bt309.1 = 2 then (if (t306.length : Int) > 0 then ((spec_reader_pick.f k s0_0 bt309.2 (t306.length : Int)).bind fun bt317 => ((spec_reader_one.f k s0_0 bt317.2 (([(-1), a2, 0, 1] : List Int))).bind fun bt322 => (if 0 ≤ bt317.1 then (if bt317.1 < (t306.length : Int) then (some ((t306.set (bt317.1 : Int).toNat bt322.1), bt322.2)) else (none)) else (none)))) else (some (t306, bt309.2))) else (some (t306, bt309.2))))))) = some (r1, r2) := h
 clear h
 replace H := Option.bind_eq_some_iff.mp H
 obtain ⟨t306, A40, H⟩ := H
 replace H : ((spec_reader_pick.f k s0_0 s0_1 20).bind fun bt309 => (if bt309.1 = 0 then (if t306.length < 17592186044416 then (some ((t306 ++ [a2]), bt309.2)) else (none)) else (if bt309.1 = 1 then (if (t306.length : Int) > 0 then (if 1 ≤ (t306.length : Int) then (some ((t306.drop (1 : Int).toNat), bt309.2)) else (none)) else (some (t306, bt309.2))) else (if bt309.1 = 2 then (if (t306.length : Int) > 0 then ((spec_reader_pick.f k s0_0 bt309.2 (t306.length : Int)).bind fun bt317 => ((spec_reader_one.f k s0_0 bt317.2 (([(-1), a2, 0, 1] : List Int))).bind fun bt322 => (if 0 ≤ bt317.1 then (if bt317.1 < (t306.length : Int) then (some ((t306.set (bt317.1 : Int).toNat bt322.1), bt322.2)) else (none)) else (none)))) else (some (t306, bt309.2))) else (some (t306, bt309.2)))))) = some (r1, r2) := H
 have A4 := Aside0.mk A40
 clear A40
 replace H := Option.bind_eq_some_iff.mp H
 obtain ⟨⟨t309, t310⟩, A50, H⟩ := H
 replace H : (if t309 = 0 then (if t306.length < 17592186044416 then (some ((t306 ++ [a2]), t310)) else (none)) else (if t309 = 1 then (if (t306.length : Int) > 0 then (if 1 ≤ (t306.length : Int) then (some ((t306.drop (1 : Int).toNat), t310)) else (none)) else (some (t306, t310))) else (if t309 = 2 then (if (t306.length : Int) > 0 then ((spec_reader_pick.f k s0_0 t310 (t306.length : Int)).bind fun bt317 => ((spec_reader_one.f k s0_0 bt317.2 (([(-1), a2, 0, 1] : List Int))).bind fun bt322 => (if 0 ≤ bt317.1 then (if bt317.1 < (t306.length : Int) then (some ((t306.set (bt317.1 : Int).toNat bt322.1), bt322.2)) else (none)) else (none)))) else (some (t306, t310))) else (some (t306, t310))))) = some (r1, r2) := H
 have A5 := Aside0.mk A50
 clear A50
 by_cases c6 : t309 = 0
 ·rw [if_pos c6] at H
  have c6b0 : (t309 == 0) = true := beq_iff_eq.mpr c6
  have c6b1 : (t309 != 0) = false := bne_eq_false_iff_eq.mpr c6
  clear c6
  by_cases c7 : t306.length < 17592186044416
  ·rw [if_pos c7] at H
   have LMc7 := Aside0.mk c7
   clear c7
   obtain ⟨y311, hy311⟩ : ∃ y_ : List Int, y_ = (t306 ++ [a2]) := ⟨_, rfl⟩
   replace H : (some (y311, t310)) = some (r1, r2) := by first | (rw [hy311]; with_reducible exact H) | (have H2_ := (Option.bind_some _ _).symm.trans H; rw [hy311]; with_reducible exact H2_) | (have H2_ := (Option.bind_some _ _).symm.trans H; with_reducible exact H2_) | with_reducible exact H | (rw [hy311]; exact H) | exact H
   have Ny311 := Aside0.mk hy311
   clear hy311
   simp only [Option.some.injEq, Prod.mk.injEq] at H
   obtain ⟨rfl, rfl⟩ := H
   go_enter Tryd.func61, Tryd.ntmps61
   go_wp2_with (first | ((with_reducible refine gate_callee (f := 71) rfl ?_); refine goesL_ (some 9) rfl rfl Tryd.func71 (by kernel_rfl) rfl #[.slice A1 l1.length c1] rfl (by (try simp only [List.map_toArray, List.map_cons, List.map_nil]); first | done | rfl | (simp only [List.length_drop, List.length_take]; rfl)) ?_; (with_reducible refine (spec_copyInts.calls _ _ l1 t306 _ ?side1 ?side2 A4.out).mono ?_); (case side1 => exact Kd.C_keep 0 HR1.out (by repeat (with_reducible first | exact HK.out | apply KeepBut.set_ | apply keep_drewN | apply keep_drew | apply keep_alloc)) hf1); (case side2 => exact HC1.out); rintro e w8 ⟨v307, rfl, ho0, hb⟩; refine ⟨_, rfl, ?_⟩; have n0_ := Aside0.mk (Kd.R_lower ho0 (keep_size (w := w) (g := g) (row := none) (by repeat (with_reducible first | exact HK.out | apply KeepBut.set_ | apply keep_drewN | apply keep_drew | apply keep_alloc)))); have n1_ := Aside0.mk (IsS105.below (by repeat (with_reducible first | exact HI0.out | apply IsS105.alloc | apply IsS105.drewN | apply IsS105.drew | apply IsS105.set_1)) hb); have n2_ := Aside0.mk (KeepBut.trans (by repeat (with_reducible first | exact HK.out | apply KeepBut.set_ | apply keep_drewN | apply keep_drew | apply keep_alloc)) (KeepBut.of_below hb g none) (.inl rfl)); have n3_ := Aside0.mk (below_step (by repeat (with_reducible first | exact HB.out | apply below_alloc | apply pw_below_drewN | apply below_drew1 | refine below_set ?_ (IsS105.ge HI0.out))) hb); clear HI0; clear HK; clear HB; have HO308 := n0_; have HI0 := n1_; have HK := n2_; have HB := n3_; clear n0_ n1_ n2_ n3_; (try clear hb); (try clear hb2); (try clear hk); (try clear hi); (try clear ho0)) | ((with_reducible refine gate_callee (f := 60) rfl ?_); refine goesL_ (some 11) rfl rfl Tryd.func60 (by kernel_rfl) rfl #[.pointer (some ⟨g, 0, none⟩), .int .i64 20] rfl (by (try simp only [List.map_toArray, List.map_cons, List.map_nil]); first | done | rfl | (simp only [List.length_drop, List.length_take]; rfl)) ?_; (with_reducible refine (spec_reader_pick.calls k g s0_0 s0_1 20 t309 t310 w0 _ ?side1 ?side2 A5.out).mono ?_); (case side1 => repeat (with_reducible first | exact HI0.out | apply IsS105.alloc | apply IsS105.drewN | apply IsS105.drew | apply IsS105.set_1)); (case side2 => repeat (with_reducible first | exact HB.out | apply below_alloc | apply pw_below_drewN | apply below_drew1 | refine below_set ?_ (IsS105.ge HI0.out))); rintro e w9 ⟨rfl, hi, hb, hk⟩; refine ⟨_, rfl, ?_⟩; have n0_ := Aside0.mk (Kd.R_mono (Kd.R_keep (IsS105.apart (show IsS105 w0 _ g s0_0 s0_1 from by repeat (with_reducible first | exact HI0.out | apply IsS105.alloc | apply IsS105.drewN | apply IsS105.drew | apply IsS105.set_1)) (by (with_reducible repeat (first | apply Kd.R_alloc | apply Kd.R_drewN | apply Kd.R_drew)); exact HO308.out) (by decide)) hk (fun _ h => h.2)) (fun _ h => h.1)); have n1_ := Aside0.mk (KeepBut.trans (by repeat (with_reducible first | exact HK.out | apply KeepBut.set_ | apply keep_drewN | apply keep_drew | apply keep_alloc)) hk (.inl rfl)); have n2_ := Aside0.mk (hb); have n3_ := Aside0.mk (hi); clear HO308; clear HK; clear HB; clear HI0; have HO308 := n0_; have HK := n1_; have HB := n2_; have HI0 := n3_; clear n0_ n1_ n2_ n3_; (try clear hb); (try clear hb2); (try clear hk); (try clear hi)) | ((with_reducible refine gate_builtin (b := .append) (xs := #[.tmp 14, .tmp 16]) rfl ?_); at_builtin; refine Kd.R_append (Kd.int .i64) w.heap.size rfl (.tmp 14) (.tmp 16) 23 3 (.int .i64 0) 8 rfl Tryd.underlying23 info3 rfl (by decide) (by omega) v307 t306 a2 [.int .i64 a2] (fun _ => True) (fun _ => False) rfl rfl ?aP (fun _ hk => hk.elim) ?aF ?aO (Below.refl _ _) ?aS ?aL ?_; (case aP => exact rfl); (case aF => exact (fun _ _ => trivial)); (case aO => exact (by (with_reducible repeat (first | apply Kd.R_alloc | apply Kd.R_drewN | apply Kd.R_drew)); exact HO308.out)); (case aS => exact (keep_size (w := w) (g := g) (row := none) (by repeat (with_reducible first | exact HK.out | apply KeepBut.set_ | apply keep_drewN | apply keep_drew | apply keep_alloc)))); (case aL => have := LMc7.out; omega); intro v312 w10 ho hb hg hat; rw [← Ny311.out] at ho; have n0_ := Aside0.mk (IsS105.grown (by repeat (with_reducible first | exact HI0.out | apply IsS105.alloc | apply IsS105.drewN | apply IsS105.drew | apply IsS105.set_1)) hg (IsS105.own_ne HI0.out HO308.out (by decide))); have n1_ := Aside0.mk (below_weaken (by repeat (with_reducible first | exact HB.out | apply below_alloc | apply pw_below_drewN | apply below_drew1 | refine below_set ?_ (IsS105.ge HI0.out))) HL.out hb); have n2_ := Aside0.mk (KeepBut.trans (by repeat (with_reducible first | exact HK.out | apply KeepBut.set_ | apply keep_drewN | apply keep_drew | apply keep_alloc)) (KeepBut.of_grown hg g) (Kd.R_base2 HO308.out)); have n3_ := Aside0.mk (ho); clear HI0; clear HB; clear HK; clear HO308; have HI0 := n0_; have HB := n1_; have HK := n2_; have HO313 := n3_; clear n0_ n1_ n2_ n3_; clear ho hb hg hat))
   go_ret
   exact ⟨_, by first | rfl | (simp [errW_none, errW_some] <;> rfl) | (simp [*, errW_none, errW_some] <;> rfl), Kd.Q_of_R (by (with_reducible repeat (first | apply Kd.R_alloc | apply Kd.R_drewN | apply Kd.R_drew)); exact HO313.out), by repeat (with_reducible first | exact HI0.out | apply IsS105.alloc | apply IsS105.drewN | apply IsS105.drew | apply IsS105.set_1), by repeat (with_reducible first | exact HB.out | apply below_alloc | apply pw_below_drewN | apply below_drew1 | refine below_set ?_ (IsS105.ge HI0.out)), by repeat (with_reducible first | exact HK.out | apply KeepBut.set_ | apply keep_drewN | apply keep_drew | apply keep_alloc)⟩
  ·rw [if_neg c7] at H
   exact absurd H (by simp)
 ·rw [if_neg c6] at H
  have c6b0 : (t309 == 0) = false := beq_eq_false_iff_ne.mpr c6
  have c6b1 : (t309 != 0) = true := bne_iff_ne.mpr c6
  by_cases c11 : t309 = 1
  ·rw [if_pos c11] at H
   have c11b0 : (t309 == 1) = true := beq_iff_eq.mpr c11
   have c11b1 : (t309 != 1) = false := bne_eq_false_iff_eq.mpr c11
   clear c11
   by_cases c12 : (t306.length : Int) > 0
   ·rw [if_pos c12] at H
    have c12b0 : decide (0 < (t306.length : Int)) = true := decide_eq_true c12
    have c12b1 : decide (0 < t306.length) = true := decide_eq_true (by omega)
    clear c12
    by_cases c13 : 1 ≤ (t306.length : Int)
    ·rw [if_pos c13] at H
     have c13b0 := eq_true c13
     have c13b1 : decide (1 ≤ (t306.length : Int)) = true := decide_eq_true c13
     clear c13
     obtain ⟨y314, hy314⟩ : ∃ y_ : List Int, y_ = (t306.drop (1 : Int).toNat) := ⟨_, rfl⟩
     replace H : (some (y314, t310)) = some (r1, r2) := by first | (rw [hy314]; with_reducible exact H) | (have H2_ := (Option.bind_some _ _).symm.trans H; rw [hy314]; with_reducible exact H2_) | (have H2_ := (Option.bind_some _ _).symm.trans H; with_reducible exact H2_) | with_reducible exact H | (rw [hy314]; exact H) | exact H
     have Ny314 := Aside0.mk hy314
     clear hy314
     simp only [Option.some.injEq, Prod.mk.injEq] at H
     obtain ⟨rfl, rfl⟩ := H
     go_enter Tryd.func61, Tryd.ntmps61
     go_wp2_with (first | ((with_reducible refine gate_callee (f := 71) rfl ?_); refine goesL_ (some 9) rfl rfl Tryd.func71 (by kernel_rfl) rfl #[.slice A1 l1.length c1] rfl (by (try simp only [List.map_toArray, List.map_cons, List.map_nil]); first | done | rfl | (simp only [List.length_drop, List.length_take]; rfl)) ?_; (with_reducible refine (spec_copyInts.calls _ _ l1 t306 _ ?side1 ?side2 A4.out).mono ?_); (case side1 => exact Kd.C_keep 0 HR1.out (by repeat (with_reducible first | exact HK.out | apply KeepBut.set_ | apply keep_drewN | apply keep_drew | apply keep_alloc)) hf1); (case side2 => exact HC1.out); rintro e w14 ⟨v307, rfl, ho0, hb⟩; refine ⟨_, rfl, ?_⟩; have n0_ := Aside0.mk (Kd.R_lower ho0 (keep_size (w := w) (g := g) (row := none) (by repeat (with_reducible first | exact HK.out | apply KeepBut.set_ | apply keep_drewN | apply keep_drew | apply keep_alloc)))); have n1_ := Aside0.mk (IsS105.below (by repeat (with_reducible first | exact HI0.out | apply IsS105.alloc | apply IsS105.drewN | apply IsS105.drew | apply IsS105.set_1)) hb); have n2_ := Aside0.mk (KeepBut.trans (by repeat (with_reducible first | exact HK.out | apply KeepBut.set_ | apply keep_drewN | apply keep_drew | apply keep_alloc)) (KeepBut.of_below hb g none) (.inl rfl)); have n3_ := Aside0.mk (below_step (by repeat (with_reducible first | exact HB.out | apply below_alloc | apply pw_below_drewN | apply below_drew1 | refine below_set ?_ (IsS105.ge HI0.out))) hb); clear HI0; clear HK; clear HB; have HO308 := n0_; have HI0 := n1_; have HK := n2_; have HB := n3_; clear n0_ n1_ n2_ n3_; (try clear hb); (try clear hb2); (try clear hk); (try clear hi); (try clear ho0)) | ((with_reducible refine gate_callee (f := 60) rfl ?_); refine goesL_ (some 11) rfl rfl Tryd.func60 (by kernel_rfl) rfl #[.pointer (some ⟨g, 0, none⟩), .int .i64 20] rfl (by (try simp only [List.map_toArray, List.map_cons, List.map_nil]); first | done | rfl | (simp only [List.length_drop, List.length_take]; rfl)) ?_; (with_reducible refine (spec_reader_pick.calls k g s0_0 s0_1 20 t309 t310 w0 _ ?side1 ?side2 A5.out).mono ?_); (case side1 => repeat (with_reducible first | exact HI0.out | apply IsS105.alloc | apply IsS105.drewN | apply IsS105.drew | apply IsS105.set_1)); (case side2 => repeat (with_reducible first | exact HB.out | apply below_alloc | apply pw_below_drewN | apply below_drew1 | refine below_set ?_ (IsS105.ge HI0.out))); rintro e w15 ⟨rfl, hi, hb, hk⟩; refine ⟨_, rfl, ?_⟩; have n0_ := Aside0.mk (Kd.R_mono (Kd.R_keep (IsS105.apart (show IsS105 w0 _ g s0_0 s0_1 from by repeat (with_reducible first | exact HI0.out | apply IsS105.alloc | apply IsS105.drewN | apply IsS105.drew | apply IsS105.set_1)) (by (with_reducible repeat (first | apply Kd.R_alloc | apply Kd.R_drewN | apply Kd.R_drew)); exact HO308.out) (by decide)) hk (fun _ h => h.2)) (fun _ h => h.1)); have n1_ := Aside0.mk (KeepBut.trans (by repeat (with_reducible first | exact HK.out | apply KeepBut.set_ | apply keep_drewN | apply keep_drew | apply keep_alloc)) hk (.inl rfl)); have n2_ := Aside0.mk (hb); have n3_ := Aside0.mk (hi); clear HO308; clear HK; clear HB; clear HI0; have HO308 := n0_; have HK := n1_; have HB := n2_; have HI0 := n3_; clear n0_ n1_ n2_ n3_; (try clear hb); (try clear hb2); (try clear hk); (try clear hi); obtain ⟨Ao16, co16, eo16⟩ := Kd.R_slice HO308.out; subst eo16; have q17 : (1 : Int) ≤ ((t306.length : Int) : Int) := of_decide_eq_true (by with_reducible assumption); obtain ⟨i017, hi017, _, hsz17, _⟩ := info_parts info3; have hcut17 := cut_from (P := Tryd.prog) 23 3 .i64 Tryd.underlying23 hi017 1 hsz17 Ao16 t306.length co16 1 (by omega) q17; have hr17 := Kd.Q_drop (k := (1 : Int).toNat) (Kd.Q_of_R HO308.out) (by omega); obtain ⟨A17, hA17⟩ : ∃ A1, A1 = (if co16 = (1 : Int).toNat then Ao16 else (Ao16 : Option Addr).map (·.add ((1 : Int).toNat * 1))) := ⟨_, rfl⟩; obtain ⟨c17, hc17⟩ : ∃ c1, c1 = co16 - (1 : Int).toNat := ⟨_, rfl⟩; have hy17 : y314.length = t306.length - (1 : Int).toNat := (by rw [Ny314.out, List.length_drop]); rw [← Ny314.out] at hr17; rw [← hy17, ← hA17, ← hc17] at hcut17; replace hr17 : Kd.Q (Kd.int .i64) 3 w15 w.heap.size (fun _ => True) (.slice A17 y314.length c17) y314 := (by rw [hA17, hc17, hy17]; exact hr17); have HE17 : Aside0 ((Value.slice A17 y314.length c17).ownBlock = (.slice Ao16 t306.length co16 : Value).ownBlock) := ⟨by rw [hA17]; split <;> (cases (Ao16 : Option Addr) <;> rfl)⟩; clear hy17 hi017 hsz17 HO308 hA17 hc17; have HO316 := Aside0.mk hr17; clear hr17; replace q17 := eq_true q17))
     go_ret
     exact ⟨_, by first | rfl | (simp [errW_none, errW_some] <;> rfl) | (simp [*, errW_none, errW_some] <;> rfl), by (with_reducible repeat (first | apply Kd.Q_alloc | apply Kd.Q_drewN | apply Kd.Q_drew)); exact HO316.out, by repeat (with_reducible first | exact HI0.out | apply IsS105.alloc | apply IsS105.drewN | apply IsS105.drew | apply IsS105.set_1), by repeat (with_reducible first | exact HB.out | apply below_alloc | apply pw_below_drewN | apply below_drew1 | refine below_set ?_ (IsS105.ge HI0.out)), by repeat (with_reducible first | exact HK.out | apply KeepBut.set_ | apply keep_drewN | apply keep_drew | apply keep_alloc)⟩
    ·rw [if_neg c13] at H
     exact absurd H (by simp)
   ·rw [if_neg c12] at H
    have c12b0 : decide (0 < (t306.length : Int)) = false := decide_eq_false c12
    have c12b1 : decide (0 < t306.length) = false := decide_eq_false (by omega)
    clear c12
    simp only [Option.some.injEq, Prod.mk.injEq] at H
    obtain ⟨rfl, rfl⟩ := H
    go_enter Tryd.func61, Tryd.ntmps61
    go_wp2_with (first | ((with_reducible refine gate_callee (f := 71) rfl ?_); refine goesL_ (some 9) rfl rfl Tryd.func71 (by kernel_rfl) rfl #[.slice A1 l1.length c1] rfl (by (try simp only [List.map_toArray, List.map_cons, List.map_nil]); first | done | rfl | (simp only [List.length_drop, List.length_take]; rfl)) ?_; (with_reducible refine (spec_copyInts.calls _ _ l1 t306 _ ?side1 ?side2 A4.out).mono ?_); (case side1 => exact Kd.C_keep 0 HR1.out (by repeat (with_reducible first | exact HK.out | apply KeepBut.set_ | apply keep_drewN | apply keep_drew | apply keep_alloc)) hf1); (case side2 => exact HC1.out); rintro e w18 ⟨v307, rfl, ho0, hb⟩; refine ⟨_, rfl, ?_⟩; have n0_ := Aside0.mk (Kd.R_lower ho0 (keep_size (w := w) (g := g) (row := none) (by repeat (with_reducible first | exact HK.out | apply KeepBut.set_ | apply keep_drewN | apply keep_drew | apply keep_alloc)))); have n1_ := Aside0.mk (IsS105.below (by repeat (with_reducible first | exact HI0.out | apply IsS105.alloc | apply IsS105.drewN | apply IsS105.drew | apply IsS105.set_1)) hb); have n2_ := Aside0.mk (KeepBut.trans (by repeat (with_reducible first | exact HK.out | apply KeepBut.set_ | apply keep_drewN | apply keep_drew | apply keep_alloc)) (KeepBut.of_below hb g none) (.inl rfl)); have n3_ := Aside0.mk (below_step (by repeat (with_reducible first | exact HB.out | apply below_alloc | apply pw_below_drewN | apply below_drew1 | refine below_set ?_ (IsS105.ge HI0.out))) hb); clear HI0; clear HK; clear HB; have HO308 := n0_; have HI0 := n1_; have HK := n2_; have HB := n3_; clear n0_ n1_ n2_ n3_; (try clear hb); (try clear hb2); (try clear hk); (try clear hi); (try clear ho0)) | ((with_reducible refine gate_callee (f := 60) rfl ?_); refine goesL_ (some 11) rfl rfl Tryd.func60 (by kernel_rfl) rfl #[.pointer (some ⟨g, 0, none⟩), .int .i64 20] rfl (by (try simp only [List.map_toArray, List.map_cons, List.map_nil]); first | done | rfl | (simp only [List.length_drop, List.length_take]; rfl)) ?_; (with_reducible refine (spec_reader_pick.calls k g s0_0 s0_1 20 t309 t310 w0 _ ?side1 ?side2 A5.out).mono ?_); (case side1 => repeat (with_reducible first | exact HI0.out | apply IsS105.alloc | apply IsS105.drewN | apply IsS105.drew | apply IsS105.set_1)); (case side2 => repeat (with_reducible first | exact HB.out | apply below_alloc | apply pw_below_drewN | apply below_drew1 | refine below_set ?_ (IsS105.ge HI0.out))); rintro e w19 ⟨rfl, hi, hb, hk⟩; refine ⟨_, rfl, ?_⟩; have n0_ := Aside0.mk (Kd.R_mono (Kd.R_keep (IsS105.apart (show IsS105 w0 _ g s0_0 s0_1 from by repeat (with_reducible first | exact HI0.out | apply IsS105.alloc | apply IsS105.drewN | apply IsS105.drew | apply IsS105.set_1)) (by (with_reducible repeat (first | apply Kd.R_alloc | apply Kd.R_drewN | apply Kd.R_drew)); exact HO308.out) (by decide)) hk (fun _ h => h.2)) (fun _ h => h.1)); have n1_ := Aside0.mk (KeepBut.trans (by repeat (with_reducible first | exact HK.out | apply KeepBut.set_ | apply keep_drewN | apply keep_drew | apply keep_alloc)) hk (.inl rfl)); have n2_ := Aside0.mk (hb); have n3_ := Aside0.mk (hi); clear HO308; clear HK; clear HB; clear HI0; have HO308 := n0_; have HK := n1_; have HB := n2_; have HI0 := n3_; clear n0_ n1_ n2_ n3_; (try clear hb); (try clear hb2); (try clear hk); (try clear hi); obtain ⟨Ao20, co20, eo20⟩ := Kd.R_slice HO308.out; subst eo20))
    go_ret
    exact ⟨_, by first | rfl | (simp [errW_none, errW_some] <;> rfl) | (simp [*, errW_none, errW_some] <;> rfl), Kd.Q_of_R (by (with_reducible repeat (first | apply Kd.R_alloc | apply Kd.R_drewN | apply Kd.R_drew)); exact HO308.out), by repeat (with_reducible first | exact HI0.out | apply IsS105.alloc | apply IsS105.drewN | apply IsS105.drew | apply IsS105.set_1), by repeat (with_reducible first | exact HB.out | apply below_alloc | apply pw_below_drewN | apply below_drew1 | refine below_set ?_ (IsS105.ge HI0.out)), by repeat (with_reducible first | exact HK.out | apply KeepBut.set_ | apply keep_drewN | apply keep_drew | apply keep_alloc)⟩
  ·rw [if_neg c11] at H
   have c11b0 : (t309 == 1) = false := beq_eq_false_iff_ne.mpr c11
   have c11b1 : (t309 != 1) = true := bne_iff_ne.mpr c11
   by_cases c21 : t309 = 2
   ·rw [if_pos c21] at H
    have c21b0 : (t309 == 2) = true := beq_iff_eq.mpr c21
    have c21b1 : (t309 != 2) = false := bne_eq_false_iff_eq.mpr c21
    clear c21
    by_cases c22 : (t306.length : Int) > 0
    ·rw [if_pos c22] at H
     have c22b0 : decide (0 < (t306.length : Int)) = true := decide_eq_true c22
     have c22b1 : decide (0 < t306.length) = true := decide_eq_true (by omega)
     clear c22
     replace H := Option.bind_eq_some_iff.mp H
     obtain ⟨⟨t317, t318⟩, A230, H⟩ := H
     replace H : ((spec_reader_one.f k s0_0 t318 (([(-1), a2, 0, 1] : List Int))).bind fun bt322 => (if 0 ≤ t317 then (if t317 < (t306.length : Int) then (some ((t306.set (t317 : Int).toNat bt322.1), bt322.2)) else (none)) else (none))) = some (r1, r2) := H
     have A23 := Aside0.mk A230
     clear A230
     obtain ⟨y319, hy319⟩ : ∃ y_ : List Int, y_ = (([(-1), a2, 0, 1] : List Int)) := ⟨_, rfl⟩
     replace H : ((spec_reader_one.f k s0_0 t318 y319).bind fun bt322 => (if 0 ≤ t317 then (if t317 < (t306.length : Int) then (some ((t306.set (t317 : Int).toNat bt322.1), bt322.2)) else (none)) else (none))) = some (r1, r2) := by first | (rw [hy319]; with_reducible exact H) | (have H2_ := (Option.bind_some _ _).symm.trans H; rw [hy319]; with_reducible exact H2_) | (have H2_ := (Option.bind_some _ _).symm.trans H; with_reducible exact H2_) | with_reducible exact H | (rw [hy319]; exact H) | exact H
     have Ny319 := Aside0.mk hy319
     clear hy319
     replace H := Option.bind_eq_some_iff.mp H
     obtain ⟨⟨t322, t323⟩, A240, H⟩ := H
     replace H : (if 0 ≤ t317 then (if t317 < (t306.length : Int) then (some ((t306.set (t317 : Int).toNat t322), t323)) else (none)) else (none)) = some (r1, r2) := H
     have A24 := Aside0.mk A240
     clear A240
     by_cases c25 : 0 ≤ t317
     ·rw [if_pos c25] at H
      have c25b0 : decide (0 ≤ t317) = true := decide_eq_true c25
      clear c25
      by_cases c26 : t317 < (t306.length : Int)
      ·rw [if_pos c26] at H
       have c26b0 : decide (t317 < (t306.length : Int)) = true := decide_eq_true c26
       clear c26
       obtain ⟨y324, hy324⟩ : ∃ y_ : List Int, y_ = (t306.set (t317 : Int).toNat t322) := ⟨_, rfl⟩
       replace H : (some (y324, t323)) = some (r1, r2) := by first | (rw [hy324]; with_reducible exact H) | (have H2_ := (Option.bind_some _ _).symm.trans H; rw [hy324]; with_reducible exact H2_) | (have H2_ := (Option.bind_some _ _).symm.trans H; with_reducible exact H2_) | with_reducible exact H | (rw [hy324]; exact H) | exact H
       have Ny324 := Aside0.mk hy324
       clear hy324
       simp only [Option.some.injEq, Prod.mk.injEq] at H
       obtain ⟨rfl, rfl⟩ := H
       go_enter Tryd.func61, Tryd.ntmps61
       go_wp2_with (first | ((with_reducible refine gate_callee (f := 71) rfl ?_); refine goesL_ (some 9) rfl rfl Tryd.func71 (by kernel_rfl) rfl #[.slice A1 l1.length c1] rfl (by (try simp only [List.map_toArray, List.map_cons, List.map_nil]); first | done | rfl | (simp only [List.length_drop, List.length_take]; rfl)) ?_; (with_reducible refine (spec_copyInts.calls _ _ l1 t306 _ ?side1 ?side2 A4.out).mono ?_); (case side1 => exact Kd.C_keep 0 HR1.out (by repeat (with_reducible first | exact HK.out | apply KeepBut.set_ | apply keep_drewN | apply keep_drew | apply keep_alloc)) hf1); (case side2 => exact HC1.out); rintro e w28 ⟨v307, rfl, ho0, hb⟩; refine ⟨_, rfl, ?_⟩; have n0_ := Aside0.mk (Kd.R_lower ho0 (keep_size (w := w) (g := g) (row := none) (by repeat (with_reducible first | exact HK.out | apply KeepBut.set_ | apply keep_drewN | apply keep_drew | apply keep_alloc)))); have n1_ := Aside0.mk (IsS105.below (by repeat (with_reducible first | exact HI0.out | apply IsS105.alloc | apply IsS105.drewN | apply IsS105.drew | apply IsS105.set_1)) hb); have n2_ := Aside0.mk (KeepBut.trans (by repeat (with_reducible first | exact HK.out | apply KeepBut.set_ | apply keep_drewN | apply keep_drew | apply keep_alloc)) (KeepBut.of_below hb g none) (.inl rfl)); have n3_ := Aside0.mk (below_step (by repeat (with_reducible first | exact HB.out | apply below_alloc | apply pw_below_drewN | apply below_drew1 | refine below_set ?_ (IsS105.ge HI0.out))) hb); clear HI0; clear HK; clear HB; have HO308 := n0_; have HI0 := n1_; have HK := n2_; have HB := n3_; clear n0_ n1_ n2_ n3_; (try clear hb); (try clear hb2); (try clear hk); (try clear hi); (try clear ho0)) | ((with_reducible refine gate_callee (f := 60) rfl ?_); refine goesL_ (some 11) rfl rfl Tryd.func60 (by kernel_rfl) rfl #[.pointer (some ⟨g, 0, none⟩), .int .i64 20] rfl (by (try simp only [List.map_toArray, List.map_cons, List.map_nil]); first | done | rfl | (simp only [List.length_drop, List.length_take]; rfl)) ?_; (with_reducible refine (spec_reader_pick.calls k g s0_0 s0_1 20 t309 t310 w0 _ ?side1 ?side2 A5.out).mono ?_); (case side1 => repeat (with_reducible first | exact HI0.out | apply IsS105.alloc | apply IsS105.drewN | apply IsS105.drew | apply IsS105.set_1)); (case side2 => repeat (with_reducible first | exact HB.out | apply below_alloc | apply pw_below_drewN | apply below_drew1 | refine below_set ?_ (IsS105.ge HI0.out))); rintro e w29 ⟨rfl, hi, hb, hk⟩; refine ⟨_, rfl, ?_⟩; have n0_ := Aside0.mk (Kd.R_mono (Kd.R_keep (IsS105.apart (show IsS105 w0 _ g s0_0 s0_1 from by repeat (with_reducible first | exact HI0.out | apply IsS105.alloc | apply IsS105.drewN | apply IsS105.drew | apply IsS105.set_1)) (by (with_reducible repeat (first | apply Kd.R_alloc | apply Kd.R_drewN | apply Kd.R_drew)); exact HO308.out) (by decide)) hk (fun _ h => h.2)) (fun _ h => h.1)); have n1_ := Aside0.mk (KeepBut.trans (by repeat (with_reducible first | exact HK.out | apply KeepBut.set_ | apply keep_drewN | apply keep_drew | apply keep_alloc)) hk (.inl rfl)); have n2_ := Aside0.mk (hb); have n3_ := Aside0.mk (hi); clear HO308; clear HK; clear HB; clear HI0; have HO308 := n0_; have HK := n1_; have HB := n2_; have HI0 := n3_; clear n0_ n1_ n2_ n3_; (try clear hb); (try clear hb2); (try clear hk); (try clear hi); obtain ⟨Ao30, co30, eo30⟩ := Kd.R_slice HO308.out; subst eo30) | ((with_reducible refine gate_callee (f := 60) rfl ?_); refine goesL_ (some 34) rfl rfl Tryd.func60 (by kernel_rfl) rfl #[.pointer (some ⟨g, 0, none⟩), .int .i64 (t306.length : Int)] rfl (by (try simp only [List.map_toArray, List.map_cons, List.map_nil]); first | done | rfl | (simp only [List.length_drop, List.length_take]; rfl)) ?_; (with_reducible refine (spec_reader_pick.calls k g s0_0 t310 (t306.length : Int) t317 t318 w0 _ ?side1 ?side2 A23.out).mono ?_); (case side1 => repeat (with_reducible first | exact HI0.out | apply IsS105.alloc | apply IsS105.drewN | apply IsS105.drew | apply IsS105.set_1)); (case side2 => repeat (with_reducible first | exact HB.out | apply below_alloc | apply pw_below_drewN | apply below_drew1 | refine below_set ?_ (IsS105.ge HI0.out))); rintro e w31 ⟨rfl, hi, hb, hk⟩; refine ⟨_, rfl, ?_⟩; have n0_ := Aside0.mk (Kd.R_mono (Kd.R_keep (IsS105.apart (show IsS105 w0 _ g s0_0 t310 from by repeat (with_reducible first | exact HI0.out | apply IsS105.alloc | apply IsS105.drewN | apply IsS105.drew | apply IsS105.set_1)) (by (with_reducible repeat (first | apply Kd.R_alloc | apply Kd.R_drewN | apply Kd.R_drew)); exact HO308.out) (by decide)) hk (fun _ h => h.2)) (fun _ h => h.1)); have n1_ := Aside0.mk (KeepBut.trans (by repeat (with_reducible first | exact HK.out | apply KeepBut.set_ | apply keep_drewN | apply keep_drew | apply keep_alloc)) hk (.inl rfl)); have n2_ := Aside0.mk (hb); have n3_ := Aside0.mk (hi); clear HO308; clear HK; clear HB; clear HI0; have HO308 := n0_; have HK := n1_; have HB := n2_; have HI0 := n3_; clear n0_ n1_ n2_ n3_; (try clear hb); (try clear hb2); (try clear hk); (try clear hi)) | ((with_reducible refine gate_dst (N := 37) rfl ?_); refine Kd.R_lit (Kd.int .i64) _ 3 ?hg (N := 37) ?hd (xs := ([(-1), a2, 0, 1] : List Int)) (inner := [.int .i64 (-1), .int .i64 a2, .int .i64 0, .int .i64 1]) (ok := fun _ => True) (okp := fun _ => True) ?hr ?hp (fun _ hk => hk) trivial (Below.refl _ _) (Nat.le_refl _) (by simp) ?_; (case hd => rfl); (case hg => rfl); (case hr => first | (go_simp; done) | (go_simp; rfl)); (case hp => exact (Reps.one (show Kd.M (Kd.int .i64) _ _ _ (-1) [.int .i64 (-1)] from rfl) (Reps.one (show Kd.M (Kd.int .i64) _ _ _ a2 [.int .i64 a2] from rfl) (Reps.one (show Kd.M (Kd.int .i64) _ _ _ 0 [.int .i64 0] from rfl) (Reps.one (show Kd.M (Kd.int .i64) _ _ _ 1 [.int .i64 1] from rfl) (Reps.none _ _)))))); intro v320 w32 ho33 hb hg_ hnew_; clear hg_ hnew_; (first | rw [← Ny319.out] at ho33 | (simp only [Int.reduceToNat] at ho33; rw [← Ny319.out] at ho33)); have n0_ := Aside0.mk (Kd.R_elder' (by (with_reducible repeat (first | apply Kd.R_alloc | apply Kd.R_drewN | apply Kd.R_drew)); exact HO308.out) (Kd.R_base ho33) hb); have n1_ := Aside0.mk (Kd.R_lower (Kd.R_new' ho33 (Kd.R_lt (by (with_reducible repeat (first | apply Kd.R_alloc | apply Kd.R_drewN | apply Kd.R_drew)); exact HO308.out))) (keep_size (w := w) (g := g) (row := none) (by repeat (with_reducible first | exact HK.out | apply KeepBut.set_ | apply keep_drewN | apply keep_drew | apply keep_alloc)))); have n2_ := Aside0.mk (IsS105.below (by repeat (with_reducible first | exact HI0.out | apply IsS105.alloc | apply IsS105.drewN | apply IsS105.drew | apply IsS105.set_1)) hb); have n3_ := Aside0.mk (KeepBut.trans (by repeat (with_reducible first | exact HK.out | apply KeepBut.set_ | apply keep_drewN | apply keep_drew | apply keep_alloc)) (KeepBut.of_below hb g none) (.inl rfl)); have n4_ := Aside0.mk (below_step (by repeat (with_reducible first | exact HB.out | apply below_alloc | apply pw_below_drewN | apply below_drew1 | refine below_set ?_ (IsS105.ge HI0.out))) hb); clear HO308; clear HI0; clear HK; clear HB; have HO308 := n0_; have HO321 := n1_; have HI0 := n2_; have HK := n3_; have HB := n4_; clear n0_ n1_ n2_ n3_ n4_; clear hb ho33; obtain ⟨Ao34, co34, eo34⟩ := Kd.R_slice HO321.out; subst eo34) | ((with_reducible refine gate_callee (f := 91) rfl ?_); refine goesL_ (some 38) rfl rfl Tryd.func91 (by kernel_rfl) rfl #[.pointer (some ⟨g, 0, none⟩), .slice Ao34 y319.length co34] rfl (by (try simp only [List.map_toArray, List.map_cons, List.map_nil]); first | done | rfl | (simp only [List.length_drop, List.length_take]; rfl)) ?_; (with_reducible refine (spec_reader_one.calls k g s0_0 t318 _ _ y319 t322 t323 w0 _ ?side1 ?side2 ?side3 ?side4 ?side5 A24.out).mono ?_); (case side1 => repeat (with_reducible first | exact HI0.out | apply IsS105.alloc | apply IsS105.drewN | apply IsS105.drew | apply IsS105.set_1)); (case side2 => repeat (with_reducible first | exact HB.out | apply below_alloc | apply pw_below_drewN | apply below_drew1 | refine below_set ?_ (IsS105.ge HI0.out))); (case side3 => repeat (first | exact (Kd.R_reads' HO321.out).2.2 | (with_reducible refine Kd.C_alloc ?_ _) | (with_reducible refine Kd.C_drewN ?_ _) | (with_reducible refine Kd.C_drew ?_))); (case side4 => exact (Kd.R_reads' HO321.out).2.1); (case side5 => exact far_slice (IsS105.own_ne HI0.out HO321.out (by decide))); rintro e w35 ⟨rfl, hi, hb, hk⟩; refine ⟨_, rfl, ?_⟩; have n0_ := Aside0.mk (Kd.R_mono (Kd.R_keep (IsS105.apart (show IsS105 w0 _ g s0_0 t318 from by repeat (with_reducible first | exact HI0.out | apply IsS105.alloc | apply IsS105.drewN | apply IsS105.drew | apply IsS105.set_1)) (by (with_reducible repeat (first | apply Kd.R_alloc | apply Kd.R_drewN | apply Kd.R_drew)); exact HO308.out) (by decide)) hk (fun _ h => h.2)) (fun _ h => h.1)); have n1_ := Aside0.mk (Kd.R_mono (Kd.R_keep (IsS105.apart (show IsS105 w0 _ g s0_0 t318 from by repeat (with_reducible first | exact HI0.out | apply IsS105.alloc | apply IsS105.drewN | apply IsS105.drew | apply IsS105.set_1)) (by (with_reducible repeat (first | apply Kd.R_alloc | apply Kd.R_drewN | apply Kd.R_drew)); exact HO321.out) (by decide)) hk (fun _ h => h.2)) (fun _ h => h.1)); have n2_ := Aside0.mk (KeepBut.trans (by repeat (with_reducible first | exact HK.out | apply KeepBut.set_ | apply keep_drewN | apply keep_drew | apply keep_alloc)) hk (.inl rfl)); have n3_ := Aside0.mk (hb); have n4_ := Aside0.mk (hi); clear HO308; clear HO321; clear HK; clear HB; clear HI0; have HO308 := n0_; have HO321 := n1_; have HK := n2_; have HB := n3_; have HI0 := n4_; clear n0_ n1_ n2_ n3_ n4_; (try clear hb); (try clear hb2); (try clear hk); (try clear hi); have p27 : 0 ≤ (t317 : Int) := of_decide_eq_true (by with_reducible assumption); have q27 : (t317 : Int) < ((t306.length : Int) : Int) := of_decide_eq_true (by with_reducible assumption); obtain ⟨go27, co27, eo27, gb27, gl27, cl27, HG27⟩ := Kd.R_form HO308.out (by omega); (first | cases eo27 | (injection eo27 with ea_ en_ ec_; (first | subst ea_ | (injection ea_ with ea_; subst ea_)); subst ec_; clear en_)); have GB27 := Aside0.mk gb27; have GG27 := Aside0.mk HG27; clear gb27 gl27 HG27; obtain ⟨hx27_0, hf27_0⟩ := Kd.R_celln 0 HO308.out (t317 : Int) p27 q27; replace p27 := eq_true p27; replace q27 := eq_true q27; have n_ := Aside0.mk (Kd.R_mono (ok' := (fun k_ => some k_ ≠ (.slice Ao34 y319.length co34 : Value).ownBlock)) HO308.out (fun k_ hk => hk.2)); clear HO308; have HO308 := n_; clear n_; obtain ⟨hy36_, hz36_⟩ := Kd.R_celln 0 HO308.out (t317 : Int) (of_decide_eq_true (by with_reducible assumption)) (of_decide_eq_true (by with_reducible assumption)); have HP36 := Kd.R_putg HO308.out (t317 : Int) t322) | ((with_reducible refine gate_store (t := 3) (p := 39) rfl ?_); refine store_event (t := 3) (p := 39) (v := ?vo_w37) (w1 := (w35.setCell ⟨go27, (t317 : Int).toNat, none⟩ (.int .i64 t322))) ?hg ?ho ?hn ?hr ?_; (case ho => rfl); (case hg => rfl); (case hn => rfl); (case hr => first | (go_simp; done) | (go_simp; rfl)); intro w37 hw; have hg : w35.grownBy w37 (some go27) := (by rw [hw]; exact HP36.2); have hp_ : Kd.R (Kd.int .i64) 3 w37 w.heap.size (fun k_ => some k_ ≠ (.slice Ao34 y319.length co34 : Value).ownBlock) (.slice (some ⟨go27, 0, none⟩) t306.length co30) y324 := (by rw [hw, Ny324.out]; exact HP36.1); clear HP36; have n0_ := Aside0.mk (IsS105.grown (by repeat (with_reducible first | exact HI0.out | apply IsS105.alloc | apply IsS105.drewN | apply IsS105.drew | apply IsS105.set_1)) hg (IsS105.own_ne HI0.out HO308.out (by decide))); have n1_ := Aside0.mk (hp_); have n2_ := Aside0.mk (Kd.R_after (v := (.slice (some ⟨go27, 0, none⟩) t306.length co30)) (v1 := (.slice (some ⟨go27, 0, none⟩) t306.length co30)) (ok := (fun _ => True)) (by (with_reducible repeat (first | apply Kd.R_alloc | apply Kd.R_drewN | apply Kd.R_drew)); exact HO321.out) hg (.inl rfl)); have n3_ := Aside0.mk ((by rw [hw]; exact below_set (HB.out) (Nat.le_trans HL.out GB27.out) : Below w0.heap.size w0 w37)); have n4_ := Aside0.mk (KeepBut.trans (by repeat (with_reducible first | exact HK.out | apply KeepBut.set_ | apply keep_drewN | apply keep_drew | apply keep_alloc)) (KeepBut.of_grown hg g) (Kd.R_base2 HO308.out)); clear HI0; clear HO308; clear HO321; clear HB; clear HK; have HI0 := n0_; have HO308 := n1_; have HO321 := n2_; have HB := n3_; have HK := n4_; clear n0_ n1_ n2_ n3_ n4_; clear hg hw hp_))
       go_ret
       exact ⟨_, by first | rfl | (simp [errW_none, errW_some] <;> rfl) | (simp [*, errW_none, errW_some] <;> rfl), Kd.Q_of_R (by (with_reducible repeat (first | apply Kd.R_alloc | apply Kd.R_drewN | apply Kd.R_drew)); exact Kd.R_mono HO308.out (fun _ hk => trivial)), by repeat (with_reducible first | exact HI0.out | apply IsS105.alloc | apply IsS105.drewN | apply IsS105.drew | apply IsS105.set_1), by repeat (with_reducible first | exact HB.out | apply below_alloc | apply pw_below_drewN | apply below_drew1 | refine below_set ?_ (IsS105.ge HI0.out)), by repeat (with_reducible first | exact HK.out | apply KeepBut.set_ | apply keep_drewN | apply keep_drew | apply keep_alloc)⟩
      ·rw [if_neg c26] at H
       exact absurd H (by simp)
     ·rw [if_neg c25] at H
      exact absurd H (by simp)
    ·rw [if_neg c22] at H
     have c22b0 : decide (0 < (t306.length : Int)) = false := decide_eq_false c22
     have c22b1 : decide (0 < t306.length) = false := decide_eq_false (by omega)
     clear c22
     simp only [Option.some.injEq, Prod.mk.injEq] at H
     obtain ⟨rfl, rfl⟩ := H
     go_enter Tryd.func61, Tryd.ntmps61
     go_wp2_with (first | ((with_reducible refine gate_callee (f := 71) rfl ?_); refine goesL_ (some 9) rfl rfl Tryd.func71 (by kernel_rfl) rfl #[.slice A1 l1.length c1] rfl (by (try simp only [List.map_toArray, List.map_cons, List.map_nil]); first | done | rfl | (simp only [List.length_drop, List.length_take]; rfl)) ?_; (with_reducible refine (spec_copyInts.calls _ _ l1 t306 _ ?side1 ?side2 A4.out).mono ?_); (case side1 => exact Kd.C_keep 0 HR1.out (by repeat (with_reducible first | exact HK.out | apply KeepBut.set_ | apply keep_drewN | apply keep_drew | apply keep_alloc)) hf1); (case side2 => exact HC1.out); rintro e w38 ⟨v307, rfl, ho0, hb⟩; refine ⟨_, rfl, ?_⟩; have n0_ := Aside0.mk (Kd.R_lower ho0 (keep_size (w := w) (g := g) (row := none) (by repeat (with_reducible first | exact HK.out | apply KeepBut.set_ | apply keep_drewN | apply keep_drew | apply keep_alloc)))); have n1_ := Aside0.mk (IsS105.below (by repeat (with_reducible first | exact HI0.out | apply IsS105.alloc | apply IsS105.drewN | apply IsS105.drew | apply IsS105.set_1)) hb); have n2_ := Aside0.mk (KeepBut.trans (by repeat (with_reducible first | exact HK.out | apply KeepBut.set_ | apply keep_drewN | apply keep_drew | apply keep_alloc)) (KeepBut.of_below hb g none) (.inl rfl)); have n3_ := Aside0.mk (below_step (by repeat (with_reducible first | exact HB.out | apply below_alloc | apply pw_below_drewN | apply below_drew1 | refine below_set ?_ (IsS105.ge HI0.out))) hb); clear HI0; clear HK; clear HB; have HO308 := n0_; have HI0 := n1_; have HK := n2_; have HB := n3_; clear n0_ n1_ n2_ n3_; (try clear hb); (try clear hb2); (try clear hk); (try clear hi); (try clear ho0)) | ((with_reducible refine gate_callee (f := 60) rfl ?_); refine goesL_ (some 11) rfl rfl Tryd.func60 (by kernel_rfl) rfl #[.pointer (some ⟨g, 0, none⟩), .int .i64 20] rfl (by (try simp only [List.map_toArray, List.map_cons, List.map_nil]); first | done | rfl | (simp only [List.length_drop, List.length_take]; rfl)) ?_; (with_reducible refine (spec_reader_pick.calls k g s0_0 s0_1 20 t309 t310 w0 _ ?side1 ?side2 A5.out).mono ?_); (case side1 => repeat (with_reducible first | exact HI0.out | apply IsS105.alloc | apply IsS105.drewN | apply IsS105.drew | apply IsS105.set_1)); (case side2 => repeat (with_reducible first | exact HB.out | apply below_alloc | apply pw_below_drewN | apply below_drew1 | refine below_set ?_ (IsS105.ge HI0.out))); rintro e w39 ⟨rfl, hi, hb, hk⟩; refine ⟨_, rfl, ?_⟩; have n0_ := Aside0.mk (Kd.R_mono (Kd.R_keep (IsS105.apart (show IsS105 w0 _ g s0_0 s0_1 from by repeat (with_reducible first | exact HI0.out | apply IsS105.alloc | apply IsS105.drewN | apply IsS105.drew | apply IsS105.set_1)) (by (with_reducible repeat (first | apply Kd.R_alloc | apply Kd.R_drewN | apply Kd.R_drew)); exact HO308.out) (by decide)) hk (fun _ h => h.2)) (fun _ h => h.1)); have n1_ := Aside0.mk (KeepBut.trans (by repeat (with_reducible first | exact HK.out | apply KeepBut.set_ | apply keep_drewN | apply keep_drew | apply keep_alloc)) hk (.inl rfl)); have n2_ := Aside0.mk (hb); have n3_ := Aside0.mk (hi); clear HO308; clear HK; clear HB; clear HI0; have HO308 := n0_; have HK := n1_; have HB := n2_; have HI0 := n3_; clear n0_ n1_ n2_ n3_; (try clear hb); (try clear hb2); (try clear hk); (try clear hi); obtain ⟨Ao40, co40, eo40⟩ := Kd.R_slice HO308.out; subst eo40))
     go_ret
     exact ⟨_, by first | rfl | (simp [errW_none, errW_some] <;> rfl) | (simp [*, errW_none, errW_some] <;> rfl), Kd.Q_of_R (by (with_reducible repeat (first | apply Kd.R_alloc | apply Kd.R_drewN | apply Kd.R_drew)); exact HO308.out), by repeat (with_reducible first | exact HI0.out | apply IsS105.alloc | apply IsS105.drewN | apply IsS105.drew | apply IsS105.set_1), by repeat (with_reducible first | exact HB.out | apply below_alloc | apply pw_below_drewN | apply below_drew1 | refine below_set ?_ (IsS105.ge HI0.out)), by repeat (with_reducible first | exact HK.out | apply KeepBut.set_ | apply keep_drewN | apply keep_drew | apply keep_alloc)⟩
   ·rw [if_neg c21] at H
    have c21b0 : (t309 == 2) = false := beq_eq_false_iff_ne.mpr c21
    have c21b1 : (t309 != 2) = true := bne_iff_ne.mpr c21
    simp only [Option.some.injEq, Prod.mk.injEq] at H
    obtain ⟨rfl, rfl⟩ := H
    go_enter Tryd.func61, Tryd.ntmps61
    go_wp2_with (first | ((with_reducible refine gate_callee (f := 71) rfl ?_); refine goesL_ (some 9) rfl rfl Tryd.func71 (by kernel_rfl) rfl #[.slice A1 l1.length c1] rfl (by (try simp only [List.map_toArray, List.map_cons, List.map_nil]); first | done | rfl | (simp only [List.length_drop, List.length_take]; rfl)) ?_; (with_reducible refine (spec_copyInts.calls _ _ l1 t306 _ ?side1 ?side2 A4.out).mono ?_); (case side1 => exact Kd.C_keep 0 HR1.out (by repeat (with_reducible first | exact HK.out | apply KeepBut.set_ | apply keep_drewN | apply keep_drew | apply keep_alloc)) hf1); (case side2 => exact HC1.out); rintro e w41 ⟨v307, rfl, ho0, hb⟩; refine ⟨_, rfl, ?_⟩; have n0_ := Aside0.mk (Kd.R_lower ho0 (keep_size (w := w) (g := g) (row := none) (by repeat (with_reducible first | exact HK.out | apply KeepBut.set_ | apply keep_drewN | apply keep_drew | apply keep_alloc)))); have n1_ := Aside0.mk (IsS105.below (by repeat (with_reducible first | exact HI0.out | apply IsS105.alloc | apply IsS105.drewN | apply IsS105.drew | apply IsS105.set_1)) hb); have n2_ := Aside0.mk (KeepBut.trans (by repeat (with_reducible first | exact HK.out | apply KeepBut.set_ | apply keep_drewN | apply keep_drew | apply keep_alloc)) (KeepBut.of_below hb g none) (.inl rfl)); have n3_ := Aside0.mk (below_step (by repeat (with_reducible first | exact HB.out | apply below_alloc | apply pw_below_drewN | apply below_drew1 | refine below_set ?_ (IsS105.ge HI0.out))) hb); clear HI0; clear HK; clear HB; have HO308 := n0_; have HI0 := n1_; have HK := n2_; have HB := n3_; clear n0_ n1_ n2_ n3_; (try clear hb); (try clear hb2); (try clear hk); (try clear hi); (try clear ho0)) | ((with_reducible refine gate_callee (f := 60) rfl ?_); refine goesL_ (some 11) rfl rfl Tryd.func60 (by kernel_rfl) rfl #[.pointer (some ⟨g, 0, none⟩), .int .i64 20] rfl (by (try simp only [List.map_toArray, List.map_cons, List.map_nil]); first | done | rfl | (simp only [List.length_drop, List.length_take]; rfl)) ?_; (with_reducible refine (spec_reader_pick.calls k g s0_0 s0_1 20 t309 t310 w0 _ ?side1 ?side2 A5.out).mono ?_); (case side1 => repeat (with_reducible first | exact HI0.out | apply IsS105.alloc | apply IsS105.drewN | apply IsS105.drew | apply IsS105.set_1)); (case side2 => repeat (with_reducible first | exact HB.out | apply below_alloc | apply pw_below_drewN | apply below_drew1 | refine below_set ?_ (IsS105.ge HI0.out))); rintro e w42 ⟨rfl, hi, hb, hk⟩; refine ⟨_, rfl, ?_⟩; have n0_ := Aside0.mk (Kd.R_mono (Kd.R_keep (IsS105.apart (show IsS105 w0 _ g s0_0 s0_1 from by repeat (with_reducible first | exact HI0.out | apply IsS105.alloc | apply IsS105.drewN | apply IsS105.drew | apply IsS105.set_1)) (by (with_reducible repeat (first | apply Kd.R_alloc | apply Kd.R_drewN | apply Kd.R_drew)); exact HO308.out) (by decide)) hk (fun _ h => h.2)) (fun _ h => h.1)); have n1_ := Aside0.mk (KeepBut.trans (by repeat (with_reducible first | exact HK.out | apply KeepBut.set_ | apply keep_drewN | apply keep_drew | apply keep_alloc)) hk (.inl rfl)); have n2_ := Aside0.mk (hb); have n3_ := Aside0.mk (hi); clear HO308; clear HK; clear HB; clear HI0; have HO308 := n0_; have HK := n1_; have HB := n2_; have HI0 := n3_; clear n0_ n1_ n2_ n3_; (try clear hb); (try clear hb2); (try clear hk); (try clear hi)))
    go_ret
    exact ⟨_, by first | rfl | (simp [errW_none, errW_some] <;> rfl) | (simp [*, errW_none, errW_some] <;> rfl), Kd.Q_of_R (by (with_reducible repeat (first | apply Kd.R_alloc | apply Kd.R_drewN | apply Kd.R_drew)); exact HO308.out), by repeat (with_reducible first | exact HI0.out | apply IsS105.alloc | apply IsS105.drewN | apply IsS105.drew | apply IsS105.set_1), by repeat (with_reducible first | exact HB.out | apply below_alloc | apply pw_below_drewN | apply below_drew1 | refine below_set ?_ (IsS105.ge HI0.out)), by repeat (with_reducible first | exact HK.out | apply KeepBut.set_ | apply keep_drewN | apply keep_drew | apply keep_alloc)⟩
end Go.Proofs.YtdmeiiedbhfniaaDoor.P
end
section
namespace Go.Proofs.YtdmeiiedbhfniaaDoor.P
open Go.RowKit YtdmeiiedbhfniaaDoorW.PrintWords YtdmeiiedbhfniaaDoorW.PrintLast YtdmeiiedbhfniaaDoorW.PrintMore
mutual
def spec_turned.l0 : Nat → List (S38) → List (S38) → Int → Int → Option ((List (S38)))
 | 0, _, _, _, _ => none
 | k + 1, x0, x3, x4, x5 => if x5 ≥ 0 then (if 0 ≤ x5 then (if x5 < (x0.length : Int) then (spec_turned.l1 k x0 x3 x4 x5 (([] : List Int)) (wrap64 ((((rd_T38 x0 x5).f1).length : Int) - 1)) ((rd_T38 x0 x5).f0) ((rd_T38 x0 x5).f1) ((rd_T38 x0 x5).f2) ((rd_T38 x0 x5).f3)) else (none)) else (none)) else (some x3)
def spec_turned.l1 : Nat → List (S38) → List (S38) → Int → Int → List Int → Int → Int → List Int → Int → Int → Option ((List (S38)))
 | 0, _, _, _, _, _, _, _, _, _, _ => none
 | k + 1, x0, x3, x4, x5, x7, x8, x330000, x330001, x330002, x330003 => if x8 ≥ 0 then (if 0 ≤ x8 then (if x8 < (x330001.length : Int) then (if x7.length < 17592186044416 then (spec_turned.l1 k x0 x3 x4 x5 (x7 ++ [wrap64 (x4 - (rd x330001 x8))]) (wrap64 (x8 - 1)) x330000 x330001 x330002 x330003) else (none)) else (none)) else (none)) else (if x3.length < 2932031007402 then (spec_turned.l0 k x0 (x3 ++ [(⟨x330000, x7, x330002, x330003⟩ : S38)]) x4 (wrap64 (x5 - 1))) else (none))
end
def spec_turned.f (k : Nat) (l0 : List (S38)) : Option ((List (S38))) := spec_turned.l0 k l0 (([] : List (S38))) (wrap64 ((l0.length : Int) - 1)) (wrap64 ((l0.length : Int) - 1))
set_option maxHeartbeats 8000000 in
set_option maxRecDepth 100000 in
theorem spec_turned.calls (k : Nat) (A0 : Option Addr) (c0 : Nat) (l0 : List (S38)) (r : List (S38)) (w : World) (hr0 : Kd.C k38 w A0 l0.length l0) (hc0 : l0.length ≤ c0) (h : spec_turned.f k l0 = some r) :
  Calls Tryd.prog 117 #[.slice A0 l0.length c0] w fun e w' => ∃ v0_ : Value, e = .returned (v0_) ∧ Kd.S k38 38 w' w.heap.size (fun _ => True) v0_ r ∧ Below w.heap.size w w' := by
 have hu38 := Tryd.underlying38
 have HR0 := Aside0.mk hr0
 have HC0 := Aside0.mk hc0
 clear hr0 hc0
 have HB := Aside0.mk (Below.refl w.heap.size w)
 have H : (spec_turned.l0 k l0 (([] : List (S38))) (wrap64 ((l0.length : Int) - 1)) (wrap64 ((l0.length : Int) - 1))) = some r := h
 clear h
 obtain ⟨y325, hy325⟩ : ∃ y_ : List (S38), y_ = (([] : List (S38))) := ⟨_, rfl⟩
 replace H : (spec_turned.l0 k l0 y325 (wrap64 ((l0.length : Int) - 1)) (wrap64 ((l0.length : Int) - 1))) = some r := by first | (rw [hy325]; with_reducible exact H) | (have H2_ := (Option.bind_some _ _).symm.trans H; rw [hy325]; with_reducible exact H2_) | (have H2_ := (Option.bind_some _ _).symm.trans H; with_reducible exact H2_) | with_reducible exact H | (rw [hy325]; exact H) | exact H
 have Ny325 := Aside0.mk hy325
 clear hy325
 have H' := Aside0.mk H
 clear H
 go_enter Tryd.func117, Tryd.ntmps117
 go_wp2_with (first | ((with_reducible refine gate_dst (N := 9) rfl ?_); refine Kd.S_lit k38 _ 38 ?hg (N := 9) ?hd (xs := ([] : List (S38))) (inner := []) (ok := fun _ => True) (okp := fun _ => True) ?hr ?hp (fun _ hk => hk) trivial (Below.refl _ _) (Nat.le_refl _) (by simp) ?_; (case hd => rfl); (case hg => rfl); (case hr => first | (go_simp; done) | (go_simp; rfl)); (case hp => exact (Reps.none _ _)); intro v326 w2 ho3 hb hg_ hnew_; clear hg_ hnew_; (first | rw [← Ny325.out] at ho3 | (simp only [Int.reduceToNat] at ho3; rw [← Ny325.out] at ho3)); have n0_ := Aside0.mk (Kd.S_lower ho3 (below_size (by repeat (with_reducible first | exact HB.out | apply below_alloc | apply pw_below_drewN | apply below_drew1)))); have n1_ := Aside0.mk (below_step (by repeat (with_reducible first | exact HB.out | apply below_alloc | apply pw_below_drewN | apply below_drew1)) hb); clear HB; have HO327 := n0_; have HB := n1_; clear n0_ n1_; clear hb ho3))
 go_loopg [3, 5] k (fun kq v3 v5 w' => ∃ (x3_1 : List (S38)) (x5_1 : Int), v5 = .int .i64 x5_1 ∧ Aside0 (spec_turned.l0 kq l0 x3_1 (wrap64 ((l0.length : Int) - 1)) x5_1 = some r) ∧ Aside0 (kq ≤ k) ∧ Aside0 (Kd.S k38 38 w' w.heap.size (fun _ => True) v3 x3_1) ∧ Aside0 (Below w.heap.size w w'))
 case atStart => exact ⟨(y325), (wrap64 ((l0.length : Int) - 1)), (by first | rfl | (simp; done) | (simp [*]; done)), H', ⟨Nat.le_refl _⟩, ⟨by (with_reducible repeat (first | apply Kd.S_alloc | apply Kd.S_drewN | apply Kd.S_drew)); exact HO327.out⟩, ⟨by repeat (with_reducible first | exact HB.out | apply below_alloc | apply pw_below_drewN | apply below_drew1)⟩⟩
 case round =>
  clear H'
  try clear c1
  try clear p2
  obtain ⟨x3_1, x5_1, rfl, HA, HK1, HO_3, HB⟩ := hrel
  cases gk with
  | zero => exact absurd HA.out (by simp [spec_turned.l0])
  | succ k1 =>
   have H := HA.out
   clear HA
   simp only [spec_turned.l0] at H
   by_cases c4 : x5_1 ≥ 0
   ·rw [if_pos c4] at H
    have c4b0 : decide (0 ≤ x5_1) = true := decide_eq_true c4
    clear c4
    by_cases c5 : 0 ≤ x5_1
    ·rw [if_pos c5] at H
     have c5b0 : decide (0 ≤ x5_1) = true := decide_eq_true c5
     clear c5
     by_cases c6 : x5_1 < (l0.length : Int)
     ·rw [if_pos c6] at H
      have c6b0 : decide (x5_1 < (l0.length : Int)) = true := decide_eq_true c6
      clear c6
      obtain ⟨y330, hy330⟩ : ∃ y_ : List Int, y_ = (([] : List Int)) := ⟨_, rfl⟩
      replace H : (spec_turned.l1 k1 l0 x3_1 (wrap64 ((l0.length : Int) - 1)) x5_1 y330 (wrap64 ((((rd_T38 l0 x5_1).f1).length : Int) - 1)) ((rd_T38 l0 x5_1).f0) ((rd_T38 l0 x5_1).f1) ((rd_T38 l0 x5_1).f2) ((rd_T38 l0 x5_1).f3)) = some r := by first | (rw [hy330]; with_reducible exact H) | (have H2_ := (Option.bind_some _ _).symm.trans H; rw [hy330]; with_reducible exact H2_) | (have H2_ := (Option.bind_some _ _).symm.trans H; with_reducible exact H2_) | with_reducible exact H | (rw [hy330]; exact H) | exact H
      have Ny330 := Aside0.mk hy330
      clear hy330
      have H' := Aside0.mk H
      clear H
      have p328 : 0 ≤ (x5_1 : Int) := of_decide_eq_true (by with_reducible assumption)
      have q328 : x5_1 < (l0.length : Int) := of_decide_eq_true (by with_reducible assumption)
      obtain ⟨ad328, A328_1, c328_1, e328, hx328_0, hx328_1, hx328_2, hx328_3, hl328_1, hi328_1⟩ := at_T38 HR0.out x5_1 p328 q328
      cases e328
      replace hx328_0 := (HB.out.cell (World.block_lt_of_cell? w _ hx328_0)).trans hx328_0
      replace hx328_1 := (HB.out.cell (World.block_lt_of_cell? w _ hx328_1)).trans hx328_1
      replace hx328_2 := (HB.out.cell (World.block_lt_of_cell? w _ hx328_2)).trans hx328_2
      replace hx328_3 := (HB.out.cell (World.block_lt_of_cell? w _ hx328_3)).trans hx328_3
      have HR328_1 := Aside0.mk hi328_1
      have HC328_1 := Aside0.mk hl328_1
      clear hi328_1 hl328_1
      replace p328 := eq_true p328
      replace q328 := eq_true q328
      go_wp2_with (first | ((with_reducible refine gate_dst (N := 6) rfl ?_); refine box_event ?hg (N := 6) ?hd (cs := #[.int .i64 0, .slice none 0 0, .int .i64 0, .int .i64 0]) (t := 38) ?hr ?_; (case hd => rfl); (case hg => rfl); (case hr => first | (go_simp; done) | (go_simp; rfl)); intro gb329 hg w7 hbox hb; have n0_ := Aside0.mk (Kd.S_below (Kd.S_elderB (by (with_reducible repeat (first | apply Kd.S_alloc | apply Kd.S_drewN | apply Kd.S_drew)); exact HO_3.out) gb329 (Nat.le_of_eq hg.symm)) hb); have n1_ := Aside0.mk (below_step (by repeat (with_reducible first | exact HB.out | apply below_alloc | apply pw_below_drewN | apply below_drew1)) hb); have n2_ := Aside0.mk (hbox); have n3_ := Aside0.mk ((by rw [hg]; exact (below_size (by repeat (with_reducible first | exact HB.out | apply below_alloc | apply pw_below_drewN | apply below_drew1))) : w.heap.size ≤ gb329)); have n4_ := Aside0.mk ((by rw [hg]; exact (below_size (by repeat (with_reducible first | exact HB.out | apply below_alloc | apply pw_below_drewN | apply below_drew1))) : w.heap.size ≤ gb329)); clear HO_3; clear HB; have HO_3 := n0_; have HB := n1_; have BK329 := n2_; have GW329 := n3_; have GE329 := n4_; clear n0_ n1_ n2_ n3_ n4_; clear hb hbox hg; have hcz8_0 : w7.cell? ⟨gb329, 0, none⟩ = some (.int .i64 0) := (blk_cell BK329.out 0).trans rfl; have hcz8_1 : w7.cell? ⟨gb329, 1, none⟩ = some (.slice none 0 0) := (blk_cell BK329.out 1).trans rfl; have hcz8_2 : w7.cell? ⟨gb329, 2, none⟩ = some (.int .i64 0) := (blk_cell BK329.out 2).trans rfl; have hcz8_3 : w7.cell? ⟨gb329, 3, none⟩ = some (.int .i64 0) := (blk_cell BK329.out 3).trans rfl; have hfz8_0 := blk_frozen BK329.out 0; have hfz8_1 := blk_frozen BK329.out 1; have hfz8_2 := blk_frozen BK329.out 2; have hfz8_3 := blk_frozen BK329.out 3) | ((with_reducible refine gate_dst (N := 22) rfl ?_); refine Kd.R_lit (Kd.int .i64) _ 3 ?hg (N := 22) ?hd (xs := ([] : List Int)) (inner := []) (ok := fun _ => True) (okp := fun _ => True) ?hr ?hp (fun _ hk => hk) trivial (Below.refl _ _) (Nat.le_refl _) (by simp) ?_; (case hd => rfl); (case hg => rfl); (case hr => first | (go_simp; done) | (go_simp; rfl)); (case hp => exact (Reps.none _ _)); intro v331 w9 ho10 hb hg_ hnew_; clear hg_ hnew_; (first | rw [← Ny330.out] at ho10 | (simp only [Int.reduceToNat] at ho10; rw [← Ny330.out] at ho10)); have n0_ := Aside0.mk (Kd.S_elder' (by (with_reducible repeat (first | apply Kd.S_alloc | apply Kd.S_drewN | apply Kd.S_drew)); exact (Kd.S_mono (Kd.S_far (p := ⟨gb329, 3, none⟩) (Kd.S_far (p := ⟨gb329, 2, none⟩) (Kd.S_far (p := ⟨gb329, 1, none⟩) (Kd.S_far (p := ⟨gb329, 0, none⟩) (Kd.S_mono HO_3.out (fun k_ hk => (⟨hk, hk.2⟩ : _ ∧ k_ ≠ gb329))) (fun _ hk => hk.2) (.int .i64 ((rd_T38 l0 x5_1).f0))) (fun _ hk => hk.2) (.slice A328_1 ((rd_T38 l0 x5_1).f1).length c328_1)) (fun _ hk => hk.2) (.int .i64 ((rd_T38 l0 x5_1).f2))) (fun _ hk => hk.2) (.int .i64 ((rd_T38 l0 x5_1).f3))) (fun _ h_ => h_.1))) (Kd.R_base ho10) hb); have n1_ := Aside0.mk (Kd.R_lower ho10 (below_size (by repeat (with_reducible first | exact HB.out | apply below_alloc | apply pw_below_drewN | apply below_drew1 | refine below_set ?_ GE329.out)))); have n2_ := Aside0.mk (blk_below (g := gb329) (o := .cells #[.int .i64 ((rd_T38 l0 x5_1).f0), .slice A328_1 ((rd_T38 l0 x5_1).f1).length c328_1, .int .i64 ((rd_T38 l0 x5_1).f2), .int .i64 ((rd_T38 l0 x5_1).f3)] 38 (0, 0)) (by (with_reducible repeat (first | refine blk_drewN ?_ _ | refine blk_drew ?_ | refine blk_alloc ?_ _)); refine blk_put (cs := #[.int .i64 ((rd_T38 l0 x5_1).f0), .slice A328_1 ((rd_T38 l0 x5_1).f1).length c328_1, .int .i64 ((rd_T38 l0 x5_1).f2), .int .i64 0]) ?_ 3 _ rfl; (with_reducible repeat (first | refine blk_drewN ?_ _ | refine blk_drew ?_ | refine blk_alloc ?_ _)); refine blk_put (cs := #[.int .i64 ((rd_T38 l0 x5_1).f0), .slice A328_1 ((rd_T38 l0 x5_1).f1).length c328_1, .int .i64 0, .int .i64 0]) ?_ 2 _ rfl; (with_reducible repeat (first | refine blk_drewN ?_ _ | refine blk_drew ?_ | refine blk_alloc ?_ _)); refine blk_put (cs := #[.int .i64 ((rd_T38 l0 x5_1).f0), .slice none 0 0, .int .i64 0, .int .i64 0]) ?_ 1 _ rfl; (with_reducible repeat (first | refine blk_drewN ?_ _ | refine blk_drew ?_ | refine blk_alloc ?_ _)); refine blk_put (cs := #[.int .i64 0, .slice none 0 0, .int .i64 0, .int .i64 0]) ?_ 0 _ rfl; (with_reducible repeat (first | refine blk_drewN ?_ _ | refine blk_drew ?_ | refine blk_alloc ?_ _)); exact BK329.out) hb); have n3_ := Aside0.mk (below_step (by repeat (with_reducible first | exact HB.out | apply below_alloc | apply pw_below_drewN | apply below_drew1 | refine below_set ?_ GE329.out)) hb); clear HO_3; clear BK329; clear HB; have HO_3 := n0_; have HO332 := n1_; have BK329 := n2_; have HB := n3_; clear n0_ n1_ n2_ n3_; clear hb ho10; have hcz11_0 : w9.cell? ⟨gb329, 0, none⟩ = some (.int .i64 ((rd_T38 l0 x5_1).f0)) := (blk_cell BK329.out 0).trans rfl; have hcz11_1 : w9.cell? ⟨gb329, 1, none⟩ = some (.slice A328_1 ((rd_T38 l0 x5_1).f1).length c328_1) := (blk_cell BK329.out 1).trans rfl; have hcz11_2 : w9.cell? ⟨gb329, 2, none⟩ = some (.int .i64 ((rd_T38 l0 x5_1).f2)) := (blk_cell BK329.out 2).trans rfl; have hcz11_3 : w9.cell? ⟨gb329, 3, none⟩ = some (.int .i64 ((rd_T38 l0 x5_1).f3)) := (blk_cell BK329.out 3).trans rfl; have hfz11_0 := blk_frozen BK329.out 0; have hfz11_1 := blk_frozen BK329.out 1; have hfz11_2 := blk_frozen BK329.out 2; have hfz11_3 := blk_frozen BK329.out 3))
      go_loopg [7, 8] k1 (fun kq v7 v8 w' => ∃ (x7_2 : List Int) (x8_2 : Int), v8 = .int .i64 x8_2 ∧ Aside0 (spec_turned.l1 kq l0 x3_1 (wrap64 ((l0.length : Int) - 1)) x5_1 x7_2 x8_2 ((rd_T38 l0 x5_1).f0) ((rd_T38 l0 x5_1).f1) ((rd_T38 l0 x5_1).f2) ((rd_T38 l0 x5_1).f3) = some r) ∧ Aside0 (kq ≤ k1) ∧ Aside0 (Kd.S k38 38 w' w.heap.size (fun k_ => some k_ ≠ (v7 : Value).ownBlock ∧ k_ ≠ gb329) u3 x3_1) ∧ Aside0 (Kd.R (Kd.int .i64) 3 w' w.heap.size (fun _ => True) v7 x7_2) ∧ Aside0 (w'.heap[gb329]? = some (.cells #[.int .i64 ((rd_T38 l0 x5_1).f0), (.slice A328_1 ((rd_T38 l0 x5_1).f1).length c328_1), .int .i64 ((rd_T38 l0 x5_1).f2), .int .i64 ((rd_T38 l0 x5_1).f3)] 38 (0, 0))) ∧ Aside0 (Below w.heap.size w w'))
      case atStart => exact ⟨(y330), (wrap64 ((((rd_T38 l0 x5_1).f1).length : Int) - 1)), (by first | rfl | (simp; done) | (simp [*]; done)), H', ⟨Nat.le_refl _⟩, ⟨by (with_reducible repeat (first | apply Kd.S_alloc | apply Kd.S_drewN | apply Kd.S_drew)); exact Kd.S_mono HO_3.out (fun _ hk => ⟨hk.2, hk.1.2⟩)⟩, ⟨by (with_reducible repeat (first | apply Kd.R_alloc | apply Kd.R_drewN | apply Kd.R_drew)); exact HO332.out⟩, ⟨by (with_reducible repeat (first | refine blk_drewN ?_ _ | refine blk_drew ?_ | refine blk_alloc ?_ _)); exact BK329.out⟩, ⟨by repeat (with_reducible first | exact HB.out | apply below_alloc | apply pw_below_drewN | apply below_drew1 | refine below_set ?_ GE329.out)⟩⟩
      case round =>
       clear H'
       try clear c1
       try clear p2
       try clear c3
       try clear p3
       try clear q3
       try clear hx3
       try clear c4
       try clear c4b0
       try clear c5
       try clear c5b0
       try clear c6
       try clear c6b0
       try clear p6
       try clear c11
       try clear hcz11_0
       try clear hcz11_1
       try clear hcz11_2
       try clear hcz11_3
       try clear hcz8_0
       try clear hcz8_1
       try clear hcz8_2
       try clear hcz8_3
       try clear hfz11_0
       try clear hfz11_1
       try clear hfz11_2
       try clear hfz11_3
       try clear hfz8_0
       try clear hfz8_1
       try clear hfz8_2
       try clear hfz8_3
       try clear hx328_0
       try clear hx328_1
       try clear hx328_2
       try clear hx328_3
       try clear p2
       try clear p328
       try clear q328
       obtain ⟨x7_2, x8_2, rfl, HA, HK2, HO_3, HO_7, BK329, HB⟩ := hrel
       cases gk with
       | zero => exact absurd HA.out (by simp [spec_turned.l1])
       | succ k2 =>
        have H := HA.out
        clear HA
        simp only [spec_turned.l1] at H
        by_cases c12 : x8_2 ≥ 0
        ·rw [if_pos c12] at H
         have c12b0 : decide (0 ≤ x8_2) = true := decide_eq_true c12
         clear c12
         by_cases c13 : 0 ≤ x8_2
         ·rw [if_pos c13] at H
          have c13b0 : decide (0 ≤ x8_2) = true := decide_eq_true c13
          clear c13
          by_cases c14 : x8_2 < (((rd_T38 l0 x5_1).f1).length : Int)
          ·rw [if_pos c14] at H
           have c14b0 : decide (x8_2 < (((rd_T38 l0 x5_1).f1).length : Int)) = true := decide_eq_true c14
           clear c14
           by_cases c15 : x7_2.length < 17592186044416
           ·rw [if_pos c15] at H
            have LMc15 := Aside0.mk c15
            clear c15
            obtain ⟨y334, hy334⟩ : ∃ y_ : List Int, y_ = (x7_2 ++ [wrap64 ((wrap64 ((l0.length : Int) - 1)) - (rd ((rd_T38 l0 x5_1).f1) x8_2))]) := ⟨_, rfl⟩
            replace H : (spec_turned.l1 k2 l0 x3_1 (wrap64 ((l0.length : Int) - 1)) x5_1 y334 (wrap64 (x8_2 - 1)) ((rd_T38 l0 x5_1).f0) ((rd_T38 l0 x5_1).f1) ((rd_T38 l0 x5_1).f2) ((rd_T38 l0 x5_1).f3)) = some r := by first | (rw [hy334]; with_reducible exact H) | (have H2_ := (Option.bind_some _ _).symm.trans H; rw [hy334]; with_reducible exact H2_) | (have H2_ := (Option.bind_some _ _).symm.trans H; with_reducible exact H2_) | with_reducible exact H | (rw [hy334]; exact H) | exact H
            have Ny334 := Aside0.mk hy334
            clear hy334
            have H' := Aside0.mk H
            clear H
            have hcz16_0 : wr.cell? ⟨gb329, 0, none⟩ = some (.int .i64 ((rd_T38 l0 x5_1).f0)) := (blk_cell BK329.out 0).trans rfl
            have hcz16_1 : wr.cell? ⟨gb329, 1, none⟩ = some (.slice A328_1 ((rd_T38 l0 x5_1).f1).length c328_1) := (blk_cell BK329.out 1).trans rfl
            have hcz16_2 : wr.cell? ⟨gb329, 2, none⟩ = some (.int .i64 ((rd_T38 l0 x5_1).f2)) := (blk_cell BK329.out 2).trans rfl
            have hcz16_3 : wr.cell? ⟨gb329, 3, none⟩ = some (.int .i64 ((rd_T38 l0 x5_1).f3)) := (blk_cell BK329.out 3).trans rfl
            have hfz16_0 := blk_frozen BK329.out 0
            have hfz16_1 := blk_frozen BK329.out 1
            have hfz16_2 := blk_frozen BK329.out 2
            have hfz16_3 := blk_frozen BK329.out 3
            have p333 : 0 ≤ (x8_2 : Int) := of_decide_eq_true (by with_reducible assumption)
            have q333 : x8_2 < (((rd_T38 l0 x5_1).f1).length : Int) := of_decide_eq_true (by with_reducible assumption)
            obtain ⟨ad333, e333, hx333_0⟩ := Kd.at_int HR328_1.out x8_2 p333 q333
            cases e333
            replace hx333_0 := (HB.out.cell (World.block_lt_of_cell? w _ hx333_0)).trans hx333_0
            replace p333 := eq_true p333
            replace q333 := eq_true q333
            go_wp2_with (first | ((with_reducible refine gate_builtin (b := .append) (xs := #[.tmp 31, .tmp 39]) rfl ?_); at_builtin; refine Kd.R_append (Kd.int .i64) (w0 := w) w.heap.size rfl (.tmp 31) (.tmp 39) 23 3 (.int .i64 0) 8 rfl Tryd.underlying23 info3 rfl (by decide) (by omega) u7 x7_2 (wrap64 ((wrap64 ((l0.length : Int) - 1)) - (rd ((rd_T38 l0 x5_1).f1) x8_2))) [.int .i64 (wrap64 ((wrap64 ((l0.length : Int) - 1)) - (rd ((rd_T38 l0 x5_1).f1) x8_2)))] (fun _ => True) (fun _ => False) rfl rfl ?aP (fun _ hk => hk.elim) ?aF ?aO ?aB ?aS ?aL ?_; (case aP => exact rfl); (case aB => exact (by repeat (with_reducible first | exact HB.out | apply below_alloc | apply pw_below_drewN | apply below_drew1 | refine below_set ?_ GE329.out))); (case aF => exact (fun _ _ => trivial)); (case aO => exact (by (with_reducible repeat (first | apply Kd.R_alloc | apply Kd.R_drewN | apply Kd.R_drew)); exact HO_7.out)); (case aS => exact (below_size (by repeat (with_reducible first | exact HB.out | apply below_alloc | apply pw_below_drewN | apply below_drew1 | refine below_set ?_ GE329.out)))); (case aL => have := LMc15.out; omega); intro v335 w17 ho hb hg hat; rw [← Ny334.out] at ho; have n0_ := Aside0.mk (Kd.S_after (ok := (fun k_ => k_ ≠ gb329)) (by (with_reducible repeat (first | apply Kd.S_alloc | apply Kd.S_drewN | apply Kd.S_drew)); exact Kd.S_mono HO_3.out (fun _ hk => ⟨hk.2, hk.1⟩)) hg hat); have n1_ := Aside0.mk (blk_grown (g := gb329) (o := .cells #[.int .i64 ((rd_T38 l0 x5_1).f0), .slice (some ad333) ((rd_T38 l0 x5_1).f1).length c328_1, .int .i64 ((rd_T38 l0 x5_1).f2), .int .i64 ((rd_T38 l0 x5_1).f3)] 38 (0, 0)) (by (with_reducible repeat (first | refine blk_drewN ?_ _ | refine blk_drew ?_ | refine blk_alloc ?_ _)); exact BK329.out) hg (Kd.R_ne HO_7.out BK329.out (by decide))); have n2_ := Aside0.mk (hb); have n3_ := Aside0.mk (ho); clear HO_3; clear BK329; clear HB; clear HO_7; have HO_3 := n0_; have BK329 := n1_; have HB := n2_; have HO336 := n3_; clear n0_ n1_ n2_ n3_; clear ho hb hg hat))
            go_roundg k2
            case measure => have := HK1.out; have := HK2.out; omega
            case rel => exact ⟨(y334), (wrap64 (x8_2 - 1)), (by first | rfl | (simp; done) | (simp [*]; done)), H', ⟨by have := HK1.out; have := HK2.out; omega⟩, ⟨by (with_reducible repeat (first | apply Kd.S_alloc | apply Kd.S_drewN | apply Kd.S_drew)); exact Kd.S_mono HO_3.out (fun _ hk => ⟨hk.2, hk.1⟩)⟩, ⟨by (with_reducible repeat (first | apply Kd.R_alloc | apply Kd.R_drewN | apply Kd.R_drew)); exact HO336.out⟩, ⟨by (with_reducible repeat (first | refine blk_drewN ?_ _ | refine blk_drew ?_ | refine blk_alloc ?_ _)); exact BK329.out⟩, ⟨by repeat (with_reducible first | exact HB.out | apply below_alloc | apply pw_below_drewN | apply below_drew1 | refine below_set ?_ GE329.out)⟩⟩
           ·rw [if_neg c15] at H
            exact absurd H (by simp)
          ·rw [if_neg c14] at H
           exact absurd H (by simp)
         ·rw [if_neg c13] at H
          exact absurd H (by simp)
        ·rw [if_neg c12] at H
         have c12b0 : decide (0 ≤ x8_2) = false := decide_eq_false c12
         clear c12
         by_cases c18 : x3_1.length < 2932031007402
         ·rw [if_pos c18] at H
          have LMc18 := Aside0.mk c18
          clear c18
          obtain ⟨y337, hy337⟩ : ∃ y_ : List (S38), y_ = (x3_1 ++ [(⟨((rd_T38 l0 x5_1).f0), x7_2, ((rd_T38 l0 x5_1).f2), ((rd_T38 l0 x5_1).f3)⟩ : S38)]) := ⟨_, rfl⟩
          replace H : (spec_turned.l0 k2 l0 y337 (wrap64 ((l0.length : Int) - 1)) (wrap64 (x5_1 - 1))) = some r := by first | (rw [hy337]; with_reducible exact H) | (have H2_ := (Option.bind_some _ _).symm.trans H; rw [hy337]; with_reducible exact H2_) | (have H2_ := (Option.bind_some _ _).symm.trans H; with_reducible exact H2_) | with_reducible exact H | (rw [hy337]; exact H) | exact H
          have Ny337 := Aside0.mk hy337
          clear hy337
          have H' := Aside0.mk H
          clear H
          obtain ⟨Ao19, co19, eo19⟩ := Kd.R_slice HO_7.out
          subst eo19
          have hcz20_0 : wr.cell? ⟨gb329, 0, none⟩ = some (.int .i64 ((rd_T38 l0 x5_1).f0)) := (blk_cell BK329.out 0).trans rfl
          have hcz20_1 : wr.cell? ⟨gb329, 1, none⟩ = some (.slice A328_1 ((rd_T38 l0 x5_1).f1).length c328_1) := (blk_cell BK329.out 1).trans rfl
          have hcz20_2 : wr.cell? ⟨gb329, 2, none⟩ = some (.int .i64 ((rd_T38 l0 x5_1).f2)) := (blk_cell BK329.out 2).trans rfl
          have hcz20_3 : wr.cell? ⟨gb329, 3, none⟩ = some (.int .i64 ((rd_T38 l0 x5_1).f3)) := (blk_cell BK329.out 3).trans rfl
          have hfz20_0 := blk_frozen BK329.out 0
          have hfz20_1 := blk_frozen BK329.out 1
          have hfz20_2 := blk_frozen BK329.out 2
          have hfz20_3 := blk_frozen BK329.out 3
          go_wp2_with (first | ((with_reducible refine gate_store (t := 23) (p := 42) rfl ?_); refine store_event (t := 23) (p := 42) (v := ?vo_w21) (w1 := (wr.setCell ⟨gb329, 1, none⟩ (.slice Ao19 x7_2.length co19))) ?hg ?ho ?hn ?hr ?_; (case ho => rfl); (case hg => rfl); (case hn => rfl); (case hr => first | (go_simp; done) | (go_simp; rfl)); intro w21 hw; have n0_ : Aside0 (Kd.S k38 38 w21 w.heap.size (fun k_ => some k_ ≠ (.slice Ao19 x7_2.length co19 : Value).ownBlock ∧ k_ ≠ gb329) u3 x3_1) := ⟨(by rw [hw]; exact (by (with_reducible repeat (first | apply Kd.S_alloc | apply Kd.S_drewN | apply Kd.S_drew)); exact Kd.S_mono (Kd.S_far (p := ⟨gb329, 1, none⟩) (Kd.S_mono HO_3.out (fun k_ hk => (⟨hk, hk.2⟩ : _ ∧ k_ ≠ gb329))) (fun _ hk => hk.2) (.slice Ao19 x7_2.length co19)) (fun _ hk => ⟨hk.1.1, hk.1.2⟩)))⟩; have n1_ : Aside0 (Kd.R (Kd.int .i64) 3 w21 w.heap.size (fun _ => True) (.slice Ao19 x7_2.length co19) x7_2) := ⟨(by rw [hw]; exact (by (with_reducible repeat (first | apply Kd.R_alloc | apply Kd.R_drewN | apply Kd.R_drew)); exact Kd.R_mono (Kd.R_far (p := ⟨gb329, 1, none⟩) (Kd.R_types HO_7.out BK329.out (by decide)) (fun _ hk => hk.2) (.slice Ao19 x7_2.length co19)) (fun _ hk => trivial)))⟩; have n2_ : Aside0 (w21.heap[gb329]? = some (.cells #[.int .i64 ((rd_T38 l0 x5_1).f0), .slice Ao19 x7_2.length co19, .int .i64 ((rd_T38 l0 x5_1).f2), .int .i64 ((rd_T38 l0 x5_1).f3)] 38 (0, 0))) := ⟨(by rw [hw]; exact (by (with_reducible repeat (first | refine blk_drewN ?_ _ | refine blk_drew ?_ | refine blk_alloc ?_ _)); refine blk_put (cs := #[.int .i64 ((rd_T38 l0 x5_1).f0), .slice A328_1 ((rd_T38 l0 x5_1).f1).length c328_1, .int .i64 ((rd_T38 l0 x5_1).f2), .int .i64 ((rd_T38 l0 x5_1).f3)]) ?_ 1 _ rfl; (with_reducible repeat (first | refine blk_drewN ?_ _ | refine blk_drew ?_ | refine blk_alloc ?_ _)); exact BK329.out))⟩; have n3_ : Aside0 (Below w.heap.size w w21) := ⟨(by rw [hw]; exact (by repeat (with_reducible first | exact HB.out | apply below_alloc | apply pw_below_drewN | apply below_drew1 | refine below_set ?_ GE329.out)))⟩; clear hw; clear HO_3; clear HO_7; clear BK329; clear HB; have HO_3 := n0_; have HO_7 := n1_; have BK329 := n2_; have HB := n3_; clear n0_ n1_ n2_ n3_; have hcz22_0 : w21.cell? ⟨gb329, 0, none⟩ = some (.int .i64 ((rd_T38 l0 x5_1).f0)) := (blk_cell BK329.out 0).trans rfl; have hcz22_1 : w21.cell? ⟨gb329, 1, none⟩ = some (.slice Ao19 x7_2.length co19) := (blk_cell BK329.out 1).trans rfl; have hcz22_2 : w21.cell? ⟨gb329, 2, none⟩ = some (.int .i64 ((rd_T38 l0 x5_1).f2)) := (blk_cell BK329.out 2).trans rfl; have hcz22_3 : w21.cell? ⟨gb329, 3, none⟩ = some (.int .i64 ((rd_T38 l0 x5_1).f3)) := (blk_cell BK329.out 3).trans rfl; have hfz22_0 := blk_frozen BK329.out 0; have hfz22_1 := blk_frozen BK329.out 1; have hfz22_2 := blk_frozen BK329.out 2; have hfz22_3 := blk_frozen BK329.out 3) | ((with_reducible refine gate_builtin (b := .append) (xs := #[.tmp 43, .tmp 45]) rfl ?_); at_builtin; refine Kd.S_append k38 (w0 := w) w.heap.size rfl (.tmp 43) (.tmp 45) 26 38 (.agg #[(.int .i64 0), (.slice none 0 0), (.int .i64 0), (.int .i64 0)]) 48 rfl Tryd.underlying26 info38 rfl (by decide) (by omega) u3 x3_1 (⟨((rd_T38 l0 x5_1).f0), x7_2, ((rd_T38 l0 x5_1).f2), ((rd_T38 l0 x5_1).f3)⟩ : S38) [.int .i64 ((rd_T38 l0 x5_1).f0), .slice Ao19 x7_2.length co19, .int .i64 ((rd_T38 l0 x5_1).f2), .int .i64 ((rd_T38 l0 x5_1).f3)] (fun k_ => k_ ≠ gb329) (fun k_ => some k_ = (.slice Ao19 x7_2.length co19 : Value).ownBlock) rfl rfl ?aP (fun k_ hk_ => ((Kd.R_mono (ok' := fun k_ => ((fun k_ => k_ ≠ gb329)) k_ ∧ some k_ ≠ (u3 : Value).ownBlock) (Kd.R_types (Kd.R_apart' (HO_7.out) (Kd.S_typed HO_3.out) (by decide)) BK329.out (by decide)) (fun k_ hk => ⟨hk.2, hk.1.2⟩))).1 k_ hk_.symm) ?aF ?aO ?aB ?aS ?aL ?_; (case aP => exact k38_mkM _ _ _ (⟨((rd_T38 l0 x5_1).f0), x7_2, ((rd_T38 l0 x5_1).f2), ((rd_T38 l0 x5_1).f3)⟩ : S38) (Kd.R_mono (Kd.R_tight rfl (Kd.R_mono (ok' := fun k_ => ((fun k_ => k_ ≠ gb329)) k_ ∧ some k_ ≠ (u3 : Value).ownBlock) (Kd.R_types (Kd.R_apart' (HO_7.out) (Kd.S_typed HO_3.out) (by decide)) BK329.out (by decide)) (fun k_ hk => ⟨hk.2, hk.1.2⟩))) (fun _ h_ => h_))); (case aB => exact (by repeat (with_reducible first | exact HB.out | apply below_alloc | apply pw_below_drewN | apply below_drew1 | refine below_set ?_ GE329.out))); (case aF => exact (fun k_ hk => Kd.freshB (g := gb329) (o := .cells #[.int .i64 ((rd_T38 l0 x5_1).f0), .slice Ao19 x7_2.length co19, .int .i64 ((rd_T38 l0 x5_1).f2), .int .i64 ((rd_T38 l0 x5_1).f3)] 38 (0, 0)) (by (with_reducible repeat (first | refine blk_drewN ?_ _ | refine blk_drew ?_ | refine blk_alloc ?_ _)); exact BK329.out) k_ hk)); (case aO => exact (by (with_reducible repeat (first | apply Kd.S_alloc | apply Kd.S_drewN | apply Kd.S_drew)); exact Kd.S_mono HO_3.out (fun k_ hk => ⟨hk.2, fun e_ => hk.1 e_⟩))); (case aS => exact (below_size (by repeat (with_reducible first | exact HB.out | apply below_alloc | apply pw_below_drewN | apply below_drew1 | refine below_set ?_ GE329.out)))); (case aL => have := LMc18.out; omega); intro v338 w23 ho hb hg hat; rw [← Ny337.out] at ho; have n0_ := Aside0.mk (blk_grown (g := gb329) (o := .cells #[.int .i64 ((rd_T38 l0 x5_1).f0), .slice Ao19 x7_2.length co19, .int .i64 ((rd_T38 l0 x5_1).f2), .int .i64 ((rd_T38 l0 x5_1).f3)] 38 (0, 0)) (by (with_reducible repeat (first | refine blk_drewN ?_ _ | refine blk_drew ?_ | refine blk_alloc ?_ _)); exact BK329.out) hg (Kd.S_away HO_3.out (fun _ hk => hk.2))); have n1_ := Aside0.mk (hb); have n2_ := Aside0.mk (ho); clear BK329; clear HB; clear HO_3; clear HO_7; have BK329 := n0_; have HB := n1_; have HO339 := n2_; clear n0_ n1_ n2_; clear ho hb hg hat))
          go_roundg k2
          case measure => have := HK1.out; have := HK2.out; omega
          case rel => exact ⟨(y337), (wrap64 (x5_1 - 1)), (by first | rfl | (simp; done) | (simp [*]; done)), H', ⟨by have := HK1.out; have := HK2.out; omega⟩, ⟨by (with_reducible repeat (first | apply Kd.S_alloc | apply Kd.S_drewN | apply Kd.S_drew)); exact Kd.S_mono HO339.out (fun _ hk => trivial)⟩, ⟨by repeat (with_reducible first | exact HB.out | apply below_alloc | apply pw_below_drewN | apply below_drew1 | refine below_set ?_ GE329.out)⟩⟩
         ·rw [if_neg c18] at H
          exact absurd H (by simp)
     ·rw [if_neg c6] at H
      exact absurd H (by simp)
    ·rw [if_neg c5] at H
     exact absurd H (by simp)
   ·rw [if_neg c4] at H
    have c4b0 : decide (0 ≤ x5_1) = false := decide_eq_false c4
    clear c4
    obtain rfl := Option.some.inj H
    go_wp2
    go_ret
    exact ⟨_, by first | rfl | (simp [errW_none, errW_some] <;> rfl) | (simp [*, errW_none, errW_some] <;> rfl), by (with_reducible repeat (first | apply Kd.S_alloc | apply Kd.S_drewN | apply Kd.S_drew)); exact HO_3.out, by repeat (with_reducible first | exact HB.out | apply below_alloc | apply pw_below_drewN | apply below_drew1)⟩
end Go.Proofs.YtdmeiiedbhfniaaDoor.P
end
section
namespace Go.Proofs.YtdmeiiedbhfniaaDoor.P
open Go.RowKit YtdmeiiedbhfniaaDoorW.PrintWords YtdmeiiedbhfniaaDoorW.PrintLast YtdmeiiedbhfniaaDoorW.PrintMore
attribute [local go_sem] max2_int min2_int max_two min_two max_three min_three max_four min_four
mutual
def spec_someGraph.l0 : Nat → List (S38) → Int → List Int → Int → Option ((List (S38)) × Int)
 | 0, _, _, _, _ => none
 | k + 1, x5, x6, x1000, x1001 => if x6 > 0 then ((spec_reader_one.f k x1000 x1001 (([1, 3, 5, 2, 7, 20] : List Int))).bind fun bt351 => ((spec_reader_pick.f k x1000 bt351.2 3).bind fun bt353 => ((spec_reader_pick.f k x1000 bt353.2 4).bind fun bt355 => (spec_someGraph.l1 k x5 x6 0 x1000 bt355.2 bt351.1 (([] : List Int)) bt353.1 (wrap64 (1 + bt355.1)))))) else (if (x5.length : Int) > 1 then ((spec_reader_pick.f k x1000 x1001 4).bind fun bt369 => (if bt369.1 = 0 then ((spec_turned.f k x5).bind fun t371 => (some (t371, bt369.2))) else (some (x5, bt369.2)))) else (some (x5, x1001)))
def spec_someGraph.l1 : Nat → List (S38) → Int → Int → List Int → Int → Int → List Int → Int → Int → Option ((List (S38)) × Int)
 | 0, _, _, _, _, _, _, _, _, _ => none
 | k + 1, x5, x6, x8, x1000, x1001, x361000, x361001, x361002, x361003 => if x8 < (x5.length : Int) then ((spec_reader_pick.f k x1000 x1001 3).bind fun bt361 => (if bt361.1 = 0 then (if x361001.length < 17592186044416 then (spec_someGraph.l1 k x5 x6 (wrap64 (x8 + 1)) x1000 bt361.2 x361000 (x361001 ++ [x8]) x361002 x361003) else (none)) else (spec_someGraph.l1 k x5 x6 (wrap64 (x8 + 1)) x1000 bt361.2 x361000 x361001 x361002 x361003))) else (if x5.length < 2932031007402 then (spec_someGraph.l0 k (x5 ++ [(⟨x361000, x361001, x361002, x361003⟩ : S38)]) (wrap64 (x6 - 1)) x1000 x1001) else (none))
end
def spec_someGraph.f (k : Nat) (s0_0 : List Int) (s0_1 : Int) (a1 : Int) : Option ((List (S38)) × Int) := (spec_reader_one.f k s0_0 s0_1 (([4, 5, 3, 6, 2, 1, 0, 8] : List Int))).bind fun bt346 => (spec_someGraph.l0 k (([] : List (S38))) (mn a1 bt346.1) s0_0 bt346.2)
set_option maxHeartbeats 8000000 in
set_option maxRecDepth 100000 in
theorem spec_someGraph.calls (k : Nat) (g : Nat) (s0_0 : List Int) (s0_1 : Int) (a1 : Int) (r1 : List (S38)) (r2 : Int) (w0 w : World) (hI : IsS105 w0 w g s0_0 s0_1) (hB : Below w0.heap.size w0 w) (h : spec_someGraph.f k s0_0 s0_1 a1 = some (r1, r2)) :
  Calls Tryd.prog 90 #[.pointer (some ⟨g, 0, none⟩), .int .i64 a1] w fun e w' => ∃ v0_ : Value, e = .returned (v0_) ∧ Kd.S k38 38 w' w.heap.size (fun _ => True) v0_ r1 ∧ IsS105 w0 w' g s0_0 r2 ∧ Below w0.heap.size w0 w' ∧ KeepBut w w' g none := by
 have hu38 := Tryd.underlying38
 have HI0 := Aside0.mk hI
 have HK := Aside0.mk (KeepBut.refl w g none)
 have HL := Aside0.mk hB.size
 clear hI
 have HW0 := Aside0.mk hB.size
 have HB := Aside0.mk hB
 clear hB
 have H : ((spec_reader_one.f k s0_0 s0_1 (([4, 5, 3, 6, 2, 1, 0, 8] : List Int))).bind fun bt346 => (spec_someGraph.l0 k (([] : List (S38))) (mn a1 bt346.1) s0_0 bt346.2)) = some (r1, r2) := h
 clear h
 obtain ⟨y340, hy340⟩ : ∃ y_ : List (S38), y_ = (([] : List (S38))) := ⟨_, rfl⟩
 replace H : ((spec_reader_one.f k s0_0 s0_1 (([4, 5, 3, 6, 2, 1, 0, 8] : List Int))).bind fun bt346 => (spec_someGraph.l0 k y340 (mn a1 bt346.1) s0_0 bt346.2)) = some (r1, r2) := by first | (rw [hy340]; with_reducible exact H) | (have H2_ := (Option.bind_some _ _).symm.trans H; rw [hy340]; with_reducible exact H2_) | (have H2_ := (Option.bind_some _ _).symm.trans H; with_reducible exact H2_) | with_reducible exact H | (rw [hy340]; exact H) | exact H
 have Ny340 := Aside0.mk hy340
 clear hy340
 obtain ⟨y343, hy343⟩ : ∃ y_ : List Int, y_ = (([4, 5, 3, 6, 2, 1, 0, 8] : List Int)) := ⟨_, rfl⟩
 replace H : ((spec_reader_one.f k s0_0 s0_1 y343).bind fun bt346 => (spec_someGraph.l0 k y340 (mn a1 bt346.1) s0_0 bt346.2)) = some (r1, r2) := by first | (rw [hy343]; with_reducible exact H) | (have H2_ := (Option.bind_some _ _).symm.trans H; rw [hy343]; with_reducible exact H2_) | (have H2_ := (Option.bind_some _ _).symm.trans H; with_reducible exact H2_) | with_reducible exact H | (rw [hy343]; exact H) | exact H
 have Ny343 := Aside0.mk hy343
 clear hy343
 replace H := Option.bind_eq_some_iff.mp H
 obtain ⟨⟨t346, t347⟩, A30, H⟩ := H
 replace H : (spec_someGraph.l0 k y340 (mn a1 t346) s0_0 t347) = some (r1, r2) := H
 have A3 := Aside0.mk A30
 clear A30
 obtain ⟨ji4, hji4⟩ : ∃ j_ : Int, (mn a1 t346) = j_ := ⟨_, rfl⟩
 replace H : (spec_someGraph.l0 k y340 ji4 s0_0 t347) = some (r1, r2) := by first | (rw [hji4] at H; exact H) | (simp only [hji4] at H ⊢; exact H)
 (try rw [hji4] at A3)
 have hji4_ : (if t346 < a1 then t346 else a1) = ji4 := hji4
 have H' := Aside0.mk H
 clear H
 go_enter Tryd.func90, Tryd.ntmps90
 go_wp2_with (first | ((with_reducible refine gate_dst (N := 9) rfl ?_); refine Kd.S_lit k38 _ 38 ?hg (N := 9) ?hd (xs := ([] : List (S38))) (inner := []) (ok := fun _ => True) (okp := fun _ => True) ?hr ?hp (fun _ hk => hk) trivial (Below.refl _ _) (Nat.le_refl _) (by simp) ?_; (case hd => rfl); (case hg => rfl); (case hr => first | (go_simp; done) | (go_simp; rfl)); (case hp => exact (Reps.none _ _)); intro v341 w5 ho6 hb hg_ hnew_; clear hg_ hnew_; (first | rw [← Ny340.out] at ho6 | (simp only [Int.reduceToNat] at ho6; rw [← Ny340.out] at ho6)); have n0_ := Aside0.mk (Kd.S_lower ho6 (keep_size (w := w) (g := g) (row := none) (by repeat (with_reducible first | exact HK.out | apply KeepBut.set_ | apply keep_drewN | apply keep_drew | apply keep_alloc)))); have n1_ := Aside0.mk (IsS105.below (by repeat (with_reducible first | exact HI0.out | apply IsS105.alloc | apply IsS105.drewN | apply IsS105.drew | apply IsS105.set_1)) hb); have n2_ := Aside0.mk (KeepBut.trans (by repeat (with_reducible first | exact HK.out | apply KeepBut.set_ | apply keep_drewN | apply keep_drew | apply keep_alloc)) (KeepBut.of_below hb g none) (.inl rfl)); have n3_ := Aside0.mk (below_step (by repeat (with_reducible first | exact HB.out | apply below_alloc | apply pw_below_drewN | apply below_drew1 | refine below_set ?_ (IsS105.ge HI0.out))) hb); clear HI0; clear HK; clear HB; have HO342 := n0_; have HI0 := n1_; have HK := n2_; have HB := n3_; clear n0_ n1_ n2_ n3_; clear hb ho6) | ((with_reducible refine gate_dst (N := 12) rfl ?_); refine Kd.R_lit (Kd.int .i64) _ 3 ?hg (N := 12) ?hd (xs := ([4, 5, 3, 6, 2, 1, 0, 8] : List Int)) (inner := [.int .i64 4, .int .i64 5, .int .i64 3, .int .i64 6, .int .i64 2, .int .i64 1, .int .i64 0, .int .i64 8]) (ok := fun _ => True) (okp := fun _ => True) ?hr ?hp (fun _ hk => hk) trivial (Below.refl _ _) (Nat.le_refl _) (by simp) ?_; (case hd => rfl); (case hg => rfl); (case hr => first | (go_simp; done) | (go_simp; rfl)); (case hp => exact (Reps.one (show Kd.M (Kd.int .i64) _ _ _ 4 [.int .i64 4] from rfl) (Reps.one (show Kd.M (Kd.int .i64) _ _ _ 5 [.int .i64 5] from rfl) (Reps.one (show Kd.M (Kd.int .i64) _ _ _ 3 [.int .i64 3] from rfl) (Reps.one (show Kd.M (Kd.int .i64) _ _ _ 6 [.int .i64 6] from rfl) (Reps.one (show Kd.M (Kd.int .i64) _ _ _ 2 [.int .i64 2] from rfl) (Reps.one (show Kd.M (Kd.int .i64) _ _ _ 1 [.int .i64 1] from rfl) (Reps.one (show Kd.M (Kd.int .i64) _ _ _ 0 [.int .i64 0] from rfl) (Reps.one (show Kd.M (Kd.int .i64) _ _ _ 8 [.int .i64 8] from rfl) (Reps.none _ _)))))))))); intro v344 w7 ho8 hb hg_ hnew_; clear hg_ hnew_; (first | rw [← Ny343.out] at ho8 | (simp only [Int.reduceToNat] at ho8; rw [← Ny343.out] at ho8)); have n0_ := Aside0.mk (Kd.S_elder' (by (with_reducible repeat (first | apply Kd.S_alloc | apply Kd.S_drewN | apply Kd.S_drew)); exact HO342.out) (Kd.R_base ho8) hb); have n1_ := Aside0.mk (Kd.R_lower ho8 (keep_size (w := w) (g := g) (row := none) (by repeat (with_reducible first | exact HK.out | apply KeepBut.set_ | apply keep_drewN | apply keep_drew | apply keep_alloc)))); have n2_ := Aside0.mk (IsS105.below (by repeat (with_reducible first | exact HI0.out | apply IsS105.alloc | apply IsS105.drewN | apply IsS105.drew | apply IsS105.set_1)) hb); have n3_ := Aside0.mk (KeepBut.trans (by repeat (with_reducible first | exact HK.out | apply KeepBut.set_ | apply keep_drewN | apply keep_drew | apply keep_alloc)) (KeepBut.of_below hb g none) (.inl rfl)); have n4_ := Aside0.mk (below_step (by repeat (with_reducible first | exact HB.out | apply below_alloc | apply pw_below_drewN | apply below_drew1 | refine below_set ?_ (IsS105.ge HI0.out))) hb); clear HO342; clear HI0; clear HK; clear HB; have HO342 := n0_; have HO345 := n1_; have HI0 := n2_; have HK := n3_; have HB := n4_; clear n0_ n1_ n2_ n3_ n4_; clear hb ho8; obtain ⟨Ao9, co9, eo9⟩ := Kd.R_slice HO345.out; subst eo9) | ((with_reducible refine gate_callee (f := 91) rfl ?_); refine goesL_ (some 13) rfl rfl Tryd.func91 (by kernel_rfl) rfl #[.pointer (some ⟨g, 0, none⟩), .slice Ao9 y343.length co9] rfl (by (try simp only [List.map_toArray, List.map_cons, List.map_nil]); first | done | rfl | (simp only [List.length_drop, List.length_take]; rfl)) ?_; (with_reducible refine (spec_reader_one.calls k g s0_0 s0_1 _ _ y343 t346 t347 w0 _ ?side1 ?side2 ?side3 ?side4 ?side5 A3.out).mono ?_); (case side1 => repeat (with_reducible first | exact HI0.out | apply IsS105.alloc | apply IsS105.drewN | apply IsS105.drew | apply IsS105.set_1)); (case side2 => repeat (with_reducible first | exact HB.out | apply below_alloc | apply pw_below_drewN | apply below_drew1 | refine below_set ?_ (IsS105.ge HI0.out))); (case side3 => repeat (first | exact (Kd.R_reads' HO345.out).2.2 | (with_reducible refine Kd.C_alloc ?_ _) | (with_reducible refine Kd.C_drewN ?_ _) | (with_reducible refine Kd.C_drew ?_))); (case side4 => exact (Kd.R_reads' HO345.out).2.1); (case side5 => exact far_slice (IsS105.own_ne HI0.out HO345.out (by decide))); rintro e w10 ⟨rfl, hi, hb, hk⟩; refine ⟨_, rfl, ?_⟩; have n0_ := Aside0.mk (Kd.S_mono (Kd.S_keep (IsS105.apartS (show IsS105 w0 _ g s0_0 s0_1 from by repeat (with_reducible first | exact HI0.out | apply IsS105.alloc | apply IsS105.drewN | apply IsS105.drew | apply IsS105.set_1)) (by (with_reducible repeat (first | apply Kd.S_alloc | apply Kd.S_drewN | apply Kd.S_drew)); exact HO342.out) (by decide)) hk (fun _ h => h.2)) (fun _ h => h.1)); have n1_ := Aside0.mk (Kd.R_mono (Kd.R_keep (IsS105.apart (show IsS105 w0 _ g s0_0 s0_1 from by repeat (with_reducible first | exact HI0.out | apply IsS105.alloc | apply IsS105.drewN | apply IsS105.drew | apply IsS105.set_1)) (by (with_reducible repeat (first | apply Kd.R_alloc | apply Kd.R_drewN | apply Kd.R_drew)); exact HO345.out) (by decide)) hk (fun _ h => h.2)) (fun _ h => h.1)); have n2_ := Aside0.mk (KeepBut.trans (by repeat (with_reducible first | exact HK.out | apply KeepBut.set_ | apply keep_drewN | apply keep_drew | apply keep_alloc)) hk (.inl rfl)); have n3_ := Aside0.mk (hb); have n4_ := Aside0.mk (hi); clear HO342; clear HO345; clear HK; clear HB; clear HI0; have HO342 := n0_; have HO345 := n1_; have HK := n2_; have HB := n3_; have HI0 := n4_; clear n0_ n1_ n2_ n3_ n4_; (try clear hb); (try clear hb2); (try clear hk); (try clear hi)))
 go_loopg [5, 6] k (fun kq v5 v6 w' => ∃ (x5_1 : List (S38)) (x6_1 : Int) (x1001_1 : Int), v6 = .int .i64 x6_1 ∧ Aside0 (spec_someGraph.l0 kq x5_1 x6_1 s0_0 x1001_1 = some (r1, r2)) ∧ Aside0 (kq ≤ k) ∧ Aside0 (Kd.S k38 38 w' w.heap.size (fun _ => True) v5 x5_1) ∧ Aside0 (IsS105 w0 w' g s0_0 x1001_1) ∧ Aside0 (KeepBut w w' g none) ∧ Aside0 (Below w0.heap.size w0 w'))
 case atStart => exact ⟨(y340), (ji4), (t347), (by first | rfl | (simp; done) | (simp only [← hji4] <;> (first | rfl | simp)) | (simp [*]; done)), H', ⟨Nat.le_refl _⟩, ⟨by (with_reducible repeat (first | apply Kd.S_alloc | apply Kd.S_drewN | apply Kd.S_drew)); exact Kd.S_mono HO342.out (fun _ hk => trivial)⟩, ⟨by repeat (with_reducible first | exact HI0.out | apply IsS105.alloc | apply IsS105.drewN | apply IsS105.drew | apply IsS105.set_1)⟩, ⟨by repeat (with_reducible first | exact HK.out | apply KeepBut.set_ | apply keep_drewN | apply keep_drew | apply keep_alloc)⟩, ⟨by repeat (with_reducible first | exact HB.out | apply below_alloc | apply pw_below_drewN | apply below_drew1 | refine below_set ?_ (IsS105.ge HI0.out))⟩⟩
 case round =>
  clear H'
  try clear p2
  try clear c9
  obtain ⟨x5_1, x6_1, x1001_1, rfl, HA, HK1, HO_5, HI0, HK, HB⟩ := hrel
  cases gk with
  | zero => exact absurd HA.out (by simp [spec_someGraph.l0])
  | succ k1 =>
   have H := HA.out
   clear HA
   simp only [spec_someGraph.l0] at H
   by_cases c11 : x6_1 > 0
   ·rw [if_pos c11] at H
    have c11b0 : decide (0 < x6_1) = true := decide_eq_true c11
    clear c11
    obtain ⟨y348, hy348⟩ : ∃ y_ : List Int, y_ = (([1, 3, 5, 2, 7, 20] : List Int)) := ⟨_, rfl⟩
    replace H : ((spec_reader_one.f k1 s0_0 x1001_1 y348).bind fun bt351 => ((spec_reader_pick.f k1 s0_0 bt351.2 3).bind fun bt353 => ((spec_reader_pick.f k1 s0_0 bt353.2 4).bind fun bt355 => (spec_someGraph.l1 k1 x5_1 x6_1 0 s0_0 bt355.2 bt351.1 (([] : List Int)) bt353.1 (wrap64 (1 + bt355.1)))))) = some (r1, r2) := by first | (rw [hy348]; with_reducible exact H) | (have H2_ := (Option.bind_some _ _).symm.trans H; rw [hy348]; with_reducible exact H2_) | (have H2_ := (Option.bind_some _ _).symm.trans H; with_reducible exact H2_) | with_reducible exact H | (rw [hy348]; exact H) | exact H
    have Ny348 := Aside0.mk hy348
    clear hy348
    replace H := Option.bind_eq_some_iff.mp H
    obtain ⟨⟨t351, t352⟩, A120, H⟩ := H
    replace H : ((spec_reader_pick.f k1 s0_0 t352 3).bind fun bt353 => ((spec_reader_pick.f k1 s0_0 bt353.2 4).bind fun bt355 => (spec_someGraph.l1 k1 x5_1 x6_1 0 s0_0 bt355.2 t351 (([] : List Int)) bt353.1 (wrap64 (1 + bt355.1))))) = some (r1, r2) := H
    have A12 := Aside0.mk A120
    clear A120
    replace H := Option.bind_eq_some_iff.mp H
    obtain ⟨⟨t353, t354⟩, A130, H⟩ := H
    replace H : ((spec_reader_pick.f k1 s0_0 t354 4).bind fun bt355 => (spec_someGraph.l1 k1 x5_1 x6_1 0 s0_0 bt355.2 t351 (([] : List Int)) t353 (wrap64 (1 + bt355.1)))) = some (r1, r2) := H
    have A13 := Aside0.mk A130
    clear A130
    replace H := Option.bind_eq_some_iff.mp H
    obtain ⟨⟨t355, t356⟩, A140, H⟩ := H
    replace H : (spec_someGraph.l1 k1 x5_1 x6_1 0 s0_0 t356 t351 (([] : List Int)) t353 (wrap64 (1 + t355))) = some (r1, r2) := H
    have A14 := Aside0.mk A140
    clear A140
    obtain ⟨y357, hy357⟩ : ∃ y_ : List Int, y_ = (([] : List Int)) := ⟨_, rfl⟩
    replace H : (spec_someGraph.l1 k1 x5_1 x6_1 0 s0_0 t356 t351 y357 t353 (wrap64 (1 + t355))) = some (r1, r2) := by first | (rw [hy357]; with_reducible exact H) | (have H2_ := (Option.bind_some _ _).symm.trans H; rw [hy357]; with_reducible exact H2_) | (have H2_ := (Option.bind_some _ _).symm.trans H; with_reducible exact H2_) | with_reducible exact H | (rw [hy357]; exact H) | exact H
    have Ny357 := Aside0.mk hy357
    clear hy357
    have H' := Aside0.mk H
    clear H
    go_wp2_with (first | ((with_reducible refine gate_dst (N := 20) rfl ?_); refine Kd.R_lit (Kd.int .i64) _ 3 ?hg (N := 20) ?hd (xs := ([1, 3, 5, 2, 7, 20] : List Int)) (inner := [.int .i64 1, .int .i64 3, .int .i64 5, .int .i64 2, .int .i64 7, .int .i64 20]) (ok := fun _ => True) (okp := fun _ => True) ?hr ?hp (fun _ hk => hk) trivial (Below.refl _ _) (Nat.le_refl _) (by simp) ?_; (case hd => rfl); (case hg => rfl); (case hr => first | (go_simp; done) | (go_simp; rfl)); (case hp => exact (Reps.one (show Kd.M (Kd.int .i64) _ _ _ 1 [.int .i64 1] from rfl) (Reps.one (show Kd.M (Kd.int .i64) _ _ _ 3 [.int .i64 3] from rfl) (Reps.one (show Kd.M (Kd.int .i64) _ _ _ 5 [.int .i64 5] from rfl) (Reps.one (show Kd.M (Kd.int .i64) _ _ _ 2 [.int .i64 2] from rfl) (Reps.one (show Kd.M (Kd.int .i64) _ _ _ 7 [.int .i64 7] from rfl) (Reps.one (show Kd.M (Kd.int .i64) _ _ _ 20 [.int .i64 20] from rfl) (Reps.none _ _)))))))); intro v349 w15 ho16 hb hg_ hnew_; clear hg_ hnew_; (first | rw [← Ny348.out] at ho16 | (simp only [Int.reduceToNat] at ho16; rw [← Ny348.out] at ho16)); have n0_ := Aside0.mk (Kd.S_elder' (by (with_reducible repeat (first | apply Kd.S_alloc | apply Kd.S_drewN | apply Kd.S_drew)); exact HO_5.out) (Kd.R_base ho16) hb); have n1_ := Aside0.mk (Kd.R_lower ho16 (keep_size (w := w) (g := g) (row := none) (by repeat (with_reducible first | exact HK.out | apply KeepBut.set_ | apply keep_drewN | apply keep_drew | apply keep_alloc)))); have n2_ := Aside0.mk (IsS105.below (by repeat (with_reducible first | exact HI0.out | apply IsS105.alloc | apply IsS105.drewN | apply IsS105.drew | apply IsS105.set_1)) hb); have n3_ := Aside0.mk (KeepBut.trans (by repeat (with_reducible first | exact HK.out | apply KeepBut.set_ | apply keep_drewN | apply keep_drew | apply keep_alloc)) (KeepBut.of_below hb g none) (.inl rfl)); have n4_ := Aside0.mk (below_step (by repeat (with_reducible first | exact HB.out | apply below_alloc | apply pw_below_drewN | apply below_drew1 | refine below_set ?_ (IsS105.ge HI0.out))) hb); clear HO_5; clear HI0; clear HK; clear HB; have HO_5 := n0_; have HO350 := n1_; have HI0 := n2_; have HK := n3_; have HB := n4_; clear n0_ n1_ n2_ n3_ n4_; clear hb ho16; obtain ⟨Ao17, co17, eo17⟩ := Kd.R_slice HO350.out; subst eo17) | ((with_reducible refine gate_callee (f := 91) rfl ?_); refine goesL_ (some 21) rfl rfl Tryd.func91 (by kernel_rfl) rfl #[.pointer (some ⟨g, 0, none⟩), .slice Ao17 y348.length co17] rfl (by (try simp only [List.map_toArray, List.map_cons, List.map_nil]); first | done | rfl | (simp only [List.length_drop, List.length_take]; rfl)) ?_; (with_reducible refine (spec_reader_one.calls k1 g s0_0 x1001_1 _ _ y348 t351 t352 w0 _ ?side1 ?side2 ?side3 ?side4 ?side5 A12.out).mono ?_); (case side1 => repeat (with_reducible first | exact HI0.out | apply IsS105.alloc | apply IsS105.drewN | apply IsS105.drew | apply IsS105.set_1)); (case side2 => repeat (with_reducible first | exact HB.out | apply below_alloc | apply pw_below_drewN | apply below_drew1 | refine below_set ?_ (IsS105.ge HI0.out))); (case side3 => repeat (first | exact (Kd.R_reads' HO350.out).2.2 | (with_reducible refine Kd.C_alloc ?_ _) | (with_reducible refine Kd.C_drewN ?_ _) | (with_reducible refine Kd.C_drew ?_))); (case side4 => exact (Kd.R_reads' HO350.out).2.1); (case side5 => exact far_slice (IsS105.own_ne HI0.out HO350.out (by decide))); rintro e w18 ⟨rfl, hi, hb, hk⟩; refine ⟨_, rfl, ?_⟩; have n0_ := Aside0.mk (Kd.S_mono (Kd.S_keep (IsS105.apartS (show IsS105 w0 _ g s0_0 x1001_1 from by repeat (with_reducible first | exact HI0.out | apply IsS105.alloc | apply IsS105.drewN | apply IsS105.drew | apply IsS105.set_1)) (by (with_reducible repeat (first | apply Kd.S_alloc | apply Kd.S_drewN | apply Kd.S_drew)); exact HO_5.out) (by decide)) hk (fun _ h => h.2)) (fun _ h => h.1)); have n1_ := Aside0.mk (Kd.R_mono (Kd.R_keep (IsS105.apart (show IsS105 w0 _ g s0_0 x1001_1 from by repeat (with_reducible first | exact HI0.out | apply IsS105.alloc | apply IsS105.drewN | apply IsS105.drew | apply IsS105.set_1)) (by (with_reducible repeat (first | apply Kd.R_alloc | apply Kd.R_drewN | apply Kd.R_drew)); exact HO350.out) (by decide)) hk (fun _ h => h.2)) (fun _ h => h.1)); have n2_ := Aside0.mk (KeepBut.trans (by repeat (with_reducible first | exact HK.out | apply KeepBut.set_ | apply keep_drewN | apply keep_drew | apply keep_alloc)) hk (.inl rfl)); have n3_ := Aside0.mk (hb); have n4_ := Aside0.mk (hi); clear HO_5; clear HO350; clear HK; clear HB; clear HI0; have HO_5 := n0_; have HO350 := n1_; have HK := n2_; have HB := n3_; have HI0 := n4_; clear n0_ n1_ n2_ n3_ n4_; (try clear hb); (try clear hb2); (try clear hk); (try clear hi)) | ((with_reducible refine gate_callee (f := 60) rfl ?_); refine goesL_ (some 23) rfl rfl Tryd.func60 (by kernel_rfl) rfl #[.pointer (some ⟨g, 0, none⟩), .int .i64 3] rfl (by (try simp only [List.map_toArray, List.map_cons, List.map_nil]); first | done | rfl | (simp only [List.length_drop, List.length_take]; rfl)) ?_; (with_reducible refine (spec_reader_pick.calls k1 g s0_0 t352 3 t353 t354 w0 _ ?side1 ?side2 A13.out).mono ?_); (case side1 => repeat (with_reducible first | exact HI0.out | apply IsS105.alloc | apply IsS105.drewN | apply IsS105.drew | apply IsS105.set_1)); (case side2 => repeat (with_reducible first | exact HB.out | apply below_alloc | apply pw_below_drewN | apply below_drew1 | refine below_set ?_ (IsS105.ge HI0.out))); rintro e w19 ⟨rfl, hi, hb, hk⟩; refine ⟨_, rfl, ?_⟩; have n0_ := Aside0.mk (Kd.S_mono (Kd.S_keep (IsS105.apartS (show IsS105 w0 _ g s0_0 t352 from by repeat (with_reducible first | exact HI0.out | apply IsS105.alloc | apply IsS105.drewN | apply IsS105.drew | apply IsS105.set_1)) (by (with_reducible repeat (first | apply Kd.S_alloc | apply Kd.S_drewN | apply Kd.S_drew)); exact HO_5.out) (by decide)) hk (fun _ h => h.2)) (fun _ h => h.1)); have n1_ := Aside0.mk (Kd.R_mono (Kd.R_keep (IsS105.apart (show IsS105 w0 _ g s0_0 t352 from by repeat (with_reducible first | exact HI0.out | apply IsS105.alloc | apply IsS105.drewN | apply IsS105.drew | apply IsS105.set_1)) (by (with_reducible repeat (first | apply Kd.R_alloc | apply Kd.R_drewN | apply Kd.R_drew)); exact HO350.out) (by decide)) hk (fun _ h => h.2)) (fun _ h => h.1)); have n2_ := Aside0.mk (KeepBut.trans (by repeat (with_reducible first | exact HK.out | apply KeepBut.set_ | apply keep_drewN | apply keep_drew | apply keep_alloc)) hk (.inl rfl)); have n3_ := Aside0.mk (hb); have n4_ := Aside0.mk (hi); clear HO_5; clear HO350; clear HK; clear HB; clear HI0; have HO_5 := n0_; have HO350 := n1_; have HK := n2_; have HB := n3_; have HI0 := n4_; clear n0_ n1_ n2_ n3_ n4_; (try clear hb); (try clear hb2); (try clear hk); (try clear hi)) | ((with_reducible refine gate_callee (f := 60) rfl ?_); refine goesL_ (some 25) rfl rfl Tryd.func60 (by kernel_rfl) rfl #[.pointer (some ⟨g, 0, none⟩), .int .i64 4] rfl (by (try simp only [List.map_toArray, List.map_cons, List.map_nil]); first | done | rfl | (simp only [List.length_drop, List.length_take]; rfl)) ?_; (with_reducible refine (spec_reader_pick.calls k1 g s0_0 t354 4 t355 t356 w0 _ ?side1 ?side2 A14.out).mono ?_); (case side1 => repeat (with_reducible first | exact HI0.out | apply IsS105.alloc | apply IsS105.drewN | apply IsS105.drew | apply IsS105.set_1)); (case side2 => repeat (with_reducible first | exact HB.out | apply below_alloc | apply pw_below_drewN | apply below_drew1 | refine below_set ?_ (IsS105.ge HI0.out))); rintro e w20 ⟨rfl, hi, hb, hk⟩; refine ⟨_, rfl, ?_⟩; have n0_ := Aside0.mk (Kd.S_mono (Kd.S_keep (IsS105.apartS (show IsS105 w0 _ g s0_0 t354 from by repeat (with_reducible first | exact HI0.out | apply IsS105.alloc | apply IsS105.drewN | apply IsS105.drew | apply IsS105.set_1)) (by (with_reducible repeat (first | apply Kd.S_alloc | apply Kd.S_drewN | apply Kd.S_drew)); exact HO_5.out) (by decide)) hk (fun _ h => h.2)) (fun _ h => h.1)); have n1_ := Aside0.mk (Kd.R_mono (Kd.R_keep (IsS105.apart (show IsS105 w0 _ g s0_0 t354 from by repeat (with_reducible first | exact HI0.out | apply IsS105.alloc | apply IsS105.drewN | apply IsS105.drew | apply IsS105.set_1)) (by (with_reducible repeat (first | apply Kd.R_alloc | apply Kd.R_drewN | apply Kd.R_drew)); exact HO350.out) (by decide)) hk (fun _ h => h.2)) (fun _ h => h.1)); have n2_ := Aside0.mk (KeepBut.trans (by repeat (with_reducible first | exact HK.out | apply KeepBut.set_ | apply keep_drewN | apply keep_drew | apply keep_alloc)) hk (.inl rfl)); have n3_ := Aside0.mk (hb); have n4_ := Aside0.mk (hi); clear HO_5; clear HO350; clear HK; clear HB; clear HI0; have HO_5 := n0_; have HO350 := n1_; have HK := n2_; have HB := n3_; have HI0 := n4_; clear n0_ n1_ n2_ n3_ n4_; (try clear hb); (try clear hb2); (try clear hk); (try clear hi)) | ((with_reducible refine gate_dst (N := 27) rfl ?_); refine Kd.R_lit (Kd.int .i64) _ 3 ?hg (N := 27) ?hd (xs := ([] : List Int)) (inner := []) (ok := fun _ => True) (okp := fun _ => True) ?hr ?hp (fun _ hk => hk) trivial (Below.refl _ _) (Nat.le_refl _) (by simp) ?_; (case hd => rfl); (case hg => rfl); (case hr => first | (go_simp; done) | (go_simp; rfl)); (case hp => exact (Reps.none _ _)); intro v358 w21 ho22 hb hg_ hnew_; clear hg_ hnew_; (first | rw [← Ny357.out] at ho22 | (simp only [Int.reduceToNat] at ho22; rw [← Ny357.out] at ho22)); have n0_ := Aside0.mk (Kd.S_elder' (by (with_reducible repeat (first | apply Kd.S_alloc | apply Kd.S_drewN | apply Kd.S_drew)); exact HO_5.out) (Kd.R_base ho22) hb); have n1_ := Aside0.mk (Kd.R_elder' (by (with_reducible repeat (first | apply Kd.R_alloc | apply Kd.R_drewN | apply Kd.R_drew)); exact HO350.out) (Kd.R_base ho22) hb); have n2_ := Aside0.mk (Kd.R_lower (Kd.R_new' ho22 (Kd.R_lt (by (with_reducible repeat (first | apply Kd.R_alloc | apply Kd.R_drewN | apply Kd.R_drew)); exact HO350.out))) (keep_size (w := w) (g := g) (row := none) (by repeat (with_reducible first | exact HK.out | apply KeepBut.set_ | apply keep_drewN | apply keep_drew | apply keep_alloc)))); have n3_ := Aside0.mk (IsS105.below (by repeat (with_reducible first | exact HI0.out | apply IsS105.alloc | apply IsS105.drewN | apply IsS105.drew | apply IsS105.set_1)) hb); have n4_ := Aside0.mk (KeepBut.trans (by repeat (with_reducible first | exact HK.out | apply KeepBut.set_ | apply keep_drewN | apply keep_drew | apply keep_alloc)) (KeepBut.of_below hb g none) (.inl rfl)); have n5_ := Aside0.mk (below_step (by repeat (with_reducible first | exact HB.out | apply below_alloc | apply pw_below_drewN | apply below_drew1 | refine below_set ?_ (IsS105.ge HI0.out))) hb); clear HO_5; clear HO350; clear HI0; clear HK; clear HB; have HO_5 := n0_; have HO350 := n1_; have HO359 := n2_; have HI0 := n3_; have HK := n4_; have HB := n5_; clear n0_ n1_ n2_ n3_ n4_ n5_; clear hb ho22; obtain ⟨Ao23, co23, eo23⟩ := Kd.R_slice HO359.out; subst eo23) | ((with_reducible refine gate_dst (N := 7) rfl ?_); refine box_event ?hg (N := 7) ?hd (cs := #[.int .i64 0, .slice none 0 0, .int .i64 0, .int .i64 0]) (t := 38) ?hr ?_; (case hd => rfl); (case hg => rfl); (case hr => first | (go_simp; done) | (go_simp; rfl)); intro gb360 hg w24 hbox hb; have n0_ := Aside0.mk (Kd.S_below (Kd.S_elderB (by (with_reducible repeat (first | apply Kd.S_alloc | apply Kd.S_drewN | apply Kd.S_drew)); exact HO_5.out) gb360 (Nat.le_of_eq hg.symm)) hb); have n1_ := Aside0.mk (Kd.R_below (by (with_reducible repeat (first | apply Kd.R_alloc | apply Kd.R_drewN | apply Kd.R_drew)); exact HO350.out) hb); have n2_ := Aside0.mk (Kd.R_below (by (with_reducible repeat (first | apply Kd.R_alloc | apply Kd.R_drewN | apply Kd.R_drew)); exact HO359.out) hb); have n3_ := Aside0.mk (IsS105.below (by repeat (with_reducible first | exact HI0.out | apply IsS105.alloc | apply IsS105.drewN | apply IsS105.drew | apply IsS105.set_1)) hb); have n4_ := Aside0.mk (KeepBut.trans (by repeat (with_reducible first | exact HK.out | apply KeepBut.set_ | apply keep_drewN | apply keep_drew | apply keep_alloc)) (KeepBut.of_below hb g none) (.inl rfl)); have n5_ := Aside0.mk (below_step (by repeat (with_reducible first | exact HB.out | apply below_alloc | apply pw_below_drewN | apply below_drew1 | refine below_set ?_ (IsS105.ge HI0.out))) hb); have n6_ := Aside0.mk (hbox); have n7_ := Aside0.mk ((by rw [hg]; exact (keep_size (w := w) (g := g) (row := none) (by repeat (with_reducible first | exact HK.out | apply KeepBut.set_ | apply keep_drewN | apply keep_drew | apply keep_alloc))) : w.heap.size ≤ gb360)); have n8_ := Aside0.mk ((Nat.le_trans HW0.out (by rw [hg]; exact (keep_size (w := w) (g := g) (row := none) (by repeat (with_reducible first | exact HK.out | apply KeepBut.set_ | apply keep_drewN | apply keep_drew | apply keep_alloc))) : w.heap.size ≤ gb360) : w0.heap.size ≤ gb360)); have n9_ := Aside0.mk ((by rw [hg]; exact Nat.ne_of_lt (IsS105.lt (show IsS105 w0 _ g s0_0 t356 from by repeat (with_reducible first | exact HI0.out | apply IsS105.alloc | apply IsS105.drewN | apply IsS105.drew | apply IsS105.set_1))) : g ≠ gb360)); have n10_ := Aside0.mk ((by rw [hg]; exact Nat.ne_of_gt (IsS105.lt (show IsS105 w0 _ g s0_0 t356 from by repeat (with_reducible first | exact HI0.out | apply IsS105.alloc | apply IsS105.drewN | apply IsS105.drew | apply IsS105.set_1))) : gb360 ≠ g)); clear HO_5; clear HO350; clear HO359; clear HI0; clear HK; clear HB; have HO_5 := n0_; have HO350 := n1_; have HO359 := n2_; have HI0 := n3_; have HK := n4_; have HB := n5_; have BK360 := n6_; have GW360 := n7_; have GE360 := n8_; have NB0_360 := n9_; have NB360_0 := n10_; clear n0_ n1_ n2_ n3_ n4_ n5_ n6_ n7_ n8_ n9_ n10_; clear hb hbox hg; have hnb25 := NB360_0.out; have hnc25 := NB0_360.out; have hcz26_0 : w24.cell? ⟨gb360, 0, none⟩ = some (.int .i64 0) := (blk_cell BK360.out 0).trans rfl; have hcz26_1 : w24.cell? ⟨gb360, 1, none⟩ = some (.slice none 0 0) := (blk_cell BK360.out 1).trans rfl; have hcz26_2 : w24.cell? ⟨gb360, 2, none⟩ = some (.int .i64 0) := (blk_cell BK360.out 2).trans rfl; have hcz26_3 : w24.cell? ⟨gb360, 3, none⟩ = some (.int .i64 0) := (blk_cell BK360.out 3).trans rfl; have hfz26_0 := blk_frozen BK360.out 0; have hfz26_1 := blk_frozen BK360.out 1; have hfz26_2 := blk_frozen BK360.out 2; have hfz26_3 := blk_frozen BK360.out 3))
    go_loopg [8] k1 (fun kq v8 w' => ∃ (x8_2 : Int) (x1001_2 : Int) (x361001_2 : List Int) (u361001 : Value), v8 = .int .i64 x8_2 ∧ Aside0 (spec_someGraph.l1 kq x5_1 x6_1 x8_2 s0_0 x1001_2 t351 x361001_2 t353 (wrap64 (1 + t355)) = some (r1, r2)) ∧ Aside0 (kq ≤ k1) ∧ Aside0 (Kd.S k38 38 w' w.heap.size (fun k_ => some k_ ≠ (u361001 : Value).ownBlock ∧ k_ ≠ gb360) u5 x5_1) ∧ Aside0 (Kd.R (Kd.int .i64) 3 w' w.heap.size (fun _ => True) u361001 x361001_2) ∧ Aside0 (w'.heap[gb360]? = some (.cells #[.int .i64 t351, u361001, .int .i64 t353, .int .i64 (wrap64 (1 + t355))] 38 (0, 0))) ∧ Aside0 (IsS105 w0 w' g s0_0 x1001_2) ∧ Aside0 (KeepBut w w' g none) ∧ Aside0 (Below w0.heap.size w0 w'))
    case atStart => exact ⟨(0), (t356), (y357), (.slice Ao23 y357.length co23), (by first | rfl | (simp; done) | (simp [*]; done)), H', ⟨Nat.le_refl _⟩, ⟨by (with_reducible repeat (first | apply Kd.S_alloc | apply Kd.S_drewN | apply Kd.S_drew)); exact Kd.S_mono (Kd.S_far (p := ⟨gb360, 3, none⟩) (Kd.S_far (p := ⟨gb360, 2, none⟩) (Kd.S_far (p := ⟨gb360, 1, none⟩) (Kd.S_far (p := ⟨gb360, 0, none⟩) (Kd.S_mono HO_5.out (fun k_ hk => (⟨hk, hk.2⟩ : _ ∧ k_ ≠ gb360))) (fun _ hk => hk.2) (.int .i64 t351)) (fun _ hk => hk.2) (.slice Ao23 y357.length co23)) (fun _ hk => hk.2) (.int .i64 t353)) (fun _ hk => hk.2) (.int .i64 (wrap64 (1 + t355)))) (fun _ hk => ⟨hk.1.1.2, hk.1.2⟩)⟩, ⟨by (with_reducible repeat (first | apply Kd.R_alloc | apply Kd.R_drewN | apply Kd.R_drew)); exact Kd.R_mono (Kd.R_far (p := ⟨gb360, 3, none⟩) (Kd.R_far (p := ⟨gb360, 2, none⟩) (Kd.R_far (p := ⟨gb360, 1, none⟩) (Kd.R_far (p := ⟨gb360, 0, none⟩) (Kd.R_types HO359.out BK360.out (by decide)) (fun _ hk => hk.2) (.int .i64 t351)) (fun _ hk => hk.2) (.slice Ao23 y357.length co23)) (fun _ hk => hk.2) (.int .i64 t353)) (fun _ hk => hk.2) (.int .i64 (wrap64 (1 + t355)))) (fun _ hk => trivial)⟩, ⟨by (with_reducible repeat (first | refine blk_drewN ?_ _ | refine blk_drew ?_ | refine blk_alloc ?_ _)); refine blk_put (cs := #[.int .i64 t351, .slice Ao23 y357.length co23, .int .i64 t353, .int .i64 0]) ?_ 3 _ rfl; (with_reducible repeat (first | refine blk_drewN ?_ _ | refine blk_drew ?_ | refine blk_alloc ?_ _)); refine blk_put (cs := #[.int .i64 t351, .slice Ao23 y357.length co23, .int .i64 0, .int .i64 0]) ?_ 2 _ rfl; (with_reducible repeat (first | refine blk_drewN ?_ _ | refine blk_drew ?_ | refine blk_alloc ?_ _)); refine blk_put (cs := #[.int .i64 t351, .slice none 0 0, .int .i64 0, .int .i64 0]) ?_ 1 _ rfl; (with_reducible repeat (first | refine blk_drewN ?_ _ | refine blk_drew ?_ | refine blk_alloc ?_ _)); refine blk_put (cs := #[.int .i64 0, .slice none 0 0, .int .i64 0, .int .i64 0]) ?_ 0 _ rfl; (with_reducible repeat (first | refine blk_drewN ?_ _ | refine blk_drew ?_ | refine blk_alloc ?_ _)); exact BK360.out⟩, ⟨by repeat (with_reducible first | exact HI0.out | apply IsS105.alloc | apply IsS105.drewN | apply IsS105.drew | apply IsS105.set_1 | refine IsS105.far ?_ NB0_360.out _)⟩, ⟨by repeat (with_reducible first | exact HK.out | apply KeepBut.set_ | apply keep_drewN | apply keep_drew | apply keep_alloc | refine keep_far ?_ GW360.out _)⟩, ⟨by repeat (with_reducible first | exact HB.out | apply below_alloc | apply pw_below_drewN | apply below_drew1 | refine below_set ?_ (IsS105.ge HI0.out) | refine below_set ?_ GE360.out)⟩⟩
    case round =>
     clear H'
     try clear c1
     try clear c2
     try clear p2
     try clear c6
     try clear p6
     try clear c9
     try clear c11
     try clear c11b0
     try clear c25
     try clear hcz26_0
     try clear hcz26_1
     try clear hcz26_2
     try clear hcz26_3
     try clear hfz26_0
     try clear hfz26_1
     try clear hfz26_2
     try clear hfz26_3
     try clear p2
     obtain ⟨x8_2, x1001_2, x361001_2, u361001, rfl, HA, HK2, HO_5, HO_361001, BK360, HI0, HK, HB⟩ := hrel
     cases gk with
     | zero => exact absurd HA.out (by simp [spec_someGraph.l1])
     | succ k2 =>
      have H := HA.out
      clear HA
      simp only [spec_someGraph.l1] at H
      by_cases c27 : x8_2 < (x5_1.length : Int)
      ·rw [if_pos c27] at H
       have c27b0 : decide (x8_2 < (x5_1.length : Int)) = true := decide_eq_true c27
       clear c27
       replace H := Option.bind_eq_some_iff.mp H
       obtain ⟨⟨t361, t362⟩, A280, H⟩ := H
       replace H : (if t361 = 0 then (if x361001_2.length < 17592186044416 then (spec_someGraph.l1 k2 x5_1 x6_1 (wrap64 (x8_2 + 1)) s0_0 t362 t351 (x361001_2 ++ [x8_2]) t353 (wrap64 (1 + t355))) else (none)) else (spec_someGraph.l1 k2 x5_1 x6_1 (wrap64 (x8_2 + 1)) s0_0 t362 t351 x361001_2 t353 (wrap64 (1 + t355)))) = some (r1, r2) := H
       have A28 := Aside0.mk A280
       clear A280
       by_cases c29 : t361 = 0
       ·rw [if_pos c29] at H
        have c29b0 : (t361 == 0) = true := beq_iff_eq.mpr c29
        have c29b1 : (t361 != 0) = false := bne_eq_false_iff_eq.mpr c29
        clear c29
        by_cases c30 : x361001_2.length < 17592186044416
        ·rw [if_pos c30] at H
         have LMc30 := Aside0.mk c30
         clear c30
         obtain ⟨y363, hy363⟩ : ∃ y_ : List Int, y_ = (x361001_2 ++ [x8_2]) := ⟨_, rfl⟩
         replace H : (spec_someGraph.l1 k2 x5_1 x6_1 (wrap64 (x8_2 + 1)) s0_0 t362 t351 y363 t353 (wrap64 (1 + t355))) = some (r1, r2) := by first | (rw [hy363]; with_reducible exact H) | (have H2_ := (Option.bind_some _ _).symm.trans H; rw [hy363]; with_reducible exact H2_) | (have H2_ := (Option.bind_some _ _).symm.trans H; with_reducible exact H2_) | with_reducible exact H | (rw [hy363]; exact H) | exact H
         have Ny363 := Aside0.mk hy363
         clear hy363
         have H' := Aside0.mk H
         clear H
         obtain ⟨Ao31, co31, eo31⟩ := Kd.S_slice HO_5.out
         subst eo31
         go_wp2_with (first | ((with_reducible refine gate_callee (f := 60) rfl ?_); refine goesL_ (some 36) rfl rfl Tryd.func60 (by kernel_rfl) rfl #[.pointer (some ⟨g, 0, none⟩), .int .i64 3] rfl (by (try simp only [List.map_toArray, List.map_cons, List.map_nil]); first | done | rfl | (simp only [List.length_drop, List.length_take]; rfl)) ?_; (with_reducible refine (spec_reader_pick.calls k2 g s0_0 x1001_2 3 t361 t362 w0 _ ?side1 ?side2 A28.out).mono ?_); (case side1 => repeat (with_reducible first | exact HI0.out | apply IsS105.alloc | apply IsS105.drewN | apply IsS105.drew | apply IsS105.set_1 | refine IsS105.far ?_ NB0_360.out _)); (case side2 => repeat (with_reducible first | exact HB.out | apply below_alloc | apply pw_below_drewN | apply below_drew1 | refine below_set ?_ (IsS105.ge HI0.out) | refine below_set ?_ GE360.out)); rintro e w32 ⟨rfl, hi, hb, hk⟩; refine ⟨_, rfl, ?_⟩; have n0_ := Aside0.mk (Kd.S_mono (Kd.S_keep (IsS105.apartS (show IsS105 w0 _ g s0_0 x1001_2 from by repeat (with_reducible first | exact HI0.out | apply IsS105.alloc | apply IsS105.drewN | apply IsS105.drew | apply IsS105.set_1 | refine IsS105.far ?_ NB0_360.out _)) (by (with_reducible repeat (first | apply Kd.S_alloc | apply Kd.S_drewN | apply Kd.S_drew)); exact HO_5.out) (by decide)) hk (fun _ h => h.2)) (fun _ h => h.1)); have n1_ := Aside0.mk (Kd.R_mono (Kd.R_keep (IsS105.apart (show IsS105 w0 _ g s0_0 x1001_2 from by repeat (with_reducible first | exact HI0.out | apply IsS105.alloc | apply IsS105.drewN | apply IsS105.drew | apply IsS105.set_1 | refine IsS105.far ?_ NB0_360.out _)) (by (with_reducible repeat (first | apply Kd.R_alloc | apply Kd.R_drewN | apply Kd.R_drew)); exact HO_361001.out) (by decide)) hk (fun _ h => h.2)) (fun _ h => h.1)); have n2_ := Aside0.mk (KeepBut.blk hk (g' := gb360) (o := .cells #[.int .i64 t351, u361001, .int .i64 t353, .int .i64 (wrap64 (1 + t355))] 38 (0, 0)) (by (with_reducible repeat (first | refine blk_drewN ?_ _ | refine blk_drew ?_ | refine blk_alloc ?_ _)); exact BK360.out) NB360_0.out (by simp)); have n3_ := Aside0.mk (KeepBut.trans (by repeat (with_reducible first | exact HK.out | apply KeepBut.set_ | apply keep_drewN | apply keep_drew | apply keep_alloc | refine keep_far ?_ GW360.out _)) hk (.inl rfl)); have n4_ := Aside0.mk (hb); have n5_ := Aside0.mk (hi); clear HO_5; clear HO_361001; clear BK360; clear HK; clear HB; clear HI0; have HO_5 := n0_; have HO_361001 := n1_; have BK360 := n2_; have HK := n3_; have HB := n4_; have HI0 := n5_; clear n0_ n1_ n2_ n3_ n4_ n5_; (try clear hb); (try clear hb2); (try clear hk); (try clear hi); have hnb33 := NB360_0.out; have hnc33 := NB0_360.out; have hcz34_0 : w32.cell? ⟨gb360, 0, none⟩ = some (.int .i64 t351) := (blk_cell BK360.out 0).trans rfl; have hcz34_1 : w32.cell? ⟨gb360, 1, none⟩ = some (u361001) := (blk_cell BK360.out 1).trans rfl; have hcz34_2 : w32.cell? ⟨gb360, 2, none⟩ = some (.int .i64 t353) := (blk_cell BK360.out 2).trans rfl; have hcz34_3 : w32.cell? ⟨gb360, 3, none⟩ = some (.int .i64 (wrap64 (1 + t355))) := (blk_cell BK360.out 3).trans rfl; have hfz34_0 := blk_frozen BK360.out 0; have hfz34_1 := blk_frozen BK360.out 1; have hfz34_2 := blk_frozen BK360.out 2; have hfz34_3 := blk_frozen BK360.out 3) | ((with_reducible refine gate_builtin (b := .append) (xs := #[.tmp 39, .tmp 41]) rfl ?_); at_builtin; refine Kd.R_append (Kd.int .i64) w.heap.size rfl (.tmp 39) (.tmp 41) 23 3 (.int .i64 0) 8 rfl Tryd.underlying23 info3 rfl (by decide) (by omega) u361001 x361001_2 x8_2 [.int .i64 x8_2] (fun _ => True) (fun _ => False) rfl rfl ?aP (fun _ hk => hk.elim) ?aF ?aO (Below.refl _ _) ?aS ?aL ?_; (case aP => exact rfl); (case aF => exact (fun _ _ => trivial)); (case aO => exact (by (with_reducible repeat (first | apply Kd.R_alloc | apply Kd.R_drewN | apply Kd.R_drew)); exact HO_361001.out)); (case aS => exact (keep_size (w := w) (g := g) (row := none) (by repeat (with_reducible first | exact HK.out | apply KeepBut.set_ | apply keep_drewN | apply keep_drew | apply keep_alloc | refine keep_far ?_ GW360.out _)))); (case aL => have := LMc30.out; omega); intro v364 w35 ho hb hg hat; rw [← Ny363.out] at ho; have n0_ := Aside0.mk (Kd.S_after (ok := (fun k_ => k_ ≠ gb360)) (by (with_reducible repeat (first | apply Kd.S_alloc | apply Kd.S_drewN | apply Kd.S_drew)); exact Kd.S_mono HO_5.out (fun _ hk => ⟨hk.2, hk.1⟩)) hg hat); have n1_ := Aside0.mk (blk_grown (g := gb360) (o := .cells #[.int .i64 t351, u361001, .int .i64 t353, .int .i64 (wrap64 (1 + t355))] 38 (0, 0)) (by (with_reducible repeat (first | refine blk_drewN ?_ _ | refine blk_drew ?_ | refine blk_alloc ?_ _)); exact BK360.out) hg (Kd.R_ne HO_361001.out BK360.out (by decide))); have n2_ := Aside0.mk (IsS105.grown (by repeat (with_reducible first | exact HI0.out | apply IsS105.alloc | apply IsS105.drewN | apply IsS105.drew | apply IsS105.set_1 | refine IsS105.far ?_ NB0_360.out _)) hg (IsS105.own_ne HI0.out HO_361001.out (by decide))); have n3_ := Aside0.mk (below_weaken (by repeat (with_reducible first | exact HB.out | apply below_alloc | apply pw_below_drewN | apply below_drew1 | refine below_set ?_ (IsS105.ge HI0.out) | refine below_set ?_ GE360.out)) HL.out hb); have n4_ := Aside0.mk (KeepBut.trans (by repeat (with_reducible first | exact HK.out | apply KeepBut.set_ | apply keep_drewN | apply keep_drew | apply keep_alloc | refine keep_far ?_ GW360.out _)) (KeepBut.of_grown hg g) (Kd.R_base2 HO_361001.out)); have n5_ := Aside0.mk (ho); clear HO_5; clear BK360; clear HI0; clear HB; clear HK; clear HO_361001; have HO_5 := n0_; have BK360 := n1_; have HI0 := n2_; have HB := n3_; have HK := n4_; have HO365 := n5_; clear n0_ n1_ n2_ n3_ n4_ n5_; clear ho hb hg hat; obtain ⟨Ao36, co36, eo36⟩ := Kd.R_slice HO365.out; subst eo36; have hcz37_0 : w35.cell? ⟨gb360, 0, none⟩ = some (.int .i64 t351) := (blk_cell BK360.out 0).trans rfl; have hcz37_1 : w35.cell? ⟨gb360, 1, none⟩ = some (u361001) := (blk_cell BK360.out 1).trans rfl; have hcz37_2 : w35.cell? ⟨gb360, 2, none⟩ = some (.int .i64 t353) := (blk_cell BK360.out 2).trans rfl; have hcz37_3 : w35.cell? ⟨gb360, 3, none⟩ = some (.int .i64 (wrap64 (1 + t355))) := (blk_cell BK360.out 3).trans rfl; have hfz37_0 := blk_frozen BK360.out 0; have hfz37_1 := blk_frozen BK360.out 1; have hfz37_2 := blk_frozen BK360.out 2; have hfz37_3 := blk_frozen BK360.out 3))
         go_roundg k2
         case measure => have := HK1.out; have := HK2.out; omega
         case rel => exact ⟨(wrap64 (x8_2 + 1)), (t362), (y363), (.slice Ao36 y363.length co36), (by first | rfl | (simp; done) | (simp [*]; done)), H', ⟨by have := HK1.out; have := HK2.out; omega⟩, ⟨by (with_reducible repeat (first | apply Kd.S_alloc | apply Kd.S_drewN | apply Kd.S_drew)); exact Kd.S_mono (Kd.S_far (p := ⟨gb360, 1, none⟩) (Kd.S_mono HO_5.out (fun k_ hk => (⟨hk, hk.1⟩ : _ ∧ k_ ≠ gb360))) (fun _ hk => hk.2) (.slice Ao36 y363.length co36)) (fun _ hk => ⟨hk.1.2, hk.1.1⟩)⟩, ⟨by (with_reducible repeat (first | apply Kd.R_alloc | apply Kd.R_drewN | apply Kd.R_drew)); exact Kd.R_mono (Kd.R_far (p := ⟨gb360, 1, none⟩) (Kd.R_types HO365.out BK360.out (by decide)) (fun _ hk => hk.2) (.slice Ao36 y363.length co36)) (fun _ hk => trivial)⟩, ⟨by (with_reducible repeat (first | refine blk_drewN ?_ _ | refine blk_drew ?_ | refine blk_alloc ?_ _)); refine blk_put (cs := #[.int .i64 t351, u361001, .int .i64 t353, .int .i64 (wrap64 (1 + t355))]) ?_ 1 _ rfl; (with_reducible repeat (first | refine blk_drewN ?_ _ | refine blk_drew ?_ | refine blk_alloc ?_ _)); exact BK360.out⟩, ⟨by repeat (with_reducible first | exact HI0.out | apply IsS105.alloc | apply IsS105.drewN | apply IsS105.drew | apply IsS105.set_1 | refine IsS105.far ?_ NB0_360.out _)⟩, ⟨by repeat (with_reducible first | exact HK.out | apply KeepBut.set_ | apply keep_drewN | apply keep_drew | apply keep_alloc | refine keep_far ?_ GW360.out _)⟩, ⟨by repeat (with_reducible first | exact HB.out | apply below_alloc | apply pw_below_drewN | apply below_drew1 | refine below_set ?_ (IsS105.ge HI0.out) | refine below_set ?_ GE360.out)⟩⟩
        ·rw [if_neg c30] at H
         exact absurd H (by simp)
       ·rw [if_neg c29] at H
        have c29b0 : (t361 == 0) = false := beq_eq_false_iff_ne.mpr c29
        have c29b1 : (t361 != 0) = true := bne_iff_ne.mpr c29
        have H' := Aside0.mk H
        clear H
        obtain ⟨Ao38, co38, eo38⟩ := Kd.S_slice HO_5.out
        subst eo38
        go_wp2_with (first | ((with_reducible refine gate_callee (f := 60) rfl ?_); refine goesL_ (some 36) rfl rfl Tryd.func60 (by kernel_rfl) rfl #[.pointer (some ⟨g, 0, none⟩), .int .i64 3] rfl (by (try simp only [List.map_toArray, List.map_cons, List.map_nil]); first | done | rfl | (simp only [List.length_drop, List.length_take]; rfl)) ?_; (with_reducible refine (spec_reader_pick.calls k2 g s0_0 x1001_2 3 t361 t362 w0 _ ?side1 ?side2 A28.out).mono ?_); (case side1 => repeat (with_reducible first | exact HI0.out | apply IsS105.alloc | apply IsS105.drewN | apply IsS105.drew | apply IsS105.set_1 | refine IsS105.far ?_ NB0_360.out _)); (case side2 => repeat (with_reducible first | exact HB.out | apply below_alloc | apply pw_below_drewN | apply below_drew1 | refine below_set ?_ (IsS105.ge HI0.out) | refine below_set ?_ GE360.out)); rintro e w39 ⟨rfl, hi, hb, hk⟩; refine ⟨_, rfl, ?_⟩; have n0_ := Aside0.mk (Kd.S_mono (Kd.S_keep (IsS105.apartS (show IsS105 w0 _ g s0_0 x1001_2 from by repeat (with_reducible first | exact HI0.out | apply IsS105.alloc | apply IsS105.drewN | apply IsS105.drew | apply IsS105.set_1 | refine IsS105.far ?_ NB0_360.out _)) (by (with_reducible repeat (first | apply Kd.S_alloc | apply Kd.S_drewN | apply Kd.S_drew)); exact HO_5.out) (by decide)) hk (fun _ h => h.2)) (fun _ h => h.1)); have n1_ := Aside0.mk (Kd.R_mono (Kd.R_keep (IsS105.apart (show IsS105 w0 _ g s0_0 x1001_2 from by repeat (with_reducible first | exact HI0.out | apply IsS105.alloc | apply IsS105.drewN | apply IsS105.drew | apply IsS105.set_1 | refine IsS105.far ?_ NB0_360.out _)) (by (with_reducible repeat (first | apply Kd.R_alloc | apply Kd.R_drewN | apply Kd.R_drew)); exact HO_361001.out) (by decide)) hk (fun _ h => h.2)) (fun _ h => h.1)); have n2_ := Aside0.mk (KeepBut.blk hk (g' := gb360) (o := .cells #[.int .i64 t351, u361001, .int .i64 t353, .int .i64 (wrap64 (1 + t355))] 38 (0, 0)) (by (with_reducible repeat (first | refine blk_drewN ?_ _ | refine blk_drew ?_ | refine blk_alloc ?_ _)); exact BK360.out) NB360_0.out (by simp)); have n3_ := Aside0.mk (KeepBut.trans (by repeat (with_reducible first | exact HK.out | apply KeepBut.set_ | apply keep_drewN | apply keep_drew | apply keep_alloc | refine keep_far ?_ GW360.out _)) hk (.inl rfl)); have n4_ := Aside0.mk (hb); have n5_ := Aside0.mk (hi); clear HO_5; clear HO_361001; clear BK360; clear HK; clear HB; clear HI0; have HO_5 := n0_; have HO_361001 := n1_; have BK360 := n2_; have HK := n3_; have HB := n4_; have HI0 := n5_; clear n0_ n1_ n2_ n3_ n4_ n5_; (try clear hb); (try clear hb2); (try clear hk); (try clear hi)))
        go_roundg k2
        case measure => have := HK1.out; have := HK2.out; omega
        case rel => exact ⟨(wrap64 (x8_2 + 1)), (t362), (x361001_2), (u361001), (by first | rfl | (simp; done) | (simp [*]; done)), H', ⟨by have := HK1.out; have := HK2.out; omega⟩, ⟨by (with_reducible repeat (first | apply Kd.S_alloc | apply Kd.S_drewN | apply Kd.S_drew)); exact HO_5.out⟩, ⟨by (with_reducible repeat (first | apply Kd.R_alloc | apply Kd.R_drewN | apply Kd.R_drew)); exact HO_361001.out⟩, ⟨by (with_reducible repeat (first | refine blk_drewN ?_ _ | refine blk_drew ?_ | refine blk_alloc ?_ _)); exact BK360.out⟩, ⟨by repeat (with_reducible first | exact HI0.out | apply IsS105.alloc | apply IsS105.drewN | apply IsS105.drew | apply IsS105.set_1 | refine IsS105.far ?_ NB0_360.out _)⟩, ⟨by repeat (with_reducible first | exact HK.out | apply KeepBut.set_ | apply keep_drewN | apply keep_drew | apply keep_alloc | refine keep_far ?_ GW360.out _)⟩, ⟨by repeat (with_reducible first | exact HB.out | apply below_alloc | apply pw_below_drewN | apply below_drew1 | refine below_set ?_ (IsS105.ge HI0.out) | refine below_set ?_ GE360.out)⟩⟩
      ·rw [if_neg c27] at H
       have c27b0 : decide (x8_2 < (x5_1.length : Int)) = false := decide_eq_false c27
       clear c27
       by_cases c40 : x5_1.length < 2932031007402
       ·rw [if_pos c40] at H
        have LMc40 := Aside0.mk c40
        clear c40
        obtain ⟨y366, hy366⟩ : ∃ y_ : List (S38), y_ = (x5_1 ++ [(⟨t351, x361001_2, t353, (wrap64 (1 + t355))⟩ : S38)]) := ⟨_, rfl⟩
        replace H : (spec_someGraph.l0 k2 y366 (wrap64 (x6_1 - 1)) s0_0 x1001_2) = some (r1, r2) := by first | (rw [hy366]; with_reducible exact H) | (have H2_ := (Option.bind_some _ _).symm.trans H; rw [hy366]; with_reducible exact H2_) | (have H2_ := (Option.bind_some _ _).symm.trans H; with_reducible exact H2_) | with_reducible exact H | (rw [hy366]; exact H) | exact H
        have Ny366 := Aside0.mk hy366
        clear hy366
        have H' := Aside0.mk H
        clear H
        obtain ⟨Ao41, co41, eo41⟩ := Kd.S_slice HO_5.out
        subst eo41
        have hnb42 := NB360_0.out
        have hnc42 := NB0_360.out
        have hcz43_0 : wr.cell? ⟨gb360, 0, none⟩ = some (.int .i64 t351) := (blk_cell BK360.out 0).trans rfl
        have hcz43_1 : wr.cell? ⟨gb360, 1, none⟩ = some (u361001) := (blk_cell BK360.out 1).trans rfl
        have hcz43_2 : wr.cell? ⟨gb360, 2, none⟩ = some (.int .i64 t353) := (blk_cell BK360.out 2).trans rfl
        have hcz43_3 : wr.cell? ⟨gb360, 3, none⟩ = some (.int .i64 (wrap64 (1 + t355))) := (blk_cell BK360.out 3).trans rfl
        have hfz43_0 := blk_frozen BK360.out 0
        have hfz43_1 := blk_frozen BK360.out 1
        have hfz43_2 := blk_frozen BK360.out 2
        have hfz43_3 := blk_frozen BK360.out 3
        obtain ⟨Ao45, co45, eo45⟩ := Kd.R_slice HO_361001.out
        subst eo45
        go_wp2_with (first | ((with_reducible refine gate_builtin (b := .append) (xs := #[.tmp 44, .tmp 46]) rfl ?_); at_builtin; refine Kd.S_append k38 w.heap.size rfl (.tmp 44) (.tmp 46) 26 38 (.agg #[(.int .i64 0), (.slice none 0 0), (.int .i64 0), (.int .i64 0)]) 48 rfl Tryd.underlying26 info38 rfl (by decide) (by omega) (.slice Ao41 x5_1.length co41) x5_1 (⟨t351, x361001_2, t353, (wrap64 (1 + t355))⟩ : S38) [.int .i64 t351, .slice Ao45 x361001_2.length co45, .int .i64 t353, .int .i64 (wrap64 (1 + t355))] (fun k_ => k_ ≠ gb360) (fun k_ => some k_ = (.slice Ao45 x361001_2.length co45 : Value).ownBlock) rfl rfl ?aP (fun k_ hk_ => ((Kd.R_mono (ok' := fun k_ => ((fun k_ => k_ ≠ gb360)) k_ ∧ some k_ ≠ (.slice Ao41 x5_1.length co41 : Value).ownBlock) (Kd.R_types (Kd.R_apart' (HO_361001.out) (Kd.S_typed HO_5.out) (by decide)) BK360.out (by decide)) (fun k_ hk => ⟨hk.2, hk.1.2⟩))).1 k_ hk_.symm) ?aF ?aO (Below.refl _ _) ?aS ?aL ?_; (case aP => exact k38_mkM _ _ _ (⟨t351, x361001_2, t353, (wrap64 (1 + t355))⟩ : S38) (Kd.R_mono (Kd.R_tight rfl (Kd.R_mono (ok' := fun k_ => ((fun k_ => k_ ≠ gb360)) k_ ∧ some k_ ≠ (.slice Ao41 x5_1.length co41 : Value).ownBlock) (Kd.R_types (Kd.R_apart' (HO_361001.out) (Kd.S_typed HO_5.out) (by decide)) BK360.out (by decide)) (fun k_ hk => ⟨hk.2, hk.1.2⟩))) (fun _ h_ => h_))); (case aF => exact (fun k_ hk => Kd.freshB (g := gb360) (o := .cells #[.int .i64 t351, .slice Ao45 x361001_2.length co45, .int .i64 t353, .int .i64 (wrap64 (1 + t355))] 38 (0, 0)) (by (with_reducible repeat (first | refine blk_drewN ?_ _ | refine blk_drew ?_ | refine blk_alloc ?_ _)); exact BK360.out) k_ hk)); (case aO => exact (by (with_reducible repeat (first | apply Kd.S_alloc | apply Kd.S_drewN | apply Kd.S_drew)); exact Kd.S_mono HO_5.out (fun k_ hk => ⟨hk.2, fun e_ => hk.1 e_⟩))); (case aS => exact (keep_size (w := w) (g := g) (row := none) (by repeat (with_reducible first | exact HK.out | apply KeepBut.set_ | apply keep_drewN | apply keep_drew | apply keep_alloc | refine keep_far ?_ GW360.out _)))); (case aL => have := LMc40.out; omega); intro v367 w44 ho hb hg hat; rw [← Ny366.out] at ho; have n0_ := Aside0.mk (blk_grown (g := gb360) (o := .cells #[.int .i64 t351, .slice Ao45 x361001_2.length co45, .int .i64 t353, .int .i64 (wrap64 (1 + t355))] 38 (0, 0)) (by (with_reducible repeat (first | refine blk_drewN ?_ _ | refine blk_drew ?_ | refine blk_alloc ?_ _)); exact BK360.out) hg (Kd.S_away HO_5.out (fun _ hk => hk.2))); have n1_ := Aside0.mk (IsS105.grown (by repeat (with_reducible first | exact HI0.out | apply IsS105.alloc | apply IsS105.drewN | apply IsS105.drew | apply IsS105.set_1 | refine IsS105.far ?_ NB0_360.out _)) hg (IsS105.own_neS HI0.out HO_5.out (by decide))); have n2_ := Aside0.mk (below_weaken (by repeat (with_reducible first | exact HB.out | apply below_alloc | apply pw_below_drewN | apply below_drew1 | refine below_set ?_ (IsS105.ge HI0.out) | refine below_set ?_ GE360.out)) HL.out hb); have n3_ := Aside0.mk (KeepBut.trans (by repeat (with_reducible first | exact HK.out | apply KeepBut.set_ | apply keep_drewN | apply keep_drew | apply keep_alloc | refine keep_far ?_ GW360.out _)) (KeepBut.of_grown hg g) (Kd.S_base2 HO_5.out)); have n4_ := Aside0.mk (ho); clear BK360; clear HI0; clear HB; clear HK; clear HO_5; clear HO_361001; have BK360 := n0_; have HI0 := n1_; have HB := n2_; have HK := n3_; have HO368 := n4_; clear n0_ n1_ n2_ n3_ n4_; clear ho hb hg hat))
        go_roundg k2
        case measure => have := HK1.out; have := HK2.out; omega
        case rel => exact ⟨(y366), (wrap64 (x6_1 - 1)), (x1001_2), (by first | rfl | (simp; done) | (simp [*]; done)), H', ⟨by have := HK1.out; have := HK2.out; omega⟩, ⟨by (with_reducible repeat (first | apply Kd.S_alloc | apply Kd.S_drewN | apply Kd.S_drew)); exact Kd.S_mono HO368.out (fun _ hk => trivial)⟩, ⟨by repeat (with_reducible first | exact HI0.out | apply IsS105.alloc | apply IsS105.drewN | apply IsS105.drew | apply IsS105.set_1 | refine IsS105.far ?_ NB0_360.out _)⟩, ⟨by repeat (with_reducible first | exact HK.out | apply KeepBut.set_ | apply keep_drewN | apply keep_drew | apply keep_alloc | refine keep_far ?_ GW360.out _)⟩, ⟨by repeat (with_reducible first | exact HB.out | apply below_alloc | apply pw_below_drewN | apply below_drew1 | refine below_set ?_ (IsS105.ge HI0.out) | refine below_set ?_ GE360.out)⟩⟩
       ·rw [if_neg c40] at H
        exact absurd H (by simp)
   ·rw [if_neg c11] at H
    have c11b0 : decide (0 < x6_1) = false := decide_eq_false c11
    clear c11
    by_cases c46 : (x5_1.length : Int) > 1
    ·rw [if_pos c46] at H
     have c46b0 : decide (1 < (x5_1.length : Int)) = true := decide_eq_true c46
     have c46b1 : decide (1 < x5_1.length) = true := decide_eq_true (by omega)
     clear c46
     replace H := Option.bind_eq_some_iff.mp H
     obtain ⟨⟨t369, t370⟩, A470, H⟩ := H
     replace H : (if t369 = 0 then ((spec_turned.f k1 x5_1).bind fun t371 => (some (t371, t370))) else (some (x5_1, t370))) = some (r1, r2) := H
     have A47 := Aside0.mk A470
     clear A470
     by_cases c48 : t369 = 0
     ·rw [if_pos c48] at H
      have c48b0 : (t369 == 0) = true := beq_iff_eq.mpr c48
      have c48b1 : (t369 != 0) = false := bne_eq_false_iff_eq.mpr c48
      clear c48
      replace H := Option.bind_eq_some_iff.mp H
      obtain ⟨t371, A490, H⟩ := H
      replace H : (some (t371, t370)) = some (r1, r2) := H
      have A49 := Aside0.mk A490
      clear A490
      simp only [Option.some.injEq, Prod.mk.injEq] at H
      obtain ⟨rfl, rfl⟩ := H
      obtain ⟨Ao50, co50, eo50⟩ := Kd.S_slice HO_5.out
      subst eo50
      go_wp2_with (first | (go_at_call 60; (with_reducible refine (spec_reader_pick.calls k1 g s0_0 x1001_1 4 t369 t370 w0 _ ?side1 ?side2 A47.out).mono ?_); (case side1 => repeat (with_reducible first | exact HI0.out | apply IsS105.alloc | apply IsS105.drewN | apply IsS105.drew | apply IsS105.set_1)); (case side2 => repeat (with_reducible first | exact HB.out | apply below_alloc | apply pw_below_drewN | apply below_drew1 | refine below_set ?_ (IsS105.ge HI0.out))); rintro e w51 ⟨rfl, hi, hb, hk⟩; have n0_ := Aside0.mk (Kd.S_mono (Kd.S_keep (IsS105.apartS (show IsS105 w0 _ g s0_0 x1001_1 from by repeat (with_reducible first | exact HI0.out | apply IsS105.alloc | apply IsS105.drewN | apply IsS105.drew | apply IsS105.set_1)) (by (with_reducible repeat (first | apply Kd.S_alloc | apply Kd.S_drewN | apply Kd.S_drew)); exact HO_5.out) (by decide)) hk (fun _ h => h.2)) (fun _ h => h.1)); have n1_ := Aside0.mk (KeepBut.trans (by repeat (with_reducible first | exact HK.out | apply KeepBut.set_ | apply keep_drewN | apply keep_drew | apply keep_alloc)) hk (.inl rfl)); have n2_ := Aside0.mk (hb); have n3_ := Aside0.mk (hi); clear HO_5; clear HK; clear HB; clear HI0; have HO_5 := n0_; have HK := n1_; have HB := n2_; have HI0 := n3_; clear n0_ n1_ n2_ n3_; (try clear hb); (try clear hb2); (try clear hk); (try clear hi)) | ((with_reducible refine gate_callee (f := 117) rfl ?_); refine goesL_ (some 57) rfl rfl Tryd.func117 (by kernel_rfl) rfl #[.slice Ao50 x5_1.length co50] rfl (by (try simp only [List.map_toArray, List.map_cons, List.map_nil]); first | done | rfl | (simp only [List.length_drop, List.length_take]; rfl)) ?_; (with_reducible refine (spec_turned.calls k1 _ _ x5_1 t371 _ ?side1 ?side2 A49.out).mono ?_); (case side1 => repeat (first | exact (Kd.S_reads' HO_5.out).2.2 | (with_reducible refine Kd.C_alloc ?_ _) | (with_reducible refine Kd.C_drewN ?_ _) | (with_reducible refine Kd.C_drew ?_))); (case side2 => exact (Kd.S_reads' HO_5.out).2.1); rintro e w52 ⟨v372, rfl, ho0, hb⟩; refine ⟨_, rfl, ?_⟩; have n0_ := Aside0.mk (Kd.S_elder' (by (with_reducible repeat (first | apply Kd.S_alloc | apply Kd.S_drewN | apply Kd.S_drew)); exact HO_5.out) (Kd.S_base ho0) hb); have n1_ := Aside0.mk (Kd.S_lower (Kd.S_new' ho0 (Kd.S_lt (by (with_reducible repeat (first | apply Kd.S_alloc | apply Kd.S_drewN | apply Kd.S_drew)); exact HO_5.out))) (keep_size (w := w) (g := g) (row := none) (by repeat (with_reducible first | exact HK.out | apply KeepBut.set_ | apply keep_drewN | apply keep_drew | apply keep_alloc)))); have n2_ := Aside0.mk (IsS105.below (by repeat (with_reducible first | exact HI0.out | apply IsS105.alloc | apply IsS105.drewN | apply IsS105.drew | apply IsS105.set_1)) hb); have n3_ := Aside0.mk (KeepBut.trans (by repeat (with_reducible first | exact HK.out | apply KeepBut.set_ | apply keep_drewN | apply keep_drew | apply keep_alloc)) (KeepBut.of_below hb g none) (.inl rfl)); have n4_ := Aside0.mk (below_step (by repeat (with_reducible first | exact HB.out | apply below_alloc | apply pw_below_drewN | apply below_drew1 | refine below_set ?_ (IsS105.ge HI0.out))) hb); clear HO_5; clear HI0; clear HK; clear HB; have HO_5 := n0_; have HO373 := n1_; have HI0 := n2_; have HK := n3_; have HB := n4_; clear n0_ n1_ n2_ n3_ n4_; (try clear hb); (try clear hb2); (try clear hk); (try clear hi); (try clear ho0)))
      go_ret
      exact ⟨_, by first | rfl | (simp [errW_none, errW_some] <;> rfl) | (simp only [← hji4]; first | rfl | (simp [errW_none, errW_some] <;> rfl)) | (simp [*, errW_none, errW_some] <;> rfl), by (with_reducible repeat (first | apply Kd.S_alloc | apply Kd.S_drewN | apply Kd.S_drew)); exact Kd.S_mono HO373.out (fun _ hk => trivial), by repeat (with_reducible first | exact HI0.out | apply IsS105.alloc | apply IsS105.drewN | apply IsS105.drew | apply IsS105.set_1), by repeat (with_reducible first | exact HB.out | apply below_alloc | apply pw_below_drewN | apply below_drew1 | refine below_set ?_ (IsS105.ge HI0.out)), by repeat (with_reducible first | exact HK.out | apply KeepBut.set_ | apply keep_drewN | apply keep_drew | apply keep_alloc)⟩
     ·rw [if_neg c48] at H
      have c48b0 : (t369 == 0) = false := beq_eq_false_iff_ne.mpr c48
      have c48b1 : (t369 != 0) = true := bne_iff_ne.mpr c48
      simp only [Option.some.injEq, Prod.mk.injEq] at H
      obtain ⟨rfl, rfl⟩ := H
      obtain ⟨Ao53, co53, eo53⟩ := Kd.S_slice HO_5.out
      subst eo53
      go_wp2_with (first | (go_at_call 60; (with_reducible refine (spec_reader_pick.calls k1 g s0_0 x1001_1 4 t369 t370 w0 _ ?side1 ?side2 A47.out).mono ?_); (case side1 => repeat (with_reducible first | exact HI0.out | apply IsS105.alloc | apply IsS105.drewN | apply IsS105.drew | apply IsS105.set_1)); (case side2 => repeat (with_reducible first | exact HB.out | apply below_alloc | apply pw_below_drewN | apply below_drew1 | refine below_set ?_ (IsS105.ge HI0.out))); rintro e w54 ⟨rfl, hi, hb, hk⟩; have n0_ := Aside0.mk (Kd.S_mono (Kd.S_keep (IsS105.apartS (show IsS105 w0 _ g s0_0 x1001_1 from by repeat (with_reducible first | exact HI0.out | apply IsS105.alloc | apply IsS105.drewN | apply IsS105.drew | apply IsS105.set_1)) (by (with_reducible repeat (first | apply Kd.S_alloc | apply Kd.S_drewN | apply Kd.S_drew)); exact HO_5.out) (by decide)) hk (fun _ h => h.2)) (fun _ h => h.1)); have n1_ := Aside0.mk (KeepBut.trans (by repeat (with_reducible first | exact HK.out | apply KeepBut.set_ | apply keep_drewN | apply keep_drew | apply keep_alloc)) hk (.inl rfl)); have n2_ := Aside0.mk (hb); have n3_ := Aside0.mk (hi); clear HO_5; clear HK; clear HB; clear HI0; have HO_5 := n0_; have HK := n1_; have HB := n2_; have HI0 := n3_; clear n0_ n1_ n2_ n3_; (try clear hb); (try clear hb2); (try clear hk); (try clear hi)))
      go_ret
      exact ⟨_, by first | rfl | (simp [errW_none, errW_some] <;> rfl) | (simp only [← hji4]; first | rfl | (simp [errW_none, errW_some] <;> rfl)) | (simp [*, errW_none, errW_some] <;> rfl), by (with_reducible repeat (first | apply Kd.S_alloc | apply Kd.S_drewN | apply Kd.S_drew)); exact HO_5.out, by repeat (with_reducible first | exact HI0.out | apply IsS105.alloc | apply IsS105.drewN | apply IsS105.drew | apply IsS105.set_1), by repeat (with_reducible first | exact HB.out | apply below_alloc | apply pw_below_drewN | apply below_drew1 | refine below_set ?_ (IsS105.ge HI0.out)), by repeat (with_reducible first | exact HK.out | apply KeepBut.set_ | apply keep_drewN | apply keep_drew | apply keep_alloc)⟩
    ·rw [if_neg c46] at H
     have c46b0 : decide (1 < (x5_1.length : Int)) = false := decide_eq_false c46
     have c46b1 : decide (1 < x5_1.length) = false := decide_eq_false (by omega)
     clear c46
     simp only [Option.some.injEq, Prod.mk.injEq] at H
     obtain ⟨rfl, rfl⟩ := H
     obtain ⟨Ao55, co55, eo55⟩ := Kd.S_slice HO_5.out
     subst eo55
     go_wp2
     go_ret
     exact ⟨_, by first | rfl | (simp [errW_none, errW_some] <;> rfl) | (simp only [← hji4]; first | rfl | (simp [errW_none, errW_some] <;> rfl)) | (simp [*, errW_none, errW_some] <;> rfl), by (with_reducible repeat (first | apply Kd.S_alloc | apply Kd.S_drewN | apply Kd.S_drew)); exact HO_5.out, by repeat (with_reducible first | exact HI0.out | apply IsS105.alloc | apply IsS105.drewN | apply IsS105.drew | apply IsS105.set_1), by repeat (with_reducible first | exact HB.out | apply below_alloc | apply pw_below_drewN | apply below_drew1 | refine below_set ?_ (IsS105.ge HI0.out)), by repeat (with_reducible first | exact HK.out | apply KeepBut.set_ | apply keep_drewN | apply keep_drew | apply keep_alloc)⟩
end Go.Proofs.YtdmeiiedbhfniaaDoor.P
end
section
namespace Go.Proofs.YtdmeiiedbhfniaaDoor
open Go.RowKit YtdmeiiedbhfniaaDoorW.PrintWords
namespace Hn
theorem H_N {α : Type} {d : Kd α} {e base : Nat} {w : World} {ok oki : Nat → Prop} {v : Value} {xs : List α} {i : Int} {c : List Value} {x' : α}
  (h : Kd.H d e w base ok v xs i oki c) (hx : Kd.FK d w (fun k => ok k ∧ some k ≠ v.ownBlock) x' c) : Kd.N d e w base ok v (xs.set i.toNat x') := by
 obtain ⟨ho, f, hR⟩ := h
 obtain ⟨h0, rows, hl, hraw, hf⟩ := Kd.R_N hR
 refine ⟨fun k hk => (h0 k hk).1, rows, by rw [hl, List.length_zipIdx, List.length_set], hraw, fun j x cc hj hcc => ?_⟩
 by_cases hji : j = i.toNat
 ·subst hji
  have hjl : i.toNat < xs.length := by
   have := (List.getElem?_eq_some_iff.1 hj).1
   rwa [List.length_set] at this
  rw [List.getElem?_set_self hjl] at hj
  injection hj with hj
  subst hj
  have h2 := Kd.FK_now (hf i.toNat (xs[i.toNat], i.toNat) cc (Kd.zip_at (List.getElem?_eq_getElem hjl)) hcc)
  have h3 : cc = c := (h2.1 rfl).1
  rw [h3]
  exact hx
 ·rw [List.getElem?_set_ne (Ne.symm hji)] at hj
  have h2 := hf j (x, j) cc (Kd.zip_at hj) hcc
  exact Kd.FK_mono (Foot.imp (Q := fun W => d.K W x cc) h2 (fun W' hk => hk.2 hji)) (fun k hk => ⟨hk.1.1, hk.2⟩)
end Hn
end Go.Proofs.YtdmeiiedbhfniaaDoor
end
