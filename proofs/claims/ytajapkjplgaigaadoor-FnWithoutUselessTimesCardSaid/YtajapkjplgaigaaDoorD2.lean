/- The law 'FnWithoutUselessTimes' holds for every input: its card. No condition but the row's own. -/
import Derived.Test.YtajapkjplgaigaaDoorD24
import Derived.Test.YtajapkjplgaigaaDoorD22
import Derived.Test.YtajapkjplgaigaaDoorRows
import Derived.WalkKit
import Derived.ProofKit
import Derived.OpenShut
import Derived.ShutString
import Derived.ChangeOld
import Derived.Below
import Derived.SizedLaws
import Derived.Test.YtajapkjplgaigaaDoorD2WSized
import Derived.Test.YtajapkjplgaigaaDoorCards
import Derived.Test.YtajapkjplgaigaaDoorTie
import Derived.Deep.DeepHandedRow
import Derived.Lib.LaidTab
import Derived.Test.YtajapkjplgaigaaDoorD21
section
namespace Go.Proofs.YtajapkjplgaigaaDoor.P
open Go.RowKit Go.Shelf Go.Proofs.YtajapkjplgaigaaDoorW.PrintWords Go.Proofs.YtajapkjplgaigaaDoorW.PrintLast Go.Proofs.YtajapkjplgaigaaDoorW.PrintMore
set_option linter.unusedVariables false
set_option linter.unusedSimpArgs false
theorem first_split (p : Nat → Prop) [DecidablePred p] : ∀ (l : List Nat), (∃ i ∈ l, ¬ p i) → ∃ a i b, l = a ++ i :: b ∧ (∀ x ∈ a, p x) ∧ ¬ p i
 | [], ⟨i, hi, _⟩ => by cases hi
 | x :: l, ⟨i, hi, hp⟩ => by
  by_cases hx : p x
  ·obtain ⟨a, j, b, he, h1, h2⟩ := first_split p l (by
    rcases List.mem_cons.1 hi with rfl | hi
    ·exact absurd hx hp
    ·exact ⟨i, hi, hp⟩)
   exact ⟨x :: a, j, b, by rw [he]; rfl, fun y hy => by rcases List.mem_cons.1 hy with rfl | hy; exact hx; exact h1 y hy, h2⟩
  ·exact ⟨[], x, l, rfl, fun y hy => (by cases hy), hx⟩
theorem can_next {ts : List TT} (hf : fineB ts = true) {od : List Nat} (hall : ∀ i, i < ts.length → i ∈ od) (hod : ∀ i ∈ od, i < ts.length) (ht : Topo (needE ts) od) {out : List Nat} {s : Nat} (ho : OrdOk ts.length out s) (hl : out.length < ts.length) : firstP (needsM ts) s ≠ none := by
 have hex : ∃ i ∈ od, ¬ i ∈ out := by
  refine Classical.byContradiction (fun hc => ?_)
  have := nodup_len (List.range ts.length) out List.nodup_range (fun i hi => Classical.byContradiction (fun hn => hc ⟨i, hall i (List.mem_range.1 hi), hn⟩))
  rw [List.length_range] at this
  omega
 obtain ⟨a, i, b, hab, h1, h2⟩ := first_split (fun i => i ∈ out) od hex
 have hin : i < ts.length := hod i (by rw [hab]; simp)
 intro hno
 have hc : canP (needsM ts) s i = true := by
  rw [canP_eq hf ho.bits hin, decide_eq_false (fun h => h2 (mem_nI.1 h))]
  refine List.all_eq_true.2 (fun y hy => decide_eq_true ?_)
  have hy1 := (task_mem (fine_task hf hin)).1 y hy
  obtain ⟨k, rfl⟩ : ∃ k : Nat, y = (k : Int) := ⟨y.toNat, by omega⟩
  refine mem_nI.2 (h1 k (ht a i b hab k ?_))
  unfold needE
  rw [rdT_at ts i hin]
  exact hy
 have := List.find?_eq_none.1 hno i (List.mem_range.2 (by rw [needsM_len]; exact hin))
 exact this hc
theorem order_go {ts : List TT} (hf : fineB ts = true) {od : List Nat} (hall : ∀ i, i < ts.length → i ∈ od) (hod : ∀ i ∈ od, i < ts.length) (ht : Topo (needE ts) od) : ∀ (m : Nat) (out : List Nat) (s : Nat), OrdOk ts.length out s → out.length + m = ts.length → (orderGo (needsM ts) m (out, s)).1.length = ts.length ∧ OrdOk ts.length (orderGo (needsM ts) m (out, s)).1 (orderGo (needsM ts) m (out, s)).2
 | 0, out, s, ho, hm => ⟨by simpa [orderGo] using hm, by simpa [orderGo] using ho⟩
 | m + 1, out, s, ho, hm => by
  cases hfi : firstP (needsM ts) s with
  | none => exact absurd hfi (can_next hf hall hod ht ho (by omega))
  | some i =>
   obtain ⟨h1, h2⟩ := firstP_can hfi
   rw [needsM_len] at h1
   have h3 : s.testBit i = false := by unfold canP at h2; simp only [Bool.and_eq_true, Bool.not_eq_true'] at h2; exact h2.1
   have hstep : orderStep (needsM ts) (out, s) = (out ++ [i], s ||| 2 ^ i) := by unfold orderStep; simp only [hfi]
   rw [orderGo, hstep]
   exact order_go hf hall hod ht m (out ++ [i]) (s ||| 2 ^ i) (ho.add h1 h3) (by simp only [List.length_append, List.length_cons, List.length_nil]; omega)
theorem graph_of_order {ts : List TT} (hf : fineB ts = true) {od : List Nat} (hall : ∀ i, i < ts.length → i ∈ od) (hod : ∀ i ∈ od, i < ts.length) (ht : Topo (needE ts) od) : ∃ G, graphP ts = some G := by
 have h := order_go hf hall hod ht ts.length [] 0 (ordOk_nil _) (by simp)
 have h2 : (orderP (needsM ts)).2 = 2 ^ ts.length - 1 := by
  unfold orderP
  rw [needsM_len]
  exact h.2.all.1 h.1
 have := graphP_some ts
 rw [hf, h2] at this
 simp only [decide_true, Bool.and_true] at this
 exact Option.isSome_iff_exists.1 this
def keepE (ts : List TT) (i j : Nat) : Prop := needE ts i j ∧ ¬ ∃ k, needE ts i k ∧ Rch (needE ts) k j
theorem useless_bit (nd bl : List Nat) (i j : Nat) : ∀ (l : List Nat) (o : Nat), (l.foldl (uselessK nd bl i) o).testBit j = (o.testBit j || ((nd.getD i 0).testBit j && l.any fun k => (bl.getD k 0).testBit j))
 | [], o => by simp
 | k :: l, o => by
  rw [List.foldl_cons, useless_bit nd bl i j l]
  unfold uselessK
  rw [Nat.testBit_or, Nat.testBit_and, List.any_cons]
  cases o.testBit j <;> cases (nd.getD i 0).testBit j <;> simp
theorem keepN_bit {ts : List TT} (hs : Small ts) {G : GrN} (hg : graphP ts = some G) {i : Nat} (hi : i < ts.length) (j : Nat) : j ∈ bitsN (keepN G i) ↔ keepE ts i j := by
 obtain ⟨hts, _, hOk⟩ := graphP_ok hg
 obtain ⟨hf, hnd, _⟩ := graphP_fine hg
 have hn8 := fine_len hf
 have hb : ∀ k, (G.nd.getD i 0).testBit k = true ↔ needE ts i k := fun k => by
  rw [← needE_bits hf hi k, ← hnd, mem_bitsN]
  refine ⟨fun h => ⟨?_, h⟩, fun h => h.2⟩
  have := hOk.nlt i
  rw [hts] at this
  have := bit_lt this h
  omega
 unfold keepN keepE uselessN
 rw [mem_bitsN, diffN_bit, useless_bit]
 simp only [Nat.zero_testBit, Bool.false_or, Bool.and_eq_true, Bool.not_eq_true', Bool.and_eq_false_iff, List.any_eq_false]
 constructor
 ·rintro ⟨h8, h1, h2⟩
  refine ⟨(hb j).1 h1, ?_⟩
  rintro ⟨k, hk, hr⟩
  rcases h2 with h2 | h2
  ·rw [h1] at h2; cases h2
  ·have hkl := (needE_lt hf hk).2
   exact h2 k (mem_bitsN.2 ⟨by omega, (hb k).2 hk⟩) ((below_bit hs hg hkl j).2 hr)
 ·rintro ⟨h1, h2⟩
  refine ⟨by have := (needE_lt hf h1).2; omega, (hb j).2 h1, Or.inr (fun k hk hr => h2 ⟨k, (hb k).1 (mem_bitsN.1 hk).2, ?_⟩)⟩
  have hk' := (hb k).1 (mem_bitsN.1 hk).2
  exact (below_bit hs hg (needE_lt hf hk').2 j).1 hr
def cutL (ts : List TT) (G : GrN) : List TT := (List.range ts.length).map (keepT G)
theorem cut_len (ts : List TT) (G : GrN) : (cutL ts G).length = ts.length := by simp [cutL]
theorem cut_at {ts : List TT} {G : GrN} (hts : G.ts = ts) {i : Nat} (hi : i < ts.length) : rd_T39 (cutL ts G) (i : Int) = ⟨(rd_T39 ts (i : Int)).f0, nI (bitsN (keepN G i)), (rd_T39 ts (i : Int)).f2, (rd_T39 ts (i : Int)).f3⟩ := by
 have : rd_T39 (cutL ts G) (i : Int) = keepT G i := by simp [rd_T39, cutL, hi]
 rw [this]
 unfold keepT
 rw [hts]
 rfl
theorem cut_needE {ts : List TT} (hs : Small ts) {G : GrN} (hg : graphP ts = some G) (i j : Nat) : needE (cutL ts G) i j ↔ keepE ts i j := by
 obtain ⟨hts, _, _⟩ := graphP_ok hg
 by_cases hi : i < ts.length
 ·unfold needE
  rw [cut_at hts hi]
  show ((j : Nat) : Int) ∈ nI (bitsN (keepN G i)) ↔ _
  rw [mem_nI]
  exact keepN_bit hs hg hi j
 ·constructor
  ·intro h
   unfold needE at h
   rw [rdT_off _ i (by rw [cut_len]; exact hi)] at h
   cases h
  ·intro h
   exact absurd (needE_lt (graphP_fine hg).1 h.1).1 hi
theorem bits_pairwise (s : Nat) : (nI (bitsN s)).Pairwise (· < ·) := by
 unfold bitsN
 exact nI_pick_pairwise (fun i => s.testBit i) 8
theorem cut_fine {ts : List TT} (hs : Small ts) {G : GrN} (hg : graphP ts = some G) : fineB (cutL ts G) = true := by
 obtain ⟨hts, _, _⟩ := graphP_ok hg
 have hf := (graphP_fine hg).1
 unfold fineB
 rw [Bool.and_eq_true]
 refine ⟨List.all_eq_true.2 (fun t ht => ?_), decide_eq_true (by rw [cut_len]; exact fine_len hf)⟩
 obtain ⟨i, hi, rfl⟩ := List.mem_map.1 (show t ∈ (List.range ts.length).map (keepT G) from ht)
 have hi' := List.mem_range.1 hi
 have h := fine_task hf hi'
 rw [← rdT_at ts i hi'] at h
 unfold taskB at h ⊢
 unfold keepT
 rw [hts, cut_len]
 simp only [Bool.and_eq_true] at h ⊢
 refine ⟨⟨h.1.1, List.all_eq_true.2 (fun x hx => ?_)⟩, asc_pairwise _ (bits_pairwise _)⟩
 obtain ⟨j, hj, rfl⟩ := List.mem_map.1 (show x ∈ nI (bitsN (keepN G i)) from hx)
 have := (needE_lt hf ((keepN_bit hs hg hi' j).1 hj).1).2
 unfold inB
 exact decide_eq_true (by omega)
theorem cut_small {ts : List TT} (hs : Small ts) {G : GrN} (hg : graphP ts = some G) : Small (cutL ts G) := by
 have hf := (graphP_fine hg).1
 have := fine_len hf
 refine ⟨by rw [cut_len]; omega, fun t ht => ?_⟩
 obtain ⟨i, hi, rfl⟩ := List.mem_map.1 (show t ∈ (List.range ts.length).map (keepT G) from ht)
 show (nI (bitsN (keepN G i))).length < _
 rw [nI_length]
 have := bitsN_len (keepN G i)
 omega
theorem cut_graph {ts : List TT} (hs : Small ts) {G : GrN} (hg : graphP ts = some G) : ∃ G', graphP (cutL ts G) = some G' := by
 have hf := (graphP_fine hg).1
 obtain ⟨_, hO⟩ := topOrder_ev ts hs hf
 refine graph_of_order (cut_fine hs hg) (od := (orderP (needsM ts)).1) (fun i hi => full_mem hs hg (by rw [cut_len] at hi; exact hi)) (fun i hi => by rw [cut_len]; exact hO.lt i hi) (fun a i b he k hk => ?_)
 exact topo_of hf a i b he k ((cut_needE hs hg i k).1 hk).1
theorem Rch.rank {E : Nat → Nat → Prop} {ρ : Nat → Nat} (h : ∀ i k, E i k → ρ k < ρ i) {i k : Nat} (hr : Rch E i k) : ρ k < ρ i := by
 induction hr with
 | one he => exact h _ _ he
 | step he _ ih => exact Nat.lt_trans ih (h _ _ he)
theorem keep_path {E K : Nat → Nat → Prop} {ρ : Nat → Nat} (h : ∀ i k, E i k → ρ k < ρ i) (hK : ∀ i j, K i j ↔ E i j ∧ ¬ ∃ k, E i k ∧ Rch E k j) : ∀ (n i k : Nat), ρ i - ρ k ≤ n → E i k → Rch K i k := by
 intro n
 induction n with
 | zero =>
  intro i k hn hE
  have := h i k hE
  omega
 | succ n ih =>
  intro i k hn hE
  by_cases hu : ∃ k', E i k' ∧ Rch E k' k
  ·obtain ⟨k', hE', hr⟩ := hu
   have h1 := h i k' hE'
   have h2 := hr.rank h
   have lift : ∀ {x y : Nat}, Rch E x y → ρ x ≤ ρ k' → ρ k ≤ ρ y → Rch K x y := by
    intro x y hxy
    induction hxy with
    | @one x y he => exact fun hx hy => ih x y (by omega) he
    | @step x z y he hzy ih2 =>
     intro hx hy
     have h3 := h x z he
     have h4 := hzy.rank h
     exact (ih x z (by omega) he).trans (ih2 (by omega) hy)
   exact (ih i k' (by omega) hE').trans (lift hr (Nat.le_refl _) (Nat.le_refl _))
  ·exact .one ((hK i k).2 ⟨hE, hu⟩)
theorem topo_rank {E : Nat → Nat → Prop} {od : List Nat} (ht : Topo E od) (hn : od.Nodup) (hin : ∀ i k, E i k → i ∈ od) : ∀ i k, E i k → od.idxOf k < od.idxOf i := fun i k hE => by
 obtain ⟨a, b, hab⟩ := List.append_of_mem (hin i k hE)
 have hk := ht a i b hab k hE
 have hi : i ∉ a := fun h => by
  rw [hab] at hn
  exact (List.nodup_append.1 hn).2.2 i h i List.mem_cons_self rfl
 rw [hab, List.idxOf_append, if_pos hk, List.idxOf_append, if_neg hi]
 have := List.idxOf_lt_length_of_mem hk
 omega
theorem need_rank {ts : List TT} (hs : Small ts) {G : GrN} (hg : graphP ts = some G) : ∀ i k, needE ts i k → (orderP (needsM ts)).1.idxOf k < (orderP (needsM ts)).1.idxOf i := by
 have hf := (graphP_fine hg).1
 obtain ⟨_, hO⟩ := topOrder_ev ts hs hf
 exact topo_rank (topo_of hf) hO.nd (fun i k h => full_mem hs hg (needE_lt hf h).1)
theorem cut_path {ts : List TT} (hs : Small ts) {G : GrN} (hg : graphP ts = some G) {i k : Nat} (h : needE ts i k) : Rch (needE (cutL ts G)) i k :=
 keep_path (need_rank hs hg) (fun i j => cut_needE hs hg i j) _ i k (Nat.le_refl _) h
def uselessB (ts : List TT) (G : GrN) (i : Nat) (x : Int) : Bool := (rd_T39 ts (i : Int)).f1.any fun k => decide (x ∈ allL G k.toNat)
theorem isUseless_go {ts : List TT} (hs : Small ts) {G : GrN} (hg : graphP ts = some G) {i : Nat} (hi : i < ts.length) (x : Int) : ∀ (r pre : List Int), pre ++ r = (rd_T39 ts (i : Int)).f1 → Ev (fun k => spec_isUseless.l0 k ts (i : Int) x (pre.length : Int)) (r.any fun k => decide (x ∈ allL G k.toNat))
 | [], pre, he => by
  refine Ev.succ ?_
  simp only [spec_isUseless.l0]
  refine Ev.pos (by omega) (Ev.pos (by omega) (Ev.neg ?_ (Ev.pure _)))
  rw [← he]
  exact len_nlt pre
 | y :: r, pre, he => by
  have hf := (graphP_fine hg).1
  have hy : y ∈ (rd_T39 ts (i : Int)).f1 := by rw [← he]; simp
  have h1 : rd (rd_T39 ts (i : Int)).f1 (pre.length : Int) = y := by rw [← he]; exact rdm pre y r
  have h2 : (pre.length : Int) < ((rd_T39 ts (i : Int)).f1.length : Int) := by rw [← he]; exact len_lt _ _ _
  have hl := small_rd hs (i : Int)
  have hy1 : 0 ≤ y ∧ y < ts.length := by
   rw [rdT_at ts i hi] at hy
   exact (task_mem (fine_task hf hi)).1 y hy
  have ha := allNeeds_ev hs hg y.toNat (by omega)
  rw [Int.toNat_of_nonneg hy1.1] at ha
  have hal : (allL G y.toNat).length ≤ 8 := by unfold allL; rw [nI_length]; exact bitsN_len _
  refine Ev.succ ?_
  simp only [spec_isUseless.l0, h1]
  refine Ev.pos (by omega) (Ev.pos (by omega) (Ev.pos h2 (Ev.pos (by omega) (Ev.bind ha (Ev.bind (isIn_ev _ _ (by omega)) (Ev.ite (fun hc => ?_) (fun hc => ?_)))))))
  ·rw [List.any_cons, hc, Bool.true_or]
   exact Ev.pure _
  ·rw [List.any_cons, Bool.eq_false_iff.2 hc, Bool.false_or, len_next pre y (by omega)]
   exact isUseless_go hs hg hi x r (pre ++ [y]) (by rw [← he]; simp)
theorem isUseless_ev {ts : List TT} (hs : Small ts) {G : GrN} (hg : graphP ts = some G) {i : Nat} (hi : i < ts.length) (x : Int) : Ev (fun k => spec_isUseless.f k ts (i : Int) x) (uselessB ts G i x) := isUseless_go hs hg hi x _ [] rfl
def keepL (ts : List TT) (G : GrN) (i : Nat) : List Int := (rd_T39 ts (i : Int)).f1.filter fun x => !uselessB ts G i x
theorem mem_allL {G : GrN} {k j : Nat} : ((j : Nat) : Int) ∈ allL G k ↔ j ∈ bitsN (G.bl.getD k 0) := mem_nI
theorem keepL_eq {ts : List TT} (hs : Small ts) {G : GrN} (hg : graphP ts = some G) {i : Nat} (hi : i < ts.length) : keepL ts G i = nI (bitsN (keepN G i)) := by
 have hf := (graphP_fine hg).1
 have hn8 := fine_len hf
 have htk := task_mem (fine_task hf hi)
 rw [← rdT_at ts i hi] at htk
 refine asc_ext _ _ ((pairwise_asc _ htk.2).filter _) (bits_pairwise _) (fun x => ?_)
 have hu : ∀ j : Nat, uselessB ts G i (j : Int) = true ↔ ∃ k, needE ts i k ∧ Rch (needE ts) k j := fun j => by
  unfold uselessB
  rw [List.any_eq_true]
  constructor
  ·rintro ⟨k, hk, h⟩
   have hk1 := htk.1 k hk
   obtain ⟨kn, rfl⟩ : ∃ kn : Nat, k = (kn : Int) := ⟨k.toNat, by omega⟩
   rw [Int.toNat_natCast] at h
   exact ⟨kn, hk, (below_bit hs hg (by omega) j).1 (mem_bitsN.1 (mem_allL.1 (of_decide_eq_true h))).2⟩
  ·rintro ⟨k, hk, h⟩
   have hkl := (needE_lt hf hk).2
   refine ⟨(k : Int), hk, decide_eq_true ?_⟩
   rw [Int.toNat_natCast]
   have hj : j < 8 := by
    have : ∀ {x y : Nat}, Rch (needE ts) x y → y < ts.length := by
     intro x y hxy
     induction hxy with
     | one h => exact (needE_lt hf h).2
     | step _ _ ih => exact ih
    have := this h
    omega
   exact mem_allL.2 (mem_bitsN.2 ⟨hj, (below_bit hs hg hkl j).2 h⟩)
 unfold keepL
 rw [List.mem_filter]
 constructor
 ·rintro ⟨h1, h2⟩
  have hx1 := htk.1 x h1
  obtain ⟨j, rfl⟩ : ∃ j : Nat, x = (j : Int) := ⟨x.toNat, by omega⟩
  rw [mem_nI, keepN_bit hs hg hi]
  refine ⟨h1, fun hc => ?_⟩
  rw [(hu j).2 hc] at h2
  cases h2
 ·intro h
  obtain ⟨j, hj, rfl⟩ := List.mem_map.1 (show x ∈ nI (bitsN (keepN G i)) from h)
  obtain ⟨h1, h2⟩ := (keepN_bit hs hg hi j).1 hj
  refine ⟨h1, ?_⟩
  cases hb : uselessB ts G i (j : Int) with
  | false => rfl
  | true => exact absurd ((hu j).1 hb) h2
theorem without_l1 {ts : List TT} (hs : Small ts) {G : GrN} (hg : graphP ts = some G) {i : Nat} (hi : i < ts.length) (acc : List TT) (hacc : acc.length ≤ 8) (a b c : Int) (r : List TT)
  (hgo : Ev (fun k => spec_WithoutUseless.l0 k ts (acc ++ [⟨a, keepL ts G i, b, c⟩]) (wrap64 ((i : Int) + 1))) r) : ∀ (m pre out : List Int), pre ++ m = (rd_T39 ts (i : Int)).f1 → out.length ≤ pre.length → out ++ (m.filter fun x => !uselessB ts G i x) = keepL ts G i →
  Ev (fun k => spec_WithoutUseless.l1 k ts acc (i : Int) out (pre.length : Int) a (rd_T39 ts (i : Int)).f1 b c) r
 | [], pre, out, he, ho, hk => by
  refine Ev.succ ?_
  simp only [spec_WithoutUseless.l1]
  have e : out = keepL ts G i := by simpa using hk
  rw [e]
  refine Ev.neg (by rw [← he]; exact len_nlt pre) (Ev.pos (by omega) ?_)
  exact hgo
 | x :: m, pre, out, he, ho, hk => by
  have h1 : rd (rd_T39 ts (i : Int)).f1 (pre.length : Int) = x := by rw [← he]; exact rdm pre x m
  have h2 : (pre.length : Int) < ((rd_T39 ts (i : Int)).f1.length : Int) := by rw [← he]; exact len_lt _ _ _
  have hl := small_rd hs (i : Int)
  refine Ev.succ ?_
  simp only [spec_WithoutUseless.l1, h1]
  refine Ev.pos h2 (Ev.pos (by omega) (Ev.bind (isUseless_ev hs hg hi x) (Ev.ite (fun hc => ?_) (fun hc => ?_))))
  ·rw [len_next pre x (by omega)]
   rw [List.filter_cons_of_neg (by simp [hc])] at hk
   exact without_l1 hs hg hi acc hacc a b c r hgo m (pre ++ [x]) out (by rw [← he]; simp) (by simp; omega) hk
  ·rw [List.filter_cons_of_pos (by simp [hc])] at hk
   refine Ev.pos (by omega) ?_
   rw [len_next pre x (by omega)]
   exact without_l1 hs hg hi acc hacc a b c r hgo m (pre ++ [x]) (out ++ [x]) (by rw [← he]; simp) (by simp; omega) (by rw [← hk]; simp)
theorem without_l0 {ts : List TT} (hs : Small ts) {G : GrN} (hg : graphP ts = some G) : ∀ (m j : Nat), j + m = ts.length → Ev (fun k => spec_WithoutUseless.l0 k ts ((List.range j).map (keepT G)) (j : Int)) (cutL ts G)
 | 0, j, hj => by
  refine Ev.succ ?_
  simp only [spec_WithoutUseless.l0]
  refine Ev.neg (by omega) (Ev.eq ?_)
  unfold cutL
  rw [show j = ts.length by omega]
 | m + 1, j, hj => by
  have hf := (graphP_fine hg).1
  have hn8 := fine_len hf
  have hts := (graphP_ok hg).1
  refine Ev.succ ?_
  simp only [spec_WithoutUseless.l0]
  refine Ev.pos (by omega) (Ev.pos (by omega) ?_)
  refine without_l1 hs hg (by omega) _ (by simp; omega) _ _ _ _ ?_ _ [] [] rfl (Nat.le_refl _) rfl
  rw [w64n j (by omega)]
  have e : (List.range j).map (keepT G) ++ [(⟨(rd_T39 ts (j : Int)).f0, keepL ts G j, (rd_T39 ts (j : Int)).f2, (rd_T39 ts (j : Int)).f3⟩ : TT)] = (List.range (j + 1)).map (keepT G) := by
   rw [List.range_succ, List.map_append, keepL_eq hs hg (by omega)]
   unfold keepT
   rw [hts]
   rfl
  rw [e]
  exact without_l0 hs hg m (j + 1) (by omega)
theorem WithoutUseless_ev (ts : List TT) (hs : Small ts) : Ev (fun k => spec_WithoutUseless.f k ts) (withoutW ts) := by
 unfold spec_WithoutUseless.f withoutW
 refine Ev.bind (validGraph_ev ts hs) ?_
 cases hg : graphP ts with
 | none => exact Ev.neg (by simp) (Ev.pure _)
 | some G =>
  refine Ev.pos rfl ?_
  have h := without_l0 hs hg ts.length 0 (by omega)
  have hts := (graphP_ok hg).1
  show Ev _ ((List.range G.ts.length).map (keepT G))
  rw [hts]
  exact h
end Go.Proofs.YtajapkjplgaigaaDoor.P
end
section
namespace Go.Proofs.YtajapkjplgaigaaDoor.P
open Go.RowKit Go.Shelf Go.Proofs.YtajapkjplgaigaaDoorW.PrintWords Go.Proofs.YtajapkjplgaigaaDoorW.PrintLast Go.Proofs.YtajapkjplgaigaaDoorW.PrintMore
set_option linter.unusedVariables false
set_option linter.unusedSimpArgs false
structure HeadC (E : Nat → Nat → Prop) (wt : Nat → Int) (H : Nat → Int) : Prop where
 nn : ∀ i, 0 ≤ H i
 le : ∀ i k, E i k → H k + wt k ≤ H i
 ex : ∀ i, H i = 0 ∨ ∃ k, E i k ∧ H i = H k + wt k
theorem HeadC.path {E : Nat → Nat → Prop} {wt H : Nat → Int} (h : HeadC E wt H) (hw : ∀ k, 0 ≤ wt k) {i k : Nat} (hr : Rch E i k) : H k + wt k ≤ H i := by
 induction hr with
 | one he => exact h.le _ _ he
 | @step i j k he _ ih =>
  have h1 := h.le _ _ he
  have h2 := hw j
  omega
theorem head_eq {E E' : Nat → Nat → Prop} {wt H H' : Nat → Int} {ρ : Nat → Nat} (h : HeadC E wt H) (h' : HeadC E' wt H') (hw : ∀ k, 0 ≤ wt k) (hρ : ∀ i k, E i k → ρ k < ρ i) (h1 : ∀ i k, E' i k → E i k) (h2 : ∀ i k, E i k → Rch E' i k) : ∀ (n i : Nat), ρ i ≤ n → H i = H' i := by
 intro n
 induction n using Nat.strongRecOn with
 | _ n ih =>
  intro i hn
  have hsame : ∀ k, E i k → H k = H' k := fun k hk => by
   have := hρ i k hk
   exact ih (ρ k) (by omega) k (Nat.le_refl _)
  refine Int.le_antisymm ?_ ?_
  ·rcases h.ex i with e | ⟨k, hk, e⟩
   ·rw [e]; exact h'.nn i
   ·rw [e, hsame k hk]
    exact h'.path hw (h2 i k hk)
  ·rcases h'.ex i with e | ⟨k, hk, e⟩
   ·rw [e]; exact h.nn i
   ·rw [e, ← hsame k (h1 i k hk)]
    exact h.le i k (h1 i k hk)
theorem fold_ex (f : Nat → Int) : ∀ (l : List Nat) (m : Int), l.foldl (fun m i => mx m (f i)) m = m ∨ ∃ i ∈ l, l.foldl (fun m i => mx m (f i)) m = f i
 | [], m => Or.inl rfl
 | i :: l, m => by
  rw [List.foldl_cons]
  rcases fold_ex f l (mx m (f i)) with h | ⟨j, hj, h⟩
  ·have : mx m (f i) = m ∨ mx m (f i) = f i := by unfold mx; split <;> simp
   rcases this with e | e
   ·exact Or.inl (h.trans e)
   ·exact Or.inr ⟨i, List.mem_cons_self, h.trans e⟩
  ·exact Or.inr ⟨j, List.mem_cons_of_mem _ hj, h⟩
theorem headK_fold (wt : Nat → Int) (x : Nat) : ∀ (ks : List Nat) (f : Nat → Int), x ∉ ks → ∀ j, (ks.foldl (headK wt x) f) j = if j = x then ks.foldl (fun m k => mx m (wrap64 (f k + wt k))) (f x) else f j
 | [], f, _ => fun j => by
  show f j = if j = x then f x else f j
  split
  ·rename_i e; rw [e]
  ·rfl
 | k :: ks, f, hx => fun j => by
  have hkx : k ≠ x := fun e => hx (by rw [e]; exact List.mem_cons_self)
  rw [List.foldl_cons, headK_fold wt x ks _ (fun h => hx (List.mem_cons_of_mem _ h)) j, List.foldl_cons]
  have e1 : headK wt x f k x = mx (f x) (wrap64 (f k + wt k)) := if_pos rfl
  have e2 : ∀ y, y ≠ x → headK wt x f k y = f y := fun y hy => if_neg hy
  by_cases hj : j = x
  ·rw [if_pos hj, if_pos hj, e1]
   have : ∀ (l : List Nat) (m : Int), (∀ y ∈ l, y ≠ x) → l.foldl (fun m k' => mx m (wrap64 (headK wt x f k k' + wt k'))) m = l.foldl (fun m k' => mx m (wrap64 (f k' + wt k'))) m := by
    intro l
    induction l with
    | nil => intro m _; rfl
    | cons y l ih =>
     intro m hl
     rw [List.foldl_cons, List.foldl_cons, e2 y (hl y List.mem_cons_self)]
     exact ih _ (fun z hz => hl z (List.mem_cons_of_mem _ hz))
   exact this ks _ (fun y hy e => hx (by rw [← e]; exact List.mem_cons_of_mem _ hy))
  ·rw [if_neg hj, if_neg hj, e2 j hj]
theorem heads_go {E : Nat → Nat → Prop} {wt : Nat → Int} {nd od : List Nat} (hw : ∀ k, 0 ≤ wt k ∧ wt k ≤ 20) (hE : ∀ i ∈ od, ∀ k, k ∈ bitsN (nd.getD i 0) ↔ E i k) (ht : Topo E od) (hn : od.Nodup) (hin : ∀ i k, E i k → i ∈ od) :
  ∀ (r P : List Nat) (f : Nat → Int) (B : Int), P ++ r = od → B + 20 * r.length ≤ 10000 → (∀ k, 0 ≤ f k ∧ f k ≤ B) → (∀ i, i ∉ P → f i = 0) → (∀ i ∈ P, ∀ k, E i k → f k + wt k ≤ f i) → (∀ i ∈ P, f i = 0 ∨ ∃ k, E i k ∧ f i = f k + wt k) → HeadC E wt (r.foldl (headI wt nd) f)
 | [], P, f, B, he, hB, hf, h0, h1, h2 => by
  rw [List.append_nil] at he
  subst he
  refine ⟨fun i => (hf i).1, fun i k hk => h1 i (hin i k hk) k hk, fun i => ?_⟩
  by_cases hi : i ∈ P
  ·exact h2 i hi
  ·exact Or.inl (h0 i hi)
 | x :: r, P, f, B, he, hB, hf, h0, h1, h2 => by
  have hxo : x ∈ od := by rw [← he]; simp
  have hnP : x ∉ P := fun h => by
   rw [← he] at hn
   exact (List.nodup_append.1 hn).2.2 x h x List.mem_cons_self rfl
  have hkP : ∀ k, E x k → k ∈ P := fun k hk => ht P x r he.symm k hk
  have hxk : x ∉ bitsN (nd.getD x 0) := fun h => hnP (hkP x ((hE x hxo x).1 h))
  rw [List.length_cons] at hB
  have hg := headK_fold wt x (bitsN (nd.getD x 0)) f hxk
  have ew : ∀ (l : List Nat) (m : Int), l.foldl (fun m k => mx m (wrap64 (f k + wt k))) m = l.foldl (fun m k => mx m (f k + wt k)) m := by
   intro l
   induction l with
   | nil => intro m; rfl
   | cons y l ih =>
    intro m
    have a := hf y
    have b := hw y
    rw [List.foldl_cons, List.foldl_cons, w64 (by omega) (by omega)]
    exact ih _
  rw [ew, h0 x hnP] at hg
  obtain ⟨v, hv⟩ : ∃ v, v = (bitsN (nd.getD x 0)).foldl (fun m k => mx m (f k + wt k)) 0 := ⟨_, rfl⟩
  rw [← hv] at hg
  have hv0 : 0 ≤ v := by rw [hv]; exact fold_ge (fun k => f k + wt k) _ 0
  have hvB : v ≤ B + 20 := by
   rw [hv]
   have a := hf x
   exact mostF_fold_le (fun k => f k + wt k) (B + 20) _ 0 (by omega) (fun k _ => by have a := hf k; have b := hw k; show f k + wt k ≤ B + 20; omega)
  have hvl : ∀ k, E x k → f k + wt k ≤ v := fun k hk => by
   rw [hv]
   exact le_fold (fun k => f k + wt k) _ 0 k ((hE x hxo k).2 hk)
  have hve : v = 0 ∨ ∃ k, E x k ∧ v = f k + wt k := by
   rcases fold_ex (fun k => f k + wt k) (bitsN (nd.getD x 0)) 0 with h | ⟨k, hk, h⟩
   ·exact Or.inl (hv.trans h)
   ·exact Or.inr ⟨k, (hE x hxo k).1 hk, hv.trans h⟩
  have hgx : headI wt nd f x x = v := (hg x).trans (if_pos rfl)
  have hgo : ∀ j, j ≠ x → headI wt nd f x j = f j := fun j hj => (hg j).trans (if_neg hj)
  have hPx : ∀ j ∈ P, j ≠ x := fun j hj e => hnP (e ▸ hj)
  rw [List.foldl_cons]
  refine heads_go hw hE ht hn hin r (P ++ [x]) _ (B + 20) (by rw [← he]; simp) (by omega) (fun k => ?_) (fun i hi => ?_) (fun i hi k hk => ?_) (fun i hi => ?_)
  ·by_cases hk : k = x
   ·subst hk; rw [hgx]; exact ⟨hv0, hvB⟩
   ·rw [hgo k hk]; have := hf k; omega
  ·have hix : i ≠ x := fun e => hi (List.mem_append_right _ (by rw [e]; exact List.mem_singleton_self _))
   rw [hgo i hix]
   exact h0 i (fun h => hi (List.mem_append_left _ h))
  ·rcases List.mem_append.1 hi with hi | hi
   ·have hkp : k ∈ P := by
     obtain ⟨a, b, hab⟩ := List.append_of_mem hi
     have := ht a i (b ++ x :: r) (by rw [← he, hab]; simp) k hk
     rw [hab]
     exact List.mem_append_left _ this
    rw [hgo i (hPx i hi), hgo k (hPx k hkp)]
    exact h1 i hi k hk
   ·rw [List.mem_singleton] at hi
    subst hi
    rw [hgx, hgo k (hPx k (hkP k hk))]
    exact hvl k hk
  ·rcases List.mem_append.1 hi with hi | hi
   ·rw [hgo i (hPx i hi)]
    rcases h2 i hi with e | ⟨k, hk, e⟩
    ·exact Or.inl e
    ·have hkp : k ∈ P := by
      obtain ⟨a, b, hab⟩ := List.append_of_mem hi
      have := ht a i (b ++ x :: r) (by rw [← he, hab]; simp) k hk
      rw [hab]
      exact List.mem_append_left _ this
     exact Or.inr ⟨k, hk, by rw [hgo k (hPx k hkp)]; exact e⟩
   ·rw [List.mem_singleton] at hi
    subst hi
    rw [hgx]
    rcases hve with e | ⟨k, hk, e⟩
    ·exact Or.inl e
    ·exact Or.inr ⟨k, hk, by rw [hgo k (hPx k (hkP k hk))]; exact e⟩
theorem heads_char {ts : List TT} (hs : Small ts) {G : GrN} (hg : graphP ts = some G) {wt : Nat → Int} (hw : ∀ k, 0 ≤ wt k ∧ wt k ≤ 20) : HeadC (needE ts) wt (headsW wt G.nd G.od) := by
 obtain ⟨hts, _, hOk⟩ := graphP_ok hg
 obtain ⟨hf, hnd, _⟩ := graphP_fine hg
 obtain ⟨_, hO⟩ := topOrder_ev ts hs hf
 have hod := hOk.ord
 rw [hnd] at hod
 have h8 := fine_len hf
 have hol := hO.len
 rw [hnd, hod]
 exact heads_go hw (fun i hi k => needE_bits hf (hO.lt i hi) k) (topo_of hf) hO.nd (fun i k h => full_mem hs hg (needE_lt hf h).1) _ [] (fun _ => 0) 0 rfl (by omega) (fun _ => ⟨Int.le_refl _, Int.le_refl _⟩) (fun _ _ => rfl) (fun i hi => (by cases hi)) (fun i hi => (by cases hi))
structure TailC (n : Nat) (E : Nat → Nat → Prop) (wt : Nat → Int) (T : Nat → Int) : Prop where
 own : ∀ k, k < n → wt k ≤ T k
 le : ∀ i k, E i k → T i + wt k ≤ T k
 ex : ∀ k, k < n → T k = wt k ∨ ∃ i, E i k ∧ T k = T i + wt k
theorem mst_ex (ts : List TT) (f : Nat → Int) (x : Nat) : ∀ (l : List Nat) (m : Int), l.foldl (mstep ts f x) m = m ∨ ∃ i ∈ l, (x : Int) ∈ (rd_T39 ts (i : Int)).f1 ∧ l.foldl (mstep ts f x) m = f i
 | [], m => Or.inl rfl
 | i :: l, m => by
  rw [List.foldl_cons]
  rcases mst_ex ts f x l (mstep ts f x m i) with h | ⟨j, hj, hx, h⟩
  ·by_cases hx : (x : Int) ∈ (rd_T39 ts (i : Int)).f1
   ·have e0 : mstep ts f x m i = mx m (f i) := by unfold mstep; rw [if_pos hx]
    have : mx m (f i) = m ∨ mx m (f i) = f i := by unfold mx; split <;> simp
    rcases this with e | e
    ·exact Or.inl (h.trans (e0.trans e))
    ·exact Or.inr ⟨i, List.mem_cons_self, hx, h.trans (e0.trans e)⟩
   ·have e0 : mstep ts f x m i = m := by unfold mstep; rw [if_neg hx]
    exact Or.inl (h.trans e0)
  ·exact Or.inr ⟨j, List.mem_cons_of_mem _ hj, hx, h⟩
theorem tail_at {ts : List TT} {G : GrN} (hs : Small ts) (hg : graphP ts = some G) {x : Nat} (hx : x < ts.length) : ∃ F : Nat → Int, tailF ts x = mostU ts F x (List.range ts.length) + timeW ts x ∧ ∀ i, needE ts i x → F i = tailF ts i := by
 obtain ⟨hf, hnd, _⟩ := graphP_fine hg
 obtain ⟨_, hO⟩ := topOrder_ev ts hs hf
 have hnd := hO.nd
 obtain ⟨a, b, hab⟩ : ∃ a b, (orderP (needsM ts)).1 = a ++ x :: b := List.append_of_mem (full_mem hs hg hx)
 have hrev : (orderP (needsM ts)).1.reverse = (b.reverse ++ [x]) ++ a.reverse := by rw [hab]; simp
 rw [hab] at hnd
 obtain ⟨_, h2, h3⟩ := List.nodup_append.1 hnd
 have hxa : x ∉ a.reverse := fun h => h3 x (List.mem_reverse.1 h) x List.mem_cons_self rfl
 refine ⟨tailGo ts b.reverse (fun _ => 0), ?_, fun i hi => ?_⟩
 ·unfold tailF
  rw [hrev, tailGo_app, tailGo_off ts _ _ x hxa, tailGo_app]
  show (if x = x then _ else _) = _
  rw [if_pos rfl]
  rfl
 ·have hii := needE_lt hf hi
  have hib : i ∈ b := by
   have hio := full_mem hs hg hii.1
   rw [hab] at hio
   rcases List.mem_append.1 hio with h | h
   ·exfalso
    obtain ⟨c, d, hcd⟩ := List.append_of_mem h
    have := topo_of hf c i (d ++ x :: b) (by rw [hab, hcd]; simp) x hi
    exact h3 x (by rw [hcd]; exact List.mem_append_left _ this) x List.mem_cons_self rfl
   ·rcases List.mem_cons.1 h with e | h
    ·exfalso
     subst e
     have := topo_of hf a i b hab i hi
     exact h3 i this i List.mem_cons_self rfl
    ·exact h
  have hix : i ≠ x := fun e => (List.nodup_cons.1 h2).1 (e ▸ hib)
  have hia : i ∉ a.reverse := fun h => h3 i (List.mem_reverse.1 h) i (List.mem_cons_of_mem _ hib) rfl
  unfold tailF
  rw [hrev, tailGo_app, tailGo_off ts _ _ i hia, tailGo_app]
  show _ = if i = x then _ else tailGo ts b.reverse (fun _ => 0) i
  rw [if_neg hix]
theorem tails_char {ts : List TT} (hs : Small ts) {G : GrN} (hg : graphP ts = some G) : TailC ts.length (needE ts) (timeW ts) (tailF ts) := by
 have hf := (graphP_fine hg).1
 refine ⟨fun k hk => ?_, fun i k hik => ?_, fun k hk => ?_⟩
 ·obtain ⟨F, e, _⟩ := tail_at hs hg hk
  have := mst_ge ts F k (List.range ts.length) 0
  rw [e]
  unfold mostU
  omega
 ·have hl := needE_lt hf hik
  obtain ⟨F, e, hF⟩ := tail_at hs hg hl.2
  have := le_mst ts F k (List.range ts.length) 0 i (List.mem_range.2 hl.1) hik
  rw [e, ← hF i hik]
  unfold mostU
  omega
 ·obtain ⟨F, e, hF⟩ := tail_at hs hg hk
  rcases mst_ex ts F k (List.range ts.length) 0 with h | ⟨i, _, hx, h⟩
  ·refine Or.inl (e.trans ?_)
   unfold mostU
   rw [h]
   omega
  ·refine Or.inr ⟨i, hx, e.trans ?_⟩
   unfold mostU
   rw [h, hF i hx]
theorem TailC.path {n : Nat} {E : Nat → Nat → Prop} {wt T : Nat → Int} (h : TailC n E wt T) (hw : ∀ k, 0 ≤ wt k) {i k : Nat} (hr : Rch E i k) : T i + wt k ≤ T k := by
 induction hr with
 | one he => exact h.le _ _ he
 | @step i j k he _ ih =>
  have h1 := h.le _ _ he
  have h2 := hw j
  omega
theorem tail_eq {n : Nat} {E E' : Nat → Nat → Prop} {wt T T' : Nat → Int} {ρ : Nat → Nat} (h : TailC n E wt T) (h' : TailC n E' wt T') (hw : ∀ k, 0 ≤ wt k) (hρ : ∀ i k, E i k → ρ k < ρ i) (hn : ∀ i k, E i k → i < n) (M : Nat) (hM : ∀ i, i < n → ρ i ≤ M) (h1 : ∀ i k, E' i k → E i k) (h2 : ∀ i k, E i k → Rch E' i k) : ∀ (m k : Nat), k < n → M - ρ k ≤ m → T k = T' k := by
 intro m
 induction m using Nat.strongRecOn with
 | _ m ih =>
  intro k hk hm
  have hsame : ∀ i, E i k → T i = T' i := fun i hi => by
   have a := hρ i k hi
   have b := hn i k hi
   have c := hM i b
   exact ih (M - ρ i) (by omega) i b (Nat.le_refl _)
  refine Int.le_antisymm ?_ ?_
  ·rcases h.ex k hk with e | ⟨i, hi, e⟩
   ·rw [e]; exact h'.own k hk
   ·rw [e, hsame i hi]
    exact h'.path hw (h2 i k hi)
  ·rcases h'.ex k hk with e | ⟨i, hi, e⟩
   ·rw [e]; exact h.own k hk
   ·rw [e, ← hsame i (h1 i k hi)]
    exact h.le i k (h1 i k hi)
theorem timeW_in {ts : List TT} (hf : fineB ts = true) (k : Nat) : 0 ≤ timeW ts k ∧ timeW ts k ≤ 20 := by
 by_cases hk : k < ts.length
 ·have := fine_times hf k hk
  unfold timeW
  omega
 ·have : ts[k]? = none := List.getElem?_eq_none (by omega)
  simp [timeW, rd_T39, this, z39]
theorem cut_time {ts : List TT} {G : GrN} (hts : G.ts = ts) : timeW (cutL ts G) = timeW ts := by
 funext k
 by_cases hk : k < ts.length
 ·unfold timeW
  rw [cut_at hts hk]
 ·have h1 : ts[k]? = none := List.getElem?_eq_none (by omega)
  have h2 : (cutL ts G)[k]? = none := List.getElem?_eq_none (by rw [cut_len]; omega)
  simp [timeW, rd_T39, h1, h2]
theorem fnL_congr {n : Nat} {f f' : Nat → Int} (h : ∀ i, i < n → f i = f' i) : fnL n f = fnL n f' := by
 unfold fnL
 exact List.map_congr_left (fun i hi => h i (List.mem_range.1 hi))
theorem cut_heads {ts : List TT} (hs : Small ts) {G G' : GrN} (hg : graphP ts = some G) (hg' : graphP (cutL ts G) = some G') {wt : Nat → Int} (hw : ∀ k, 0 ≤ wt k ∧ wt k ≤ 20) (i : Nat) : headsW wt G'.nd G'.od i = headsW wt G.nd G.od i :=
 (head_eq (heads_char hs hg hw) (heads_char (cut_small hs hg) hg' hw) (fun k => (hw k).1) (need_rank hs hg) (fun i k h => ((cut_needE hs hg i k).1 h).1) (fun i k h => cut_path hs hg h) _ i (Nat.le_refl _)).symm
theorem cut_tails {ts : List TT} (hs : Small ts) {G G' : GrN} (hg : graphP ts = some G) (hg' : graphP (cutL ts G) = some G') (i : Nat) (hi : i < ts.length) : tailF (cutL ts G) i = tailF ts i := by
 have hts := (graphP_ok hg).1
 have hf := (graphP_fine hg).1
 have h' := tails_char (cut_small hs hg) hg'
 rw [cut_len, cut_time hts] at h'
 refine (tail_eq (tails_char hs hg) h' (fun k => (timeW_in hf k).1) (need_rank hs hg) (fun i k h => (needE_lt hf h).1) ts.length (fun i hi => ?_) (fun i k h => ((cut_needE hs hg i k).1 h).1) (fun i k h => cut_path hs hg h) _ i hi (Nat.le_refl _)).symm
 obtain ⟨_, hO⟩ := topOrder_ev ts hs hf
 have h1 := List.idxOf_lt_length_of_mem (full_mem hs hg hi)
 have h2 := hO.len
 omega
theorem HeadTimes_cut {ts : List TT} (hs : Small ts) {G : GrN} (hg : graphP ts = some G) : impl_HeadTimes.f (cutL ts G) = impl_HeadTimes.f ts := by
 obtain ⟨G', hg'⟩ := cut_graph hs hg
 have hts := (graphP_ok hg).1
 have hts' := (graphP_ok hg').1
 unfold impl_HeadTimes.f
 rw [hg, hg']
 show some (fnL G'.ts.length _) = some (fnL G.ts.length _)
 rw [hts, hts', cut_len, cut_time hts]
 exact congrArg some (fnL_congr (fun i _ => cut_heads hs hg hg' (timeW_in (graphP_fine hg).1) i))
theorem StageOf_cut {ts : List TT} (hs : Small ts) {G : GrN} (hg : graphP ts = some G) : impl_StageOf.f (cutL ts G) = impl_StageOf.f ts := by
 obtain ⟨G', hg'⟩ := cut_graph hs hg
 have hts := (graphP_ok hg).1
 have hts' := (graphP_ok hg').1
 unfold impl_StageOf.f
 rw [hg, hg']
 show some (fnL G'.ts.length _) = some (fnL G.ts.length _)
 rw [hts, hts', cut_len]
 exact congrArg some (fnL_congr (fun i _ => cut_heads hs hg hg' (fun _ => ⟨by omega, by omega⟩) i))
theorem TailTimes_cut {ts : List TT} (hs : Small ts) {G : GrN} (hg : graphP ts = some G) : impl_TailTimes.f (cutL ts G) = impl_TailTimes.f ts := by
 obtain ⟨G', hg'⟩ := cut_graph hs hg
 have hts := (graphP_ok hg).1
 have hts' := (graphP_ok hg').1
 unfold impl_TailTimes.f
 rw [hg, hg']
 refine congrArg some ?_
 have e1 : fnL G'.ts.length (tailsW G'.ts G'.nd G'.od.reverse) = fnL ts.length (tailF (cutL ts G)) := by
  have e : G'.ts.length = ts.length := by rw [hts', cut_len]
  rw [e]
  exact fnL_congr (fun i hi => tailsW_eq (cut_small hs hg) hg' i (by rw [cut_len]; exact hi))
 have e2 : fnL G.ts.length (tailsW G.ts G.nd G.od.reverse) = fnL ts.length (tailF ts) := by
  have e : G.ts.length = ts.length := by rw [hts]
  rw [e]
  exact fnL_congr (fun i hi => tailsW_eq hs hg i hi)
 show fnL G'.ts.length _ = fnL G.ts.length _
 rw [e1, e2]
 exact fnL_congr (fun i hi => cut_tails hs hg hg' i hi)
end Go.Proofs.YtajapkjplgaigaaDoor.P
end
section
namespace Go.Proofs.YtajapkjplgaigaaDoor.Pure
open Go.RowKit Go.Proofs.YtajapkjplgaigaaDoor.P
open Go.Proofs.YtajapkjplgaigaaDoorW.PrintWords (rd)
set_option linter.unusedVariables false
theorem equalTasks_go (ts : List TT) (hs : Small ts) : ∀ (m j : Nat), j + m = ts.length → Ev (fun k => laws_equalTasks.l0 k ts ts (j : Int)) true
 | 0, j, hj => by
  refine Ev.succ ?_
  simp only [laws_equalTasks.l0]
  exact Ev.neg (by omega) (Ev.pure _)
 | m + 1, j, hj => by
  have hl := hs.1
  have hsr := small_rd hs (j : Int)
  refine Ev.succ ?_
  simp only [laws_equalTasks.l0]
  have he := equalInts_ev (rd_T39 ts (j : Int)).f1 (rd_T39 ts (j : Int)).f1 hsr
  refine Ev.pos (by omega) (Ev.pos (by omega) (Ev.pos (by omega) (Ev.pos trivial (Ev.pos trivial (Ev.pos trivial (Ev.bind he (Ev.pos (by simp) ?_)))))))
  rw [w64n j (by omega)]
  exact equalTasks_go ts hs m (j + 1) (by omega)
theorem equalTasks_refl (ts : List TT) (hs : Small ts) : Ev (fun k => laws_equalTasks.f k ts ts) true := by
 unfold laws_equalTasks.f
 exact Ev.pos rfl (equalTasks_go ts hs ts.length 0 (by omega))
theorem same_ev (a : List Int) (h : a.length < 1099511627776) : Ev (fun k => laws_equalInts.f k a a) true := by
 have := equalInts_ev a a h
 simpa using this
theorem FnWithoutUselessTimes : laws_FnWithoutUselessTimes.Pure := by
 intro l0 _ _ hb
 refine Ev.get (f := fun k => laws_FnWithoutUselessTimes.f k l0) ?_
 unfold laws_FnWithoutUselessTimes.f
 refine Ev.ite (fun _ => Ev.pure _) (fun _ => ?_)
 obtain ⟨B, e0, hB⟩ := newReader_ev l0 hb
 obtain ⟨g, q, e1, hg, h1, h2⟩ := anyGraph_ev hB 0 (by omega) (by omega)
 have hs := hg.small (by omega) (by omega)
 have hp := WithoutUseless_ev g hs
 have hdraw : Ev (fun k => spec_DrawWithoutUseless.f k l0) g := by
  first
  | (unfold spec_DrawWithoutUseless.f; exact Ev.bind (Ev.eq e0) (Ev.bind e1 (Ev.pure _)))
  | skip
 have hws : Small (withoutW g) := by
  unfold withoutW
  cases hG : graphP g with
  | none => exact ⟨by simp, fun t ht => (by cases ht)⟩
  | some G =>
   have := cut_small hs hG
   unfold cutL at this
   rw [← (graphP_ok hG).1] at this
   have e := (graphP_ok hG).1
   exact this
 refine Ev.bind hdraw (Ev.bind (x := withoutW g) (Ev.eq rfl) (Ev.bind hp (Ev.bind (equalTasks_refl _ hws) (Ev.pos rfl ?_))))
 refine Ev.succ ?_
 simp only [laws_FnWithoutUselessTimes.j0]
 refine Ev.ite (fun _ => Ev.bind hp (Ev.bind (equalTasks_refl _ hws) (Ev.pure _))) (fun hn => ?_)
 cases hG : graphP g with
 | none =>
  exfalso
  refine hn ?_
  unfold withoutW
  rw [hG]
  rfl
 | some G =>
  have hts := (graphP_ok hG).1
  have hw : withoutW g = cutL g G := by
   unfold withoutW cutL
   rw [hG]
   show (List.range G.ts.length).map _ = _
   rw [hts]
  have hn8 := (graphP_ok hG).2.2.n8
  rw [hw]
  have l1 : ∀ f : Nat → Int, (fnL G.ts.length f).length < 1099511627776 := fun f => by rw [fnL_len]; omega
  have eH : impl_HeadTimes.f g = some (fnL G.ts.length (headsW (timeW G.ts) G.nd G.od)) := by unfold impl_HeadTimes.f; rw [hG]
  have eT : impl_TailTimes.f g = some (fnL G.ts.length (tailsW G.ts G.nd G.od.reverse)) := by unfold impl_TailTimes.f; rw [hG]
  have eS : impl_StageOf.f g = some (fnL G.ts.length (headsW (fun _ => 1) G.nd G.od)) := by unfold impl_StageOf.f; rw [hG]
  refine Ev.bind (Ev.eq ((HeadTimes_cut hs hG).trans eH)) (Ev.bind (Ev.eq eH) (Ev.bind (same_ev _ (l1 _)) (Ev.pos rfl ?_)))
  refine Ev.bind (Ev.eq ((TailTimes_cut hs hG).trans eT)) (Ev.bind (Ev.eq eT) (Ev.bind (same_ev _ (l1 _)) (Ev.pos rfl ?_)))
  exact Ev.bind (Ev.eq ((StageOf_cut hs hG).trans eS)) (Ev.bind (Ev.eq eS) (Ev.bind (same_ev _ (l1 _)) (Ev.pure _)))
end Go.Proofs.YtajapkjplgaigaaDoor.Pure
end
section
namespace Go.Proofs.YtajapkjplgaigaaDoor.fnWithoutUselessTimes
open Go.ChangeShapes Go.WideShapes Go.ChangeAt Go.RowKit
open Go.ChangeMaps (open_string shut_string)
open Go.Proofs.YtajapkjplgaigaaDoorW
set_option linter.unusedVariables false
theorem own : ownKnob Tryd.prog.godebug = none := by kernel_rfl
theorem laidOut : laidOutB Tryd.prog = true := by kernel_rfl
def IsRow (k : IntKind) (w : World) (a : Option Addr) (len cap : Nat) (zs : List Int) : Prop :=
 (a = none ∧ len = 0 ∧ cap = 0 ∧ zs = []) ∨
 ∃ x, a = some x ∧ len ≤ cap ∧ cap ≤ maxLen ∧ zs.length = cap ∧ (∀ i, i < zs.length → w.cell? (x.add i) = some (.int k (zs.getD i 0))) ∧ ∀ n ∈ zs, (Lit.int k n).wf = true
theorem gTab : Tryd.prog.globalNamed "math/bits.deBruijn32tab" = some 0 := by kernel_rfl
theorem gTabType : (Tryd.prog.globals[0]?).map (·.type) = some 107 := by kernel_rfl
theorem cellsTab : Tryd.prog.cellsOf 107 = 32 := by kernel_rfl
theorem cellsByte : Tryd.prog.cellsOf 5 = 1 := by kernel_rfl
theorem table {W : World} (h : laidMetH Tryd.prog Rows.fnWithoutUselessTimesRow.laid W) : Lib.TabIs Tryd.prog W "math/bits.deBruijn32tab" .u8 [0, 1, 28, 2, 29, 14, 24, 3, 30, 22, 20, 15, 25, 17, 4, 8, 31, 27, 13, 23, 21, 19, 16, 7, 26, 12, 18, 6, 11, 5, 10, 9] :=
 Lib.tabIs_of_head (rest := []) gTab gTabType Tryd.underlying107 Tryd.underlying5 cellsByte cellsTab h
theorem tabOK {W : World} (h : laidMetH Tryd.prog Rows.fnWithoutUselessTimesRow.laid W) : TabOK W := by
 intro j hj
 have h2 := (table h).cell gTab j (by simpa using hj)
 rw [h2]
 have h3 : ∀ j, j < 32 → (([0, 1, 28, 2, 29, 14, 24, 3, 30, 22, 20, 15, 25, 17, 4, 8, 31, 27, 13, 23, 21, 19, 16, 7, 26, 12, 18, 6, 11, 5, 10, 9] : List Int).getD j 0) = ((Lib.deBruijn32tab.getD j 0 : Nat) : Int) := by decide
 have h4 := h3 j hj
 simp only [List.getD_eq_getElem?_getD] at h4 ⊢
 first | (rw [h4]) | (simp at h4 ⊢; exact h4) | exact congrArg (fun z => some (Value.int IntKind.u8 z)) h4
noncomputable def laidWorld (os : Os) : World :=
 { World.holding Tryd.prog os ⟨#[], #[], []⟩ with heap := (World.holding Tryd.prog os ⟨#[], #[], []⟩).heap.modify 0 fun
   | .cells _ t frozen => .cells #[.int .u8 0, .int .u8 1, .int .u8 28, .int .u8 2, .int .u8 29, .int .u8 14, .int .u8 24, .int .u8 3, .int .u8 30, .int .u8 22, .int .u8 20, .int .u8 15, .int .u8 25, .int .u8 17, .int .u8 4, .int .u8 8, .int .u8 31, .int .u8 27, .int .u8 13, .int .u8 23, .int .u8 21, .int .u8 19, .int .u8 16, .int .u8 7, .int .u8 26, .int .u8 12, .int .u8 18, .int .u8 6, .int .u8 11, .int .u8 5, .int .u8 10, .int .u8 9] t frozen
   | o => o }
theorem laid_met (os : Os) : laidMet Tryd.prog Rows.fnWithoutUselessTimesRow.laid ((laidWorld os).forCall (fun _ _ => 0) ⟨#[], #[.slice none 0 0], []⟩).memory :=
 laidMet_of_run' 8 (by kernel_rfl) (by kernel_rfl)
theorem reads (os : Os) {H : Type} (enc : TypeId × Value → H) : ∃ places, DataW.whole enc Tryd.prog ((laidWorld os).forCall (fun _ _ => 0) ⟨#[], #[.slice none 0 0], []⟩).memory Tryd.f6.params.toList Rows.fnWithoutUselessTimesSpec.vars false #[Value.slice none 0 0].toList 8 = some ([.nil], [], places) :=
 ⟨[], by kernel_rfl⟩
set_option maxRecDepth 100000 in
theorem lifted (os : Os) (started : os.Started) (H : Type) (enc : TypeId × Value → H) (F : Stop.Interp) :
  ReturnsInHanded {} Tryd.checked os 6 .any ((OpenSpec.ofChange Rows.fnWithoutUselessTimesSpec).preRow enc Tryd.prog Tryd.f6 Rows.fnWithoutUselessTimesRow.domain false Rows.fnWithoutUselessTimesRow.laid) (((OpenSpec.ofChange Rows.fnWithoutUselessTimesSpec).at F).post enc Tryd.prog Tryd.f6 false true false false) := by
 obtain ⟨places, hx⟩ := reads os enc
 refine returnsInHanded_of_row (C := Tryd.checked) (s := OpenSpec.ofChange Rows.fnWithoutUselessTimesSpec) own started (by kernel_rfl) Tryd.func6
  (witness_row_at (enc := enc) (C := Tryd.checked) false (laidWorld os) #[.slice none 0 0] rfl (by kernel_rfl) (by kernel_rfl) (by kernel_rfl)
   (OpenSpec.preRow_of_cond 8 hx (by kernel_rfl) (fun k hk => by cases hk) (by kernel_rfl) (laid_met os))) ?_
 intro W base args ds gs before hval0 hW hcnd _ hsz0 hL _ _
 have hsz : (DataW.weightsEach Tryd.prog (Tryd.f6.params.toList ++ Rows.fnWithoutUselessTimesSpec.plain.varTypes Tryd.prog) (ds ++ gs)).all (· ≤ reachBytes) = true := hsz0
 have hval : ∀ (j : Nat) t v, Tryd.f6.params[j]? = some t → args[j]? = some v → Value.okWide Tryd.prog W .any base t v := hval0
 have hW' := hW
 obtain ⟨p, q, hA0, hV, rfl, hfz, hnd⟩ := hW
 have hA : DataW.TrodAll enc Tryd.prog W 0 (fun _ => true) true Tryd.f6.params.toList args.toList ds p := hA0
 rw [Tryd.params6] at hA hval hsz
 obtain ⟨v0, vs0, d0, ds0, p0, q0, hargs, rfl, rfl, h0, r0⟩ := trodAll_cons hA
 obtain ⟨rfl, rfl, rfl⟩ := trodAll_nil r0
 obtain rfl : args = #[v0] := by cases args; simp_all
 obtain ⟨rfl, rfl⟩ := trodVars_none hV
 obtain ⟨a0, len0, cap0, rfl⟩ := okWide_slice Tryd.underlying22 (hval 0 22 v0 rfl rfl)
 have k0 := h0
 have lt0 : ∀ x ∈ p0, x.block < W.heap.size := by obtain ⟨m, hm⟩ := k0; exact DataW.trod_lt m _ _ _ hm
 obtain ⟨z0, w0⟩ : ∃ zs, IsRow .u8 W a0 len0 cap0 zs := by
  obtain ⟨fuel, hf⟩ := h0
  rcases open_ints Tryd.underlying22 Tryd.underlying5 (by kernel_rfl) hf with ⟨hcs, _⟩ | ⟨x, l, c, zs, hcs, _, hl, hm, hz, _, hcell, hwz⟩
  ·simp [Value.cells] at hcs
   obtain ⟨rfl, rfl, rfl⟩ := hcs
   exact ⟨[], .inl ⟨rfl, rfl, rfl, rfl⟩⟩
  ·simp [Value.cells] at hcs
   obtain ⟨rfl, rfl, rfl⟩ := hcs
   exact ⟨zs, .inr ⟨_, rfl, hl, hm, by simpa using hz, hcell, hwz⟩⟩
 have y0 : len0 * 1 ≤ 140737488351232 := PrintWords.sized_ints hsz (j := 0) (t := 22) rfl rfl Tryd.underlying22 Tryd.underlying5 (by kernel_rfl) (by kernel_rfl) h0
 clear hA0 hval0 hsz0 hsz
 refine (P.laws_FnWithoutUselessTimes.walk Pure.FnWithoutUselessTimes a0 len0 cap0 z0 W w0 y0 (tabOK hL)).mono fun e W' ⟨he, bel⟩ => ?_
 subst he
 exact ⟨_, rfl, _, _, _, [], _, [], hW', trodAll_mk1 (shut_bool Tryd.underlying4 _), (trodAll_cons_mk (Below.trod laidOut (by kernel_rfl) (of_decide_eq_true (by kernel_rfl)) k0 bel lt0) trodAll_mk0), rfl, bel.frame _, fun h => by cases h⟩
theorem said : Rows.FnWithoutUselessTimesSaid :=
 OpenClaim.holds_of_cond 6 Tryd.f6 rfl rfl rfl rfl rfl rfl rfl ⟨rfl, rfl, rfl, rfl, rfl⟩ rfl rfl rfl rfl rfl (by kernel_rfl) Tryd.func6 (by kernel_rfl)
  (of_decide_eq_true (by kernel_rfl)) (by unfold Func.isWrapper; first | (rw [if_pos (by decide +kernel)]; kernel_rfl) | (rw [if_neg (by decide +kernel)]; exact ⟨rfl, rfl⟩))
  (fun os started H enc _ F => by rw [OpenClaim.pre_eq_preRow]; exact lifted os started H enc F)
theorem plain (f : FuncId) (fn : Func) (hf : Tryd.pinned.checked.prog.funcNamed "loop.example/buildscheduler/laws.FnWithoutUselessTimes" = some f) (hfn : Tryd.pinned.checked.prog.funcs[f]? = some fn) :
  false = Tryd.pinned.checked.prog.looks [] ∧ ∀ (j : Nat) t, fn.params[j]? = some t → Tryd.pinned.checked.prog.wantsStandIn t = false := by
 obtain rfl : f = 6 := Option.some.inj ((show Tryd.prog.funcNamed "loop.example/buildscheduler/laws.FnWithoutUselessTimes" = some 6 by kernel_rfl).symm.trans hf) |>.symm
 obtain rfl : fn = Tryd.f6 := (Option.some.inj (Tryd.func6.symm.trans hfn)).symm
 refine ⟨by kernel_rfl, fun j t ht => ?_⟩
 rw [Tryd.params6] at ht
 obtain rfl : t = 22 := by simpa using Array.mem_of_getElem? ht
 exact (show Tryd.prog.wantsStandIn 22 = false by kernel_rfl)
theorem card : Rows.FnWithoutUselessTimesCardSaid :=
 Claim7.holds_tied_plain_at .later [] _ _ _ _ said (fun _ h => by cases h) (by kernel_rfl) (fun _ h => by cases h) fnWithoutUselessTimes_row_tie rfl ⟨rfl, rfl⟩ (by kernel_rfl) rfl plain (by kernel_rfl)
end Go.Proofs.YtajapkjplgaigaaDoor.fnWithoutUselessTimes
namespace Go.Proofs.YtajapkjplgaigaaDoor
theorem fnWithoutUselessTimes_card : Rows.FnWithoutUselessTimesCardSaid := fnWithoutUselessTimes.card
end Go.Proofs.YtajapkjplgaigaaDoor
end
