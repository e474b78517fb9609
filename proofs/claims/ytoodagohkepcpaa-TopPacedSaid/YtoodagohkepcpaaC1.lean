/- A piece at a pace is a piece as defined, and at the usual pace it is itself. -/
import Derived.Test.YtoodagohkepcpaaC0
namespace Go.Proofs.Ytoodagohkepcpaa
open Go.RowKit Go.Proofs.YtoodagohkepcpaaW.PrintWords

/-! ### signs in order -/
def Le32 (a b : S32) : Prop := a.f0 ≤ b.f0
theorem rd32_get {ss : List S32} {i : Nat} (h : i < ss.length) : rd_T32 ss (i : Int) = ss[i] := by simp [rd_T32, List.getD_eq_getElem?_getD, h]
theorem sorted_of_adj {ss : List S32} (h : ∀ i : Nat, (hi : i + 1 < ss.length) → Le32 (ss[i]'(by omega)) ss[i + 1]) : ss.Pairwise Le32 := by
  rw [List.pairwise_iff_getElem]
  intro i j hi hj hij
  obtain ⟨d, rfl⟩ : ∃ d, j = i + 1 + d := ⟨j - i - 1, by omega⟩
  induction d with
  | zero => exact h i hj
  | succ d ih =>
    have h1 := ih (by omega) (by omega)
    have h2 := h (i + 1 + d) hj
    unfold Le32 at *
    exact Int.le_trans h1 h2
structure SignsIn (n : Nat) (ss : List S32) : Prop where
  len : ss.length ≤ 50
  sorted : ss.Pairwise Le32
  each : ∀ s ∈ ss, 0 ≤ s.f0 ∧ s.f0 ≤ (n : Int) ∧ okName s.f1
theorem okSigns_iff {n : Nat} {ss : List S32} : okSigns n ss ↔ SignsIn n ss := by
  constructor
  · rintro ⟨h1, h2⟩
    refine ⟨h1, sorted_of_adj fun i hi => ?_, fun s hs => ?_⟩
    · have h3 := (h2 (i + 1) hi).2.2.2 (by omega)
      rw [show ((i + 1 : Nat) : Int) - 1 = (i : Int) from by omega, rd32_get (by omega), rd32_get hi] at h3
      exact h3
    · obtain ⟨i, hi, rfl⟩ := List.getElem_of_mem hs
      have h3 := h2 i hi
      rw [rd32_get hi] at h3
      exact ⟨h3.1, h3.2.1, h3.2.2.1⟩
  · rintro ⟨h1, h2, h3⟩
    refine ⟨h1, fun i hi => ?_⟩
    rw [rd32_get hi]
    have h4 := h3 ss[i] (List.getElem_mem hi)
    refine ⟨h4.1, h4.2.1, h4.2.2, fun h0 => ?_⟩
    obtain ⟨j, rfl⟩ : ∃ j, i = j + 1 := ⟨i - 1, by omega⟩
    rw [show ((j + 1 : Nat) : Int) - 1 = (j : Int) from by omega, rd32_get (by omega)]
    exact List.pairwise_iff_getElem.1 h2 j (j + 1) (by omega) hi (by omega)

/-! ### a step keeps the order -/
structure PaceInv (b : Int) (good : S32 → Prop) (st : PSt) : Prop where
  sorted : st.signs.Pairwise Le32
  each : ∀ s ∈ st.signs, 0 ≤ s.f0 ∧ s.f0 ≤ (st.out.length : Int)
  names : ∀ s ∈ st.signs, good s
  left : st.left.Pairwise Le32
  low : ∀ s ∈ st.left, b ≤ s.f0
  lnames : ∀ s ∈ st.left, good s

theorem drop_ge {l : List S32} (h : l.Pairwise Le32) (t : Int) : ∀ s ∈ l.dropWhile (fun s => decide (s.f0 < t)), t ≤ s.f0 := by
  induction l with
  | nil => intro s hs; simp at hs
  | cons a l ih =>
    intro s hs
    by_cases ha : a.f0 < t
    · rw [List.dropWhile_cons_of_pos (by simpa using ha)] at hs
      exact ih (List.Pairwise.of_cons h) s hs
    · rw [List.dropWhile_cons_of_neg (by simpa using ha)] at hs
      rcases List.mem_cons.1 hs with rfl | hs
      · omega
      · have := List.rel_of_pairwise_cons h hs
        unfold Le32 at this
        omega
theorem take_lt {l : List S32} (t : Int) : ∀ s ∈ l.takeWhile (fun s => decide (s.f0 < t)), s.f0 < t := by
  intro s hs
  have := List.all_takeWhile (l := l) (p := fun s : S32 => decide (s.f0 < t))
  rw [List.all_eq_true] at this
  simpa using this s hs
theorem paceStep_inv {xs : List Int} {b : Int} {good : S32 → Prop} (hg : ∀ (s : S32) (a : Int), good s → good ⟨a, s.f1⟩) {st : PSt} (h : PaceInv b good st) {x : Int × Int × Bool}
    (h0 : 0 ≤ x.1) (h1 : x.1 ≤ x.2.1) (h2 : x.2.1 ≤ xs.length) (hb : x.1 ≤ b) : PaceInv x.2.1 good (paceStep xs st x) := by
  have hlen : (st.out.length : Int) ≤ ((paceStep xs st x).out.length : Int) := by
    unfold paceStep
    dsimp only
    split
    · rw [List.length_append]; omega
    · omega
  have hsub : (st.left.takeWhile (fun s => decide (s.f0 < x.2.1))).Sublist st.left := List.takeWhile_sublist _
  have hnew : ∀ s ∈ (st.left.takeWhile (fun s => decide (s.f0 < x.2.1))), (st.out.length : Int) ≤ (place st.out.length x s).f0 ∧ (place st.out.length x s).f0 ≤ ((paceStep xs st x).out.length : Int) := by
    intro s hs
    have h3 := take_lt _ s hs
    have h4 := h.low s (hsub.subset hs)
    unfold place paceStep
    dsimp only
    cases hx : x.2.2 with
    | true =>
      rw [if_pos rfl, if_pos rfl, List.length_append, mid_length xs h0 h1 h2]
      constructor
      · omega
      · push_cast
        omega
    | false =>
      rw [if_neg (by decide), if_neg (by decide)]
      constructor <;> omega
  refine ⟨?_, ?_, ?_, ?_, ?_, ?_⟩
  · show (st.signs ++ _).Pairwise Le32
    rw [List.pairwise_append]
    refine ⟨h.sorted, ?_, ?_⟩
    · rw [List.pairwise_map]
      refine (List.Pairwise.sublist hsub h.left).imp ?_
      intro a c hac
      unfold Le32 place at *
      dsimp only
      split <;> omega
    · intro a ha c hc
      obtain ⟨s, hs, rfl⟩ := List.mem_map.1 hc
      have := (h.each a ha).2
      have := (hnew s hs).1
      unfold Le32
      omega
  · intro s hs
    rcases List.mem_append.1 (show s ∈ st.signs ++ _ from hs) with hs | hs
    · have := h.each s hs
      omega
    · obtain ⟨s', hs', rfl⟩ := List.mem_map.1 hs
      have := hnew s' hs'
      omega
  · intro s hs
    rcases List.mem_append.1 (show s ∈ st.signs ++ _ from hs) with hs | hs
    · exact h.names s hs
    · obtain ⟨s', hs', rfl⟩ := List.mem_map.1 hs
      exact hg s' _ (h.lnames s' (hsub.subset hs'))
  · exact List.Pairwise.sublist (List.dropWhile_sublist _) h.left
  · exact drop_ge h.left _
  · intro s hs
    exact h.lnames s ((List.dropWhile_sublist _).subset hs)

/-- Where the stretches of so many periods end. -/
def endTo (n : Nat) (ps : List Int) (k : Nat) : Int := if k < ps.length then rd ps (k : Int) else n
theorem endTo_zero (n : Nat) (ps : List Int) : endTo n ps 0 = firstF n ps := by unfold endTo firstF; rfl
theorem endTo_succ (n : Nat) (ps : List Int) (k : Nat) : endTo n ps (k + 1) = toF n ps k := by unfold endTo toF; rfl
theorem times_le {num den : Int} (hn : 1 ≤ num) (hd : 1 ≤ den) (i : Nat) : timesF num den i ≤ den := by
  unfold timesF
  have h1 : ((i : Int) + 1) * den = (i : Int) * den + den := by rw [Int.add_mul, Int.one_mul]
  rw [h1]
  have h2 : ((i : Int) * den + den) / num ≤ ((i : Int) * den + den * num) / num := by
    apply Int.ediv_le_ediv (by omega)
    have : den * 1 ≤ den * num := Int.mul_le_mul_of_nonneg_left hn (by omega)
    omega
  rw [Int.add_mul_ediv_right _ _ (by omega)] at h2
  omega

theorem reps_inv {xs : List Int} {good : S32 → Prop} (hg : ∀ (s : S32) (a : Int), good s → good ⟨a, s.f1⟩) {x : Int × Int × Bool} (h0 : 0 ≤ x.1) (h1 : x.1 ≤ x.2.1) (h2 : x.2.1 ≤ xs.length) :
    ∀ (t : Nat) (st : PSt), PaceInv x.2.1 good st → PaceInv x.2.1 good ((List.replicate t x).foldl (paceStep xs) st)
  | 0, _, h => h
  | t + 1, st, h => by
    rw [List.replicate_succ, List.foldl_cons]
    exact reps_inv hg h0 h1 h2 t _ (paceStep_inv hg h h0 h1 h2 h1)
theorem reps_len {xs : List Int} {x : Int × Int × Bool} (h0 : 0 ≤ x.1) (h1 : x.1 ≤ x.2.1) (h2 : x.2.1 ≤ xs.length) :
    ∀ (t : Nat) (st : PSt), (((List.replicate t x).foldl (paceStep xs) st).out.length : Int) ≤ (st.out.length : Int) + t * (x.2.1 - x.1)
  | 0, _ => by simp
  | t + 1, st => by
    rw [List.replicate_succ, List.foldl_cons]
    have h3 := reps_len h0 h1 h2 t (paceStep xs st x)
    have h4 : ((paceStep xs st x).out.length : Int) ≤ (st.out.length : Int) + (x.2.1 - x.1) := by
      unfold paceStep
      dsimp only
      split
      · rw [List.length_append, mid_length xs h0 h1 h2]; push_cast; omega
      · omega
    rw [show ((t + 1 : Nat) : Int) = (t : Int) + 1 from by omega, Int.add_mul, Int.one_mul]
    omega

theorem paceSt_all {n : Nat} {xs ps : List Int} {ss : List S32} {good : S32 → Prop} (hg : ∀ (s : S32) (a : Int), good s → good ⟨a, s.f1⟩) (hn : xs.length = n) (hp : okPeriods n ps) (hs : ss.Pairwise Le32) (h0 : ∀ s ∈ ss, 0 ≤ s.f0) (hgood : ∀ s ∈ ss, good s)
    {num den : Int} (hnum : 1 ≤ num) (hden : 1 ≤ den ∧ den ≤ 8) :
    ∀ k : Nat, k ≤ ps.length → PaceInv (endTo n ps k) good (paceSt xs ss (strsTo n ps num den k)) ∧ 0 ≤ endTo n ps k ∧ endTo n ps k ≤ n ∧ ((paceSt xs ss (strsTo n ps num den k)).out.length : Int) ≤ 8 * endTo n ps k := by
  intro k
  induction k with
  | zero =>
    intro _
    have hf : 0 ≤ firstF n ps ∧ firstF n ps ≤ n := by
      unfold firstF
      split
      · rename_i h; have := hp.2 0 h; simp at this; omega
      · omega
    have hst : PaceInv 0 good ⟨[], [], ss⟩ := ⟨List.Pairwise.nil, by simp, by simp, hs, h0, hgood⟩
    have hinv := paceStep_inv (xs := xs) hg hst (x := (0, firstF n ps, true)) (Int.le_refl _) hf.1 (by rw [hn]; exact hf.2) (Int.le_refl _)
    have e : paceSt xs ss (strsTo n ps num den 0) = paceStep xs ⟨[], [], ss⟩ (0, firstF n ps, true) := by simp [paceSt, strsTo]
    rw [e, endTo_zero]
    refine ⟨hinv, hf.1, hf.2, ?_⟩
    unfold paceStep
    dsimp only
    rw [if_pos rfl, List.nil_append, mid_length xs (Int.le_refl _) hf.1 (by rw [hn]; exact hf.2)]
    omega
  | succ k ih =>
    intro hk
    obtain ⟨h1, h2, h3, h4⟩ := ih (by omega)
    have hE : endTo n ps k = rd ps (k : Int) := by unfold endTo; rw [if_pos (by omega)]
    rw [hE] at h1 h2 h3 h4
    have hto : rd ps (k : Int) ≤ toF n ps k ∧ toF n ps k ≤ n := by
      unfold toF
      split
      · rename_i h
        have h5 := hp.2 (k + 1) h
        have h6 := h5.2.2 (by omega)
        rw [show ((k + 1 : Nat) : Int) - 1 = (k : Int) from by omega] at h6
        push_cast at h5 h6
        omega
      · exact ⟨h3, Int.le_refl _⟩
    have e : paceSt xs ss (strsTo n ps num den (k + 1)) = (strAt n ps num den k).foldl (paceStep xs) (paceSt xs ss (strsTo n ps num den k)) := by
      rw [strsTo_succ]; simp [paceSt]
    rw [e, endTo_succ]
    have ht0 := timesF_nonneg (num := num) (den := den) hnum hden.1 k
    have ht1 := times_le hnum hden.1 k
    unfold strAt
    split
    · refine ⟨?_, by omega, hto.2, ?_⟩
      · exact paceStep_inv (x := (rd ps (k : Int), toF n ps k, false)) hg h1 h2 hto.1 (by rw [hn]; exact hto.2) (Int.le_refl _)
      · simp only [List.foldl_cons, List.foldl_nil, paceStep]
        rw [if_neg (by decide)]
        omega
    · rename_i ht
      obtain ⟨t, ht2⟩ : ∃ t : Nat, (timesF num den k).toNat = t + 1 := ⟨(timesF num den k).toNat - 1, by omega⟩
      rw [ht2]
      refine ⟨?_, by omega, hto.2, ?_⟩
      · rw [List.replicate_succ, List.foldl_cons]
        exact reps_inv (x := (rd ps (k : Int), toF n ps k, true)) hg h2 hto.1 (by rw [hn]; exact hto.2) t _ (paceStep_inv (x := (rd ps (k : Int), toF n ps k, true)) hg h1 h2 hto.1 (by rw [hn]; exact hto.2) (Int.le_refl _))
      · have h5 := reps_len (xs := xs) (x := (rd ps (k : Int), toF n ps k, true)) h2 hto.1 (by rw [hn]; exact hto.2) (t + 1) (paceSt xs ss (strsTo n ps num den k))
        dsimp only at h5
        have h6 : ((t + 1 : Nat) : Int) * (toF n ps k - rd ps (k : Int)) ≤ 8 * (toF n ps k - rd ps (k : Int)) := Int.mul_le_mul_of_nonneg_right (by omega) (by omega)
        omega

theorem paceSt_samples (xs : List Int) (l : List (Int × Int × Bool)) : ∀ st : PSt, (∀ v ∈ st.out, v ∈ xs) → ∀ v ∈ (l.foldl (paceStep xs) st).out, v ∈ xs := by
  induction l with
  | nil => intro st h; exact h
  | cons x l ih =>
    intro st h
    refine ih _ ?_
    intro v hv
    unfold paceStep at hv
    dsimp only at hv
    split at hv
    · rcases List.mem_append.1 hv with hv | hv
      · exact h v hv
      · exact (List.take_subset _ _) ((List.drop_subset _ _) hv)
    · exact h v hv

theorem periods_le {n : Nat} {ps : List Int} (h : okPeriods n ps) : ps.length ≤ n := by
  have key : ∀ i : Nat, i < ps.length → (i : Int) ≤ rd ps (i : Int) := by
    intro i
    induction i with
    | zero => intro hi; have := (h.2 0 hi).1; simpa using this
    | succ i ih =>
      intro hi
      have h1 := ih (by omega)
      have h2 := (h.2 (i + 1) hi).2.2 (by omega)
      rw [show ((i + 1 : Nat) : Int) - 1 = (i : Int) from by omega] at h2
      push_cast at h2 ⊢
      omega
  rcases Nat.eq_zero_or_pos ps.length with h0 | h0
  · omega
  · have h1 := key (ps.length - 1) (by omega)
    have h2 := (h.2 (ps.length - 1) (by omega)).2.1
    omega

/-- A short piece at a pace: as defined, at most eight times as long, and at the usual pace as it is. -/
structure PacedOk (p q : S30) : Prop where
  ok : okPiece q
  len : q.f2.length ≤ 8 * p.f2.length
  none : q.f3 = []
theorem paced_ok (p : S30) (hp : okPiece p) (h60 : p.f2.length ≤ 5000) {num den : Int} (hnum : 1 ≤ num ∧ num ≤ 8) (hden : 1 ≤ den ∧ den ≤ 8) : PacedOk p (pacedF p num den) := by
  obtain ⟨v1, v2, v3, v4, v5, v6, v7⟩ := hp
  have v7' := okSigns_iff.1 v7
  obtain ⟨hI, hE0, hE1, hL⟩ := paceSt_all (n := p.f2.length) (xs := p.f2) (ps := p.f3) (ss := p.f4) (good := fun s => okName s.f1) (fun _ _ h => h) rfl v6 v7'.sorted (fun s hs => (v7'.each s hs).1) (fun s hs => (v7'.each s hs).2.2) hnum.1 hden (num := num) p.f3.length (Nat.le_refl _)
  have hst : strsTo p.f2.length p.f3 num den p.f3.length = strs p.f2.length p.f3 num den := rfl
  rw [hst] at hI hL
  have hsam := paceSt_samples p.f2 (strs p.f2.length p.f3 num den) ⟨[], [], p.f4⟩ (by simp)
  have hroom := paced_room p num den
  generalize hs : paceSt p.f2 p.f4 (strs p.f2.length p.f3 num den) = st at *
  have hq : pacedF p num den = ⟨p.f0, p.f1, st.out, [], st.signs ++ st.left.map (fun s => ⟨(st.out.length : Int), s.f1⟩), p.f5⟩ := by unfold pacedF; rw [hs]
  have hlen : st.out.length ≤ 8 * p.f2.length := by omega
  rw [hq] at hroom ⊢
  refine ⟨⟨v1, v2, v3, by dsimp only; omega, ?_, ⟨by simp, fun i hi => by simp at hi⟩, okSigns_iff.2 ⟨by rw [hroom]; exact v7'.len, ?_, ?_⟩⟩, hlen, rfl⟩
  · dsimp only
    rw [List.any_eq_false] at v5 ⊢
    intro x hx
    refine v5 x (hsam x ?_)
    have : st = List.foldl (paceStep p.f2) ⟨[], [], p.f4⟩ (strs p.f2.length p.f3 num den) := hs.symm
    rw [← this]
    exact hx
  · dsimp only
    rw [List.pairwise_append]
    refine ⟨hI.sorted, ?_, ?_⟩
    · rw [List.pairwise_map]
      exact hI.left.imp (fun _ => Int.le_refl _)
    · intro a ha c hc
      obtain ⟨s, _, rfl⟩ := List.mem_map.1 hc
      exact (hI.each a ha).2
  · intro s hs'
    rcases List.mem_append.1 hs' with hs' | hs'
    · exact ⟨(hI.each s hs').1, (hI.each s hs').2, hI.names s hs'⟩
    · obtain ⟨s', hs'', rfl⟩ := List.mem_map.1 hs'
      exact ⟨by dsimp only; omega, Int.le_refl _, hI.lnames s' hs''⟩

theorem mid_all (xs : List Int) : mid xs 0 (xs.length : Int) = xs := by simp [mid]
theorem strs_none (n : Nat) (num den : Int) : strs n [] num den = [(0, (n : Int), true)] := by simp [strs, strsTo, firstF]
theorem place_none (n : Int) (s : S32) : place 0 (0, n, true) s = s := by
  obtain ⟨a, b⟩ := s
  simp [place]
/-- A piece without periods is said as it is, at each pace. -/
theorem paced_plain (q : S30) (hq : okPiece q) (h : q.f3 = []) (num den : Int) : pacedF q num den = q := by
  obtain ⟨f0, f1, xs, ps, ss, f5⟩ := q
  dsimp only at h
  subst h
  have v7 := okSigns_iff.1 hq.signs
  dsimp only at v7
  unfold pacedF
  dsimp only
  rw [strs_none]
  simp only [paceSt, List.foldl_cons, List.foldl_nil, paceStep, if_true, mid_all, List.nil_append, List.length_nil]
  have h1 : (ss.takeWhile (fun s => decide (s.f0 < (xs.length : Int)))).map (place 0 (0, (xs.length : Int), true)) = ss.takeWhile (fun s => decide (s.f0 < (xs.length : Int))) := by
    rw [List.map_congr_left (g := id) (fun s _ => place_none _ s), List.map_id]
  have h2 : (ss.dropWhile (fun s => decide (s.f0 < (xs.length : Int)))).map (fun s => (⟨(xs.length : Int), s.f1⟩ : S32)) = ss.dropWhile (fun s => decide (s.f0 < (xs.length : Int))) := by
    rw [List.map_congr_left (g := id) ?_, List.map_id]
    intro s hs
    have h3 := drop_ge v7.sorted (xs.length : Int) s hs
    have h4 := (v7.each s ((List.dropWhile_sublist _).subset hs)).2.1
    obtain ⟨a, b⟩ := s
    dsimp only at h3 h4
    have : (xs.length : Int) = a := by omega
    rw [this]; rfl
  rw [h1, h2, List.takeWhile_append_dropWhile]
end Go.Proofs.Ytoodagohkepcpaa
