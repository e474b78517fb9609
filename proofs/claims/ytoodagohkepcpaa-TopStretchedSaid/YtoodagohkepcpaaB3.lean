/- The theorem of slow speech, in plain words: what a speaker says slowly is the stretched wave. -/
import Derived.Test.YtoodagohkepcpaaB1
namespace Go.Proofs.Ytoodagohkepcpaa
open Go.RowKit Go.Shelf Go.Proofs.YtoodagohkepcpaaW.PrintWords

def markName : ByteArray := ⟨#[109, 97, 114, 107]⟩
theorem okName_mark : okName markName := ⟨by decide, by decide, by decide⟩
def signsF (ms : List Int) : List S32 := ms.map (fun m => ⟨m, markName⟩)
def pieceF (xs ms : List Int) : S30 := ⟨1, 1, xs, ms.take (ms.length - 1), signsF ms, 0⟩

theorem rd_take {ms : List Int} {n : Nat} {i : Nat} (h : i < n) : rd (ms.take n) (i : Int) = rd ms (i : Int) := by
  simp [rd, List.getD_eq_getElem?_getD, List.getElem?_take, h]
theorem rd_get {ms : List Int} {i : Nat} (h : i < ms.length) : rd ms (i : Int) = ms[i] := by
  simp [rd, List.getD_eq_getElem?_getD, h]

section
variable {xs ms : List Int} {t : Nat} {num den : Int}

/-- The stretches of the q-th period. -/
def perX (ms : List Int) (q : Nat) : Int × Int × Bool := (rd ms (q : Int), rd ms ((q : Int) + 1), true)
def strT (ms : List Int) (t q : Nat) : List (Int × Int × Bool) := (0, rd ms 0, true) :: (List.range q).flatMap (fun i => List.replicate t (perX ms i))

theorem strs_T (h : okMarks xs.length ms) (hl : rd ms ((ms.length : Int) - 1) = xs.length) (ht : 1 ≤ t) (htimes : ∀ i : Nat, timesF num den i = t) :
    strs xs.length (ms.take (ms.length - 1)) num den = strT ms t (ms.length - 1) := by
  have h2 := h.1
  have hln : (ms.take (ms.length - 1)).length = ms.length - 1 := by rw [List.length_take]; omega
  unfold strs strsTo strT
  rw [hln]
  congr 1
  · unfold firstF
    rw [if_pos (by rw [hln]; omega)]
    have := rd_take (ms := ms) (n := ms.length - 1) (i := 0) (by omega)
    rw [show ((0 : Nat) : Int) = 0 from rfl] at this
    rw [this]
  · have : ∀ l : List Nat, (∀ i ∈ l, i < ms.length - 1) → l.flatMap (strAt xs.length (ms.take (ms.length - 1)) num den) = l.flatMap (fun i => List.replicate t (perX ms i)) := by
      intro l
      induction l with
      | nil => intro _; rfl
      | cons i l ih =>
        intro hi
        rw [List.flatMap_cons, List.flatMap_cons, ih (fun j hj => hi j (List.mem_cons_of_mem _ hj))]
        congr 1
        have hi' := hi i (by simp)
        unfold strAt
        rw [htimes i, if_neg (by omega), Int.toNat_natCast]
        congr 1
        unfold perX toF
        rw [rd_take hi', hln]
        by_cases hc : i + 1 < ms.length - 1
        · rw [if_pos hc]
          have := rd_take (ms := ms) hc
          push_cast at this
          rw [this]
        · rw [if_neg hc, ← hl, show (ms.length : Int) - 1 = (i : Int) + 1 from by omega]
    exact this _ (fun i hi => by simpa using hi)

theorem signs_drop (ms : List Int) {q : Nat} (hq : q < ms.length) : (signsF ms).drop q = ⟨rd ms (q : Int), markName⟩ :: (signsF ms).drop (q + 1) := by
  have hlen : (signsF ms).length = ms.length := by simp [signsF]
  rw [List.drop_eq_getElem_cons (by rw [hlen]; exact hq)]
  congr 1
  simp [signsF, rd_get hq]

theorem copies (xs : List Int) (x : Int × Int × Bool) (hx : x.2.2 = true) : ∀ (t : Nat) (st : PSt), (∀ s rest, st.left = s :: rest → ¬ s.f0 < x.2.1) →
    (List.replicate t x).foldl (paceStep xs) st = ⟨st.out ++ (List.replicate t (mid xs x.1 x.2.1)).flatten, st.signs, st.left⟩ := by
  intro t
  induction t with
  | zero => intro st _; simp
  | succ t ih =>
    intro st h
    have hs : paceStep xs st x = ⟨st.out ++ mid xs x.1 x.2.1, st.signs, st.left⟩ := by
      unfold paceStep
      rw [if_pos hx]
      cases hl : st.left with
      | nil => simp
      | cons s rest =>
        have := h s rest hl
        simp [this]
    rw [List.replicate_succ, List.foldl_cons, hs, ih _ (by exact h)]
    simp [List.replicate_succ, List.append_assoc]

theorem sampS_rep (k : Nat) (xs ms : List Int) (q : Nat) (hk : 1 ≤ k) : ∀ r, r ≤ k → sampS k xs ms (k * q + r) = sampS k xs ms (k * q) ++ (List.replicate r (per xs ms q)).flatten := by
  intro r
  induction r with
  | zero => intro _; simp
  | succ r ih =>
    intro hr
    rw [← Nat.add_assoc, sampS_succ, ih (by omega), show (k * q + r) / k = q from by
      rw [Nat.mul_add_div (by omega), Nat.div_eq_of_lt (by omega), Nat.add_zero], List.append_assoc]
    congr 1
    rw [List.replicate_succ']
    simp

theorem paced_T (h : okMarks xs.length ms) (ht : 1 ≤ t) : ∀ q : Nat, q < ms.length →
    paceSt xs (signsF ms) (strT ms t q) = ⟨sampS t xs ms (t * q), (List.range q).map (fun i => ⟨((sampS t xs ms (t * i)).length : Int), markName⟩), (signsF ms).drop q⟩ := by
  intro q
  induction q with
  | zero =>
    intro hq
    have h0 := h.2 0 hq
    simp only [strT, List.range_zero, List.flatMap_nil, paceSt, List.foldl_cons, List.foldl_nil]
    unfold paceStep
    have hd := signs_drop ms hq
    rw [List.drop_zero] at hd
    rw [hd]
    simp [sampS, headS, mid]
  | succ q ih =>
    intro hq
    have ih := ih (by omega)
    have hlt := (h.2 (q + 1) hq).2.2 (by omega)
    rw [show ((q + 1 : Nat) : Int) - 1 = (q : Int) from by omega] at hlt
    push_cast at hlt
    have e : strT ms t (q + 1) = strT ms t q ++ List.replicate t (perX ms q) := by simp [strT, List.range_succ]
    unfold paceSt at ih ⊢
    rw [e, List.foldl_append, ih]
    obtain ⟨t', rfl⟩ : ∃ t', t = t' + 1 := ⟨t - 1, by omega⟩
    rw [List.replicate_succ, List.foldl_cons]
    have hd := signs_drop ms (show q < ms.length by omega)
    have hd1 := signs_drop ms hq
    have hs : paceStep xs ⟨sampS (t' + 1) xs ms ((t' + 1) * q), (List.range q).map (fun i => ⟨((sampS (t' + 1) xs ms ((t' + 1) * i)).length : Int), markName⟩), (signsF ms).drop q⟩ (perX ms q) =
        ⟨sampS (t' + 1) xs ms ((t' + 1) * q) ++ per xs ms q, (List.range (q + 1)).map (fun i => ⟨((sampS (t' + 1) xs ms ((t' + 1) * i)).length : Int), markName⟩), (signsF ms).drop (q + 1)⟩ := by
      unfold paceStep
      rw [hd, hd1]
      simp [perX, place, hlt, per, List.range_succ]
    rw [hs, copies xs (perX ms q) rfl t' _ (by
      intro s rest hl
      rw [hd1] at hl
      injection hl with hl _
      subst hl
      simp [perX])]
    have hr := sampS_rep (t' + 1) xs ms q (by omega) (t' + 1) (Nat.le_refl _)
    rw [Nat.mul_succ, hr, List.replicate_succ]
    simp [perX, per, List.append_assoc]

theorem pacedF_T (h : okMarks xs.length ms) (hl : rd ms ((ms.length : Int) - 1) = xs.length) (ht : 1 ≤ t) (htimes : ∀ i : Nat, timesF num den i = t) :
    (pacedF (pieceF xs ms) num den).f2 = sampS t xs ms (totS t ms) ∧ (pacedF (pieceF xs ms) num den).f4 = (List.range ms.length).map (fun i => ⟨((sampS t xs ms (t * i)).length : Int), markName⟩) := by
  have h2 := h.1
  have hp := paced_T h ht (ms.length - 1) (by omega)
  have hd := signs_drop ms (show ms.length - 1 < ms.length by omega)
  have hd2 : (signsF ms).drop ms.length = [] := List.drop_of_length_le (by simp [signsF])
  rw [show ms.length - 1 + 1 = ms.length from by omega, hd2] at hd
  unfold pacedF pieceF
  dsimp only
  rw [strs_T h hl ht htimes, hp]
  dsimp only
  refine ⟨rfl, ?_⟩
  rw [hd]
  conv => rhs; rw [show ms.length = (ms.length - 1) + 1 from by omega, List.range_succ]
  simp

theorem times_one (k i : Nat) : timesF 1 (k : Int) i = k := by
  unfold timesF
  rw [Int.ediv_one, Int.ediv_one, Int.add_mul]
  omega
theorem times_same (k : Nat) (hk : 1 ≤ k) (i : Nat) : timesF (k : Int) (k : Int) i = (1 : Nat) := by
  unfold timesF
  rw [Int.mul_ediv_cancel _ (by omega), Int.mul_ediv_cancel _ (by omega)]
  omega
theorem samp_one (h : okMarks xs.length ms) : ∀ q : Nat, q < ms.length → sampS 1 xs ms (1 * q) = xs.take (rd ms (q : Int)).toNat := by
  intro q
  induction q with
  | zero => intro _; simp [sampS, headS]
  | succ q ih =>
    intro hq
    have hlt := (h.2 (q + 1) hq).2.2 (by omega)
    rw [show ((q + 1 : Nat) : Int) - 1 = (q : Int) from by omega] at hlt
    push_cast at hlt
    have ih := ih (by omega)
    rw [Nat.one_mul] at ih ⊢
    rw [sampS_succ, ih, Nat.div_one]
    unfold per mid
    push_cast
    have : xs.take (rd ms (q : Int)).toNat = (xs.take (rd ms ((q : Int) + 1)).toNat).take (rd ms (q : Int)).toNat := by
      rw [List.take_take, Nat.min_eq_left (by omega)]
    rw [this, List.take_append_drop]
end

/-- All that the statement compares. -/
structure SlowSpeech (k : Nat) (xs ms : List Int) : Prop where
  slow : (pacedF (pieceF xs ms) 1 (k : Int)).f2 = sampS k xs ms (totS k ms) ++ tailS xs ms
  same : (pacedF (pieceF xs ms) (k : Int) (k : Int)).f2 = xs
  n1 : (pacedF (pieceF xs ms) 1 (k : Int)).f4.length = ms.length
  n2 : (pacedF (pieceF xs ms) (k : Int) (k : Int)).f4.length = ms.length
  s1 : ∀ i : Nat, i < ms.length → (rd_T32 (pacedF (pieceF xs ms) 1 (k : Int)).f4 (i : Int)).f0 = rd (markS k xs ms (totS k ms)) ((k : Int) * i)
  s2 : ∀ i : Nat, i < ms.length → (rd_T32 (pacedF (pieceF xs ms) (k : Int) (k : Int)).f4 (i : Int)).f0 = rd ms (i : Int)

theorem slow_speech {k : Nat} {xs ms : List Int} (h : okMarks xs.length ms) (hl : rd ms ((ms.length : Int) - 1) = xs.length) (hk : 1 ≤ k) : SlowSpeech k xs ms := by
  have h2 := h.1
  obtain ⟨a1, a2⟩ := pacedF_T (t := k) (num := 1) (den := (k : Int)) h hl hk (times_one k)
  obtain ⟨b1, b2⟩ := pacedF_T (t := 1) (num := (k : Int)) (den := (k : Int)) h hl (Nat.le_refl 1) (times_same k hk)
  have ht : tailS xs ms = [] := by
    unfold tailS
    rw [hl]
    simp
  refine ⟨by rw [a1, ht, List.append_nil], ?_, by rw [a2]; simp, by rw [b2]; simp, ?_, ?_⟩
  · rw [b1]
    have := samp_one h (ms.length - 1) (by omega)
    unfold totS
    rw [this, show ((ms.length - 1 : Nat) : Int) = (ms.length : Int) - 1 from by omega, hl]
    simp
  · intro i hi
    rw [a2]
    have hle : k * i ≤ totS k ms := Nat.mul_le_mul_left k (by omega)
    have := markS_get k xs ms hle
    push_cast at this
    rw [this]
    simp [rd_T32, List.getD_eq_getElem?_getD, hi]
  · intro i hi
    rw [b2]
    have := sampS_len (k := 1) h i hi
    rw [Nat.one_mul] at this
    simp [rd_T32, List.getD_eq_getElem?_getD, hi]
    rw [this]
    omega

theorem piece_ok {xs ms : List Int} (hx : xs.any badSample = false) (hxl : xs.length ≤ 400) (h : okMarks xs.length ms) (hl : rd ms ((ms.length : Int) - 1) = xs.length) (hm : ms.length ≤ 41) : okPiece (pieceF xs ms) := by
  have h2 := h.1
  have hln : (ms.take (ms.length - 1)).length = ms.length - 1 := by rw [List.length_take]; omega
  refine ⟨by simp [pieceF], by simp [pieceF], by simp [pieceF], by simp [pieceF]; omega, ?_, ?_, ?_⟩
  · simp only [pieceF]
    rw [List.any_eq_false] at hx ⊢
    intro x hx'
    have := hx x hx'
    simp [badSample, badPiece, inB] at *
    omega
  · refine ⟨by simp only [pieceF]; rw [hln]; omega, ?_⟩
    simp only [pieceF]
    rw [hln]
    intro i hi
    rw [rd_take hi]
    have h1 := h.2 i (by omega)
    have h3 := (h.2 (i + 1) (by omega)).2.2 (by omega)
    rw [show ((i + 1 : Nat) : Int) - 1 = (i : Int) from by omega] at h3
    have h4 := h.mono (show i + 1 ≤ ms.length - 1 by omega) (by omega)
    rw [show ((ms.length - 1 : Nat) : Int) = (ms.length : Int) - 1 from by omega, hl] at h4
    refine ⟨h1.1, by omega, fun h0 => ?_⟩
    have h5 := h1.2.2 h0
    obtain ⟨j, rfl⟩ : ∃ j, i = j + 1 := ⟨i - 1, by omega⟩
    rw [show ((j + 1 : Nat) : Int) - 1 = (j : Int) from by omega] at h5 ⊢
    rwa [rd_take (by omega)]
  · refine ⟨by simp [pieceF, signsF]; omega, ?_⟩
    simp only [pieceF]
    have hln : (signsF ms).length = ms.length := by simp [signsF]
    rw [hln]
    intro i hi
    have e : ∀ j : Nat, j < ms.length → rd_T32 (signsF ms) (j : Int) = ⟨rd ms (j : Int), markName⟩ := fun j hj => by
      simp [rd_T32, signsF, List.getD_eq_getElem?_getD, hj, rd_get hj]
    rw [e i hi]
    have h1 := h.2 i hi
    refine ⟨h1.1, h1.2.1, okName_mark, fun h0 => ?_⟩
    obtain ⟨j, rfl⟩ : ∃ j, i = j + 1 := ⟨i - 1, by omega⟩
    have h5 := h1.2.2 h0
    rw [show ((j + 1 : Nat) : Int) - 1 = (j : Int) from by omega] at h5 ⊢
    rw [e j (by omega)]
    dsimp only
    omega
end Go.Proofs.Ytoodagohkepcpaa
