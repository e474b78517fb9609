/- What a stretched wave is, in plain words. -/
import Derived.Test.YtoodagohkepcpaaB0
namespace Go.Proofs.Ytoodagohkepcpaa
open Go.RowKit Go.Shelf Go.Proofs.YtoodagohkepcpaaW.PrintWords

/-! ### what a stretched wave is -/
def per (xs ms : List Int) (i : Nat) : List Int := mid xs (rd ms (i : Int)) (rd ms ((i : Int) + 1))
def headS (xs ms : List Int) : List Int := xs.take (rd ms 0).toNat
def tailS (xs ms : List Int) : List Int := xs.drop (rd ms ((ms.length : Int) - 1)).toNat
def sampS (k : Nat) (xs ms : List Int) (j : Nat) : List Int := headS xs ms ++ (List.range j).flatMap (fun i => per xs ms (i / k))
def markS (k : Nat) (xs ms : List Int) (j : Nat) : List Int := (List.range (j + 1)).map (fun i => ((sampS k xs ms i).length : Int))
def totS (k : Nat) (ms : List Int) : Nat := k * (ms.length - 1)


theorem sampS_succ (k : Nat) (xs ms : List Int) (j : Nat) : sampS k xs ms (j + 1) = sampS k xs ms j ++ per xs ms (j / k) := by
  simp [sampS, List.range_succ, List.append_assoc]
theorem markS_succ (k : Nat) (xs ms : List Int) (j : Nat) : markS k xs ms (j + 1) = markS k xs ms j ++ [((sampS k xs ms (j + 1)).length : Int)] := by
  simp [markS, List.range_succ]
theorem markS_length (k : Nat) (xs ms : List Int) (j : Nat) : (markS k xs ms j).length = j + 1 := by simp [markS]
theorem markS_get (k : Nat) (xs ms : List Int) {j i : Nat} (h : i ≤ j) : rd (markS k xs ms j) (i : Int) = ((sampS k xs ms i).length : Int) := by
  simp [rd, markS, List.getD_eq_getElem?_getD, List.getElem?_range (show i < j + 1 by omega)]
theorem sampS_le (k : Nat) (xs ms : List Int) {j j' : Nat} (h : j ≤ j') : (sampS k xs ms j).length ≤ (sampS k xs ms j').length := by
  induction j' with
  | zero => obtain rfl : j = 0 := by omega
            exact Nat.le_refl _
  | succ m ih =>
    rcases Nat.lt_or_ge m j with hm | hm
    · obtain rfl : j = m + 1 := by omega
      exact Nat.le_refl _
    · rw [sampS_succ, List.length_append]
      have := ih hm
      omega
theorem okMarks.mono {n : Nat} {ms : List Int} (h : okMarks n ms) {i j : Nat} (hij : i ≤ j) (hj : j < ms.length) : rd ms (i : Int) ≤ rd ms (j : Int) := by
  induction j with
  | zero => obtain rfl : i = 0 := by omega
            exact Int.le_refl _
  | succ m ih =>
    rcases Nat.lt_or_ge m i with hm | hm
    · obtain rfl : i = m + 1 := by omega
      exact Int.le_refl _
    · have h1 := ih hm (by omega)
      have h2 := (h.2 (m + 1) hj).2.2 (by omega)
      rw [show ((m + 1 : Nat) : Int) - 1 = (m : Int) from by omega] at h2
      omega
theorem per_length {xs ms : List Int} (h : okMarks xs.length ms) {q : Nat} (hq : q + 1 < ms.length) : ((per xs ms q).length : Int) = rd ms ((q : Int) + 1) - rd ms (q : Int) := by
  have h1 := h.2 q (by omega)
  have h2 := h.2 (q + 1) hq
  have h3 := h.mono (show q ≤ q + 1 by omega) hq
  push_cast at h2 h3
  unfold per
  have h3' : rd ms (q : Int) ≤ rd ms ((q : Int) + 1) := by simpa using h3
  have h2' : 0 ≤ rd ms ((q : Int) + 1) ∧ rd ms ((q : Int) + 1) ≤ (xs.length : Int) := by simpa using ⟨h2.1, h2.2.1⟩
  unfold mid
  rw [List.length_drop, List.length_take]
  omega
theorem sampS_part {k : Nat} (xs ms : List Int) (q : Nat) : ∀ r : Nat, r ≤ k → (sampS k xs ms (k * q + r)).length = (sampS k xs ms (k * q)).length + r * (per xs ms q).length := by
  intro r
  induction r with
  | zero => intro _; simp
  | succ r ih =>
    intro hr
    rw [← Nat.add_assoc, sampS_succ, List.length_append, ih (by omega), show (k * q + r) / k = q from by
      rw [Nat.mul_add_div (by omega), Nat.div_eq_of_lt (by omega), Nat.add_zero], Nat.add_mul, Nat.one_mul]
    omega
theorem sampS_len {k : Nat} {xs ms : List Int} (h : okMarks xs.length ms) : ∀ q : Nat, q < ms.length → ((sampS k xs ms (k * q)).length : Int) = rd ms 0 + k * (rd ms (q : Int) - rd ms 0) := by
  intro q
  induction q with
  | zero =>
    intro hq
    have h1 := h.2 0 (by omega)
    have h1' : 0 ≤ rd ms 0 ∧ rd ms 0 ≤ (xs.length : Int) := by simpa using ⟨h1.1, h1.2.1⟩
    simp [sampS, headS, List.length_take]
    omega
  | succ q ih =>
    intro hq
    have h1 := ih (by omega)
    have h2 := sampS_part (k := k) xs ms q k (Nat.le_refl _)
    have h3 := per_length h (q := q) hq
    rw [Nat.mul_succ, h2]
    push_cast
    rw [h1, h3]
    rw [show rd ms ((q : Int) + 1) - rd ms 0 = (rd ms (q : Int) - rd ms 0) + (rd ms ((q : Int) + 1) - rd ms (q : Int)) from by omega, Int.mul_add]
    omega
theorem tailS_len {xs ms : List Int} (h : okMarks xs.length ms) : ((tailS xs ms).length : Int) = xs.length - rd ms ((ms.length : Int) - 1) := by
  have h0 := h.1
  have h1 := h.2 (ms.length - 1) (by omega)
  rw [show ((ms.length - 1 : Nat) : Int) = (ms.length : Int) - 1 from by omega] at h1
  unfold tailS
  rw [List.length_drop]
  omega
theorem sampS_bound {k : Nat} {xs ms : List Int} (h : okMarks xs.length ms) (hk : 1 ≤ k ∧ k ≤ 8) {j : Nat} (hj : j ≤ totS k ms) : (sampS k xs ms j).length + (tailS xs ms).length ≤ 8 * xs.length := by
  have h0 := h.1
  have h1 := sampS_le k xs ms hj
  have h2 := sampS_len (k := k) h (ms.length - 1) (by omega)
  have h3 := tailS_len h
  have h4 := h.mono (show 0 ≤ ms.length - 1 by omega) (by omega)
  have h5 := h.2 (ms.length - 1) (by omega)
  have h6 := h.2 0 (by omega)
  rw [show ((ms.length - 1 : Nat) : Int) = (ms.length : Int) - 1 from by omega] at h2 h4 h5
  have h4' : rd ms 0 ≤ rd ms ((ms.length : Int) - 1) := by simpa using h4
  have h6' : 0 ≤ rd ms 0 := by simpa using h6.1
  unfold totS at *
  have h7 : (k : Int) * (rd ms ((ms.length : Int) - 1) - rd ms 0) ≤ 8 * (rd ms ((ms.length : Int) - 1) - rd ms 0) := Int.mul_le_mul_of_nonneg_right (by omega) (by omega)
  omega
theorem repV_get {A0 : Option Addr} {k : Nat} {ms : List Int} (hk : 1 ≤ k) {j : Nat} (hj : j < totS k ms) :
    (repV k ((pairs ms).map (encP A0)) (totS k ms))[j]? = some (encP A0 (rd ms ((j / k : Nat) : Int), rd ms (((j / k : Nat) : Int) + 1))) ∧ j / k + 1 < ms.length := by
  have hq : j / k < ms.length - 1 := Nat.div_lt_of_lt_mul hj
  refine ⟨?_, Nat.add_lt_of_lt_sub hq⟩
  simp only [repV, List.getElem?_map, List.getElem?_range hj, Option.map_some, List.getD_eq_getElem?_getD, pairs, pairsTo, List.getElem?_range hq, Option.getD_some]
theorem C_per {A0 : Option Addr} {c0 : Nat} {xs ms : List Int} {w : World} (h0 : Kd.C (Kd.int .i64) w A0 xs.length xs) (hc : xs.length ≤ c0) (h : okMarks xs.length ms) {q : Nat} (hq : q + 1 < ms.length) :
    ∃ A, encP A0 (rd ms (q : Int), rd ms ((q : Int) + 1)) = .slice A (per xs ms q).length (per xs ms q).length ∧ Kd.C (Kd.int .i64) w A (per xs ms q).length (per xs ms q) := by
  have h1 := h.2 q (by omega)
  have h2 := h.2 (q + 1) hq
  have h3 := per_length h hq
  have h4 := h2.2.2 (by omega)
  push_cast at h2 h4
  have h2' : 0 ≤ rd ms ((q : Int) + 1) ∧ rd ms ((q : Int) + 1) ≤ (xs.length : Int) := by simpa using ⟨h2.1, h2.2.1⟩
  have h4' : rd ms (q : Int) < rd ms ((q : Int) + 1) := by simpa using h4
  refine ⟨A0.map (·.add (rd ms (q : Int)).toNat), ?_, ?_⟩
  · unfold encP
    dsimp only
    rw [show (rd ms ((q : Int) + 1)).toNat - (rd ms (q : Int)).toNat = (per xs ms q).length from by omega]
  · have := Kd.C_mid (k := Kd.int .i64) (c := c0) h0 (lo := (rd ms (q : Int)).toNat) (hi := (rd ms ((q : Int) + 1)).toNat) (by omega) (by omega) hc
    rw [if_neg (by omega)] at this
    have e : (fun x : Addr => x.add ((rd ms (q : Int)).toNat * (Kd.int .i64).sz)) = (·.add (rd ms (q : Int)).toNat) := by
      funext x; rw [show (Kd.int .i64).sz = 1 from rfl, Nat.mul_one]
    rw [e] at this
    exact this
end Go.Proofs.Ytoodagohkepcpaa
