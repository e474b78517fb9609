/- The reference's comparisons and checks, as its printed functions answer. -/
import Derived.Test.YtoodagohkepcpaaPTopStretchedx1
import Derived.Test.YtoodagohkepcpaaA7
import Derived.Test.YtoodagohkepcpaaA2
namespace Go.Proofs.Ytoodagohkepcpaa
open Go.RowKit Go.Shelf Go.Proofs.YtoodagohkepcpaaW.PrintWords
open Go.Proofs.Ytoodagohkepcpaa.PTopStretched (declaimref07_Same.l0 declaimref07_Same.f declaimref07_Marked.f declaimref07_Marked.l0 declaimref07_Wave.f declaimref07_Samples.f declaimref07_Samples.l0 declaimref07_in.f)

theorem wrap_nat {j : Nat} (h : j < 9223372036854775807) : wrap64 ((j : Int) + 1) = ((j + 1 : Nat) : Int) := by
  unfold wrap64
  omega

theorem Same_l0 (xs : List Int) (h : xs.length ≤ 1000000) : ∀ k j : Nat, xs.length < j + k → j ≤ xs.length → declaimref07_Same.l0 k xs xs (j : Int) = some true := by
  intro k
  induction k with
  | zero => intro j h1 h2; omega
  | succ k ih =>
    intro j h1 h2
    unfold declaimref07_Same.l0
    by_cases hlt : (j : Int) < (xs.length : Int)
    · rw [if_pos hlt, if_pos (by omega), if_pos hlt, if_pos rfl, wrap_nat (by omega)]
      exact ih (j + 1) (by omega) (by omega)
    · rw [if_neg hlt]
theorem Same_true (A0 A1 : Option Addr) (c0 c1 : Nat) (xs : List Int) (w : World) (h0 : Kd.C (Kd.int .i64) w A0 xs.length xs) (hc0 : xs.length ≤ c0) (h1 : Kd.C (Kd.int .i64) w A1 xs.length xs) (hc1 : xs.length ≤ c1) (hl : xs.length ≤ 1000000) :
    Calls Try.prog 11 #[.slice A0 xs.length c0, .slice A1 xs.length c1] w fun e w' => e = .returned (.bool true) ∧ ∃ q, w' = w.drewN q := by
  refine (PTopStretched.declaimref07_Same.calls (xs.length + 1) A0 c0 xs A1 c1 xs true w h0 hc0 h1 hc1 ?_).mono ?_
  · unfold declaimref07_Same.f
    rw [if_pos rfl]
    exact Same_l0 xs hl (xs.length + 1) 0 (by omega) (by omega)
  · rintro e w' ⟨he, hd⟩
    exact ⟨he, hd.out⟩

theorem wrap_pred {j : Nat} (h : j < 9223372036854775807) (h0 : 0 < j) : wrap64 ((j : Int) - 1) = ((j : Int) - 1) := by
  unfold wrap64
  omega
theorem in_some (a b c : Int) : declaimref07_in.f a b c = some (decide (b ≤ a ∧ a ≤ c)) := by
  unfold declaimref07_in.f
  by_cases h : a ≥ b
  · rw [if_pos h]; congr 1; simp; omega
  · rw [if_neg h]; congr 1; simp; omega
theorem Samples_l0 (xs : List Int) (h : xs.length < 9223372036854775807) : ∀ k j : Nat, xs.length < j + k → j ≤ xs.length →
    ∃ b, declaimref07_Samples.l0 k xs (j : Int) = some b ∧ (b = true → ∀ i : Nat, j ≤ i → i < xs.length → -32768 ≤ rd xs (i : Int) ∧ rd xs (i : Int) ≤ 32767) := by
  intro k
  induction k with
  | zero => intro j h1 h2; omega
  | succ k ih =>
    intro j h1 h2
    unfold declaimref07_Samples.l0
    by_cases hlt : (j : Int) < (xs.length : Int)
    · rw [if_pos hlt, if_pos (by omega), in_some, Option.bind_some, wrap_nat (by omega)]
      by_cases hin : -32768 ≤ rd xs (j : Int) ∧ rd xs (j : Int) ≤ 32767
      · rw [decide_eq_true hin, if_pos rfl]
        obtain ⟨b, hb, hp⟩ := ih (j + 1) (by omega) (by omega)
        refine ⟨b, hb, fun e i hi hi2 => ?_⟩
        by_cases hij : i = j
        · subst hij; exact hin
        · exact hp e i (by omega) hi2
      · rw [decide_eq_false hin, if_neg (by decide)]
        exact ⟨false, rfl, fun e => by cases e⟩
    · rw [if_neg hlt]
      exact ⟨true, rfl, fun _ i hi hi2 => by omega⟩
theorem Marked_l0 (xs ms : List Int) (h : ms.length ≤ 9223372036854775807) : ∀ k j : Nat, ms.length < j + k → j ≤ ms.length →
    ∃ r, declaimref07_Marked.l0 k (j : Int) xs ms = some r ∧ (r = 0 → 2 ≤ ms.length ∧ ∀ i : Nat, j ≤ i → i < ms.length → 0 ≤ rd ms (i : Int) ∧ rd ms (i : Int) ≤ (xs.length : Int) ∧ (0 < i → rd ms ((i : Int) - 1) < rd ms (i : Int))) := by
  intro k
  induction k with
  | zero => intro j h1 h2; omega
  | succ k ih =>
    intro j h1 h2
    unfold declaimref07_Marked.l0
    by_cases hlt : (j : Int) < (ms.length : Int)
    · rw [if_pos hlt, if_pos (by omega), in_some, Option.bind_some, wrap_nat (by omega)]
      by_cases hin : 0 ≤ rd ms (j : Int) ∧ rd ms (j : Int) ≤ (xs.length : Int)
      · rw [decide_eq_true hin, if_pos rfl]
        obtain ⟨b, hb, hp⟩ := ih (j + 1) (by omega) (by omega)
        by_cases h0 : (j : Int) > 0
        · rw [if_pos h0, wrap_pred (by omega) (by omega), if_pos (by omega), if_pos (by omega)]
          by_cases hle : rd ms (j : Int) ≤ rd ms ((j : Int) - 1)
          · rw [if_pos hle]
            exact ⟨2, rfl, fun e => by cases e⟩
          · rw [if_neg hle]
            refine ⟨b, hb, fun e => ⟨(hp e).1, fun i hi hi2 => ?_⟩⟩
            by_cases hij : i = j
            · subst hij; exact ⟨hin.1, hin.2, fun _ => by omega⟩
            · exact (hp e).2 i (by omega) hi2
        · rw [if_neg h0]
          refine ⟨b, hb, fun e => ⟨(hp e).1, fun i hi hi2 => ?_⟩⟩
          by_cases hij : i = j
          · subst hij; exact ⟨hin.1, hin.2, fun h => by omega⟩
          · exact (hp e).2 i (by omega) hi2
      · rw [decide_eq_false hin, if_neg (by decide)]
        exact ⟨2, rfl, fun e => by cases e⟩
    · rw [if_neg hlt]
      by_cases h2' : (ms.length : Int) < 2
      · rw [if_pos h2']
        exact ⟨2, rfl, fun e => by cases e⟩
      · rw [if_neg h2']
        exact ⟨0, rfl, fun _ => ⟨by omega, fun i hi hi2 => by omega⟩⟩
theorem Samples_mono (xs : List Int) (h : xs.length < 9223372036854775807) {k : Nat} (hk : xs.length < k) : ∃ b, declaimref07_Samples.f k xs = some b ∧ (b = true → xs.any badSample = false) := by
  obtain ⟨b, hb, hp⟩ := Samples_l0 xs h k 0 (by omega) (by omega)
  refine ⟨b, hb, fun e => ?_⟩
  rw [List.any_eq_false]
  intro x hx
  obtain ⟨i, hi, rfl⟩ := List.getElem_of_mem hx
  have := hp e i (by omega) hi
  have e2 : rd xs (i : Int) = xs[i] := by simp [rd, List.getD_eq_getElem?_getD, hi]
  rw [e2] at this
  simp [badSample]
  omega
theorem Marked_any (xs ms : List Int) (hl : xs.length ≤ 100000) (hm : ms.length ≤ 9223372036854775807) :
    ∃ r, (r = 0 → okWave xs ∧ okMarks xs.length ms) ∧ ∀ (A0 A1 : Option Addr) (c0 c1 : Nat) (w : World) (_ : Kd.C (Kd.int .i64) w A0 xs.length xs) (_ : xs.length ≤ c0) (_ : Kd.C (Kd.int .i64) w A1 ms.length ms) (_ : ms.length ≤ c1),
      Calls Try.prog 7 #[.agg #[.slice A0 xs.length c0, .slice A1 ms.length c1]] w fun e w' => e = .returned (.int .i64 r) ∧ Below w.heap.size w w' := by
  obtain ⟨b, hb, hbp⟩ := Samples_mono xs (by omega) (k := xs.length + ms.length + 1) (by omega)
  obtain ⟨r, hr, hrp⟩ := Marked_l0 xs ms hm (xs.length + ms.length + 1) 0 (by omega) (by omega)
  have hw : declaimref07_Wave.f (xs.length + ms.length + 1) xs = some (if b = true then 0 else 2) := by
    unfold declaimref07_Wave.f
    rw [if_neg (by omega), hb, Option.bind_some]
    cases b <;> rfl
  cases b with
  | false =>
    refine ⟨2, fun e => absurd e (by decide), fun A0 A1 c0 c1 w h0 hc0 h1 hc1 => PTopStretched.declaimref07_Marked.calls (xs.length + ms.length + 1) A0 c0 xs A1 c1 ms 2 w h0 hc0 h1 hc1 ?_⟩
    unfold declaimref07_Marked.f
    rw [hw]
    rfl
  | true =>
    refine ⟨r, fun e => ⟨⟨hl, hbp rfl⟩, (hrp e).1, fun i hi => (hrp e).2 i (by omega) hi⟩, fun A0 A1 c0 c1 w h0 hc0 h1 hc1 => PTopStretched.declaimref07_Marked.calls (xs.length + ms.length + 1) A0 c0 xs A1 c1 ms r w h0 hc0 h1 hc1 ?_⟩
    unfold declaimref07_Marked.f
    rw [hw]
    exact hr
end Go.Proofs.Ytoodagohkepcpaa
