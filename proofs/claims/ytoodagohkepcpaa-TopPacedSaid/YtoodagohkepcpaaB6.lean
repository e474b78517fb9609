/- The reference's comparisons and checks, as its printed functions answer, and the statements' own examples. -/
import Derived.Test.YtoodagohkepcpaaN0
import Derived.Test.YtoodagohkepcpaaA7
import Derived.Test.YtoodagohkepcpaaA2
import Derived.Test.YtoodagohkepcpaaB2
import Derived.Test.YtoodagohkepcpaaB4
namespace Go.Proofs.Ytoodagohkepcpaa
open Go.RowKit Go.Shelf Go.Proofs.YtoodagohkepcpaaW.PrintWords
open Go.Proofs.Ytoodagohkepcpaa.PTopStretched (declaimref07_Same.l0 declaimref07_Same.f declaimref07_Marked.f declaimref07_Marked.l0 declaimref07_Wave.f declaimref07_Samples.f declaimref07_Samples.l0 declaimref07_in.f)

theorem wrap_nat {j : Nat} (h : j < 9223372036854775807) : wrap64 ((j : Int) + 1) = ((j + 1 : Nat) : Int) := by
  unfold wrap64
  omega

theorem Same_l0 (xs : List Int) (h : xs.length ≤ 1000000) : ∀ k j : Nat, xs.length < j + k → j ≤ xs.length → declaimref07_Same.l0 k xs xs (j : Int) = some true := by
  intro k
  induction k with
  | zero => intro j h1 h2; omega
  | succ k ih =>
    intro j h1 h2
    unfold declaimref07_Same.l0
    by_cases hlt : (j : Int) < (xs.length : Int)
    · rw [if_pos hlt, if_pos (by omega), if_pos hlt, if_pos rfl, wrap_nat (by omega)]
      exact ih (j + 1) (by omega) (by omega)
    · rw [if_neg hlt]
theorem Same_true (A0 A1 : Option Addr) (c0 c1 : Nat) (xs : List Int) (w : World) (h0 : Kd.C (Kd.int .i64) w A0 xs.length xs) (hc0 : xs.length ≤ c0) (h1 : Kd.C (Kd.int .i64) w A1 xs.length xs) (hc1 : xs.length ≤ c1) (hl : xs.length ≤ 1000000) :
    Calls Try.prog 11 #[.slice A0 xs.length c0, .slice A1 xs.length c1] w fun e w' => e = .returned (.bool true) ∧ ∃ q, w' = w.drewN q := by
  refine (PTopStretched.declaimref07_Same.calls (xs.length + 1) A0 c0 xs A1 c1 xs true w h0 hc0 h1 hc1 ?_).mono ?_
  · unfold declaimref07_Same.f
    rw [if_pos rfl]
    exact Same_l0 xs hl (xs.length + 1) 0 (by omega) (by omega)
  · rintro e w' ⟨he, hd⟩
    exact ⟨he, hd.out⟩

theorem wrap_pred {j : Nat} (h : j < 9223372036854775807) (h0 : 0 < j) : wrap64 ((j : Int) - 1) = ((j : Int) - 1) := by
  unfold wrap64
  omega
theorem in_some (a b c : Int) : declaimref07_in.f a b c = some (decide (b ≤ a ∧ a ≤ c)) := by
  unfold declaimref07_in.f
  by_cases h : a ≥ b
  · rw [if_pos h]; congr 1; simp; omega
  · rw [if_neg h]; congr 1; simp; omega
theorem Samples_l0 (xs : List Int) (h : xs.length < 9223372036854775807) : ∀ k j : Nat, xs.length < j + k → j ≤ xs.length →
    ∃ b, declaimref07_Samples.l0 k xs (j : Int) = some b ∧ (b = true → ∀ i : Nat, j ≤ i → i < xs.length → -32768 ≤ rd xs (i : Int) ∧ rd xs (i : Int) ≤ 32767) := by
  intro k
  induction k with
  | zero => intro j h1 h2; omega
  | succ k ih =>
    intro j h1 h2
    unfold declaimref07_Samples.l0
    by_cases hlt : (j : Int) < (xs.length : Int)
    · rw [if_pos hlt, if_pos (by omega), in_some, Option.bind_some, wrap_nat (by omega)]
      by_cases hin : -32768 ≤ rd xs (j : Int) ∧ rd xs (j : Int) ≤ 32767
      · rw [decide_eq_true hin, if_pos rfl]
        obtain ⟨b, hb, hp⟩ := ih (j + 1) (by omega) (by omega)
        refine ⟨b, hb, fun e i hi hi2 => ?_⟩
        by_cases hij : i = j
        · subst hij; exact hin
        · exact hp e i (by omega) hi2
      · rw [decide_eq_false hin, if_neg (by decide)]
        exact ⟨false, rfl, fun e => by cases e⟩
    · rw [if_neg hlt]
      exact ⟨true, rfl, fun _ i hi hi2 => by omega⟩
theorem Marked_l0 (xs ms : List Int) (h : ms.length ≤ 9223372036854775807) : ∀ k j : Nat, ms.length < j + k → j ≤ ms.length →
    ∃ r, declaimref07_Marked.l0 k (j : Int) xs ms = some r ∧ (r = 0 → 2 ≤ ms.length ∧ ∀ i : Nat, j ≤ i → i < ms.length → 0 ≤ rd ms (i : Int) ∧ rd ms (i : Int) ≤ (xs.length : Int) ∧ (0 < i → rd ms ((i : Int) - 1) < rd ms (i : Int))) := by
  intro k
  induction k with
  | zero => intro j h1 h2; omega
  | succ k ih =>
    intro j h1 h2
    unfold declaimref07_Marked.l0
    by_cases hlt : (j : Int) < (ms.length : Int)
    · rw [if_pos hlt, if_pos (by omega), in_some, Option.bind_some, wrap_nat (by omega)]
      by_cases hin : 0 ≤ rd ms (j : Int) ∧ rd ms (j : Int) ≤ (xs.length : Int)
      · rw [decide_eq_true hin, if_pos rfl]
        obtain ⟨b, hb, hp⟩ := ih (j + 1) (by omega) (by omega)
        by_cases h0 : (j : Int) > 0
        · rw [if_pos h0, wrap_pred (by omega) (by omega), if_pos (by omega), if_pos (by omega)]
          by_cases hle : rd ms (j : Int) ≤ rd ms ((j : Int) - 1)
          · rw [if_pos hle]
            exact ⟨2, rfl, fun e => by cases e⟩
          · rw [if_neg hle]
            refine ⟨b, hb, fun e => ⟨(hp e).1, fun i hi hi2 => ?_⟩⟩
            by_cases hij : i = j
            · subst hij; exact ⟨hin.1, hin.2, fun _ => by omega⟩
            · exact (hp e).2 i (by omega) hi2
        · rw [if_neg h0]
          refine ⟨b, hb, fun e => ⟨(hp e).1, fun i hi hi2 => ?_⟩⟩
          by_cases hij : i = j
          · subst hij; exact ⟨hin.1, hin.2, fun h => by omega⟩
          · exact (hp e).2 i (by omega) hi2
      · rw [decide_eq_false hin, if_neg (by decide)]
        exact ⟨2, rfl, fun e => by cases e⟩
    · rw [if_neg hlt]
      by_cases h2' : (ms.length : Int) < 2
      · rw [if_pos h2']
        exact ⟨2, rfl, fun e => by cases e⟩
      · rw [if_neg h2']
        exact ⟨0, rfl, fun _ => ⟨by omega, fun i hi hi2 => by omega⟩⟩
theorem Samples_mono (xs : List Int) (h : xs.length < 9223372036854775807) {k : Nat} (hk : xs.length < k) : ∃ b, declaimref07_Samples.f k xs = some b ∧ (b = true → xs.any badSample = false) := by
  obtain ⟨b, hb, hp⟩ := Samples_l0 xs h k 0 (by omega) (by omega)
  refine ⟨b, hb, fun e => ?_⟩
  rw [List.any_eq_false]
  intro x hx
  obtain ⟨i, hi, rfl⟩ := List.getElem_of_mem hx
  have := hp e i (by omega) hi
  have e2 : rd xs (i : Int) = xs[i] := by simp [rd, List.getD_eq_getElem?_getD, hi]
  rw [e2] at this
  simp [badSample]
  omega
theorem Marked_any (xs ms : List Int) (hl : xs.length ≤ 100000) (hm : ms.length ≤ 9223372036854775807) :
    ∃ r, (r = 0 → okWave xs ∧ okMarks xs.length ms) ∧ ∀ (A0 A1 : Option Addr) (c0 c1 : Nat) (w : World) (_ : Kd.C (Kd.int .i64) w A0 xs.length xs) (_ : xs.length ≤ c0) (_ : Kd.C (Kd.int .i64) w A1 ms.length ms) (_ : ms.length ≤ c1),
      Calls Try.prog 7 #[.agg #[.slice A0 xs.length c0, .slice A1 ms.length c1]] w fun e w' => e = .returned (.int .i64 r) ∧ Below w.heap.size w w' := by
  obtain ⟨b, hb, hbp⟩ := Samples_mono xs (by omega) (k := xs.length + ms.length + 1) (by omega)
  obtain ⟨r, hr, hrp⟩ := Marked_l0 xs ms hm (xs.length + ms.length + 1) 0 (by omega) (by omega)
  have hw : declaimref07_Wave.f (xs.length + ms.length + 1) xs = some (if b = true then 0 else 2) := by
    unfold declaimref07_Wave.f
    rw [if_neg (by omega), hb, Option.bind_some]
    cases b <;> rfl
  cases b with
  | false =>
    refine ⟨2, fun e => absurd e (by decide), fun A0 A1 c0 c1 w h0 hc0 h1 hc1 => PTopStretched.declaimref07_Marked.calls (xs.length + ms.length + 1) A0 c0 xs A1 c1 ms 2 w h0 hc0 h1 hc1 ?_⟩
    unfold declaimref07_Marked.f
    rw [hw]
    rfl
  | true =>
    refine ⟨r, fun e => ⟨⟨hl, hbp rfl⟩, (hrp e).1, fun i hi => (hrp e).2 i (by omega) hi⟩, fun A0 A1 c0 c1 w h0 hc0 h1 hc1 => PTopStretched.declaimref07_Marked.calls (xs.length + ms.length + 1) A0 c0 xs A1 c1 ms r w h0 hc0 h1 hc1 ?_⟩
    unfold declaimref07_Marked.f
    rw [hw]
    exact hr
end Go.Proofs.Ytoodagohkepcpaa

namespace Go.Proofs.Ytoodagohkepcpaa
open Go.RowKit Go.Shelf Go.Proofs.YtoodagohkepcpaaW.PrintWords

/-- Numbers laid by a literal are read. -/
theorem C_lit {W : World} {g : Nat} {xs : List Int} {cs : Array Value} (hb : W.heap[g]? = some (.cells cs 3)) (h : cs.toList = nums .i64 xs) (hl : xs.length ≤ 1000) : Kd.C (Kd.int .i64) W (some ⟨g, 0, none⟩) xs.length xs := by
  refine Kd.C_of_reads (enc := Value.int .i64) (d := (0 : Int)) (h1 := fun _ => rfl) ⟨rfl, by omega, fun hp => ⟨_, rfl, fun i hi => ?_⟩⟩
  rw [add_plain, blk_cell hb i]
  have : cs[i]? = (nums .i64 xs)[i]? := by rw [← h]; simp
  rw [this]
  simp [nums, List.getD_eq_getElem?_getD, List.getElem?_eq_getElem hi]
def exX : List Int := [5, 1, 2, 3, 4, 6]
def exM : List Int := [1, 3, 5]
def exY : List Int := [1, 2, 3, 4, 5, 6]
def exP : List Int := [0, 2, 4]
def exN : ByteArray := ⟨#[120]⟩
def exS : S30 := ⟨1, 1, exY, exP, [⟨2, exN⟩], 0⟩
theorem exX_ok : okWave exX := ⟨by decide, by decide⟩
theorem exM_ok : okMarks exX.length exM := by
  refine ⟨by decide, fun i hi => ?_⟩
  have hi : i < 3 := hi
  obtain rfl | rfl | rfl : i = 0 ∨ i = 1 ∨ i = 2 := by omega
  all_goals decide
theorem exS_ok : okPiece exS := by
  refine ⟨by decide, by decide, by decide, by decide, by decide, ⟨by decide, fun i hi => ?_⟩, ⟨by decide, fun i hi => ?_⟩⟩
  · have hi : i < 3 := hi
    obtain rfl | rfl | rfl : i = 0 ∨ i = 1 ∨ i = 2 := by omega
    all_goals decide
  · have hi : i < 1 := hi
    obtain rfl : i = 0 := by omega
    exact ⟨by decide, by decide, ⟨by decide, by decide, by decide⟩, by decide⟩
theorem exA : sampS 2 exX exM (totS 2 exM) ++ tailS exX exM = [5, 1, 2, 1, 2, 3, 4, 3, 4, 6] := by decide
theorem exB : (pacedF exS 1 2).f2 = [1, 2, 1, 2, 3, 4, 3, 4, 5, 6, 5, 6] := by decide
theorem exC : (pacedF exS 1 2).f4 = [⟨4, exN⟩] := by rfl
theorem exD : readyF 2 [⟨3, 0⟩, ⟨4, 0⟩] 2 = [2, 4] := by decide

/-- Plain elements laid by a literal are read. -/
theorem C_litS {W : World} {g : Nat} {xs : List S32} {cs : Array Value} (hb : W.heap[g]? = some (.cells cs 32)) (h : cs.toList = Flat e32 xs) (hl : xs.length ≤ 1000) : Kd.C k32 W (some ⟨g, 0, none⟩) xs.length xs := by
  refine ⟨rfl, by omega, fun hp => ⟨_, rfl, fun j p hj => ⟨e32 p, e32_len p, e32_K W p, fun i u hu => ?_⟩⟩⟩
  have hi : i < 2 := by
    rcases Nat.lt_or_ge i (e32 p).length with h' | h'
    · exact h'
    · rw [List.getElem?_eq_none h'] at hu; cases hu
  rw [add_plain, blk_cell hb]
  have : cs[j * 2 + i]? = (Flat e32 xs)[j * 2 + i]? := by rw [← h]; simp
  rw [show k32.sz = 2 from rfl, this, Flat_get (enc := e32) (k := 2) e32_len hj hi]
  exact hu
theorem C_litJ {W : World} {g : Nat} {xs : List S82} {cs : Array Value} (hb : W.heap[g]? = some (.cells cs 82)) (h : cs.toList = Flat e82 xs) (hl : xs.length ≤ 1000) : Kd.C k82 W (some ⟨g, 0, none⟩) xs.length xs := by
  refine ⟨rfl, by omega, fun hp => ⟨_, rfl, fun j p hj => ⟨e82 p, e82_len p, e82_K W p, fun i u hu => ?_⟩⟩⟩
  have hi : i < 2 := by
    rcases Nat.lt_or_ge i (e82 p).length with h' | h'
    · exact h'
    · rw [List.getElem?_eq_none h'] at hu; cases hu
  rw [add_plain, blk_cell hb]
  have : cs[j * 2 + i]? = (Flat e82 xs)[j * 2 + i]? := by rw [← h]; simp
  rw [show k82.sz = 2 from rfl, this, Flat_get (enc := e82) (k := 2) e82_len hj hi]
  exact hu

theorem ex1 (A0 A1 : Option Addr) (w : World) (h0 : Kd.C (Kd.int .i64) w A0 6 exX) (h1 : Kd.C (Kd.int .i64) w A1 3 exM) :
    Calls Try.prog 9 #[.agg #[.slice A0 6 6, .slice A1 3 3], .int .i64 2, .int .i64 1] w fun e w' => ∃ As cs Ag cg, e = .returned (.tuple #[.agg #[.slice As 10 cs, .slice Ag 5 cg], .int .i64 0]) ∧ 10 ≤ cs ∧ Kd.C (Kd.int .i64) w' As 10 [5, 1, 2, 1, 2, 3, 4, 3, 4, 6] ∧ Below w.heap.size w w' := by
  have := Stretch_ok 2 A0 A1 6 3 exX exM w h0 (by decide) h1 exX_ok exM_ok (by decide) (by decide) (by decide)
  rw [exA] at this
  refine this.mono ?_
  rintro e w' ⟨⟨As, cs, Ag, cg, rfl, hs, hm⟩, hb⟩
  obtain ⟨A, c, hv, hc, hC⟩ := own_flat (Kd.int .i64) eI_len eI_K hs
  injection hv with e1 _ e2
  subst e1 e2
  exact ⟨As, cs, Ag, cg, rfl, hc, hC, hb⟩
theorem ex2 (A2 A3 A4 : Option Addr) (w : World) (h2 : Kd.C (Kd.int .i64) w A2 6 exY) (h3 : Kd.C (Kd.int .i64) w A3 3 exP) (h4 : Kd.C k32 w A4 1 [⟨2, exN⟩]) :
    Calls Try.prog 10 #[.agg #[.int .i64 1, .int .i64 1, .slice A2 6 6, .slice A3 3 3, .slice A4 1 1, .int .i64 0], .agg #[.int .i64 1, .int .i64 2]] w fun e w' => ∃ As cs Ag cg, e = .returned (.tuple #[.agg #[.int .i64 1, .int .i64 1, .slice As 12 cs, .slice none 0 0, .slice Ag 1 cg, .int .i64 0], .int .i64 0]) ∧ 12 ≤ cs ∧
      Kd.C (Kd.int .i64) w' As 12 [1, 2, 1, 2, 3, 4, 3, 4, 5, 6, 5, 6] ∧ Kd.C k32 w' Ag 1 [⟨4, exN⟩] ∧ Below w.heap.size w w' := by
  have := Paced_ok 1 2 A2 A3 A4 6 3 1 exS w h2 (by decide) h3 h4 (by decide) exS_ok (by decide) (by decide)
  rw [exB, exC] at this
  refine this.mono ?_
  rintro e w' ⟨⟨As, cs, Ag, cg, rfl, hs, hm⟩, hb⟩
  obtain ⟨A, c, hv, hc, hC⟩ := own_flat (Kd.int .i64) eI_len eI_K hs
  injection hv with e1 _ e2
  subst e1 e2
  obtain ⟨A, c, hv, hc', hC'⟩ := own_flat k32 e32_len e32_K hm
  injection hv with e1 _ e2
  subst e1 e2
  exact ⟨As, cs, Ag, cg, rfl, hc, hC, hC', hb⟩
theorem ex3 (A : Option Addr) (w : World) (h : Kd.C k82 w A 2 [⟨3, 0⟩, ⟨4, 0⟩]) :
    Calls Try.prog 26 #[.int .i64 2, .slice A 2 2] w fun e w' => ∃ As cs, e = .returned (.tuple #[.slice As 2 cs, .int .i64 0]) ∧ 2 ≤ cs ∧ Kd.C (Kd.int .i64) w' As 2 [2, 4] ∧ Below w.heap.size w w' := by
  have := Ready_ok 2 A 2 [⟨3, 0⟩, ⟨4, 0⟩] w h (fun i hi => by
    have hi : i < 2 := hi
    obtain rfl | rfl : i = 0 ∨ i = 1 := by omega
    · exact ⟨by decide, by decide⟩
    · exact ⟨by decide, by decide⟩) (by decide) (by decide)
  rw [show ([⟨3, 0⟩, ⟨4, 0⟩] : List S82).length = 2 from rfl, exD] at this
  refine this.mono ?_
  rintro e w' ⟨u, rfl, hs, hb⟩
  obtain ⟨A, c, rfl, hc, hC⟩ := own_flat (Kd.int .i64) (xs := [2, 4]) eI_len eI_K hs
  exact ⟨A, c, rfl, hc, hC, hb⟩

set_option maxRecDepth 100000 in
set_option maxHeartbeats 4000000 in
theorem known_true (w : World) : Calls Try.prog 8 #[] w fun e w' => e = .returned (.bool true) ∧ Below w.heap.size w w' := by
  go_enter Try.func8, Try.ntmps8
  go_wp2_with fail
  refine (ex1 _ _ _ (C_lit (xs := exX) (by repeat (first | (refine blk_new' ?_ _; (simp; done)) | refine blk_alloc ?_ _)) rfl (by decide)) (C_lit (xs := exM) (by repeat (first | (refine blk_new' ?_ _; (simp; done)) | refine blk_alloc ?_ _)) rfl (by decide))).mono ?_
  rintro e w1 ⟨A5, c5, B5, d5, rfl, hc5, hC5, hb⟩
  have hb1 : Below w.heap.size w w1 := below_trans' (below_alloc (below_alloc (Below.refl _ _) _) _) hb
  have H5 := Aside0.mk hC5
  have HB1 := Aside0.mk hb1
  clear hb hb1 hC5
  go_wp2_with fail
  refine (ex2 _ _ _ _ (C_lit (xs := exY) (by repeat (first | (refine blk_new' ?_ _; (simp; done)) | refine blk_alloc ?_ _)) rfl (by decide)) (C_lit (xs := exP) (by repeat (first | (refine blk_new' ?_ _; (simp; done)) | refine blk_alloc ?_ _)) rfl (by decide)) (C_litS (xs := [⟨2, exN⟩]) (by repeat (first | (refine blk_new' ?_ _; (simp; done)) | refine blk_alloc ?_ _)) rfl (by decide))).mono ?_
  rintro e w2 ⟨A6, c6, B6, d6, rfl, hc6, hC6, hS6, hb⟩
  have hb2 : Below w1.heap.size w1 w2 := below_trans' (by repeat (first | exact Below.refl _ _ | apply below_alloc)) hb
  have hq1 := pw_blk_below (b := w1.heap.size) (blk_new' (W := w1) rfl (.cells #[.slice A5 10 c5, .slice B5 5 d5] 24)) (show Below (w1.alloc (.cells #[.slice A5 10 c5, .slice B5 5 d5] 24)).heap.size _ w2 from below_trans' (by repeat (first | exact Below.refl _ _ | apply below_alloc)) hb)
  have HQ1 := Aside0.mk hq1
  have HB2 := Aside0.mk (below_trans' HB1.out hb2)
  have H52 := Aside0.mk (Kd.C_below H5.out hb2)
  have H6 := Aside0.mk hC6
  have HS6 := Aside0.mk hS6
  clear hq1 hb2 hb hC6 hS6 H5 HB1
  go_wp2_with fail
  refine (ex3 _ _ (C_litJ (xs := [⟨3, 0⟩, ⟨4, 0⟩]) (by repeat (first | (refine blk_new' ?_ _; (simp; done)) | refine blk_alloc ?_ _)) rfl (by decide))).mono ?_
  rintro e w3 ⟨A7, c7, rfl, hc7, hC7, hb⟩
  have hb3 : Below w2.heap.size w2 w3 := below_trans' (by repeat (first | exact Below.refl _ _ | apply below_alloc)) hb
  have hq2 := pw_blk_below (b := w2.heap.size) (blk_new' (W := w2) rfl (.cells #[.int .i64 1, .int .i64 1, .slice A6 12 c6, .slice none 0 0, .slice B6 1 d6, .int .i64 0] 30)) (show Below (w2.alloc (.cells #[.int .i64 1, .int .i64 1, .slice A6 12 c6, .slice none 0 0, .slice B6 1 d6, .int .i64 0] 30)).heap.size _ w3 from below_trans' (by repeat (first | exact Below.refl _ _ | apply below_alloc)) hb)
  have hq1 := pw_blk_below HQ1.out hb3
  have f10 : w3.cell? ⟨w1.heap.size, 0, none⟩ = some (.slice A5 10 c5) := blk_cell hq1 0
  have f22 : w3.cell? ⟨w2.heap.size, 2, none⟩ = some (.slice A6 12 c6) := blk_cell hq2 2
  have f24 : w3.cell? ⟨w2.heap.size, 4, none⟩ = some (.slice B6 1 d6) := blk_cell hq2 4
  have H53 := Aside0.mk (Kd.C_below H52.out hb3)
  have H63 := Aside0.mk (Kd.C_below H6.out hb3)
  have HS63 := Aside0.mk (Kd.C_below HS6.out hb3)
  have H73 := Aside0.mk hC7
  have HB3 := Aside0.mk (below_trans' HB2.out hb3)
  have hlt1 : w1.heap.size < w3.heap.size := blk_lt hq1
  have hlt2 : w2.heap.size < w3.heap.size := blk_lt hq2
  clear hq1 hq2 hb3 hb hC7 HQ1 HB2 H52 H6 HS6
  go_wp2_with fail
  refine (Same_true _ _ _ _ [5, 1, 2, 1, 2, 3, 4, 3, 4, 6] _ (Kd.C_below H53.out (below_alloc (Below.refl _ _) _)) hc5 (C_lit (blk_new' rfl _) rfl (by decide)) (by decide) (by decide)).mono ?_
  rintro e w4 ⟨rfl, q, hq⟩
  have hb4 : Below w3.heap.size w3 w4 := by rw [hq]; exact pw_below_drewN (below_alloc (Below.refl _ _) _) q
  clear hq
  replace f22 := pw_cell_below hb4 f22
  replace f24 := pw_cell_below hb4 f24
  have H64 := Aside0.mk (Kd.C_below H63.out hb4)
  have HS64 := Aside0.mk (Kd.C_below HS63.out hb4)
  have H74 := Aside0.mk (Kd.C_below H73.out hb4)
  have HB4 := Aside0.mk (below_trans' HB3.out hb4)
  clear f10 H53 H63 HS63 H73 hb4 HB3
  go_wp2_with fail
  refine (Same_true _ _ _ _ [1, 2, 1, 2, 3, 4, 3, 4, 5, 6, 5, 6] _ (Kd.C_below H64.out (below_alloc (Below.refl _ _) _)) hc6 (C_lit (blk_new' rfl _) rfl (by decide)) (by decide) (by decide)).mono ?_
  rintro e w5 ⟨rfl, q, hq⟩
  have hb5 : Below w4.heap.size w4 w5 := by rw [hq]; exact pw_below_drewN (below_alloc (Below.refl _ _) _) q
  clear hq
  replace f24 := pw_cell_below hb5 f24
  have HS65 := Aside0.mk (Kd.C_below HS64.out hb5)
  have H75 := Aside0.mk (Kd.C_below H74.out hb5)
  have HB5 := Aside0.mk (below_trans' HB4.out hb5)
  obtain ⟨ad, rfl, hs0, _⟩ := at_T32 HS65.out 0 (by decide) (by decide)
  rw [show ad.add ((0 : Int).toNat * 2) = ad from by simp [Addr.add]] at hs0
  replace hs0 : w5.cell? ad = some (.int .i64 4) := hs0
  clear H64 HS64 H74 hb5 HB4 f22
  go_wp2_with fail
  refine (Same_true _ _ _ _ [2, 4] _ (Kd.C_below H75.out (below_alloc (Below.refl _ _) _)) hc7 (C_lit (blk_new' rfl _) rfl (by decide)) (by decide) (by decide)).mono ?_
  rintro e w6 ⟨rfl, q, hq⟩
  have HB6 : Aside0 (Below w.heap.size w w6) := ⟨below_trans' HB5.out (by rw [hq]; exact pw_below_drewN (below_alloc (Below.refl _ _) _) q)⟩
  clear hq hs0 f24 HS65 H75 HB5
  go_wp2_with fail
  go_ret
  exact ⟨rfl, HB6.out⟩
end Go.Proofs.Ytoodagohkepcpaa
