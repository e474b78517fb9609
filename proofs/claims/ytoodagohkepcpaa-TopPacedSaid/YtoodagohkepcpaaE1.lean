/- The steps of a speaker, each by one contract. -/
import Derived.Test.YtoodagohkepcpaaE0
namespace Go.Proofs.Ytoodagohkepcpaa
open Go.RowKit Go.Shelf Go.Proofs.YtoodagohkepcpaaW.PrintWords
set_option maxRecDepth 100000

/-- What is within its bounds. -/
structure Fine (R : Nat) (t : Int) (y : St) : Prop where
  good : Good y
  room : room y ≤ R
  weight : weight y ≤ 1000
  clock : y.s.clock = t
theorem Fine.q {R : Nat} {t : Int} {y : St} (h : Fine R t y) : y.s.q.length ≤ 500 := by have := h.weight; unfold Go.Proofs.Ytoodagohkepcpaa.weight at this; omega
theorem Fine.begin {R : Nat} {t : Int} {y : St} (h : Fine R t y) : Fine R t (beginF y).2 :=
  ⟨(begin_good h.good).1, Nat.le_trans (begin_good h.good).2 h.room, by have := begin_weight y; have := h.weight; omega, by rw [begin_clock]; exact h.clock⟩
theorem Fine.end_ {R : Nat} {t : Int} {y : St} (h : Fine R t y) : Fine R t (endF y).2 :=
  ⟨(end_good h.good).1, Nat.le_trans (end_good h.good).2 h.room, by have := end_weight y; have := h.weight; omega, by rw [end_clock]; exact h.clock⟩
theorem Fine.settled {R : Nat} {t : Int} {y : St} (h : Fine R t y) : Fine R t (settled y) := settled_of (P := Fine R t) (fun _ h => h.begin.end_) y h
theorem hear_weight (x : St) : weight (hearF x).2 = weight x := by
  unfold hearF
  split
  · rename_i c hc
    simp [weight, hc]
  · rfl
theorem Fine.hear {R : Nat} {t : Int} {y : St} (h : Fine R t y) (hc : ∀ c, y.s.cur = some c → c.said < c.xs.length) : Fine (R + 1) t (hearF y).2 :=
  ⟨(hear_good h.good hc).1, Nat.le_trans (hear_good h.good hc).2 (Nat.add_le_add_right h.room 1), by rw [hear_weight]; exact h.weight, by rw [hear_clock]; exact h.clock⟩
theorem Fine.tick {R : Nat} {t : Int} {y : St} (h : Fine R t y) : Fine R (t + 1) (tickF y) :=
  ⟨⟨h.good.pieces, h.good.pace, h.good.cur, h.good.gr⟩, h.room, h.weight, by show y.s.clock + 1 = _; rw [h.clock]⟩
theorem Fine.step {R : Nat} {t : Int} {y : St} (h : Fine R t y) : Fine (R + 1) (t + 1) (stepF y).2 := (h.settled.hear (settled_cur y)).tick
theorem Fine.pull {R : Nat} {t : Int} {y : St} (h : Fine R t y) : ∀ n : Nat, Fine (R + n) (t + n) (pullF n y).2
  | 0 => by simpa [pullF] using h
  | n + 1 => by
    have := (h.pull n).step
    rw [show R + (n + 1) = R + n + 1 from rfl, show t + ((n + 1 : Nat) : Int) = t + (n : Int) + 1 from by omega]
    exact this

section
variable (cls : Nat → Nat) (k base : Nat) (w : World) (Bs Bl Br Bg Bn : Nat) (x : St)
theorem begin_any (hk : k ≠ 3 ∧ k ≠ 4) (h : Sys cls k base w Bs Bl Br Bg Bn x) {R : Nat} {t : Int} (hF : Fine R t x) (hR : R ≤ 1000000000) (ht : 0 ≤ t ∧ t < 1099511627776) (hbase : base ≤ w.heap.size) :
    Calls Try.prog 44 #[.pointer (some ⟨Bs, 0, none⟩), .func (.func 43) #[] #[.pointer (some ⟨Bn, 0, none⟩)]] w fun e w' => e = .returned (.bool (beginF x).1) ∧ ∃ cls', Went cls cls' k base w w' Bs Bl Br Bg Bn (beginF x).2 := by
  have no : beginF x = (false, x) → Calls Try.prog 44 #[.pointer (some ⟨Bs, 0, none⟩), .func (.func 43) #[] #[.pointer (some ⟨Bn, 0, none⟩)]] w fun e w' => e = .returned (.bool (beginF x).1) ∧ ∃ cls', Went cls cls' k base w w' Bs Bl Br Bg Bn (beginF x).2 := by
    intro hb
    rw [hb]
    refine (begin_no cls k base w Bs Bl Br Bg Bn x _ h hb (fun p hp => (hF.good.pieces p hp).2.1)).mono ?_
    rintro e w' ⟨rfl, n, rfl⟩
    exact ⟨rfl, cls, sys_drawn h n⟩
  cases hc : x.s.cur with
  | some c =>
    refine no ?_
    unfold beginF
    rw [hc]
  | none =>
    cases hq : x.s.q with
    | nil =>
      refine no ?_
      unfold beginF
      rw [hc, hq]
    | cons p q =>
      by_cases hlt : p.got < p.sp.f5
      · refine no ?_
        unfold beginF
        rw [hc, hq]
        dsimp only
        rw [if_pos hlt]
      · have hb : (beginF x).1 = true := by
          unfold beginF
          rw [hc, hq]
          dsimp only
          rw [if_neg hlt]
          split <;> rfl
        rw [hb]
        exact begin_yes cls k base w Bs Bl Br Bg Bn x p q hk h hF.good (Nat.le_trans hF.room hR) hbase (by rw [hF.clock]; exact ht) hc hq (by have := hF.q; omega) hlt
theorem end_any (hk : k ≠ 3 ∧ k ≠ 4) (h : Sys cls k base w Bs Bl Br Bg Bn x) {R : Nat} {t : Int} (hF : Fine R t x) (hR : R ≤ 1000000000) (hbase : base ≤ w.heap.size) :
    Calls Try.prog 45 #[.pointer (some ⟨Bs, 0, none⟩), .func (.func 43) #[] #[.pointer (some ⟨Bn, 0, none⟩)]] w fun e w' => e = .returned (.bool (endF x).1) ∧ ∃ cls', Went cls cls' k base w w' Bs Bl Br Bg Bn (endF x).2 := by
  have no : endF x = (false, x) → Calls Try.prog 45 #[.pointer (some ⟨Bs, 0, none⟩), .func (.func 43) #[] #[.pointer (some ⟨Bn, 0, none⟩)]] w fun e w' => e = .returned (.bool (endF x).1) ∧ ∃ cls', Went cls cls' k base w w' Bs Bl Br Bg Bn (endF x).2 := by
    intro hb
    rw [hb]
    refine (end_no cls k base w Bs Bl Br Bg Bn x _ h hb).mono ?_
    rintro e w' ⟨rfl, n, rfl⟩
    exact ⟨rfl, cls, sys_drawn h n⟩
  cases hc : x.s.cur with
  | none =>
    refine no ?_
    unfold endF
    rw [hc]
  | some c =>
    by_cases hlt : c.said < c.xs.length
    · refine no ?_
      unfold endF
      rw [hc]
      dsimp only
      rw [if_pos hlt]
    · have hb : (endF x).1 = true := by
        unfold endF
        rw [hc]
        dsimp only
        rw [if_neg hlt]
      rw [hb]
      exact end_yes cls k base w Bs Bl Br Bg Bn x c hk h hc hlt (Nat.le_trans hF.room hR) (by have := hF.good.cur c hc; omega) hbase
theorem hear_any (hk : k ≠ 3 ∧ k ≠ 4) (h : Sys cls k base w Bs Bl Br Bg Bn x) {R : Nat} {t : Int} (hF : Fine R t x) (hR : R ≤ 1000000000) (hcur : ∀ c, x.s.cur = some c → c.said < c.xs.length) (hbase : base ≤ w.heap.size) :
    Calls Try.prog 46 #[.pointer (some ⟨Bs, 0, none⟩), .func (.func 43) #[] #[.pointer (some ⟨Bn, 0, none⟩)]] w fun e w' => e = .returned (.int .i64 (hearF x).1) ∧ ∃ cls', Went cls cls' k base w w' Bs Bl Br Bg Bn (hearF x).2 := by
  cases hc : x.s.cur with
  | none => exact hear_none cls k base w Bs Bl Br Bg Bn x hk h hc (Nat.le_trans hF.room hR) (by have := hF.q; omega) hbase
  | some c => exact hear_cur cls k base w Bs Bl Br Bg Bn x c hk h hc (hcur c hc) (Nat.le_trans hF.room hR) (hF.good.cur c hc).2 hbase
end
end Go.Proofs.Ytoodagohkepcpaa
