/- The speaker in plain words: what it does with a queue, a pace, a clock and one grant. -/
import Derived.Test.YtoodagohkepcpaaA6
namespace Go.Proofs.Ytoodagohkepcpaa
open Go.RowKit Go.Proofs.YtoodagohkepcpaaW.PrintWords

/-- A piece that waits: its number, the effort that it got. -/
structure Pc where
  sp : S30
  num : Int
  got : Int
/-- What is being said: all samples, the signs still to be told, the piece's number, how much was said. -/
structure Cur where
  xs : List Int
  ss : List S32
  num : Int
  said : Nat
structure Sp where
  q : List Pc
  number : Int
  pn : Int
  pd : Int
  clock : Int
  cur : Option Cur
  late : Bool
/-- The one grant of a ledger: for each use, at each time. -/
structure Gr where
  voice : Int
  budget : Int
  used : Int
structure St where
  s : Sp
  g : Gr
  ns : List S75

def emptyB : ByteArray := ⟨#[]⟩
def takeF (g : Gr) (v n : Int) : Option Gr := if g.voice = v ∧ g.used ≤ g.budget - n then some { g with used := g.used + n } else none

def beginF (x : St) : Bool × St :=
  match x.s.cur, x.s.q with
  | none, p :: q =>
    if p.got < p.sp.f5 then (false, x) else
      match takeF x.g p.sp.f0 ((pacedF p.sp x.s.pn x.s.pd).f2.length : Int) with
      | none => (true, ⟨{ x.s with q := q }, x.g, x.ns ++ [⟨4, x.s.clock, p.num, emptyB⟩]⟩)
      | some g' => (true, ⟨{ x.s with q := q, cur := some ⟨(pacedF p.sp x.s.pn x.s.pd).f2, (pacedF p.sp x.s.pn x.s.pd).f4, p.num, 0⟩ }, g', x.ns ++ [⟨1, x.s.clock, p.num, emptyB⟩]⟩)
  | _, _ => (false, x)
def dueF (said : Nat) (s : S32) : Bool := decide (s.f0 ≤ (said : Int))
def toldF (c : Cur) (clock : Int) : List S75 := (c.ss.takeWhile (dueF c.said)).map (fun s => ⟨2, clock, c.num, s.f1⟩)
def leftF (c : Cur) : List S32 := c.ss.dropWhile (dueF c.said)
def endF (x : St) : Bool × St :=
  match x.s.cur with
  | none => (false, x)
  | some c => if c.said < c.xs.length then (false, x) else (true, ⟨{ x.s with cur := none }, x.g, (x.ns ++ toldF c x.s.clock) ++ [⟨3, x.s.clock, c.num, emptyB⟩]⟩)
def lateF (x : St) : List S75 := match x.s.q with
  | [] => []
  | p :: _ => if x.s.late then [] else [⟨6, x.s.clock, p.num, emptyB⟩]
def hearF (x : St) : Int × St :=
  match x.s.cur with
  | some c => (rd c.xs (c.said : Int), ⟨{ x.s with cur := some { c with ss := leftF c, said := c.said + 1 }, late := false }, x.g, x.ns ++ toldF c x.s.clock⟩)
  | none => (0, ⟨{ x.s with late := decide (0 < x.s.q.length) }, x.g, x.ns ++ lateF x⟩)
def roundF (x : St) : Bool × St := ((endF (beginF x).2).1 || (beginF x).1, (endF (beginF x).2).2)
def settleF : Nat → St → St
  | 0, x => x
  | f + 1, x => if (roundF x).1 = true then settleF f (roundF x).2 else (roundF x).2
def weight (x : St) : Nat := 2 * x.s.q.length + (if x.s.cur.isSome then 1 else 0)
def settled (x : St) : St := settleF (weight x + 1) x
def tickF (x : St) : St := { x with s := { x.s with clock := x.s.clock + 1 } }
def stepF (x : St) : Int × St := ((hearF (settled x)).1, tickF (hearF (settled x)).2)
def pullF : Nat → St → List Int × St
  | 0, x => ([], x)
  | n + 1, x => ((pullF n x).1 ++ [(stepF (pullF n x).2).1], (stepF (pullF n x).2).2)

/-! ### it comes to rest -/
theorem begin_weight (x : St) : weight (beginF x).2 + (if (beginF x).1 = true then 1 else 0) ≤ weight x := by
  obtain ⟨⟨q, number, pn, pd, clock, cur, late⟩, g, ns⟩ := x
  unfold beginF
  cases cur with
  | some c => simp
  | none =>
    cases q with
    | nil => simp
    | cons p q =>
      dsimp only
      split
      · simp
      · split <;> simp [weight] <;> omega
theorem end_weight (x : St) : weight (endF x).2 + (if (endF x).1 = true then 1 else 0) ≤ weight x := by
  obtain ⟨⟨q, number, pn, pd, clock, cur, late⟩, g, ns⟩ := x
  unfold endF
  cases cur with
  | none => simp
  | some c =>
    dsimp only
    split
    · simp
    · simp [weight]
theorem round_weight {x : St} (h : (roundF x).1 = true) : weight (roundF x).2 < weight x := by
  have h1 := begin_weight x
  have h2 := end_weight (beginF x).2
  unfold roundF at h ⊢
  dsimp only at h ⊢
  cases hb : (beginF x).1 <;> cases he : (endF (beginF x).2).1 <;> simp [hb, he] at h h1 h2 ⊢ <;> omega
theorem settleF_more (x : St) : ∀ f g : Nat, weight x < f → weight x < g → settleF f x = settleF g x := by
  suffices H : ∀ n : Nat, ∀ x : St, weight x ≤ n → ∀ f g : Nat, weight x < f → weight x < g → settleF f x = settleF g x from H (weight x) x (Nat.le_refl _)
  intro n
  induction n with
  | zero =>
    intro x hx f g hf hg
    obtain ⟨f, rfl⟩ : ∃ k, f = k + 1 := ⟨f - 1, by omega⟩
    obtain ⟨g, rfl⟩ : ∃ k, g = k + 1 := ⟨g - 1, by omega⟩
    unfold settleF
    by_cases h : (roundF x).1 = true
    · have := round_weight h; omega
    · rw [if_neg h, if_neg h]
  | succ n ih =>
    intro x hx f g hf hg
    obtain ⟨f, rfl⟩ : ∃ k, f = k + 1 := ⟨f - 1, by omega⟩
    obtain ⟨g, rfl⟩ : ∃ k, g = k + 1 := ⟨g - 1, by omega⟩
    unfold settleF
    by_cases h : (roundF x).1 = true
    · rw [if_pos h, if_pos h]
      have := round_weight h
      exact ih _ (by omega) _ _ (by omega) (by omega)
    · rw [if_neg h, if_neg h]
theorem settled_again {x : St} (h : (roundF x).1 = true) : settled x = settled (roundF x).2 := by
  unfold settled
  rw [settleF, if_pos h]
  have := round_weight h
  exact settleF_more _ _ _ (by omega) (by omega)
theorem settled_rest {x : St} (h : ¬ (roundF x).1 = true) : settled x = (roundF x).2 := by
  unfold settled
  rw [settleF, if_neg h]
/-- What is so and stays so in each round is so at rest. -/
theorem settled_of {P : St → Prop} (hP : ∀ x, P x → P (roundF x).2) : ∀ x, P x → P (settled x) := by
  suffices H : ∀ n : Nat, ∀ x : St, weight x ≤ n → P x → P (settled x) from fun x h => H (weight x) x (Nat.le_refl _) h
  intro n
  induction n with
  | zero =>
    intro x hx h
    by_cases hr : (roundF x).1 = true
    · have := round_weight hr; omega
    · rw [settled_rest hr]; exact hP x h
  | succ n ih =>
    intro x hx h
    by_cases hr : (roundF x).1 = true
    · have := round_weight hr
      rw [settled_again hr]
      exact ih _ (by omega) (hP x h)
    · rw [settled_rest hr]; exact hP x h
/-- At rest nothing happens: what is said is not at its end. -/
theorem settled_cur (x : St) : ∀ c, (settled x).s.cur = some c → c.said < c.xs.length := by
  suffices H : ∀ n : Nat, ∀ x : St, weight x ≤ n → ∀ c, (settled x).s.cur = some c → c.said < c.xs.length from H (weight x) x (Nat.le_refl _)
  have key : ∀ x : St, ¬ (roundF x).1 = true → ∀ c, (roundF x).2.s.cur = some c → c.said < c.xs.length := by
    intro x hr c hc
    unfold roundF at hr hc
    dsimp only at hr hc
    generalize (beginF x).2 = y at hr hc
    have he : (endF y).1 = false := by
      cases h : (endF y).1 with
      | false => rfl
      | true => rw [h] at hr; exact absurd rfl hr
    unfold endF at he hc
    cases hy : y.s.cur with
    | none => rw [hy] at hc; dsimp only at hc; rw [hy] at hc; cases hc
    | some d =>
      rw [hy] at hc he
      dsimp only at hc he
      split at hc
      · rename_i hlt
        dsimp only at hc
        rw [hy] at hc
        injection hc with hc
        subst hc
        exact hlt
      · dsimp only at hc
        cases hc
  intro n
  induction n with
  | zero =>
    intro x hx
    by_cases hr : (roundF x).1 = true
    · have := round_weight hr; omega
    · rw [settled_rest hr]; exact key x hr
  | succ n ih =>
    intro x hx
    by_cases hr : (roundF x).1 = true
    · have := round_weight hr
      rw [settled_again hr]
      exact ih _ (by omega)
    · rw [settled_rest hr]; exact key x hr

/-! ### what stays within its bounds -/
/-- How many news there can be at most: those that were, those of the pieces that wait, those of the piece that is said. -/
def roomQ (q : List Pc) : Nat := (q.map (fun p => p.sp.f4.length + 2)).foldr (· + ·) 0
def roomC : Option Cur → Nat
  | none => 0
  | some c => c.ss.length + 1
def room (x : St) : Nat := x.ns.length + roomQ x.s.q + roomC x.s.cur
structure Good (x : St) : Prop where
  pieces : ∀ p ∈ x.s.q, okPiece p.sp ∧ 0 ≤ p.got ∧ p.got ≤ p.sp.f5
  pace : (1 ≤ x.s.pn ∧ x.s.pn ≤ 8) ∧ (1 ≤ x.s.pd ∧ x.s.pd ≤ 8)
  cur : ∀ c, x.s.cur = some c → c.said ≤ c.xs.length ∧ c.xs.length ≤ 1099511627776
  gr : 0 ≤ x.g.used ∧ x.g.used ≤ x.g.budget ∧ x.g.budget ≤ 1099511627776

theorem paced_room (p : S30) (num den : Int) : (pacedF p num den).f4.length = p.f4.length := by
  have h := paceSt_signs p.f2 (strs p.f2.length p.f3 num den) ⟨[], [], p.f4⟩
  unfold pacedF paceSt
  simp at h ⊢
  omega
theorem paced_len (p : S30) (hp : okPiece p) {num den : Int} (hn : 1 ≤ num ∧ num ≤ 8) (hd : 1 ≤ den ∧ den ≤ 8) : (pacedF p num den).f2.length ≤ 360040000 := by
  have h1 := paceSt_len p.f2 (strs p.f2.length p.f3 num den) ⟨[], [], p.f4⟩
  have h2 := strs_length (n := p.f2.length) (ps := p.f3) num den hn hd hp.periods.1
  have h3 := hp.size
  have h4 : (strs p.f2.length p.f3 num den).length * p.f2.length ≤ 9001 * 40000 := Nat.mul_le_mul h2 h3
  have h5 : (pacedF p num den).f2 = (List.foldl (paceStep p.f2) ⟨[], [], p.f4⟩ (strs p.f2.length p.f3 num den)).out := rfl
  rw [h5]
  simp at h1
  omega
theorem takeF_good {g g' : Gr} {v n : Int} (h : 0 ≤ g.used ∧ g.used ≤ g.budget ∧ g.budget ≤ 1099511627776) (hn : 0 ≤ n) (ht : takeF g v n = some g') : 0 ≤ g'.used ∧ g'.used ≤ g'.budget ∧ g'.budget ≤ 1099511627776 := by
  unfold takeF at ht
  split at ht
  · rename_i hc
    injection ht with ht
    subst ht
    exact ⟨by dsimp only; omega, by dsimp only; omega, h.2.2⟩
  · cases ht
theorem begin_good {x : St} (h : Good x) : Good (beginF x).2 ∧ room (beginF x).2 ≤ room x := by
  obtain ⟨⟨q, number, pn, pd, clock, cur, late⟩, g, ns⟩ := x
  unfold beginF
  cases cur with
  | some c => exact ⟨h, Nat.le_refl _⟩
  | none =>
    cases q with
    | nil => exact ⟨h, Nat.le_refl _⟩
    | cons p q =>
      obtain ⟨h1, h2, h3, h4⟩ := h
      dsimp only at h1 h2 h3 h4 ⊢
      have hp := (h1 p (by simp)).1
      split
      · exact ⟨⟨h1, h2, h3, h4⟩, Nat.le_refl _⟩
      · split
        · exact ⟨⟨fun p' hp' => h1 p' (by simp [hp']), h2, fun c hc => (by cases hc), h4⟩, by simp [room, roomQ, roomC]; omega⟩
        · rename_i g' hg'
          refine ⟨⟨fun p' hp' => h1 p' (by simp [hp']), h2, fun c hc => ?_, takeF_good h4 (by omega) hg'⟩, ?_⟩
          · injection hc with hc
            subst hc
            have := paced_len p.sp hp h2.1 h2.2
            exact ⟨Nat.zero_le _, by dsimp only; omega⟩
          · have := paced_room p.sp pn pd
            simp [room, roomQ, roomC]
            omega
theorem told_left (c : Cur) (clock : Int) : (toldF c clock).length + (leftF c).length = c.ss.length := by
  unfold toldF leftF
  rw [List.length_map, ← List.length_append, List.takeWhile_append_dropWhile]
theorem end_good {x : St} (h : Good x) : Good (endF x).2 ∧ room (endF x).2 ≤ room x := by
  obtain ⟨⟨q, number, pn, pd, clock, cur, late⟩, g, ns⟩ := x
  unfold endF
  cases cur with
  | none => exact ⟨h, Nat.le_refl _⟩
  | some c =>
    obtain ⟨h1, h2, h3, h4⟩ := h
    dsimp only at h1 h2 h3 h4 ⊢
    split
    · exact ⟨⟨h1, h2, h3, h4⟩, Nat.le_refl _⟩
    · refine ⟨⟨h1, h2, fun c hc => (by cases hc), h4⟩, ?_⟩
      have := told_left c clock
      simp [room, roomC]
      omega
theorem round_good {x : St} (h : Good x) : Good (roundF x).2 ∧ room (roundF x).2 ≤ room x := by
  have h1 := begin_good h
  have h2 := end_good h1.1
  exact ⟨h2.1, Nat.le_trans h2.2 h1.2⟩
theorem settled_good {x : St} (h : Good x) : Good (settled x) ∧ room (settled x) ≤ room x :=
  settled_of (P := fun y => Good y ∧ room y ≤ room x) (fun y hy => ⟨(round_good hy.1).1, Nat.le_trans (round_good hy.1).2 hy.2⟩) x ⟨h, Nat.le_refl _⟩
theorem hear_good {x : St} (h : Good x) (hc : ∀ c, x.s.cur = some c → c.said < c.xs.length) : Good (hearF x).2 ∧ room (hearF x).2 ≤ room x + 1 := by
  obtain ⟨⟨q, number, pn, pd, clock, cur, late⟩, g, ns⟩ := x
  unfold hearF
  cases cur with
  | none =>
    obtain ⟨h1, h2, h3, h4⟩ := h
    refine ⟨⟨h1, h2, h3, h4⟩, ?_⟩
    have : (lateF ⟨⟨q, number, pn, pd, clock, none, late⟩, g, ns⟩).length ≤ 1 := by
      unfold lateF
      cases q with
      | nil => simp
      | cons p q => dsimp only; split <;> simp
    simp [room, roomC]
    omega
  | some c =>
    obtain ⟨h1, h2, h3, h4⟩ := h
    have hcc := hc c rfl
    dsimp only at h1 h2 h3 h4 hcc ⊢
    refine ⟨⟨h1, h2, fun d hd => ?_, h4⟩, ?_⟩
    · injection hd with hd
      subst hd
      have := h3 c rfl
      exact ⟨by dsimp only; omega, this.2⟩
    · have := told_left c clock
      simp [room, roomC]
      omega
theorem step_good {x : St} (h : Good x) : Good (stepF x).2 ∧ room (stepF x).2 ≤ room x + 1 := by
  have h1 := settled_good h
  have h2 := hear_good h1.1 (settled_cur x)
  exact ⟨⟨h2.1.pieces, h2.1.pace, h2.1.cur, h2.1.gr⟩, by have := h2.2; have := h1.2; unfold room at *; simp only [stepF, tickF] at *; omega⟩
theorem pull_good {x : St} (h : Good x) : ∀ n, Good (pullF n x).2 ∧ room (pullF n x).2 ≤ room x + n
  | 0 => ⟨h, Nat.le_refl _⟩
  | n + 1 => by
    have h1 := pull_good h n
    have h2 := step_good h1.1
    exact ⟨h2.1, by have := h1.2; have := h2.2; simp only [pullF]; omega⟩
theorem begin_clock (x : St) : (beginF x).2.s.clock = x.s.clock := by
  unfold beginF
  split
  · split
    · rfl
    · split <;> rfl
  · rfl
theorem end_clock (x : St) : (endF x).2.s.clock = x.s.clock := by
  unfold endF
  split
  · rfl
  · split <;> rfl
theorem round_clock (x : St) : (roundF x).2.s.clock = x.s.clock := (end_clock _).trans (begin_clock x)
theorem settled_clock (x : St) : (settled x).s.clock = x.s.clock := settled_of (P := fun y => y.s.clock = x.s.clock) (fun y hy => (round_clock y).trans hy) x rfl
theorem hear_clock (x : St) : (hearF x).2.s.clock = x.s.clock := by
  unfold hearF
  split <;> rfl
theorem step_clock (x : St) : (stepF x).2.s.clock = x.s.clock + 1 := by
  simp only [stepF, tickF, hear_clock, settled_clock]
theorem pull_clock (x : St) : ∀ n : Nat, (pullF n x).2.s.clock = x.s.clock + n
  | 0 => by simp [pullF]
  | n + 1 => by simp only [pullF, step_clock, pull_clock x n]; omega
theorem pull_length (x : St) : ∀ n : Nat, (pullF n x).1.length = n
  | 0 => rfl
  | n + 1 => by simp [pullF, pull_length x n]
end Go.Proofs.Ytoodagohkepcpaa
