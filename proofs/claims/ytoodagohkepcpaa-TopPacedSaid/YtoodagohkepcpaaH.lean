/- Rows of plain elements: their cells one behind the other; owned rows are read. -/
import Derived.Test.YtoodagohkepcpaaG
import Derived.Test.YtoodagohkepcpaaK
namespace Go.Proofs.Ytoodagohkepcpaa
open Go.RowKit Go.Proofs.YtoodagohkepcpaaW.PrintWords

def Flat {α : Type} (enc : α → List Value) (xs : List α) : List Value := xs.flatMap enc
theorem Flat_nil {α : Type} (enc : α → List Value) : Flat enc [] = [] := rfl
theorem Flat_append {α : Type} (enc : α → List Value) (xs ys : List α) : Flat enc (xs ++ ys) = Flat enc xs ++ Flat enc ys := by simp [Flat]
theorem Flat_one {α : Type} (enc : α → List Value) (x : α) : Flat enc [x] = enc x := by simp [Flat]
theorem Flat_length {α : Type} {enc : α → List Value} {k : Nat} (h : ∀ x, (enc x).length = k) (xs : List α) : (Flat enc xs).length = xs.length * k := by
  induction xs with
  | nil => simp [Flat]
  | cons x xs ih => rw [show x :: xs = [x] ++ xs from rfl, Flat_append, Flat_one, List.length_append, h, ih, List.length_append, List.length_singleton, Nat.add_mul, Nat.one_mul]
theorem Flat_get {α : Type} {enc : α → List Value} {k : Nat} (h : ∀ x, (enc x).length = k) {xs : List α} {j i : Nat} {p : α} (hp : xs[j]? = some p) (hi : i < k) : (Flat enc xs)[j * k + i]? = (enc p)[i]? := by
  induction xs generalizing j with
  | nil => simp at hp
  | cons x xs ih =>
    rw [show x :: xs = [x] ++ xs from rfl, Flat_append, Flat_one]
    cases j with
    | zero =>
      have : x = p := by simpa using hp
      subst this
      rw [Nat.zero_mul, Nat.zero_add, List.getElem?_append_left (by rw [h]; exact hi)]
    | succ j =>
      have hp' : xs[j]? = some p := by simpa using hp
      rw [List.getElem?_append_right (by rw [h, Nat.succ_mul]; omega), h, show (j + 1) * k + i - k = j * k + i from by rw [Nat.succ_mul]; omega]
      exact ih hp'
theorem Flat_mem {α : Type} {enc : α → List Value} {xs : List α} (h : ∀ x, ∀ u ∈ enc x, u.oneCell' = true) : ∀ u ∈ Flat enc xs, u.oneCell' = true := by
  intro u hu
  obtain ⟨x, _, hx⟩ := List.mem_flatMap.1 hu
  exact h x u hx
theorem Flat_ints (k : IntKind) (xs : List Int) : Flat (fun x => [Value.int k x]) xs = nums k xs := by
  induction xs with
  | nil => rfl
  | cons x xs ih => rw [show x :: xs = [x] ++ xs from rfl, Flat_append, Flat_one, ih]; rfl

/-- What is owned is read. -/
theorem own_flat {α : Type} (d : Kd α) {enc : α → List Value} (hl : ∀ x, (enc x).length = d.sz) (hK : ∀ w x, d.K w x (enc x)) {w : World} {base : Nat} {e : TypeId} {v : Value} {xs : List α}
    (h : w.ownsRow base e d.sz v xs.length (Flat enc xs)) : ∃ A c, v = .slice A xs.length c ∧ xs.length ≤ c ∧ d.C w A xs.length xs := by
  rcases h.2 with ⟨rfl, h0⟩ | ⟨g, cap, cur, rfl, _, hh, hnc, hcm, _⟩
  · exact ⟨none, 0, by rw [h0], by omega, rfl, by omega, fun hp => absurd hp (by omega)⟩
  · refine ⟨_, cap, rfl, hnc, rfl, by simp only [maxLen] at hcm; omega, fun _ => ⟨_, rfl, fun j p hp => ⟨enc p, hl p, hK w p, fun i u hu => ?_⟩⟩⟩
    have hi : i < d.sz := by
      rcases Nat.lt_or_ge i (enc p).length with h' | h'
      · rw [← hl p]; exact h'
      · rw [List.getElem?_eq_none h'] at hu; cases hu
    exact h.cells (g := g) rfl (j * d.sz + i) u (by rw [Flat_get hl hp hi]; exact hu)
/-- The cells of what is read. -/
theorem Cells.of_C {α : Type} (d : Kd α) {enc : α → List Value} (hl : ∀ x, (enc x).length = d.sz) (hK : ∀ w x cs, d.K w x cs → cs = enc x) (hs : 0 < d.sz) {w : World} {A : Option Addr} {n : Nat} {xs : List α} (h : d.C w A n xs) : Cells w A n (Flat enc xs) := by
  intro hn
  obtain ⟨ad, rfl, hc⟩ := h.2.2 hn
  refine ⟨ad, rfl, fun q u hu => ?_⟩
  have hq : q < xs.length * d.sz := by
    rcases Nat.lt_or_ge q (Flat enc xs).length with h' | h'
    · rwa [Flat_length hl] at h'
    · rw [List.getElem?_eq_none h'] at hu; cases hu
  have hj : q / d.sz < xs.length := Nat.div_lt_of_lt_mul (by rwa [Nat.mul_comm])
  obtain ⟨c, hcl, hk, hcell⟩ := hc (q / d.sz) xs[q / d.sz] (List.getElem?_eq_getElem hj)
  have hq' : q = q / d.sz * d.sz + q % d.sz := by rw [Nat.mul_comm]; exact (Nat.div_add_mod q d.sz).symm
  rw [hq'] at hu ⊢
  rw [Flat_get hl (List.getElem?_eq_getElem hj) (Nat.mod_lt _ hs)] at hu
  have := hK _ _ _ hk
  subst this
  exact hcell _ u hu
theorem Cells.below {w w1 : World} {A : Option Addr} {m : Nat} {news : List Value} (h : Cells w A m news) (hb : Below w.heap.size w w1) : Cells w1 A m news := fun hm => by
  obtain ⟨ad, e, hc⟩ := h hm
  exact ⟨ad, e, fun j u hu => pw_cell_below hb (hc j u hu)⟩

/-! ### the plain kinds -/
def eI (x : Int) : List Value := [.int .i64 x]
def e32 (x : S32) : List Value := [.int .i64 x.f0, .string x.f1]
def e75 (x : S75) : List Value := [.int .i64 x.f0, .int .i64 x.f1, .int .i64 x.f2, .string x.f3]
def e82 (x : S82) : List Value := [.int .i64 x.f0, .int .i64 x.f1]
theorem eI_len : ∀ x, (eI x).length = (Kd.int .i64).sz := fun _ => rfl
theorem eI_one : ∀ x, ∀ u ∈ eI x, u.oneCell' = true := fun x u hu => by simp [eI] at hu; subst hu; rfl
theorem eI_K : ∀ w x, (Kd.int .i64).K w x (eI x) := fun _ _ => rfl
theorem eI_inv : ∀ w x cs, (Kd.int .i64).K w x cs → cs = eI x := fun _ _ _ h => h
theorem e32_len : ∀ x, (e32 x).length = k32.sz := fun _ => rfl
theorem e32_one : ∀ x, ∀ u ∈ e32 x, u.oneCell' = true := fun x u hu => by
  simp [e32] at hu
  rcases hu with rfl | rfl <;> rfl
theorem e32_K : ∀ w x, k32.K w x (e32 x) := fun w x => k32_mk w x
theorem e32_inv : ∀ w x cs, k32.K w x cs → cs = e32 x := fun _ _ _ h => k32_open h
theorem e75_len : ∀ x, (e75 x).length = k75.sz := fun _ => rfl
theorem e75_one : ∀ x, ∀ u ∈ e75 x, u.oneCell' = true := fun x u hu => by
  simp [e75] at hu
  rcases hu with rfl | rfl | rfl | rfl <;> rfl
theorem e75_K : ∀ w x, k75.K w x (e75 x) := fun w x => k75_mk w x
theorem e75_inv : ∀ w x cs, k75.K w x cs → cs = e75 x := fun _ _ _ h => k75_open h
theorem e82_len : ∀ x, (e82 x).length = k82.sz := fun _ => rfl
theorem e82_one : ∀ x, ∀ u ∈ e82 x, u.oneCell' = true := fun x u hu => by
  simp [e82] at hu
  rcases hu with rfl | rfl <;> rfl
theorem e82_K : ∀ w x, k82.K w x (e82 x) := fun w x => k82_mk w x
theorem e82_inv : ∀ w x cs, k82.K w x cs → cs = e82 x := fun _ _ _ h => k82_open h

theorem info3 : (Try.prog.info? 3).map (fun i => (i.zero, i.size, i.bytes)) = some (some (.int .i64 0), 1, 8) := by kernel_rfl
theorem info32 : (Try.prog.info? 32).map (fun i => (i.zero, i.size, i.bytes)) = some (some (.agg #[.int .i64 0, .string ⟨#[]⟩]), 2, 24) := by kernel_rfl
theorem info75 : (Try.prog.info? 75).map (fun i => (i.zero, i.size, i.bytes)) = some (some (.agg #[.int .i64 0, .int .i64 0, .int .i64 0, .string ⟨#[]⟩]), 4, 40) := by kernel_rfl
theorem info82 : (Try.prog.info? 82).map (fun i => (i.zero, i.size, i.bytes)) = some (some (.agg #[.int .i64 0, .int .i64 0]), 2, 16) := by kernel_rfl
end Go.Proofs.Ytoodagohkepcpaa
