/- Contracts of the library's searches by a function value, over the program's own translation. -/
import Derived.Test.YtoodagohkepcpaaChecked
import Derived.Test.YtoodagohkepcpaaWWords
import Derived.Shelf.Abstract
import Derived.Deep.LoopGhost
import Derived.IntWalk
namespace Go.Proofs.Ytoodagohkepcpaa
open Go.RowKit Go.Shelf Go.Proofs.YtoodagohkepcpaaW.PrintWords

/-- A function value answers `p` at each number, whatever lies beyond the world's blocks. -/
def PredI (e : IntKind) (g : Nat) (lb : Array Value) (p : Int → Bool) (w : World) : Prop :=
  (∀ args w, (callFunc g args).run Try.prog w = .ok (.enter g args) w) ∧
  ∀ W x, Below w.heap.size w W → Calls Try.prog g (#[.int e x] ++ lb) W fun r W' => r = .returned (.bool (p x)) ∧ Below W.heap.size W W'

/-- The first place of a number with `p`, or -1. -/
def idxI (p : Int → Bool) (xs : List Int) : Int := if xs.any p then (xs.findIdx p : Int) else -1

theorem idxI_hit {p : Int → Bool} {xs : List Int} {k : Nat} (hk : k < xs.length) (h0 : ∀ j, j < k → p (rd xs j) = false) (h1 : p (rd xs k) = true) : idxI p xs = k := by
  unfold idxI
  have hr : ∀ j (hj : j < xs.length), rd xs (j : Int) = xs[j] := fun j hj => by simp [rd, List.getD_eq_getElem?_getD, hj]
  have ha : xs.any p = true := List.any_eq_true.2 ⟨xs[k], List.getElem_mem hk, by rw [← hr k hk]; exact h1⟩
  rw [if_pos ha]
  congr 1
  refine (List.findIdx_eq hk).2 ⟨by rw [← hr k hk]; exact h1, fun j hj => ?_⟩
  rw [← hr j (by omega)]; exact h0 j hj
theorem idxI_miss {p : Int → Bool} {xs : List Int} (h0 : ∀ j : Nat, j < xs.length → p (rd xs j) = false) : idxI p xs = -1 := by
  unfold idxI
  rw [if_neg]
  intro h
  obtain ⟨x, hx, hp⟩ := List.any_eq_true.1 h
  obtain ⟨j, hj, rfl⟩ := List.getElem_of_mem hx
  have := h0 j hj
  simp [rd, List.getD_eq_getElem?_getD, hj] at this
  rw [this] at hp; cases hp
theorem idxI_range (p : Int → Bool) (xs : List Int) : decide (idxI p xs ≥ 0) = xs.any p := by
  unfold idxI
  cases h : xs.any p <;> simp

set_option maxHeartbeats 2000000 in
theorem IndexFunc_int (g : Nat) (lb : Array Value) (p : Int → Bool) (A : Option Addr) (c : Nat) (xs : List Int) (w : World) (hr : Kd.C (Kd.int .i64) w A xs.length xs) (hp : PredI .i64 g lb p w) :
    Calls Try.prog 73 #[.slice A xs.length c, .func (.func g) #[] lb] w fun e w' => e = .returned (.int .i64 (idxI p xs)) ∧ Below w.heap.size w w' := by
  have hn : xs.length ≤ 9223372036854775807 := hr.2.1
  have HR := Aside0.mk hr
  have HP := Aside0.mk hp.2
  have eg := hp.1
  clear hr hp
  go_enter Try.func73, Try.ntmps73
  go_wp2
  go_loopg [5, 8] xs.length (fun gg _ s8 wr => ∃ kk : Nat, kk ≤ xs.length ∧ xs.length - kk ≤ gg ∧ s8 = .int .i64 kk ∧ Aside0 (Below w.heap.size w wr) ∧ Aside0 (∀ j : Nat, j < kk → p (rd xs j) = false))
  case atStart => exact ⟨0, Nat.zero_le _, by omega, rfl, ⟨Below.refl _ _⟩, ⟨fun j hj => absurd hj (Nat.not_lt_zero _)⟩⟩
  case round =>
    obtain ⟨kk, hkk, hg, rfl, HB, A0⟩ := hrel
    by_cases hlt : kk < xs.length
    · obtain ⟨ad, rfl, hcell⟩ := Kd.at_int HR.out (kk : Int) (by omega) (by omega)
      rw [Int.toNat_natCast] at hcell
      replace hcell := (HB.out.cell (World.block_lt_of_cell? w _ hcell)).trans hcell
      have hltz : (kk : Int) < (xs.length : Int) := by omega
      generalize hy : rd xs kk = y at hcell
      have B := Aside0.mk hy
      clear hy
      have hcall := HP.out wr y HB.out
      cases hq : p y with
      | true =>
        rw [hq] at hcall
        go_wp2_with (go_at_fn g; refine hcall.mono ?_; rintro e w' ⟨rfl, hb⟩)
        go_ret
        refine ⟨?_, below_then HB.out HB.out.size hb⟩
        rw [idxI_hit hlt A0.out (by rw [B.out]; exact hq)]
        rfl
      | false =>
        rw [hq] at hcall
        go_wp2_with (go_at_fn g; refine hcall.mono ?_; rintro e w' ⟨rfl, hb⟩)
        go_roundg (xs.length - (kk + 1))
        case measure => omega
        case rel =>
          refine ⟨kk + 1, by omega, by omega, by go_num, ⟨below_then HB.out HB.out.size hb⟩, ⟨fun j hj => ?_⟩⟩
          by_cases e : j = kk
          · subst e; rw [B.out]; exact hq
          · exact A0.out j (by omega)
    · have hltz : ¬ (kk : Int) < (xs.length : Int) := by omega
      obtain rfl : kk = xs.length := by omega
      go_wp2
      go_ret
      refine ⟨?_, HB.out⟩
      rw [idxI_miss A0.out]
      rfl
set_option maxHeartbeats 2000000 in
theorem IndexFunc_u8 (g : Nat) (lb : Array Value) (p : Int → Bool) (A : Option Addr) (c : Nat) (xs : List Int) (w : World) (hr : Kd.C (Kd.int .u8) w A xs.length xs) (hp : PredI .u8 g lb p w) :
    Calls Try.prog 79 #[.slice A xs.length c, .func (.func g) #[] lb] w fun e w' => e = .returned (.int .i64 (idxI p xs)) ∧ Below w.heap.size w w' := by
  have hn : xs.length ≤ 9223372036854775807 := hr.2.1
  have HR := Aside0.mk hr
  have HP := Aside0.mk hp.2
  have eg := hp.1
  clear hr hp
  go_enter Try.func79, Try.ntmps79
  go_wp2
  go_loopg [5, 8] xs.length (fun gg _ s8 wr => ∃ kk : Nat, kk ≤ xs.length ∧ xs.length - kk ≤ gg ∧ s8 = .int .i64 kk ∧ Aside0 (Below w.heap.size w wr) ∧ Aside0 (∀ j : Nat, j < kk → p (rd xs j) = false))
  case atStart => exact ⟨0, Nat.zero_le _, by omega, rfl, ⟨Below.refl _ _⟩, ⟨fun j hj => absurd hj (Nat.not_lt_zero _)⟩⟩
  case round =>
    obtain ⟨kk, hkk, hg, rfl, HB, A0⟩ := hrel
    by_cases hlt : kk < xs.length
    · obtain ⟨ad, rfl, hcell⟩ := Kd.at_int HR.out (kk : Int) (by omega) (by omega)
      rw [Int.toNat_natCast] at hcell
      replace hcell := (HB.out.cell (World.block_lt_of_cell? w _ hcell)).trans hcell
      have hltz : (kk : Int) < (xs.length : Int) := by omega
      generalize hy : rd xs kk = y at hcell
      have B := Aside0.mk hy
      clear hy
      have hcall := HP.out wr y HB.out
      cases hq : p y with
      | true =>
        rw [hq] at hcall
        go_wp2_with (go_at_fn g; refine hcall.mono ?_; rintro e w' ⟨rfl, hb⟩)
        go_ret
        refine ⟨?_, below_then HB.out HB.out.size hb⟩
        rw [idxI_hit hlt A0.out (by rw [B.out]; exact hq)]
        rfl
      | false =>
        rw [hq] at hcall
        go_wp2_with (go_at_fn g; refine hcall.mono ?_; rintro e w' ⟨rfl, hb⟩)
        go_roundg (xs.length - (kk + 1))
        case measure => omega
        case rel =>
          refine ⟨kk + 1, by omega, by omega, by go_num, ⟨below_then HB.out HB.out.size hb⟩, ⟨fun j hj => ?_⟩⟩
          by_cases e : j = kk
          · subst e; rw [B.out]; exact hq
          · exact A0.out j (by omega)
    · have hltz : ¬ (kk : Int) < (xs.length : Int) := by omega
      obtain rfl : kk = xs.length := by omega
      go_wp2
      go_ret
      refine ⟨?_, HB.out⟩
      rw [idxI_miss A0.out]
      rfl

def inB (a b c : Int) : Bool := decide (b ≤ a) && decide (a ≤ c)
theorem inB_iff {a b c : Int} : inB a b c = true ↔ b ≤ a ∧ a ≤ c := by simp [inB]

set_option maxHeartbeats 1000000 in
theorem within_any (a b c : Int) (w : World) : Calls Try.prog 39 #[.int .i64 a, .int .i64 b, .int .i64 c] w fun e w' => e = .returned (.bool (inB a b c)) ∧ ∃ n, w' = w.drewN n := by
  unfold inB
  by_cases h : b ≤ a
  · have h1 : decide (b ≤ a) = true := decide_eq_true h
    go_enter Try.func39, Try.ntmps39
    go_wp2
    go_ret
    exact ⟨by simp [*], 0, rfl⟩
  · have h1 : decide (b ≤ a) = false := decide_eq_false h
    go_enter Try.func39, Try.ntmps39
    go_wp2
    go_ret
    exact ⟨by simp [*], 0, rfl⟩

set_option maxHeartbeats 1000000 in
theorem ContainsFunc_int (g : Nat) (lb : Array Value) (p : Int → Bool) (A : Option Addr) (c : Nat) (xs : List Int) (w : World) (hr : Kd.C (Kd.int .i64) w A xs.length xs) (hp : PredI .i64 g lb p w) :
    Calls Try.prog 59 #[.slice A xs.length c, .func (.func g) #[] lb] w fun e w' => e = .returned (.bool (xs.any p)) ∧ Below w.heap.size w w' := by
  have HR := IndexFunc_int g lb p A c xs w hr hp
  clear hr hp
  go_enter Try.func59, Try.ntmps59
  go_wp2_with (go_at_call 73; refine HR.mono ?_; rintro e w' ⟨rfl, hb⟩)
  go_ret
  refine ⟨?_, hb⟩
  rw [← idxI_range]; rfl

set_option maxHeartbeats 1000000 in
theorem ContainsFunc_u8 (g : Nat) (lb : Array Value) (p : Int → Bool) (A : Option Addr) (c : Nat) (xs : List Int) (w : World) (hr : Kd.C (Kd.int .u8) w A xs.length xs) (hp : PredI .u8 g lb p w) :
    Calls Try.prog 74 #[.slice A xs.length c, .func (.func g) #[] lb] w fun e w' => e = .returned (.bool (xs.any p)) ∧ Below w.heap.size w w' := by
  have HR := IndexFunc_u8 g lb p A c xs w hr hp
  clear hr hp
  go_enter Try.func74, Try.ntmps74
  go_wp2_with (go_at_call 79; refine HR.mono ?_; rintro e w' ⟨rfl, hb⟩)
  go_ret
  refine ⟨?_, hb⟩
  rw [← idxI_range]; rfl
end Go.Proofs.Ytoodagohkepcpaa
