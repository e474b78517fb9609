/- Contracts of small functions of join and stream: the checks of waves, ratios, names, paces. -/
import Derived.Test.YtoodagohkepcpaaA0
import Derived.Test.YtoodagohkepcpaaK
import Derived.BigQuiet
import Derived.Deep.QuietTactic
namespace Go.Proofs.Ytoodagohkepcpaa
open Go.RowKit Go.Shelf Go.Proofs.YtoodagohkepcpaaW.PrintWords

theorem ret_int {k : IntKind} {a b : Int} (h : a = b) : Ending.returned (.int k a) = .returned (.int k b) := by rw [h]
theorem C_of_ints {w : World} {k : IntKind} {A : Option Addr} {n : Nat} {xs : List Int} (h : ReadsInt w k A n xs) : Kd.C (Kd.int k) w A n xs :=
  Kd.C_of_reads (enc := Value.int k) (d := (0 : Int)) (h1 := fun _ => rfl) h
def badSample (x : Int) : Bool := decide (x < -32768) || decide (x > 32767)

set_option maxHeartbeats 1000000 in
theorem wave1_any (x : Int) (w : World) : Calls Try.prog 78 #[.int .i64 x] w fun e w' => e = .returned (.bool (badSample x)) ∧ ∃ n, w' = w.drewN n := by
  unfold badSample
  by_cases h : x < -32768
  · have h1 : decide (x < -32768) = true := decide_eq_true h
    go_enter Try.func78, Try.ntmps78
    go_wp2
    go_ret
    exact ⟨by simp [*], 0, rfl⟩
  · have h1 : decide (x < -32768) = false := decide_eq_false h
    go_enter Try.func78, Try.ntmps78
    go_wp2
    go_ret
    exact ⟨by simp [*], 0, rfl⟩
theorem wave1_pred (w : World) : PredI .i64 78 #[] badSample w :=
  ⟨enters_of Try.func78 (by kernel_rfl) rfl, fun W x _ => (wave1_any x W).mono fun e W' ⟨he, n, hw⟩ => ⟨he, by rw [hw]; exact pw_below_drewN (Below.refl _ _) n⟩⟩

/-- All numbers are samples. -/
def okWave (xs : List Int) : Prop := xs.length ≤ 100000 ∧ xs.any badSample = false

set_option maxHeartbeats 1000000 in
theorem wave_ok (A : Option Addr) (c : Nat) (xs : List Int) (w : World) (hr : Kd.C (Kd.int .i64) w A xs.length xs) (h : okWave xs) :
    Calls Try.prog 70 #[.slice A xs.length c] w fun e w' => e = .returned (.int .i64 0) ∧ Below w.heap.size w w' := by
  have HC := ContainsFunc_int 78 #[] badSample A c xs w hr (wave1_pred w)
  have h1 : ¬ (xs.length : Int) > 100000 := by have := h.1; omega
  rw [h.2] at HC
  clear hr h
  go_enter Try.func70, Try.ntmps70
  go_wp2_with (go_at_call 59; refine HC.mono ?_; rintro e w' ⟨rfl, hb⟩)
  go_ret
  exact ⟨rfl, hb⟩

def inK (x : Int) : Bool := decide (1 ≤ x) && decide (x ≤ 1000)
set_option maxHeartbeats 1000000 in
theorem right1_any (x : Int) (w : World) : Calls Try.prog 71 #[.int .i64 x] w fun e w' => e = .returned (.bool (inK x)) ∧ ∃ n, w' = w.drewN n := by
  unfold inK
  by_cases h : 1 ≤ x
  · have h1 : decide (1 ≤ x) = true := decide_eq_true h
    go_enter Try.func71, Try.ntmps71
    go_wp2
    go_ret
    exact ⟨by simp [*], 0, rfl⟩
  · have h1 : decide (1 ≤ x) = false := decide_eq_false h
    go_enter Try.func71, Try.ntmps71
    go_wp2
    go_ret
    exact ⟨by simp [*], 0, rfl⟩

set_option maxHeartbeats 1000000 in
/-- A right ratio. -/
theorem right_ok (n d : Int) (w : World) (hn : 1 ≤ n ∧ n ≤ 1000) (hd : 1 ≤ d ∧ d ≤ 1000) (h1 : n ≤ 16 * d) (h2 : d ≤ 16 * n) :
    Calls Try.prog 55 #[.agg #[.int .i64 n, .int .i64 d]] w fun e w' => e = .returned (.bool true) ∧ Below w.heap.size w w' := by
  obtain ⟨hn1, hn2⟩ := hn
  obtain ⟨hd1, hd2⟩ := hd
  have hin : inK n = true := by simp [inK]; omega
  have hid : inK d = true := by simp [inK]; omega
  have HN : ∀ W, Calls Try.prog 71 #[.int .i64 n] W fun e w' => e = .returned (.bool true) ∧ ∃ q, w' = W.drewN q := fun W => hin ▸ right1_any n W
  have HD : ∀ W, Calls Try.prog 71 #[.int .i64 d] W fun e w' => e = .returned (.bool true) ∧ ∃ q, w' = W.drewN q := fun W => hid ▸ right1_any d W
  have h3 : decide (n ≤ 16 * d) = true := decide_eq_true h1
  have h4 : decide (d ≤ 16 * n) = true := decide_eq_true h2
  clear hin hid
  go_enter Try.func55, Try.ntmps55
  go_wp2_with fail
  refine (HN _).mono ?_
  rintro e w' ⟨rfl, q, rfl⟩
  go_wp2_with fail
  refine (HD _).mono ?_
  rintro e w' ⟨rfl, q, rfl⟩
  go_wp2_with fail
  go_ret
  exact ⟨rfl, by repeat (first | exact Below.refl _ _ | apply below_alloc | apply pw_below_drewN)⟩

def nearF (n a b : Int) : Int := max 1 ((2 * n * a + b) / (2 * b))

set_option maxHeartbeats 1000000 in
theorem near_any (n a b : Int) (w : World) (hn : 0 ≤ n ∧ n ≤ 100000) (ha : 1 ≤ a ∧ a ≤ 1000) (hb : 1 ≤ b ∧ b ≤ 1000) :
    Calls Try.prog 58 #[.int .i64 n, .int .i64 a, .int .i64 b] w fun e w' => e = .returned (.int .i64 (nearF n a b)) ∧ w' = w := by
  obtain ⟨hn1, hn2⟩ := hn
  obtain ⟨ha1, ha2⟩ := ha
  obtain ⟨hb1, hb2⟩ := hb
  have h2 : 0 ≤ n * a := Int.mul_nonneg hn1 (by omega)
  have h3 : n * a ≤ 100000 * 1000 := Int.mul_le_mul hn2 ha2 (by omega) (by omega)
  have e2 : 2 * n * a = 2 * (n * a) := by rw [Int.mul_assoc]
  have h4 : 0 ≤ 2 * n * a := by omega
  have h5 : 2 * n * a ≤ 200000000 := by omega
  clear e2 h2 h3
  go_enter Try.func58, Try.ntmps58
  go_wp2
  all_goals
    go_ret
    refine ⟨ret_int ?_, rfl⟩
    unfold nearF
    omega

set_option maxHeartbeats 1000000 in
theorem pace_ok (n d : Int) (w : World) (hn : 1 ≤ n ∧ n ≤ 8) (hd : 1 ≤ d ∧ d ≤ 8) :
    Calls Try.prog 33 #[.agg #[.int .i64 n, .int .i64 d]] w fun e w' => e = .returned (.bool true) ∧ Below w.heap.size w w' := by
  have HN : ∀ W, Calls Try.prog 39 #[.int .i64 n, .int .i64 1, .int .i64 8] W fun e w' => e = .returned (.bool true) ∧ ∃ q, w' = W.drewN q := fun W => inB_iff.2 hn ▸ within_any n 1 8 W
  have HD : ∀ W, Calls Try.prog 39 #[.int .i64 d, .int .i64 1, .int .i64 8] W fun e w' => e = .returned (.bool true) ∧ ∃ q, w' = W.drewN q := fun W => inB_iff.2 hd ▸ within_any d 1 8 W
  clear hn hd
  go_enter Try.func33, Try.ntmps33
  go_wp2_with fail
  refine (HN _).mono ?_
  rintro e w' ⟨rfl, q, rfl⟩
  go_wp2_with fail
  refine (HD _).mono ?_
  rintro e w' ⟨rfl, q, rfl⟩
  go_wp2_with fail
  go_ret
  exact ⟨rfl, by repeat (first | exact Below.refl _ _ | apply below_alloc | apply pw_below_drewN)⟩

def badPiece (x : Int) : Bool := !inB x (-32768) 32767
set_option maxHeartbeats 1000000 in
theorem valid1_any (x : Int) (w : World) : Calls Try.prog 60 #[.int .i64 x] w fun e w' => e = .returned (.bool (badPiece x)) ∧ ∃ n, w' = w.drewN n := by
  have HN := within_any x (-32768) 32767
  unfold badPiece
  generalize inB x (-32768) 32767 = b at HN ⊢
  go_enter Try.func60, Try.ntmps60
  go_wp2_with (go_at_call 39; refine (HN _).mono ?_; rintro e w' ⟨rfl, q, rfl⟩)
  go_ret
  exact ⟨rfl, _, rfl⟩
theorem valid1_pred (w : World) : PredI .i64 60 #[] badPiece w :=
  ⟨enters_of Try.func60 (by kernel_rfl) rfl, fun W x _ => (valid1_any x W).mono fun e W' ⟨he, n, hw⟩ => ⟨he, by rw [hw]; exact pw_below_drewN (Below.refl _ _) n⟩⟩

def badByte (x : Int) : Bool := decide (x < 32) || decide (x > 126)
set_option maxHeartbeats 1000000 in
theorem named1_any (x : Int) (w : World) : Calls Try.prog 75 #[.int .u8 x] w fun e w' => e = .returned (.bool (badByte x)) ∧ ∃ n, w' = w.drewN n := by
  unfold badByte
  by_cases h : x < 32
  · have h1 : decide (x < 32) = true := decide_eq_true h
    go_enter Try.func75, Try.ntmps75
    go_wp2
    go_ret
    exact ⟨by simp [*], 0, rfl⟩
  · have h1 : decide (x < 32) = false := decide_eq_false h
    go_enter Try.func75, Try.ntmps75
    go_wp2
    go_ret
    exact ⟨by simp [*], 0, rfl⟩
theorem named1_pred (w : World) : PredI .u8 75 #[] badByte w :=
  ⟨enters_of Try.func75 (by kernel_rfl) rfl, fun W x _ => (named1_any x W).mono fun e W' ⟨he, n, hw⟩ => ⟨he, by rw [hw]; exact pw_below_drewN (Below.refl _ _) n⟩⟩

/-- A string that can be the name of a sign. -/
def okName (s : ByteArray) : Prop := 1 ≤ s.size ∧ s.size ≤ 40 ∧ (bytesOf s).any badByte = false

set_option maxHeartbeats 1000000 in
theorem named_ok (s : ByteArray) (w : World) (h : okName s) : Calls Try.prog 61 #[.string s] w fun e w' => e = .returned (.bool true) ∧ Below w.heap.size w w' := by
  obtain ⟨h1, h2, h3⟩ := h
  have HN : ∀ W, Calls Try.prog 39 #[.int .i64 (s.size : Int), .int .i64 1, .int .i64 40] W fun e w' => e = .returned (.bool true) ∧ ∃ q, w' = W.drewN q :=
    fun W => (inB_iff.2 ⟨by omega, by omega⟩ : inB (s.size : Int) 1 40 = true) ▸ within_any (s.size : Int) 1 40 W
  have hl := bytesOf_length s
  have HC : ∀ W (n : Nat), n = s.size → Calls Try.prog 74 #[.slice (some ⟨W.heap.size, 0, none⟩) n (grownCap W s.size 0 5), .func (.func 75) #[] #[]] (Lib.bytesWorld W 5 s) fun e w' => e = .returned (.bool false) ∧ Below W.heap.size W w' := by
    intro W n hn
    have hr := bytes_reads W 5 s (by omega)
    have hc := ContainsFunc_u8 75 #[] badByte (some ⟨W.heap.size, 0, none⟩) (grownCap W s.size 0 5) (bytesOf s) (Lib.bytesWorld W 5 s) (by rw [hl]; exact C_of_ints hr) (named1_pred _)
    rw [hl, h3] at hc
    subst hn
    refine hc.mono ?_
    rintro e w' ⟨rfl, hb⟩
    have hbb := bytes_below (Below.refl W.heap.size W) (Nat.le_refl _) 5 s
    exact ⟨rfl, below_then hbb hbb.size hb⟩
  have kb := fun W => print_bytes (P := Try.prog) 9 152 5 Try.underlying9 Try.underlying152 Try.underlying5 s W
  clear h1 h2 h3 hl
  go_enter Try.func61, Try.ntmps61
  go_wp2_with fail
  refine (HN _).mono ?_
  rintro e w' ⟨rfl, q, rfl⟩
  clear HN
  go_wp2_with fail
  refine (HC (w.drewN q) _ rfl).mono ?_
  rintro e w' ⟨rfl, hb⟩
  clear HC kb
  go_wp2_with fail
  go_ret
  exact ⟨rfl, (pw_below_drewN (Below.refl _ _) q).trans hb⟩

end Go.Proofs.Ytoodagohkepcpaa
