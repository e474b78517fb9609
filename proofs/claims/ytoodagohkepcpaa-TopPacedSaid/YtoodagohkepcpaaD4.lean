/- A piece is added to the queue. -/
import Derived.Test.YtoodagohkepcpaaD3
import Derived.Test.YtoodagohkepcpaaB0
import Derived.Deep.RegionHeld3
namespace Go.Proofs.Ytoodagohkepcpaa
open Go.RowKit Go.Shelf Go.Proofs.YtoodagohkepcpaaW.PrintWords
set_option maxRecDepth 100000

set_option maxHeartbeats 1000000 in
theorem Clone_signs (A : Option Addr) (c : Nat) (xs : List S32) (w : World) (h : Kd.C k32 w A xs.length xs) (hl : xs.length ≤ 1000000) :
    Calls Try.prog 63 #[.slice A xs.length c] w fun e w' => ∃ v, e = .returned v ∧ w'.ownsRow w.heap.size 32 2 v xs.length (Flat e32 xs) ∧ Below w.heap.size w w' := by
  have q22 : ∀ (w : World) (a : Option Addr) (n c n' c' : Nat), (binOp .eql 28 (.slice a n c) (.slice none n' c')).run Try.prog w = .ok (.bool a.isNone) w := fun w a n c n' c' => Lib.run_eql_slice_nil w _ _ a n c n' c' Try.underlying28
  rcases A with _ | ad
  · have h0 : xs = [] := by
      rcases Nat.eq_zero_or_pos xs.length with h0 | h0
      · exact List.eq_nil_of_length_eq_zero h0
      · obtain ⟨ad, e, _⟩ := h.2.2 h0
        cases e
    subst h0
    go_enter Try.func63, Try.ntmps63
    go_wp2
    go_ret
    exact ⟨_, rfl, own_nil _ _ _ _, Below.refl _ _⟩
  · have HC := Aside0.mk (Cells.of_C k32 e32_len (fun _ _ _ h => k32_open h) (by decide) h)
    have hfl : (Flat e32 xs).length = xs.length * 2 := by rw [Flat_length e32_len]; rfl
    have HF := Aside0.mk hfl
    clear h hfl
    go_enter Try.func63, Try.ntmps63
    go_wp2_with (at_builtin; refine append_list rfl (.tmp 5) (.tmp 6) 28 32 (.agg #[.int .i64 0, .string ⟨#[]⟩]) 2 24 rfl Try.underlying28 info32 rfl (by decide) (by decide) w.heap.size _ 0 [] (some ad) xs.length c (Flat e32 xs) rfl rfl ?own (by rw [HF.out]) ?cells (Flat_mem e32_one) (by omega) ?base ?_)
    case own => exact ⟨rfl, .inr ⟨w.heap.size, 0, #[], rfl, Nat.le_refl _, blk_new _ _, Nat.le_refl _, Nat.zero_le _, rfl, rfl⟩⟩
    case cells => exact HC.out.below (below_alloc (Below.refl _ _) _)
    case base => simp
    intro v1 w1 hA
    have HA := Aside0.mk hA.own
    have HB : Aside0 (Below w.heap.size w w1) := ⟨(below_alloc (Below.refl _ _) _).grown hA.grown (by simp) (fun k e => by simp [Value.ownBlock] at e; omega)⟩
    clear hA
    go_wp2
    go_ret
    refine ⟨_, rfl, ?_, HB.out⟩
    have := HA.out
    simpa using this

/-- Cells of the speaker have been written. -/
theorem SpIn.spk {cls : Nat → Nat} {k : Nat} {W W' : World} {Bs Bl Br Bg : Nat} {s s' : Sp} {nodes : List (Nat × Nat)} {nowv nowv' : Value} {said said' : Int} (h : SpIn cls k W Bs Bl Br Bg s nodes nowv said)
    (hW : W'.heap[Bs]? = some (.cells #[.iface 49 (.pointer (some ⟨Bg, 0, none⟩)), .pointer (some ⟨Bl, 0, none⟩), .int .i64 s'.number, .int .i64 s'.pn, .int .i64 s'.pd, .int .i64 s'.clock, .int .i64 (stateF s'.cur), nowv', .int .i64 said', .bool s'.late] 111))
    (ho : ∀ b, b ≠ Bs → W'.heap[b]? = W.heap[b]?) (hq : s'.q = s.q) (hc : CurAt cls k W nodes nowv' said' s'.cur) : SpIn cls k W' Bs Bl Br Bg s' nodes nowv' said' := by
  have K3 : Kept3 W W' := fun b cs e hb he => (ho b (blk_ne hb h.sp (by rcases he with rfl | rfl | rfl <;> decide))).trans hb
  have hl := (ho Bl (blk_ne h.li h.sp (by decide))).trans h.li
  refine ⟨hW, by rw [hq]; exact hl, (ho Br (blk_ne h.ro h.sp (by decide))).trans h.ro, h.chain.moved (fun n hn => ?_), ?_, h.nodup, h.pnodup, h.kl, hc.kept K3⟩
  · obtain ⟨cs, hcs⟩ := chain_mem h.chain n hn
    exact ho n.1 (blk_ne hcs h.sp (by decide))
  · rw [hq]
    exact h.pieces.imp fun _ _ _ _ _ hp => hp.kept K3
theorem newCls_again (cls : Nat → Nat) {a b : Nat} (k : Nat) (h : a ≤ b) : newCls (newCls cls a k) b k = newCls cls a k := by
  funext x
  unfold newCls
  by_cases h1 : x < b
  · rw [if_pos h1]
  · rw [if_neg h1, if_neg (by omega)]
theorem pieces_lt {cls : Nat → Nat} {k : Nat} {W : World} {l : List (Nat × Nat)} : ∀ {q : List Pc}, PiecesAt cls k W l q → ∀ n ∈ l, n.2 < W.heap.size := by
  induction l with
  | nil => intro _ _ n hn; simp at hn
  | cons m l ih =>
    intro q h n hn
    cases q with
    | nil => exact h.elim
    | cons p q =>
      rcases List.mem_cons.1 hn with rfl | hn
      · obtain ⟨_, _, _, h1, _⟩ := h.1.ex
        exact blk_lt h1
      · exact ih h.2 n hn

set_option maxHeartbeats 8000000 in
theorem add_ok (cls : Nat → Nat) (k : Nat) (w : World) (Bs Bl Br Bg : Nat) (s : Sp) (nodes : List (Nat × Nat)) (nowv : Value) (said : Int) (A2 A3 A4 : Option Addr) (c2 c3 c4 : Nat) (p : S30)
    (h : SpIn cls k w Bs Bl Br Bg s nodes nowv said) (hq : s.q.length < 200) (hn : 0 ≤ s.number ∧ s.number ≤ 1000000000)
    (h2 : Kd.C (Kd.int .i64) w A2 p.f2.length p.f2) (h3 : Kd.C (Kd.int .i64) w A3 p.f3.length p.f3) (h4 : Kd.C k32 w A4 p.f4.length p.f4) (hp : okPiece p) :
    Calls Try.prog 42 #[.pointer (some ⟨Bs, 0, none⟩), .pointer (some ⟨Br, 0, none⟩), .agg #[.int .i64 p.f0, .int .i64 p.f1, .slice A2 p.f2.length c2, .slice A3 p.f3.length c3, .slice A4 p.f4.length c4, .int .i64 p.f5]] w fun e w' =>
      e = .returned (.tuple #[.int .i64 s.number, .int .i64 0]) ∧ SpAt (newCls cls w.heap.size k) k w' Bs Bl Br Bg { s with q := s.q ++ [⟨p, s.number, 0⟩], number := s.number + 1 } ∧ Keeps (fun b => cls b ≠ k) w w' := by
  obtain ⟨f0, f1, xs, ps, ss, f5⟩ := p
  have HC2 := Aside0.mk (fun (W : World) (hb : Below w.heap.size w W) => Clone_ints A2 c2 xs W (Kd.C_below h2 hb) (by have := hp.size; dsimp only at this; omega))
  have HC3 := Aside0.mk (fun (W : World) (hb : Below w.heap.size w W) => Clone_ints A3 c3 ps W (Kd.C_below h3 hb) (by have := hp.periods.1; dsimp only at this; omega))
  have HC4 := Aside0.mk (fun (W : World) (hb : Below w.heap.size w W) => Clone_signs A4 c4 ss W (Kd.C_below h4 hb) (by have := hp.signs.1; dsimp only at this; omega))
  dsimp only at *
  have hbs := blk_lt h.sp
  have hbl := blk_lt h.li
  have q1 : (w.alloc (.cells #[.int .i64 f0, .int .i64 f1, .slice A2 xs.length c2, .slice A3 ps.length c3, .slice A4 ss.length c4, .int .i64 f5] 30)).cell? ⟨Bs, 1, none⟩ = some (.pointer (some ⟨Bl, 0, none⟩)) := blk_cell (blk_alloc h.sp _) 1
  have q2 : (w.alloc (.cells #[.int .i64 f0, .int .i64 f1, .slice A2 xs.length c2, .slice A3 ps.length c3, .slice A4 ss.length c4, .int .i64 f5] 30)).cell? ⟨Bl, 1, none⟩ = some (.int .i64 (s.q.length : Int)) := blk_cell (blk_alloc h.li _) 1
  have hdec : decide ((s.q.length : Int) ≥ 200) = false := by simp; omega
  have hdec2 : decide (200 ≤ s.q.length) = false := by simp; omega
  have hP0 : (w.alloc (.cells #[.int .i64 f0, .int .i64 f1, .slice A2 xs.length c2, .slice A3 ps.length c3, .slice A4 ss.length c4, .int .i64 f5] 30)).heap[w.heap.size]? = some (.cells #[.int .i64 f0, .int .i64 f1, .slice A2 xs.length c2, .slice A3 ps.length c3, .slice A4 ss.length c4, .int .i64 f5] 30) := blk_new w _
  have d3' : (w.alloc (.cells #[.int .i64 f0, .int .i64 f1, .slice A2 xs.length c2, .slice A3 ps.length c3, .slice A4 ss.length c4, .int .i64 f5] 30)).cell? ⟨w.heap.size, 2, none⟩ = some (.slice A2 xs.length c2) := blk_cell hP0 2
  have d4' : (w.alloc (.cells #[.int .i64 f0, .int .i64 f1, .slice A2 xs.length c2, .slice A3 ps.length c3, .slice A4 ss.length c4, .int .i64 f5] 30)).cell? ⟨w.heap.size, 3, none⟩ = some (.slice A3 ps.length c3) := blk_cell hP0 3
  have d5' : (w.alloc (.cells #[.int .i64 f0, .int .i64 f1, .slice A2 xs.length c2, .slice A3 ps.length c3, .slice A4 ss.length c4, .int .i64 f5] 30)).cell? ⟨w.heap.size, 4, none⟩ = some (.slice A4 ss.length c4) := blk_cell hP0 4
  have hB0 : Below w.heap.size w (w.alloc (.cells #[.int .i64 f0, .int .i64 f1, .slice A2 xs.length c2, .slice A3 ps.length c3, .slice A4 ss.length c4, .int .i64 f5] 30)) := below_alloc (Below.refl _ _) _
  have H := Aside0.mk h
  have HP0 := Aside0.mk hP0
  have HN := Aside0.mk hn
  clear h h2 h3 h4 hp hn
  go_enter Try.func42, Try.ntmps42
  go_wp2_with fail
  refine (wpIn_wide (n := 0)).1 ?_
  refine region_anyHT (fun W' => Below w.heap.size w W' ∧ W'.cell? ⟨w.heap.size, 2, none⟩ = some (.slice A2 xs.length c2) ∧ W'.cell? ⟨w.heap.size, 3, none⟩ = some (.slice A3 ps.length c3) ∧ W'.cell? ⟨w.heap.size, 4, none⟩ = some (.slice A4 ss.length c4) ∧ W'.heap[w.heap.size]? = some (.cells #[.int .i64 f0, .int .i64 f1, .slice A2 xs.length c2, .slice A3 ps.length c3, .slice A4 ss.length c4, .int .i64 f5] 30)) [10, 12, 14] (by kernel_rfl) (⟨below_drew hB0, d3', d4', d5', blk_drew hP0⟩) (fun hHeld => ?_)
  refine anyHT_pure (fun _ => trivial) (by kernel_rfl) (i := 0) (oi := { dst := some 16, op := Op.fieldAddr 30 (Operand.tmp 5) 2, type := 0, pos := "speaker.go:104", after := #[], guard := none }) (v := ?_) rfl (by kernel_rfl) (by kernel_rfl) (by kernel_rfl) (fun _ _ _ h => h) (Or.inl ⟨by rfl, ?_⟩) ?_
  rotate_left
  · (intro w _; go_simp <;> with_reducible rfl)
  try simp only [Act.put, List.setIfInBounds_toArray, List.set_cons_zero, List.set_cons_succ]
  refine anyHT_take (fun _ => trivial) (by kernel_rfl) [2, 5, 8, 9, 10, 11, 12, 13, 14] (i := 1) (oi := { dst := some 17, op := Op.load 22 (Operand.tmp 16), type := 22, pos := "speaker.go:104", after := #[{ on := 0, ground := Ground.data }], guard := none }) (v := ?_) rfl (by kernel_rfl) (by kernel_rfl) (by kernel_rfl) (by kernel_rfl) (by kernel_rfl) (by decide) (fun _ _ _ h => h) (Or.inl ⟨by rfl, ?_⟩) hHeld ?_
  rotate_left
  · (intro w hSw; (try dsimp only at hSw); go_simp <;> with_reducible rfl)
  try simp only [Act.put, List.setIfInBounds_toArray, List.set_cons_zero, List.set_cons_succ]
  refine anyHT_pure (fun _ => trivial) (by kernel_rfl) (i := 3) (oi := { dst := some 19, op := Op.fieldAddr 30 (Operand.tmp 5) 3, type := 0, pos := "speaker.go:104", after := #[], guard := none }) (v := ?_) rfl (by kernel_rfl) (by kernel_rfl) (by kernel_rfl) (fun _ _ _ h => h) (Or.inl ⟨by rfl, ?_⟩) ?_
  rotate_left
  · (intro w _; go_simp <;> with_reducible rfl)
  try simp only [Act.put, List.setIfInBounds_toArray, List.set_cons_zero, List.set_cons_succ]
  refine anyHT_take (fun _ => trivial) (by kernel_rfl) [5, 8, 9, 10, 11, 12, 13, 14] (i := 4) (oi := { dst := some 20, op := Op.load 22 (Operand.tmp 19), type := 22, pos := "speaker.go:104", after := #[{ on := 3, ground := Ground.data }], guard := none }) (v := ?_) rfl (by kernel_rfl) (by kernel_rfl) (by kernel_rfl) (by kernel_rfl) (by kernel_rfl) (by decide) (fun _ _ _ h => h) (Or.inl ⟨by rfl, ?_⟩) hHeld ?_
  rotate_left
  · (intro w hSw; (try dsimp only at hSw); go_simp <;> with_reducible rfl)
  try simp only [Act.put, List.setIfInBounds_toArray, List.set_cons_zero, List.set_cons_succ]
  refine anyHT_pure (fun _ => trivial) (by kernel_rfl) (i := 6) (oi := { dst := some 22, op := Op.fieldAddr 30 (Operand.tmp 5) 4, type := 0, pos := "speaker.go:104", after := #[], guard := none }) (v := ?_) rfl (by kernel_rfl) (by kernel_rfl) (by kernel_rfl) (fun _ _ _ h => h) (Or.inl ⟨by rfl, ?_⟩) ?_
  rotate_left
  · (intro w _; go_simp <;> with_reducible rfl)
  try simp only [Act.put, List.setIfInBounds_toArray, List.set_cons_zero, List.set_cons_succ]
  refine anyHT_take (fun _ => trivial) (by kernel_rfl) [8, 9, 10, 11, 12, 13, 14] (i := 7) (oi := { dst := some 23, op := Op.load 28 (Operand.tmp 22), type := 28, pos := "speaker.go:104", after := #[{ on := 6, ground := Ground.data }], guard := none }) (v := ?_) rfl (by kernel_rfl) (by kernel_rfl) (by kernel_rfl) (by kernel_rfl) (by kernel_rfl) (by decide) (fun _ _ _ h => h) (Or.inl ⟨by rfl, ?_⟩) hHeld ?_
  rotate_left
  · (intro w hSw; (try dsimp only at hSw); go_simp <;> with_reducible rfl)
  try simp only [Act.put, List.setIfInBounds_toArray, List.set_cons_zero, List.set_cons_succ]
  refine anyHT_one (i := 2) (o := { dst := some 18, op := Op.call { callee := Callee.value (Operand.func 57), args := #[Operand.tmp 17], argTypes := #[22] }, type := 22, pos := "speaker.go:104", after := #[{ on := 1, ground := Ground.data }], guard := none }) (by kernel_rfl) rfl (by rfl) (fun K hK => ?_)
  go_simp
  refine ⟨trivial, rfl, ?_⟩
  refine (callsIn_wide.2 (HC2.out _ hHeld.1)).mono ?_
  rintro e w1 ⟨v2, rfl, o2, hb1⟩
  refine hK.out _ _ (fun _ hSw => ⟨below_trans' hSw.1 hb1, pw_cell_below hb1 hSw.2.1, pw_cell_below hb1 hSw.2.2.1, pw_cell_below hb1 hSw.2.2.2.1, pw_blk_below hSw.2.2.2.2 hb1⟩) ?_
  replace hHeld : (fun (W' : World) => Below w.heap.size w W' ∧ W'.cell? ⟨w.heap.size, 2, none⟩ = some (.slice A2 xs.length c2) ∧ W'.cell? ⟨w.heap.size, 3, none⟩ = some (.slice A3 ps.length c3) ∧ W'.cell? ⟨w.heap.size, 4, none⟩ = some (.slice A4 ss.length c4) ∧ W'.heap[w.heap.size]? = some (.cells #[.int .i64 f0, .int .i64 f1, .slice A2 xs.length c2, .slice A3 ps.length c3, .slice A4 ss.length c4, .int .i64 f5] 30)) _ := (fun (hSw : (fun (W' : World) => Below w.heap.size w W' ∧ W'.cell? ⟨w.heap.size, 2, none⟩ = some (.slice A2 xs.length c2) ∧ W'.cell? ⟨w.heap.size, 3, none⟩ = some (.slice A3 ps.length c3) ∧ W'.cell? ⟨w.heap.size, 4, none⟩ = some (.slice A4 ss.length c4) ∧ W'.heap[w.heap.size]? = some (.cells #[.int .i64 f0, .int .i64 f1, .slice A2 xs.length c2, .slice A3 ps.length c3, .slice A4 ss.length c4, .int .i64 f5] 30)) _) => ⟨below_trans' hSw.1 hb1, pw_cell_below hb1 hSw.2.1, pw_cell_below hb1 hSw.2.2.1, pw_cell_below hb1 hSw.2.2.2.1, pw_blk_below hSw.2.2.2.2 hb1⟩) hHeld
  clear hK K
  try simp only [Act.put, List.setIfInBounds_toArray, List.set_cons_zero, List.set_cons_succ]
  refine anyHT_pure (fun _ => trivial) (by kernel_rfl) (i := 9) (oi := { dst := some 25, op := Op.fieldAddr 30 (Operand.tmp 5) 2, type := 0, pos := "speaker.go:104", after := #[{ on := 0, ground := Ground.phase }, { on := 1, ground := Ground.phase }, { on := 2, ground := Ground.phase }, { on := 3, ground := Ground.phase }, { on := 4, ground := Ground.phase }, { on := 5, ground := Ground.textOnly Departure.lateStoresUnsure }, { on := 6, ground := Ground.phase }, { on := 7, ground := Ground.phase }, { on := 8, ground := Ground.textOnly Departure.lateStoresUnsure }], guard := none }) (v := ?_) rfl (by kernel_rfl) (by kernel_rfl) (by kernel_rfl) (fun _ _ _ h => h) (Or.inl ⟨by rfl, ?_⟩) ?_
  rotate_left
  · (intro w _; go_simp <;> with_reducible rfl)
  try simp only [Act.put, List.setIfInBounds_toArray, List.set_cons_zero, List.set_cons_succ]
  refine anyHT_one (i := 5) (o := { dst := some 21, op := Op.call { callee := Callee.value (Operand.func 57), args := #[Operand.tmp 20], argTypes := #[22] }, type := 22, pos := "speaker.go:104", after := #[{ on := 4, ground := Ground.data }, { on := 2, ground := Ground.chain }], guard := none }) (by kernel_rfl) rfl (by rfl) (fun K hK => ?_)
  go_simp
  refine ⟨trivial, rfl, ?_⟩
  refine (callsIn_wide.2 (HC3.out _ hHeld.1)).mono ?_
  rintro e w2 ⟨v3, rfl, o3, hb2⟩
  refine hK.out _ _ (fun _ hSw => ⟨below_trans' hSw.1 hb2, pw_cell_below hb2 hSw.2.1, pw_cell_below hb2 hSw.2.2.1, pw_cell_below hb2 hSw.2.2.2.1, pw_blk_below hSw.2.2.2.2 hb2⟩) ?_
  replace hHeld : (fun (W' : World) => Below w.heap.size w W' ∧ W'.cell? ⟨w.heap.size, 2, none⟩ = some (.slice A2 xs.length c2) ∧ W'.cell? ⟨w.heap.size, 3, none⟩ = some (.slice A3 ps.length c3) ∧ W'.cell? ⟨w.heap.size, 4, none⟩ = some (.slice A4 ss.length c4) ∧ W'.heap[w.heap.size]? = some (.cells #[.int .i64 f0, .int .i64 f1, .slice A2 xs.length c2, .slice A3 ps.length c3, .slice A4 ss.length c4, .int .i64 f5] 30)) _ := (fun (hSw : (fun (W' : World) => Below w.heap.size w W' ∧ W'.cell? ⟨w.heap.size, 2, none⟩ = some (.slice A2 xs.length c2) ∧ W'.cell? ⟨w.heap.size, 3, none⟩ = some (.slice A3 ps.length c3) ∧ W'.cell? ⟨w.heap.size, 4, none⟩ = some (.slice A4 ss.length c4) ∧ W'.heap[w.heap.size]? = some (.cells #[.int .i64 f0, .int .i64 f1, .slice A2 xs.length c2, .slice A3 ps.length c3, .slice A4 ss.length c4, .int .i64 f5] 30)) _) => ⟨below_trans' hSw.1 hb2, pw_cell_below hb2 hSw.2.1, pw_cell_below hb2 hSw.2.2.1, pw_cell_below hb2 hSw.2.2.2.1, pw_blk_below hSw.2.2.2.2 hb2⟩) hHeld
  clear hK K
  try simp only [Act.put, List.setIfInBounds_toArray, List.set_cons_zero, List.set_cons_succ]
  refine anyHT_one (i := 8) (o := { dst := some 24, op := Op.call { callee := Callee.value (Operand.func 63), args := #[Operand.tmp 23], argTypes := #[28] }, type := 28, pos := "speaker.go:104", after := #[{ on := 7, ground := Ground.data }, { on := 5, ground := Ground.chain }], guard := none }) (by kernel_rfl) rfl (by rfl) (fun K hK => ?_)
  go_simp
  refine ⟨trivial, rfl, ?_⟩
  refine (callsIn_wide.2 (HC4.out _ hHeld.1)).mono ?_
  rintro e w3 ⟨v4, rfl, o4, hb3⟩
  refine hK.out _ _ (fun _ hSw => ⟨below_trans' hSw.1 hb3, pw_cell_below hb3 hSw.2.1, pw_cell_below hb3 hSw.2.2.1, pw_cell_below hb3 hSw.2.2.2.1, pw_blk_below hSw.2.2.2.2 hb3⟩) ?_
  replace hHeld : (fun (W' : World) => Below w.heap.size w W' ∧ W'.cell? ⟨w.heap.size, 2, none⟩ = some (.slice A2 xs.length c2) ∧ W'.cell? ⟨w.heap.size, 3, none⟩ = some (.slice A3 ps.length c3) ∧ W'.cell? ⟨w.heap.size, 4, none⟩ = some (.slice A4 ss.length c4) ∧ W'.heap[w.heap.size]? = some (.cells #[.int .i64 f0, .int .i64 f1, .slice A2 xs.length c2, .slice A3 ps.length c3, .slice A4 ss.length c4, .int .i64 f5] 30)) _ := (fun (hSw : (fun (W' : World) => Below w.heap.size w W' ∧ W'.cell? ⟨w.heap.size, 2, none⟩ = some (.slice A2 xs.length c2) ∧ W'.cell? ⟨w.heap.size, 3, none⟩ = some (.slice A3 ps.length c3) ∧ W'.cell? ⟨w.heap.size, 4, none⟩ = some (.slice A4 ss.length c4) ∧ W'.heap[w.heap.size]? = some (.cells #[.int .i64 f0, .int .i64 f1, .slice A2 xs.length c2, .slice A3 ps.length c3, .slice A4 ss.length c4, .int .i64 f5] 30)) _) => ⟨below_trans' hSw.1 hb3, pw_cell_below hb3 hSw.2.1, pw_cell_below hb3 hSw.2.2.1, pw_cell_below hb3 hSw.2.2.2.1, pw_blk_below hSw.2.2.2.2 hb3⟩) hHeld
  clear hK K
  try simp only [Act.put, List.setIfInBounds_toArray, List.set_cons_zero, List.set_cons_succ]
  refine anyHT_one (i := 10) (o := { dst := none, op := Op.store 22 (Operand.tmp 25) (Operand.tmp 18), type := 0, pos := "speaker.go:104", after := #[{ on := 9, ground := Ground.data }, { on := 2, ground := Ground.data }, { on := 8, ground := Ground.chain }, { on := 0, ground := Ground.phase }, { on := 1, ground := Ground.phase }, { on := 2, ground := Ground.phase }, { on := 3, ground := Ground.phase }, { on := 4, ground := Ground.phase }, { on := 5, ground := Ground.textOnly Departure.lateStoresUnsure }, { on := 6, ground := Ground.phase }, { on := 7, ground := Ground.phase }, { on := 8, ground := Ground.textOnly Departure.lateStoresUnsure }], guard := none }) (by kernel_rfl) rfl (by rfl) (fun K hK => ?_)
  have hP := hHeld.2.2.2.2
  have e2 : w3.cell? ⟨w.heap.size, 2, none⟩ = some (.slice A2 xs.length c2) := blk_cell hP 2
  have e3 : w3.cell? ⟨w.heap.size, 3, none⟩ = some (.slice A3 ps.length c3) := blk_cell hP 3
  have e4 : w3.cell? ⟨w.heap.size, 4, none⟩ = some (.slice A4 ss.length c4) := blk_cell hP 4
  have e5 : w3.frozen? ⟨w.heap.size, 2, none⟩ = false := blk_frozen hP 2
  have e6 : w3.frozen? ⟨w.heap.size, 3, none⟩ = false := blk_frozen hP 3
  have e7 : w3.frozen? ⟨w.heap.size, 4, none⟩ = false := blk_frozen hP 4
  obtain ⟨B2, d2, rfl⟩ := own_slice o2
  obtain ⟨B3, d3, rfl⟩ := own_slice o3
  obtain ⟨B4, d4, rfl⟩ := own_slice o4
  go_simp
  refine hK.out _ _ (fun h => absurd (by decide) h) ?_
  clear hK K
  try simp only [Act.put, List.setIfInBounds_toArray, List.set_cons_zero, List.set_cons_succ]
  refine anyHT_pure (fun _ => trivial) (by kernel_rfl) (i := 11) (oi := { dst := some 26, op := Op.fieldAddr 30 (Operand.tmp 5) 3, type := 0, pos := "speaker.go:104", after := #[{ on := 0, ground := Ground.phase }, { on := 1, ground := Ground.phase }, { on := 2, ground := Ground.phase }, { on := 3, ground := Ground.phase }, { on := 4, ground := Ground.phase }, { on := 5, ground := Ground.phase }, { on := 6, ground := Ground.phase }, { on := 7, ground := Ground.phase }, { on := 8, ground := Ground.textOnly Departure.lateStoresUnsure }, { on := 9, ground := Ground.phase }, { on := 10, ground := Ground.phase }], guard := none }) (v := ?_) rfl (by kernel_rfl) (by kernel_rfl) (by kernel_rfl) (fun _ _ _ h => h) (Or.inl ⟨by rfl, ?_⟩) ?_
  rotate_left
  · (intro w _; go_simp <;> with_reducible rfl)
  try simp only [Act.put, List.setIfInBounds_toArray, List.set_cons_zero, List.set_cons_succ]
  refine anyHT_one (i := 12) (o := { dst := none, op := Op.store 22 (Operand.tmp 26) (Operand.tmp 21), type := 0, pos := "speaker.go:104", after := #[{ on := 11, ground := Ground.data }, { on := 5, ground := Ground.data }, { on := 10, ground := Ground.chain }, { on := 0, ground := Ground.phase }, { on := 1, ground := Ground.phase }, { on := 2, ground := Ground.phase }, { on := 3, ground := Ground.phase }, { on := 4, ground := Ground.phase }, { on := 5, ground := Ground.phase }, { on := 6, ground := Ground.phase }, { on := 7, ground := Ground.phase }, { on := 8, ground := Ground.textOnly Departure.lateStoresUnsure }, { on := 9, ground := Ground.phase }, { on := 10, ground := Ground.phase }], guard := none }) (by kernel_rfl) rfl (by rfl) (fun K hK => ?_)
  go_simp
  refine hK.out _ _ (fun h => absurd (by decide) h) ?_
  clear hK K
  try simp only [Act.put, List.setIfInBounds_toArray, List.set_cons_zero, List.set_cons_succ]
  refine anyHT_pure (fun _ => trivial) (by kernel_rfl) (i := 13) (oi := { dst := some 27, op := Op.fieldAddr 30 (Operand.tmp 5) 4, type := 0, pos := "speaker.go:104", after := #[{ on := 0, ground := Ground.phase }, { on := 1, ground := Ground.phase }, { on := 2, ground := Ground.phase }, { on := 3, ground := Ground.phase }, { on := 4, ground := Ground.phase }, { on := 5, ground := Ground.phase }, { on := 6, ground := Ground.phase }, { on := 7, ground := Ground.phase }, { on := 8, ground := Ground.phase }, { on := 9, ground := Ground.phase }, { on := 10, ground := Ground.phase }, { on := 11, ground := Ground.phase }, { on := 12, ground := Ground.phase }], guard := none }) (v := ?_) rfl (by kernel_rfl) (by kernel_rfl) (by kernel_rfl) (fun _ _ _ h => h) (Or.inl ⟨by rfl, ?_⟩) ?_
  rotate_left
  · (intro w _; go_simp <;> with_reducible rfl)
  try simp only [Act.put, List.setIfInBounds_toArray, List.set_cons_zero, List.set_cons_succ]
  refine anyHT_one (i := 14) (o := { dst := none, op := Op.store 28 (Operand.tmp 27) (Operand.tmp 24), type := 0, pos := "speaker.go:104", after := #[{ on := 13, ground := Ground.data }, { on := 8, ground := Ground.data }, { on := 12, ground := Ground.chain }, { on := 0, ground := Ground.phase }, { on := 1, ground := Ground.phase }, { on := 2, ground := Ground.phase }, { on := 3, ground := Ground.phase }, { on := 4, ground := Ground.phase }, { on := 5, ground := Ground.phase }, { on := 6, ground := Ground.phase }, { on := 7, ground := Ground.phase }, { on := 8, ground := Ground.phase }, { on := 9, ground := Ground.phase }, { on := 10, ground := Ground.phase }, { on := 11, ground := Ground.phase }, { on := 12, ground := Ground.phase }], guard := none }) (by kernel_rfl) rfl (by rfl) (fun K hK => ?_)
  go_simp
  refine hK.out _ _ (fun h => absurd (by decide) h) ?_
  clear hK K
  try simp only [Act.put, List.setIfInBounds_toArray, List.set_cons_zero, List.set_cons_succ]
  refine anyHT_done (by kernel_rfl) ?_ _
  have hO2 := own_weak (pw_own_below (pw_own_below o2 hb2) hb3) (show w.heap.size ≤ _ from by simp)
  have hO3 := own_weak (pw_own_below o3 hb3) (show w.heap.size ≤ _ from Nat.le_trans (below_drew hB0).size hb1.size)
  have hO4 := own_weak o4 (show w.heap.size ≤ _ from Nat.le_trans (Nat.le_trans (below_drew hB0).size hb1.size) hb2.size)
  have hP3 := hHeld.2.2.2.2
  have hB3 := hHeld.1
  have hPa := blk_put hP3 2 (.slice B2 xs.length d2) rfl
  have hPb := blk_put hPa 3 (.slice B3 ps.length d3) rfl
  have hPc := blk_put hPb 4 (.slice B4 ss.length d4) rfl
  have hO2c := own_far (own_far (own_far hO2 (a := ⟨w.heap.size, 2, none⟩) (own_ne hO2 hP3 (by decide)) (.slice B2 xs.length d2)) (a := ⟨w.heap.size, 3, none⟩) (own_ne (own_far hO2 (a := ⟨w.heap.size, 2, none⟩) (own_ne hO2 hP3 (by decide)) (.slice B2 xs.length d2)) hPa (by decide)) (.slice B3 ps.length d3)) (a := ⟨w.heap.size, 4, none⟩) (own_ne hO2 hP3 (by decide)) (.slice B4 ss.length d4)
  have hO3c := own_far (own_far (own_far hO3 (a := ⟨w.heap.size, 2, none⟩) (own_ne hO3 hP3 (by decide)) (.slice B2 xs.length d2)) (a := ⟨w.heap.size, 3, none⟩) (own_ne hO3 hP3 (by decide)) (.slice B3 ps.length d3)) (a := ⟨w.heap.size, 4, none⟩) (own_ne hO3 hP3 (by decide)) (.slice B4 ss.length d4)
  have hO4c := own_far (own_far (own_far hO4 (a := ⟨w.heap.size, 2, none⟩) (own_ne hO4 hP3 (by decide)) (.slice B2 xs.length d2)) (a := ⟨w.heap.size, 3, none⟩) (own_ne hO4 hP3 (by decide)) (.slice B3 ps.length d3)) (a := ⟨w.heap.size, 4, none⟩) (own_ne hO4 hP3 (by decide)) (.slice B4 ss.length d4)
  have hBc := ((hB3.setCell (p := ⟨w.heap.size, 2, none⟩) (Nat.le_refl _) (.slice B2 xs.length d2)).setCell (p := ⟨w.heap.size, 3, none⟩) (Nat.le_refl _) (.slice B3 ps.length d3)).setCell (p := ⟨w.heap.size, 4, none⟩) (Nat.le_refl _) (.slice B4 ss.length d4)
  clear hHeld e2 e3 e4 e5 e6 e7 hP hPa hPb hP3 hB3 hO2 hO3 hO4 o2 o3 o4 hb1 hb2 hb3 hB0 d3' d4' d5' hP0 q1 q2 hdec hdec2 HC2 HC3 HC4
  generalize (((w3.setCell ⟨w.heap.size, 2, none⟩ (.slice B2 xs.length d2)).setCell ⟨w.heap.size, 3, none⟩ (.slice B3 ps.length d3)).setCell ⟨w.heap.size, 4, none⟩ (.slice B4 ss.length d4)) = X at *
  have x1 : X.cell? ⟨Bs, 1, none⟩ = some (.pointer (some ⟨Bl, 0, none⟩)) := blk_cell (pw_blk_below H.out.sp hBc) 1
  have x2 : X.cell? ⟨Bs, 2, none⟩ = some (.int .i64 s.number) := blk_cell (pw_blk_below H.out.sp hBc) 2
  have y0 : X.cell? ⟨w.heap.size, 0, none⟩ = some (.int .i64 f0) := blk_cell hPc 0
  have y1 : X.cell? ⟨w.heap.size, 1, none⟩ = some (.int .i64 f1) := blk_cell hPc 1
  have y2 : X.cell? ⟨w.heap.size, 2, none⟩ = some (.slice B2 xs.length d2) := blk_cell hPc 2
  have y3 : X.cell? ⟨w.heap.size, 3, none⟩ = some (.slice B3 ps.length d3) := blk_cell hPc 3
  have y4 : X.cell? ⟨w.heap.size, 4, none⟩ = some (.slice B4 ss.length d4) := blk_cell hPc 4
  have y5 : X.cell? ⟨w.heap.size, 5, none⟩ = some (.int .i64 f5) := blk_cell hPc 5
  have hXa : Below w.heap.size w (X.drew.alloc (.cells #[.int .i64 f0, .int .i64 f1, .slice B2 xs.length d2, .slice B3 ps.length d3, .slice B4 ss.length d4, .int .i64 f5, .int .i64 s.number, .int .i64 0] 122)) := below_alloc (below_drew hBc) _
  have hXX : Below X.heap.size X (X.drew.alloc (.cells #[.int .i64 f0, .int .i64 f1, .slice B2 xs.length d2, .slice B3 ps.length d3, .slice B4 ss.length d4, .int .i64 f5, .int .i64 s.number, .int .i64 0] 122)) := below_alloc (below_drew (Below.refl _ _)) _
  have hnew := fun (b : Nat) (hb : w.heap.size ≤ b) => newCls_new cls w.heap.size k hb
  have HS1 := (H.out.again (newCls_old cls w.heap.size k)).moved (W' := X.drew.alloc (.cells #[.int .i64 f0, .int .i64 f1, .slice B2 xs.length d2, .slice B3 ps.length d3, .slice B4 ss.length d4, .int .i64 f5, .int .i64 s.number, .int .i64 0] 122)) (fun b _ hl => hXa.block b hl)
  have HPA : PieceAt (newCls cls w.heap.size k) k (X.drew.alloc (.cells #[.int .i64 f0, .int .i64 f1, .slice B2 xs.length d2, .slice B3 ps.length d3, .slice B4 ss.length d4, .int .i64 f5, .int .i64 s.number, .int .i64 0] 122)) X.heap.size ⟨f0, f1, xs, ps, ss, f5⟩ s.number 0 :=
    ⟨hnew _ hBc.size, _, _, _, blk_new X.drew _, Dat.of_own eI_len eI_K (pw_own_below hO2c hXX) (fun b hb => hnew b (own_base hO2c b hb)), Dat.of_own eI_len eI_K (pw_own_below hO3c hXX) (fun b hb => hnew b (own_base hO3c b hb)), Dat.of_own e32_len e32_K (pw_own_below hO4c hXX) (fun b hb => hnew b (own_base hO4c b hb))⟩
  have hpb : X.heap.size ∉ nodes.map (·.2) := by
    intro hm
    obtain ⟨n, hn, e⟩ := List.mem_map.1 hm
    have := pieces_lt H.out.pieces n hn
    have := hBc.size
    omega
  have hcur : ∀ c, s.cur = some c → nowv ≠ .pointer (some ⟨X.heap.size, 0, none⟩) := by
    intro c hc e
    have hcu := H.out.cur
    rw [hc] at hcu
    obtain ⟨bn, _, _, _, e1, _, e3, _⟩ := hcu
    rw [e] at e1
    injection e1 with e1
    injection e1 with e1
    injection e1 with e1
    obtain ⟨_, _, _, h1, _⟩ := e3.ex
    have := blk_lt h1
    have := hBc.size
    omega
  have HI := Aside0.mk (insert_ok (newCls cls w.heap.size k) k _ Bs Bl Br Bg s nodes nowv said X.heap.size ⟨⟨f0, f1, xs, ps, ss, f5⟩, s.number, 0⟩ HS1 HPA hpb hcur (by omega))
  have HXa := Aside0.mk hXa
  have HXs := Aside0.mk hBc.size
  clear HS1 HPA hpb hcur hXa hXX hnew hO2c hO3c hO4c hPc hBc
  go_wp2_with fail
  refine (wpIn_wide (n := 0)).1 ?_
  refine region_anyHT (fun W' => W'.cell? ⟨Bs, 1, none⟩ = some (.pointer (some ⟨Bl, 0, none⟩)) ∧ W'.cell? ⟨Bs, 2, none⟩ = some (.int .i64 s.number) ∧ W'.cell? ⟨w.heap.size, 0, none⟩ = some (.int .i64 f0) ∧ W'.cell? ⟨w.heap.size, 1, none⟩ = some (.int .i64 f1) ∧ W'.cell? ⟨w.heap.size, 2, none⟩ = some (.slice B2 xs.length d2) ∧ W'.cell? ⟨w.heap.size, 3, none⟩ = some (.slice B3 ps.length d3) ∧ W'.cell? ⟨w.heap.size, 4, none⟩ = some (.slice B4 ss.length d4) ∧ W'.cell? ⟨w.heap.size, 5, none⟩ = some (.int .i64 f5)) [12] (by kernel_rfl) (⟨x1, x2, y0, y1, y2, y3, y4, y5⟩) (fun hHeld => ?_)
  refine anyHT_pure (fun _ => trivial) (by kernel_rfl) (i := 0) (oi := { dst := some 28, op := Op.move (Operand.tmp 0), type := 55, pos := "speaker.go:105", after := #[], guard := none }) (v := ?_) rfl (by kernel_rfl) (by kernel_rfl) (by kernel_rfl) (fun _ _ _ h => h) (Or.inl ⟨by rfl, ?_⟩) ?_
  rotate_left
  · (intro w _; go_simp <;> with_reducible rfl)
  try simp only [Act.put, List.setIfInBounds_toArray, List.set_cons_zero, List.set_cons_succ]
  refine anyHT_pure (fun _ => trivial) (by kernel_rfl) (i := 1) (oi := { dst := some 29, op := Op.nilCheck (Operand.tmp 28), type := 0, pos := "speaker.go:105", after := #[{ on := 0, ground := Ground.data }], guard := none }) (v := ?_) rfl (by kernel_rfl) (by kernel_rfl) (by kernel_rfl) (fun _ _ _ h => h) (Or.inl ⟨by rfl, ?_⟩) ?_
  rotate_left
  · (intro w _; go_simp <;> with_reducible rfl)
  try simp only [Act.put, List.setIfInBounds_toArray, List.set_cons_zero, List.set_cons_succ]
  refine anyHT_pure (fun _ => trivial) (by kernel_rfl) (i := 2) (oi := { dst := some 30, op := Op.fieldAddr 111 (Operand.tmp 29) 1, type := 0, pos := "speaker.go:105", after := #[{ on := 1, ground := Ground.data }], guard := none }) (v := ?_) rfl (by kernel_rfl) (by kernel_rfl) (by kernel_rfl) (fun _ _ _ h => h) (Or.inl ⟨by rfl, ?_⟩) ?_
  rotate_left
  · (intro w _; go_simp <;> with_reducible rfl)
  try simp only [Act.put, List.setIfInBounds_toArray, List.set_cons_zero, List.set_cons_succ]
  refine anyHT_take (fun _ => trivial) (by kernel_rfl) [12] (i := 3) (oi := { dst := some 31, op := Op.load 105 (Operand.tmp 30), type := 105, pos := "speaker.go:105", after := #[{ on := 2, ground := Ground.data }], guard := none }) (v := ?_) rfl (by kernel_rfl) (by kernel_rfl) (by kernel_rfl) (by kernel_rfl) (by kernel_rfl) (by decide) (fun _ _ _ h => h) (Or.inl ⟨by rfl, ?_⟩) hHeld ?_
  rotate_left
  · (intro w hSw; (try dsimp only at hSw); go_simp <;> with_reducible rfl)
  try simp only [Act.put, List.setIfInBounds_toArray, List.set_cons_zero, List.set_cons_succ]
  refine anyHT_pure (fun _ => trivial) (by kernel_rfl) (i := 4) (oi := { dst := some 32, op := Op.move (Operand.tmp 1), type := 113, pos := "speaker.go:105", after := #[], guard := none }) (v := ?_) rfl (by kernel_rfl) (by kernel_rfl) (by kernel_rfl) (fun _ _ _ h => h) (Or.inl ⟨by rfl, ?_⟩) ?_
  rotate_left
  · (intro w _; go_simp <;> with_reducible rfl)
  try simp only [Act.put, List.setIfInBounds_toArray, List.set_cons_zero, List.set_cons_succ]
  refine anyHT_take (fun _ => trivial) (by kernel_rfl) [10, 11, 12] (i := 5) (oi := { dst := some 33, op := Op.load 30 (Operand.tmp 5), type := 30, pos := "speaker.go:105", after := #[], guard := none }) (v := ?_) rfl (by kernel_rfl) (by kernel_rfl) (by kernel_rfl) (by kernel_rfl) (by kernel_rfl) (by decide) (fun _ _ _ h => h) (Or.inl ⟨by rfl, ?_⟩) hHeld ?_
  rotate_left
  · (intro w hSw; (try dsimp only at hSw); go_simp <;> with_reducible rfl)
  try simp only [Act.put, List.setIfInBounds_toArray, List.set_cons_zero, List.set_cons_succ]
  refine anyHT_pure (fun _ => trivial) (by kernel_rfl) (i := 6) (oi := { dst := some 34, op := Op.move (Operand.tmp 0), type := 55, pos := "speaker.go:105", after := #[], guard := none }) (v := ?_) rfl (by kernel_rfl) (by kernel_rfl) (by kernel_rfl) (fun _ _ _ h => h) (Or.inl ⟨by rfl, ?_⟩) ?_
  rotate_left
  · (intro w _; go_simp <;> with_reducible rfl)
  try simp only [Act.put, List.setIfInBounds_toArray, List.set_cons_zero, List.set_cons_succ]
  refine anyHT_pure (fun _ => trivial) (by kernel_rfl) (i := 7) (oi := { dst := some 35, op := Op.nilCheck (Operand.tmp 34), type := 0, pos := "speaker.go:105", after := #[{ on := 6, ground := Ground.data }], guard := none }) (v := ?_) rfl (by kernel_rfl) (by kernel_rfl) (by kernel_rfl) (fun _ _ _ h => h) (Or.inl ⟨by rfl, ?_⟩) ?_
  rotate_left
  · (intro w _; go_simp <;> with_reducible rfl)
  try simp only [Act.put, List.setIfInBounds_toArray, List.set_cons_zero, List.set_cons_succ]
  refine anyHT_pure (fun _ => trivial) (by kernel_rfl) (i := 8) (oi := { dst := some 36, op := Op.fieldAddr 111 (Operand.tmp 35) 2, type := 0, pos := "speaker.go:105", after := #[{ on := 7, ground := Ground.data }], guard := none }) (v := ?_) rfl (by kernel_rfl) (by kernel_rfl) (by kernel_rfl) (fun _ _ _ h => h) (Or.inl ⟨by rfl, ?_⟩) ?_
  rotate_left
  · (intro w _; go_simp <;> with_reducible rfl)
  try simp only [Act.put, List.setIfInBounds_toArray, List.set_cons_zero, List.set_cons_succ]
  refine anyHT_take (fun _ => trivial) (by kernel_rfl) [10, 11, 12] (i := 9) (oi := { dst := some 37, op := Op.load 3 (Operand.tmp 36), type := 3, pos := "speaker.go:105", after := #[{ on := 8, ground := Ground.data }], guard := none }) (v := ?_) rfl (by kernel_rfl) (by kernel_rfl) (by kernel_rfl) (by kernel_rfl) (by kernel_rfl) (by decide) (fun _ _ _ h => h) (Or.inl ⟨by rfl, ?_⟩) hHeld ?_
  rotate_left
  · (intro w hSw; (try dsimp only at hSw); go_simp <;> with_reducible rfl)
  try simp only [Act.put, List.setIfInBounds_toArray, List.set_cons_zero, List.set_cons_succ]
  refine anyHT_pure (fun _ => trivial) (by kernel_rfl) (i := 10) (oi := { dst := some 38, op := Op.build 122 #[(0, Operand.tmp 33), (1, Operand.tmp 37)], type := 122, pos := "speaker.go:105", after := #[{ on := 5, ground := Ground.data }, { on := 9, ground := Ground.data }], guard := none }) (v := ?_) rfl (by kernel_rfl) (by kernel_rfl) (by kernel_rfl) (fun _ _ _ h => h) (Or.inl ⟨by rfl, ?_⟩) ?_
  rotate_left
  · (intro w _; go_simp <;> with_reducible rfl)
  try simp only [Act.put, List.setIfInBounds_toArray, List.set_cons_zero, List.set_cons_succ]
  refine anyHT_one (i := 11) (o := { dst := some 39, op := Op.box 122 (Operand.tmp 38), type := 107, pos := "speaker.go:105", after := #[{ on := 10, ground := Ground.data }], guard := none }) (by kernel_rfl) rfl (by rfl) (fun K hK => ?_)
  have hbA := below_alloc (Below.refl X.drew.heap.size X.drew) (.cells #[.int .i64 f0, .int .i64 f1, .slice B2 xs.length d2, .slice B3 ps.length d3, .slice B4 ss.length d4, .int .i64 f5, .int .i64 s.number, .int .i64 0] 122)
  go_simp
  refine hK.out _ _ (fun _ hSw => ⟨pw_cell_below hbA hSw.1, pw_cell_below hbA hSw.2.1, pw_cell_below hbA hSw.2.2.1, pw_cell_below hbA hSw.2.2.2.1, pw_cell_below hbA hSw.2.2.2.2.1, pw_cell_below hbA hSw.2.2.2.2.2.1, pw_cell_below hbA hSw.2.2.2.2.2.2.1, pw_cell_below hbA hSw.2.2.2.2.2.2.2⟩) ?_
  replace hHeld : (fun (W' : World) => W'.cell? ⟨Bs, 1, none⟩ = some (.pointer (some ⟨Bl, 0, none⟩)) ∧ W'.cell? ⟨Bs, 2, none⟩ = some (.int .i64 s.number) ∧ W'.cell? ⟨w.heap.size, 0, none⟩ = some (.int .i64 f0) ∧ W'.cell? ⟨w.heap.size, 1, none⟩ = some (.int .i64 f1) ∧ W'.cell? ⟨w.heap.size, 2, none⟩ = some (.slice B2 xs.length d2) ∧ W'.cell? ⟨w.heap.size, 3, none⟩ = some (.slice B3 ps.length d3) ∧ W'.cell? ⟨w.heap.size, 4, none⟩ = some (.slice B4 ss.length d4) ∧ W'.cell? ⟨w.heap.size, 5, none⟩ = some (.int .i64 f5)) _ := (fun (hSw : (fun (W' : World) => W'.cell? ⟨Bs, 1, none⟩ = some (.pointer (some ⟨Bl, 0, none⟩)) ∧ W'.cell? ⟨Bs, 2, none⟩ = some (.int .i64 s.number) ∧ W'.cell? ⟨w.heap.size, 0, none⟩ = some (.int .i64 f0) ∧ W'.cell? ⟨w.heap.size, 1, none⟩ = some (.int .i64 f1) ∧ W'.cell? ⟨w.heap.size, 2, none⟩ = some (.slice B2 xs.length d2) ∧ W'.cell? ⟨w.heap.size, 3, none⟩ = some (.slice B3 ps.length d3) ∧ W'.cell? ⟨w.heap.size, 4, none⟩ = some (.slice B4 ss.length d4) ∧ W'.cell? ⟨w.heap.size, 5, none⟩ = some (.int .i64 f5)) _) => ⟨pw_cell_below hbA hSw.1, pw_cell_below hbA hSw.2.1, pw_cell_below hbA hSw.2.2.1, pw_cell_below hbA hSw.2.2.2.1, pw_cell_below hbA hSw.2.2.2.2.1, pw_cell_below hbA hSw.2.2.2.2.2.1, pw_cell_below hbA hSw.2.2.2.2.2.2.1, pw_cell_below hbA hSw.2.2.2.2.2.2.2⟩) hHeld
  clear hK K
  try simp only [Act.put, List.setIfInBounds_toArray, List.set_cons_zero, List.set_cons_succ]
  refine anyHT_one (i := 12) (o := { dst := some 40, op := Op.call { callee := Callee.value (Operand.func 64), args := #[Operand.tmp 31, Operand.tmp 32, Operand.tmp 39], argTypes := #[105, 113, 107] }, type := 0, pos := "speaker.go:105", after := #[{ on := 3, ground := Ground.data }, { on := 4, ground := Ground.data }, { on := 11, ground := Ground.data }], guard := none }) (by kernel_rfl) rfl (by rfl) (fun K hK => ?_)
  go_simp
  refine ⟨trivial, rfl, ?_⟩
  refine (callsIn_wide.2 HI.out).mono ?_
  rintro e w4 ⟨⟨u4, rfl⟩, hsp4, hk4⟩
  refine hK.out _ _ (fun h => absurd (by decide) h) ?_
  clear hK K
  try simp only [Act.put, List.setIfInBounds_toArray, List.set_cons_zero, List.set_cons_succ]
  refine anyHT_done (by kernel_rfl) ?_ _
  rw [newCls_again cls k (show w.heap.size ≤ _ from by have := HXs.out; simp; omega)] at hsp4
  have hkk : Keeps (fun b => cls b ≠ k) w w4 := by
    have hk1 : Keeps (fun b => cls b ≠ k) w _ := .of_below HXa.out
    refine ⟨hk4.os.trans hk1.os, hk4.tape.trans hk1.tape, hk4.output.trans hk1.output, Nat.le_trans hk1.size hk4.size, fun b hb hl => ?_⟩
    refine (hk4.block b (fun e => hb ?_) (Nat.lt_of_lt_of_le hl hk1.size)).trans (hk1.block b hb hl)
    rw [newCls_old _ _ _ b hl] at e
    exact e
  have z0 : w4.cell? ⟨Bs, 2, none⟩ = some (.int .i64 s.number) := blk_cell hsp4.sp 2
  have z1 : w4.frozen? ⟨Bs, 2, none⟩ = false := blk_frozen hsp4.sp 2
  obtain ⟨n1, n2⟩ := HN.out
  have HS4 : Aside0 (SpAt (newCls cls w.heap.size k) k (w4.setCell ⟨Bs, 2, none⟩ (.int .i64 (s.number + 1))) Bs Bl Br Bg { s with q := s.q ++ [⟨⟨f0, f1, xs, ps, ss, f5⟩, s.number, 0⟩], number := s.number + 1 }) :=
    ⟨_, _, _, hsp4.spk (s' := { s with q := s.q ++ [⟨⟨f0, f1, xs, ps, ss, f5⟩, s.number, 0⟩], number := s.number + 1 }) (blk_put hsp4.sp 2 (.int .i64 (s.number + 1)) rfl) (fun b hb => Below.heap_setCell _ _ _ _ hb) rfl hsp4.cur⟩
  have HK4 : Aside0 (Keeps (fun b => cls b ≠ k) w (w4.setCell ⟨Bs, 2, none⟩ (.int .i64 (s.number + 1)))) := ⟨hkk.setCell (fun _ h => h H.out.kl.1) _⟩
  clear hHeld hsp4 hk4 hkk HI HXa HXs H HP0 HN x1 x2 y0 y1 y2 y3 y4 y5
  go_wp2
  go_ret2
  exact ⟨rfl, HS4.out, HK4.out⟩

set_option maxHeartbeats 8000000 in
/-- A piece is laid into the queue. -/
theorem Queue_ok (cls : Nat → Nat) (k : Nat) (w : World) (Bs Bl Br Bg : Nat) (s : Sp) (A2 A3 A4 : Option Addr) (c2 c3 c4 : Nat) (p : S30)
    (h : SpAt cls k w Bs Bl Br Bg s) (hq : s.q.length < 200) (hn : 0 ≤ s.number ∧ s.number ≤ 1000000000)
    (h2 : Kd.C (Kd.int .i64) w A2 p.f2.length p.f2) (h3 : Kd.C (Kd.int .i64) w A3 p.f3.length p.f3) (h4 : Kd.C k32 w A4 p.f4.length p.f4) (hp : okPiece p) :
    Calls Try.prog 19 #[.pointer (some ⟨Bs, 0, none⟩), .agg #[.int .i64 p.f0, .int .i64 p.f1, .slice A2 p.f2.length c2, .slice A3 p.f3.length c3, .slice A4 p.f4.length c4, .int .i64 p.f5]] w fun e w' =>
      e = .returned (.tuple #[.int .i64 s.number, .int .i64 0]) ∧ SpAt (newCls cls w.heap.size k) k w' Bs Bl Br Bg { s with q := s.q ++ [⟨p, s.number, 0⟩], number := s.number + 1 } ∧ Keeps (fun b => cls b ≠ k) w w' := by
  obtain ⟨nodes, nowv, said, h⟩ := h
  have HV := Aside0.mk (fun (W : World) (hb : Below w.heap.size w W) => valid_ok A2 A3 A4 c2 c3 c4 p W (Kd.C_below h2 hb) (Kd.C_below h3 hb) (Kd.C_below h4 hb) hp)
  have HD := Aside0.mk (fun (W : World) (hb : Below w.heap.size w W) => add_ok (newCls cls w.heap.size k) k W Bs Bl Br Bg s nodes nowv said A2 A3 A4 c2 c3 c4 p ((h.again (newCls_old cls w.heap.size k)).moved (fun b _ hl => hb.block b hl)) hq hn (Kd.C_below h2 hb) (Kd.C_below h3 hb) (Kd.C_below h4 hb) hp)
  obtain ⟨f0, f1, xs, ps, ss, f5⟩ := p
  dsimp only at *
  have HR := Aside0.mk (fun (W : World) (hb : Below w.heap.size w W) => ready_sp Bs Bl W (pw_blk_below h.sp hb) rfl)
  have H := Aside0.mk h
  clear h h2 h3 h4 hp hn
  have hB0 : Below w.heap.size w (w.alloc (.cells #[.int .i64 f0, .int .i64 f1, .slice A2 xs.length c2, .slice A3 ps.length c3, .slice A4 ss.length c4, .int .i64 f5] 30)) := below_alloc (Below.refl _ _) _
  have hP0 : (w.alloc (.cells #[.int .i64 f0, .int .i64 f1, .slice A2 xs.length c2, .slice A3 ps.length c3, .slice A4 ss.length c4, .int .i64 f5] 30)).heap[w.heap.size]? = some (.cells #[.int .i64 f0, .int .i64 f1, .slice A2 xs.length c2, .slice A3 ps.length c3, .slice A4 ss.length c4, .int .i64 f5] 30) := blk_new w _
  have HB0 := Aside0.mk hB0
  have HP0 := Aside0.mk hP0
  clear hB0 hP0
  go_enter Try.func19, Try.ntmps19
  go_wp2_with fail
  refine (HR.out _ HB0.out).mono ?_
  rintro e w1 ⟨rfl, n1, rfl⟩
  have hB1 := pw_below_drewN HB0.out n1
  have hP1 := blk_drewN HP0.out n1
  generalize ((w.alloc (.cells #[.int .i64 f0, .int .i64 f1, .slice A2 xs.length c2, .slice A3 ps.length c3, .slice A4 ss.length c4, .int .i64 f5] 30)).drewN n1) = X1 at *
  have u0 : X1.cell? ⟨w.heap.size, 0, none⟩ = some (.int .i64 f0) := blk_cell hP1 0
  have u1 : X1.cell? ⟨w.heap.size, 1, none⟩ = some (.int .i64 f1) := blk_cell hP1 1
  have u2 : X1.cell? ⟨w.heap.size, 2, none⟩ = some (.slice A2 xs.length c2) := blk_cell hP1 2
  have u3 : X1.cell? ⟨w.heap.size, 3, none⟩ = some (.slice A3 ps.length c3) := blk_cell hP1 3
  have u4 : X1.cell? ⟨w.heap.size, 4, none⟩ = some (.slice A4 ss.length c4) := blk_cell hP1 4
  have u5 : X1.cell? ⟨w.heap.size, 5, none⟩ = some (.int .i64 f5) := blk_cell hP1 5
  have HB1 := Aside0.mk hB1
  have HP1 := Aside0.mk hP1
  clear hB1 hP1 HB0 HP0
  go_wp2_with fail
  refine (HV.out _ HB1.out).mono ?_
  rintro e X ⟨rfl, hb2⟩
  have hB2 := below_trans' HB1.out hb2
  have hP2 := pw_blk_below HP1.out hb2
  clear hb2 u0 u1 u2 u3 u4 u5 HB1 HP1
  have x1 : X.cell? ⟨Bs, 1, none⟩ = some (.pointer (some ⟨Bl, 0, none⟩)) := blk_cell (pw_blk_below H.out.sp hB2) 1
  have x2 : X.cell? ⟨Bl, 0, none⟩ = some (.pointer (some ⟨Br, 0, none⟩)) := blk_cell (pw_blk_below H.out.li hB2) 0
  have y0 : X.cell? ⟨w.heap.size, 0, none⟩ = some (.int .i64 f0) := blk_cell hP2 0
  have y1 : X.cell? ⟨w.heap.size, 1, none⟩ = some (.int .i64 f1) := blk_cell hP2 1
  have y2 : X.cell? ⟨w.heap.size, 2, none⟩ = some (.slice A2 xs.length c2) := blk_cell hP2 2
  have y3 : X.cell? ⟨w.heap.size, 3, none⟩ = some (.slice A3 ps.length c3) := blk_cell hP2 3
  have y4 : X.cell? ⟨w.heap.size, 4, none⟩ = some (.slice A4 ss.length c4) := blk_cell hP2 4
  have y5 : X.cell? ⟨w.heap.size, 5, none⟩ = some (.int .i64 f5) := blk_cell hP2 5
  have HA := Aside0.mk (HD.out X.drew (below_drew hB2))
  have HB2 := Aside0.mk (below_drew hB2)
  clear hB2 hP2 HD
  go_wp2_with fail
  refine (wpIn_wide (n := 0)).1 ?_
  refine region_anyHT (fun W' => W'.cell? ⟨Bs, 1, none⟩ = some (.pointer (some ⟨Bl, 0, none⟩)) ∧ W'.cell? ⟨Bl, 0, none⟩ = some (.pointer (some ⟨Br, 0, none⟩)) ∧ W'.cell? ⟨w.heap.size, 0, none⟩ = some (.int .i64 f0) ∧ W'.cell? ⟨w.heap.size, 1, none⟩ = some (.int .i64 f1) ∧ W'.cell? ⟨w.heap.size, 2, none⟩ = some (.slice A2 xs.length c2) ∧ W'.cell? ⟨w.heap.size, 3, none⟩ = some (.slice A3 ps.length c3) ∧ W'.cell? ⟨w.heap.size, 4, none⟩ = some (.slice A4 ss.length c4) ∧ W'.cell? ⟨w.heap.size, 5, none⟩ = some (.int .i64 f5)) [9] (by kernel_rfl) (⟨x1, x2, y0, y1, y2, y3, y4, y5⟩) (fun hHeld => ?_)
  refine anyHT_pure (fun _ => trivial) (by kernel_rfl) (i := 0) (oi := { dst := some 14, op := Op.move (Operand.tmp 0), type := 55, pos := "speaker.go:118", after := #[], guard := none }) (v := ?_) rfl (by kernel_rfl) (by kernel_rfl) (by kernel_rfl) (fun _ _ _ h => h) (Or.inl ⟨by rfl, ?_⟩) ?_
  rotate_left
  · (intro w _; go_simp <;> with_reducible rfl)
  try simp only [Act.put, List.setIfInBounds_toArray, List.set_cons_zero, List.set_cons_succ]
  refine anyHT_pure (fun _ => trivial) (by kernel_rfl) (i := 1) (oi := { dst := some 15, op := Op.move (Operand.tmp 0), type := 55, pos := "speaker.go:118", after := #[], guard := none }) (v := ?_) rfl (by kernel_rfl) (by kernel_rfl) (by kernel_rfl) (fun _ _ _ h => h) (Or.inl ⟨by rfl, ?_⟩) ?_
  rotate_left
  · (intro w _; go_simp <;> with_reducible rfl)
  try simp only [Act.put, List.setIfInBounds_toArray, List.set_cons_zero, List.set_cons_succ]
  refine anyHT_pure (fun _ => trivial) (by kernel_rfl) (i := 2) (oi := { dst := some 16, op := Op.nilCheck (Operand.tmp 15), type := 0, pos := "speaker.go:118", after := #[{ on := 1, ground := Ground.data }], guard := none }) (v := ?_) rfl (by kernel_rfl) (by kernel_rfl) (by kernel_rfl) (fun _ _ _ h => h) (Or.inl ⟨by rfl, ?_⟩) ?_
  rotate_left
  · (intro w _; go_simp <;> with_reducible rfl)
  try simp only [Act.put, List.setIfInBounds_toArray, List.set_cons_zero, List.set_cons_succ]
  refine anyHT_pure (fun _ => trivial) (by kernel_rfl) (i := 3) (oi := { dst := some 17, op := Op.fieldAddr 111 (Operand.tmp 16) 1, type := 0, pos := "speaker.go:118", after := #[{ on := 2, ground := Ground.data }], guard := none }) (v := ?_) rfl (by kernel_rfl) (by kernel_rfl) (by kernel_rfl) (fun _ _ _ h => h) (Or.inl ⟨by rfl, ?_⟩) ?_
  rotate_left
  · (intro w _; go_simp <;> with_reducible rfl)
  try simp only [Act.put, List.setIfInBounds_toArray, List.set_cons_zero, List.set_cons_succ]
  refine anyHT_take (fun _ => trivial) (by kernel_rfl) [5, 6, 7, 9, 10, 11, 12, 13] (i := 4) (oi := { dst := some 18, op := Op.load 105 (Operand.tmp 17), type := 105, pos := "speaker.go:118", after := #[{ on := 3, ground := Ground.data }], guard := none }) (v := ?_) rfl (by kernel_rfl) (by kernel_rfl) (by kernel_rfl) (by kernel_rfl) (by kernel_rfl) (by decide) (fun _ _ _ h => h) (Or.inl ⟨by rfl, ?_⟩) hHeld ?_
  rotate_left
  · (intro w hSw; (try dsimp only at hSw); go_simp <;> with_reducible rfl)
  try simp only [Act.put, List.setIfInBounds_toArray, List.set_cons_zero, List.set_cons_succ]
  refine anyHT_pure (fun _ => trivial) (by kernel_rfl) (i := 5) (oi := { dst := some 19, op := Op.nilCheck (Operand.tmp 18), type := 0, pos := "speaker.go:118", after := #[{ on := 4, ground := Ground.data }], guard := none }) (v := ?_) rfl (by kernel_rfl) (by kernel_rfl) (by kernel_rfl) (fun _ _ _ h => h) (Or.inl ⟨by rfl, ?_⟩) ?_
  rotate_left
  · (intro w _; go_simp <;> with_reducible rfl)
  try simp only [Act.put, List.setIfInBounds_toArray, List.set_cons_zero, List.set_cons_succ]
  refine anyHT_pure (fun _ => trivial) (by kernel_rfl) (i := 6) (oi := { dst := some 20, op := Op.fieldAddr 115 (Operand.tmp 19) 0, type := 0, pos := "speaker.go:118", after := #[{ on := 5, ground := Ground.data }], guard := none }) (v := ?_) rfl (by kernel_rfl) (by kernel_rfl) (by kernel_rfl) (fun _ _ _ h => h) (Or.inl ⟨by rfl, ?_⟩) ?_
  rotate_left
  · (intro w _; go_simp <;> with_reducible rfl)
  try simp only [Act.put, List.setIfInBounds_toArray, List.set_cons_zero, List.set_cons_succ]
  refine anyHT_take (fun _ => trivial) (by kernel_rfl) [9, 10, 11, 12, 13] (i := 7) (oi := { dst := some 21, op := Op.load 113 (Operand.tmp 20), type := 113, pos := "speaker.go:118", after := #[{ on := 6, ground := Ground.data }], guard := none }) (v := ?_) rfl (by kernel_rfl) (by kernel_rfl) (by kernel_rfl) (by kernel_rfl) (by kernel_rfl) (by decide) (fun _ _ _ h => h) (Or.inl ⟨by rfl, ?_⟩) hHeld ?_
  rotate_left
  · (intro w hSw; (try dsimp only at hSw); go_simp <;> with_reducible rfl)
  try simp only [Act.put, List.setIfInBounds_toArray, List.set_cons_zero, List.set_cons_succ]
  refine anyHT_take (fun _ => trivial) (by kernel_rfl) [9, 10, 11, 12, 13] (i := 8) (oi := { dst := some 22, op := Op.load 30 (Operand.tmp 3), type := 30, pos := "speaker.go:118", after := #[], guard := none }) (v := ?_) rfl (by kernel_rfl) (by kernel_rfl) (by kernel_rfl) (by kernel_rfl) (by kernel_rfl) (by decide) (fun _ _ _ h => h) (Or.inl ⟨by rfl, ?_⟩) hHeld ?_
  rotate_left
  · (intro w hSw; (try dsimp only at hSw); go_simp <;> with_reducible rfl)
  try simp only [Act.put, List.setIfInBounds_toArray, List.set_cons_zero, List.set_cons_succ]
  refine anyHT_one (i := 9) (o := { dst := some 23, op := Op.call { callee := Callee.value (Operand.func 42), args := #[Operand.tmp 14, Operand.tmp 21, Operand.tmp 22], argTypes := #[55, 113, 30] }, type := 51, pos := "speaker.go:118", after := #[{ on := 0, ground := Ground.data }, { on := 7, ground := Ground.data }, { on := 8, ground := Ground.data }], guard := none }) (by kernel_rfl) rfl (by rfl) (fun K hK => ?_)
  go_simp
  refine ⟨trivial, rfl, ?_⟩
  refine (callsIn_wide.2 HA.out).mono ?_
  rintro e w4 ⟨rfl, hsp4, hk4⟩
  refine hK.out _ _ (fun h => absurd (by decide) h) ?_
  clear hK K
  try simp only [Act.put, List.setIfInBounds_toArray, List.set_cons_zero, List.set_cons_succ]
  refine anyHT_pure (fun _ => trivial) (by kernel_rfl) (i := 10) (oi := { dst := some 24, op := Op.extract (Operand.tmp 23) 0, type := 3, pos := "speaker.go:118", after := #[{ on := 9, ground := Ground.data }], guard := none }) (v := ?_) rfl (by kernel_rfl) (by kernel_rfl) (by kernel_rfl) (fun _ _ _ h => h) (Or.inl ⟨by rfl, ?_⟩) ?_
  rotate_left
  · (intro w _; go_simp <;> with_reducible rfl)
  try simp only [Act.put, List.setIfInBounds_toArray, List.set_cons_zero, List.set_cons_succ]
  refine anyHT_pure (fun _ => trivial) (by kernel_rfl) (i := 11) (oi := { dst := some 25, op := Op.extract (Operand.tmp 23) 1, type := 25, pos := "speaker.go:118", after := #[{ on := 9, ground := Ground.data }], guard := none }) (v := ?_) rfl (by kernel_rfl) (by kernel_rfl) (by kernel_rfl) (fun _ _ _ h => h) (Or.inl ⟨by rfl, ?_⟩) ?_
  rotate_left
  · (intro w _; go_simp <;> with_reducible rfl)
  try simp only [Act.put, List.setIfInBounds_toArray, List.set_cons_zero, List.set_cons_succ]
  refine anyHT_pure (fun _ => trivial) (by kernel_rfl) (i := 12) (oi := { dst := some 4, op := Op.assign (Operand.tmp 24), type := 3, pos := "speaker.go:118", after := #[{ on := 10, ground := Ground.data }, { on := 9, ground := Ground.chain }, { on := 0, ground := Ground.phase }, { on := 1, ground := Ground.phase }, { on := 2, ground := Ground.phase }, { on := 3, ground := Ground.phase }, { on := 4, ground := Ground.phase }, { on := 5, ground := Ground.phase }, { on := 6, ground := Ground.phase }, { on := 7, ground := Ground.phase }, { on := 8, ground := Ground.phase }, { on := 9, ground := Ground.phase }, { on := 10, ground := Ground.phase }, { on := 11, ground := Ground.phase }], guard := none }) (v := ?_) rfl (by kernel_rfl) (by kernel_rfl) (by kernel_rfl) (fun _ _ _ h => h) (Or.inl ⟨by rfl, ?_⟩) ?_
  rotate_left
  · (intro w _; go_simp <;> with_reducible rfl)
  try simp only [Act.put, List.setIfInBounds_toArray, List.set_cons_zero, List.set_cons_succ]
  refine anyHT_pure (fun _ => trivial) (by kernel_rfl) (i := 13) (oi := { dst := some 5, op := Op.assign (Operand.tmp 25), type := 25, pos := "speaker.go:118", after := #[{ on := 11, ground := Ground.data }, { on := 12, ground := Ground.chain }, { on := 0, ground := Ground.phase }, { on := 1, ground := Ground.phase }, { on := 2, ground := Ground.phase }, { on := 3, ground := Ground.phase }, { on := 4, ground := Ground.phase }, { on := 5, ground := Ground.phase }, { on := 6, ground := Ground.phase }, { on := 7, ground := Ground.phase }, { on := 8, ground := Ground.phase }, { on := 9, ground := Ground.phase }, { on := 10, ground := Ground.phase }, { on := 11, ground := Ground.phase }, { on := 12, ground := Ground.phase }], guard := none }) (v := ?_) rfl (by kernel_rfl) (by kernel_rfl) (by kernel_rfl) (fun _ _ _ h => h) (Or.inl ⟨by rfl, ?_⟩) ?_
  rotate_left
  · (intro w _; go_simp <;> with_reducible rfl)
  try simp only [Act.put, List.setIfInBounds_toArray, List.set_cons_zero, List.set_cons_succ]
  refine anyHT_done (by kernel_rfl) ?_ _
  rw [newCls_again cls k HB2.out.size] at hsp4
  have HS4 := Aside0.mk hsp4
  have HK4 : Aside0 (Keeps (fun b => cls b ≠ k) w w4) := ⟨by
    have hk1 : Keeps (fun b => cls b ≠ k) w X.drew := .of_below HB2.out
    refine ⟨hk4.os.trans hk1.os, hk4.tape.trans hk1.tape, hk4.output.trans hk1.output, Nat.le_trans hk1.size hk4.size, fun b hb hl => ?_⟩
    refine (hk4.block b (fun e => hb ?_) (Nat.lt_of_lt_of_le hl hk1.size)).trans (hk1.block b hb hl)
    rw [newCls_old _ _ _ b hl] at e
    exact e⟩
  clear hHeld hsp4 hk4 HA HB2 H x1 x2 y0 y1 y2 y3 y4 y5 HV HR
  go_wp2
  go_ret2
  exact ⟨rfl, HS4.out, HK4.out⟩
end Go.Proofs.Ytoodagohkepcpaa
