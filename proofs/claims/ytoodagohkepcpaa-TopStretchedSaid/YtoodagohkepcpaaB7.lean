/- The law of slow speech: the walk. -/
import Derived.Test.YtoodagohkepcpaaB3
import Derived.Test.YtoodagohkepcpaaB6
namespace Go.Proofs.Ytoodagohkepcpaa
open Go.RowKit Go.Shelf Go.Proofs.YtoodagohkepcpaaW.PrintWords

theorem signs_take (ms : List Int) {j : Nat} (h : j < ms.length) : signsF (ms.take (j + 1)) = signsF (ms.take j) ++ [⟨rd ms (j : Int), markName⟩] := by
  unfold signsF
  rw [List.take_add_one, List.getElem?_eq_getElem h, Option.toList_some, List.map_append, rd_get h]
  rfl
theorem Paced_piece (num den : Int) (A0 A1 Ag : Option Addr) (c0 c1 cg : Nat) (xs ms : List Int) (W : World) (h0 : Kd.C (Kd.int .i64) W A0 xs.length xs) (hc0 : xs.length ≤ c0) (h1 : Kd.C (Kd.int .i64) W A1 ms.length ms)
    (hg : Kd.C k32 W Ag ms.length (signsF ms)) (hcg : ms.length ≤ cg) (hp : okPiece (pieceF xs ms)) (hnum : 1 ≤ num ∧ num ≤ 8) (hden : 1 ≤ den ∧ den ≤ 8) {ys : List Int} {ts : List S32} (hy : (pacedF (pieceF xs ms) num den).f2 = ys) (ht : (pacedF (pieceF xs ms) num den).f4 = ts) :
    Calls Try.prog 10 #[.agg #[.int .i64 1, .int .i64 1, .slice A0 xs.length c0, .slice A1 (ms.length - 1) c1, .slice Ag ms.length cg, .int .i64 0], .agg #[.int .i64 num, .int .i64 den]] W
      fun e w' => ∃ As cs At ct, e = .returned (.tuple #[.agg #[.int .i64 1, .int .i64 1, .slice As ys.length cs, .slice none 0 0, .slice At ts.length ct, .int .i64 0], .int .i64 0]) ∧ ys.length ≤ cs ∧ Kd.C (Kd.int .i64) w' As ys.length ys ∧ Kd.C k32 w' At ts.length ts ∧ Below W.heap.size W w' := by
  have e3 : (pieceF xs ms).f3.length = ms.length - 1 := by simp [pieceF]
  have e4 : (pieceF xs ms).f4.length = ms.length := by simp [pieceF, signsF]
  have h3 := Kd.C_take (m := ms.length - 1) h1 (by omega)
  have := Paced_ok num den A0 A1 Ag c0 c1 cg (pieceF xs ms) W h0 hc0 h3 (by rw [e4]; exact hg) (by rw [e4]; exact hcg) hp hnum hden
  rw [e3, e4, hy, ht] at this
  refine this.mono ?_
  rintro e w' ⟨⟨As, cs, At, ct, rfl, hs, hm⟩, hb⟩
  obtain ⟨A, c, hv, hc, hC⟩ := own_flat (Kd.int .i64) eI_len eI_K hs
  injection hv with e1 _ e2
  subst e1 e2
  obtain ⟨A, c, hv, hc', hC'⟩ := own_flat k32 e32_len e32_K hm
  injection hv with e1 _ e2
  subst e1 e2
  exact ⟨As, cs, At, ct, rfl, hc, hC, hC', hb⟩
/-- What lies in memory while the signs are laid. -/
structure LInv (w1 : World) (A0 : Option Addr) (c0 : Nat) (xs : List Int) (ad : Addr) (c1 : Nat) (ms : List Int) (j : Nat) (W : World) : Prop where
  below : Below w1.heap.size w1 W
  row : ∃ vg, W.heap[w1.heap.size]? = some (.cells #[.int .i64 1, .int .i64 1, .slice A0 xs.length c0, .slice (some ad) (ms.length - 1) c1, vg, .int .i64 0] 30) ∧ W.ownsRow (w1.heap.size + 1) 32 2 vg j (Flat e32 (signsF (ms.take j)))
set_option maxRecDepth 100000 in
set_option maxHeartbeats 8000000 in
theorem TopStretched_calls (A0 A1 : Option Addr) (c0 c1 : Nat) (xs ms : List Int) (k : Int) (w : World) (h0 : Kd.C (Kd.int .i64) w A0 xs.length xs) (hc0 : xs.length ≤ c0) (h1 : Kd.C (Kd.int .i64) w A1 ms.length ms) (hc1 : ms.length ≤ c1) (hm : ms.length ≤ 9223372036854775807) :
    Calls Try.prog 3 #[.agg #[.slice A0 xs.length c0, .slice A1 ms.length c1], .int .i64 k] w fun e w' => e = .returned (.bool true) ∧ Below w.heap.size w w' := by
  have HK := Aside0.mk known_true
  have hb0 : Below w.heap.size w (w.alloc (.cells #[.slice A0 xs.length c0, .slice A1 ms.length c1] 24)) := below_alloc (Below.refl _ _) _
  have hS0 : (w.alloc (.cells #[.slice A0 xs.length c0, .slice A1 ms.length c1] 24)).cell? ⟨w.heap.size, 0, none⟩ = some (.slice A0 xs.length c0) := blk_cell (blk_new' rfl _) 0
  have hS1 : (w.alloc (.cells #[.slice A0 xs.length c0, .slice A1 ms.length c1] 24)).cell? ⟨w.heap.size, 1, none⟩ = some (.slice A1 ms.length c1) := blk_cell (blk_new' rfl _) 1
  have HB0 := Aside0.mk hb0
  have HSa := Aside0.mk hS0
  have HSb := Aside0.mk hS1
  have H0 := Aside0.mk h0
  have H1 := Aside0.mk h1
  have HC0 := Aside0.mk hc0
  have HC1 := Aside0.mk hc1
  clear h0 h1 hc0 hc1 hb0 hS0 hS1
  by_cases b1 : 400 < xs.length
  · have d1 : decide ((xs.length : Int) > 400) = true := by simp; omega
    have d1n : decide (400 < xs.length) = true := by simpa using b1
    go_enter Try.func3, Try.ntmps3
    go_wp2_with fail
    refine (wpIn_wide (n := 0)).1 ?_
    refine region_anyHT (fun W' => Below w.heap.size w W' ∧ W'.cell? ⟨w.heap.size, 0, none⟩ = some (.slice A0 xs.length c0) ∧ W'.cell? ⟨w.heap.size, 1, none⟩ = some (.slice A1 ms.length c1)) [] (by kernel_rfl) (⟨pw_below_drewN HB0.out 1, HSa.out, HSb.out⟩) (fun hHeld => ?_)
    refine anyHT_pure (fun _ => trivial) (by kernel_rfl) (i := 0) (oi := { dst := some 14, op := Op.fieldAddr 24 (Operand.tmp 2) 0, type := 0, pos := "top09w.go:21", after := #[], guard := none }) (v := ?_) rfl (by kernel_rfl) (by kernel_rfl) (by kernel_rfl) (fun _ _ _ h => h) (Or.inl ⟨by rfl, ?_⟩) ?_
    rotate_left
    · (intro w _; go_simp <;> with_reducible rfl)
    try simp only [Act.put, List.setIfInBounds_toArray, List.set_cons_zero, List.set_cons_succ]
    refine anyHT_take (fun _ => trivial) (by kernel_rfl) [2, 3, 4, 5, 6, 7, 8, 9, 10, 11, 12, 13, 14, 15, 16, 17, 18, 19, 20, 21, 22, 23, 24, 25, 26, 27, 28, 29, 30, 31, 32, 33, 34, 35, 36, 37, 38, 39, 40, 41, 42] (i := 1) (oi := { dst := some 15, op := Op.load 22 (Operand.tmp 14), type := 22, pos := "top09w.go:21", after := #[{ on := 0, ground := Ground.data }], guard := none }) (v := ?_) rfl (by kernel_rfl) (by kernel_rfl) (by kernel_rfl) (by kernel_rfl) (by kernel_rfl) (by decide) (fun _ _ _ h => h) (Or.inl ⟨by rfl, ?_⟩) hHeld ?_
    rotate_left
    · (intro w hSw; (try dsimp only at hSw); go_simp <;> with_reducible rfl)
    try simp only [Act.put, List.setIfInBounds_toArray, List.set_cons_zero, List.set_cons_succ]
    refine anyHT_pure (fun _ => trivial) (by kernel_rfl) (i := 2) (oi := { dst := some 16, op := Op.call { callee := Callee.builtin Builtin.len, args := #[Operand.tmp 15], argTypes := #[22] }, type := 3, pos := "top09w.go:21", after := #[{ on := 1, ground := Ground.data }], guard := none }) (v := ?_) rfl (by kernel_rfl) (by kernel_rfl) (by kernel_rfl) (fun _ _ _ h => h) (Or.inl ⟨by rfl, ?_⟩) ?_
    rotate_left
    · (intro w _; go_simp <;> with_reducible rfl)
    try simp only [Act.put, List.setIfInBounds_toArray, List.set_cons_zero, List.set_cons_succ]
    refine anyHT_pure (fun _ => trivial) (by kernel_rfl) (i := 3) (oi := { dst := some 17, op := Op.binOp BinOp.gtr 3 (Operand.tmp 16) (Operand.const (Value.int IntKind.i64 400)) 3, type := 4, pos := "top09w.go:21", after := #[{ on := 2, ground := Ground.data }], guard := none }) (v := ?_) rfl (by kernel_rfl) (by kernel_rfl) (by kernel_rfl) (fun _ _ _ h => h) (Or.inl ⟨by rfl, ?_⟩) ?_
    rotate_left
    · (intro w _; go_simp <;> with_reducible rfl)
    try simp only [Act.put, List.setIfInBounds_toArray, List.set_cons_zero, List.set_cons_succ]
    refine anyHT_pure (fun _ => trivial) (by kernel_rfl) (i := 4) (oi := { dst := some 18, op := Op.move (Operand.tmp 17), type := 4, pos := "top09w.go:21", after := #[{ on := 3, ground := Ground.data }], guard := none }) (v := ?_) rfl (by kernel_rfl) (by kernel_rfl) (by kernel_rfl) (fun _ _ _ h => h) (Or.inl ⟨by rfl, ?_⟩) ?_
    rotate_left
    · (intro w _; go_simp <;> with_reducible rfl)
    try simp only [Act.put, List.setIfInBounds_toArray, List.set_cons_zero, List.set_cons_succ]
    refine anyHT_pure (fun _ => trivial) (by kernel_rfl) (i := 5) (oi := { dst := some 19, op := Op.move (Operand.tmp 1), type := 3, pos := "top09w.go:21", after := #[{ on := 4, ground := Ground.guard }], guard := some (4, false) }) (v := undef) rfl (by kernel_rfl) (by kernel_rfl) (by kernel_rfl) (fun _ _ _ h => h) (Or.inr ⟨by rfl, rfl⟩) ?_
    try simp only [Act.put, List.setIfInBounds_toArray, List.set_cons_zero, List.set_cons_succ]
    refine anyHT_pure (fun _ => trivial) (by kernel_rfl) (i := 6) (oi := { dst := some 20, op := Op.binOp BinOp.lss 3 (Operand.tmp 19) (Operand.const (Value.int IntKind.i64 1)) 3, type := 4, pos := "top09w.go:21", after := #[{ on := 5, ground := Ground.data }, { on := 4, ground := Ground.guard }], guard := some (4, false) }) (v := undef) rfl (by kernel_rfl) (by kernel_rfl) (by kernel_rfl) (fun _ _ _ h => h) (Or.inr ⟨by rfl, rfl⟩) ?_
    try simp only [Act.put, List.setIfInBounds_toArray, List.set_cons_zero, List.set_cons_succ]
    refine anyHT_pure (fun _ => trivial) (by kernel_rfl) (i := 7) (oi := { dst := some 21, op := Op.pick (Operand.tmp 18) (Operand.const (Value.bool true)) (Operand.tmp 20), type := 4, pos := "top09w.go:21", after := #[{ on := 4, ground := Ground.data }, { on := 6, ground := Ground.data }], guard := none }) (v := ?_) rfl (by kernel_rfl) (by kernel_rfl) (by kernel_rfl) (fun _ _ _ h => h) (Or.inl ⟨by rfl, ?_⟩) ?_
    rotate_left
    · (intro w _; go_simp <;> with_reducible rfl)
    try simp only [Act.put, List.setIfInBounds_toArray, List.set_cons_zero, List.set_cons_succ]
    refine anyHT_pure (fun _ => trivial) (by kernel_rfl) (i := 8) (oi := { dst := some 22, op := Op.move (Operand.tmp 21), type := 4, pos := "top09w.go:21", after := #[{ on := 7, ground := Ground.data }, { on := 4, ground := Ground.chain }], guard := none }) (v := ?_) rfl (by kernel_rfl) (by kernel_rfl) (by kernel_rfl) (fun _ _ _ h => h) (Or.inl ⟨by rfl, ?_⟩) ?_
    rotate_left
    · (intro w _; go_simp <;> with_reducible rfl)
    try simp only [Act.put, List.setIfInBounds_toArray, List.set_cons_zero, List.set_cons_succ]
    refine anyHT_pure (fun _ => trivial) (by kernel_rfl) (i := 9) (oi := { dst := some 23, op := Op.move (Operand.tmp 1), type := 3, pos := "top09w.go:21", after := #[{ on := 8, ground := Ground.guard }], guard := some (8, false) }) (v := undef) rfl (by kernel_rfl) (by kernel_rfl) (by kernel_rfl) (fun _ _ _ h => h) (Or.inr ⟨by rfl, rfl⟩) ?_
    try simp only [Act.put, List.setIfInBounds_toArray, List.set_cons_zero, List.set_cons_succ]
    refine anyHT_pure (fun _ => trivial) (by kernel_rfl) (i := 10) (oi := { dst := some 24, op := Op.binOp BinOp.gtr 3 (Operand.tmp 23) (Operand.const (Value.int IntKind.i64 8)) 3, type := 4, pos := "top09w.go:21", after := #[{ on := 9, ground := Ground.data }, { on := 8, ground := Ground.guard }], guard := some (8, false) }) (v := undef) rfl (by kernel_rfl) (by kernel_rfl) (by kernel_rfl) (fun _ _ _ h => h) (Or.inr ⟨by rfl, rfl⟩) ?_
    try simp only [Act.put, List.setIfInBounds_toArray, List.set_cons_zero, List.set_cons_succ]
    refine anyHT_pure (fun _ => trivial) (by kernel_rfl) (i := 11) (oi := { dst := some 25, op := Op.pick (Operand.tmp 22) (Operand.const (Value.bool true)) (Operand.tmp 24), type := 4, pos := "top09w.go:21", after := #[{ on := 8, ground := Ground.data }, { on := 10, ground := Ground.data }], guard := none }) (v := ?_) rfl (by kernel_rfl) (by kernel_rfl) (by kernel_rfl) (fun _ _ _ h => h) (Or.inl ⟨by rfl, ?_⟩) ?_
    rotate_left
    · (intro w _; go_simp <;> with_reducible rfl)
    try simp only [Act.put, List.setIfInBounds_toArray, List.set_cons_zero, List.set_cons_succ]
    refine anyHT_pure (fun _ => trivial) (by kernel_rfl) (i := 12) (oi := { dst := some 26, op := Op.move (Operand.tmp 25), type := 4, pos := "top09w.go:21", after := #[{ on := 11, ground := Ground.data }, { on := 8, ground := Ground.chain }], guard := none }) (v := ?_) rfl (by kernel_rfl) (by kernel_rfl) (by kernel_rfl) (fun _ _ _ h => h) (Or.inl ⟨by rfl, ?_⟩) ?_
    rotate_left
    · (intro w _; go_simp <;> with_reducible rfl)
    try simp only [Act.put, List.setIfInBounds_toArray, List.set_cons_zero, List.set_cons_succ]
    refine anyHT_pure (fun _ => trivial) (by kernel_rfl) (i := 13) (oi := { dst := some 27, op := Op.load 24 (Operand.tmp 2), type := 24, pos := "top09w.go:21", after := #[{ on := 12, ground := Ground.guard }], guard := some (12, false) }) (v := undef) rfl (by kernel_rfl) (by kernel_rfl) (by kernel_rfl) (fun _ _ _ h => h) (Or.inr ⟨by rfl, rfl⟩) ?_
    try simp only [Act.put, List.setIfInBounds_toArray, List.set_cons_zero, List.set_cons_succ]
    refine anyHT_pure (fun _ => trivial) (by kernel_rfl) (i := 14) (oi := { dst := some 28, op := Op.call { callee := Callee.value (Operand.func 7), args := #[Operand.tmp 27], argTypes := #[24] }, type := 25, pos := "top09w.go:21", after := #[{ on := 13, ground := Ground.data }, { on := 12, ground := Ground.chain }, { on := 12, ground := Ground.guard }], guard := some (12, false) }) (v := undef) rfl (by kernel_rfl) (by kernel_rfl) (by kernel_rfl) (fun _ _ _ h => h) (Or.inr ⟨by rfl, rfl⟩) ?_
    try simp only [Act.put, List.setIfInBounds_toArray, List.set_cons_zero, List.set_cons_succ]
    refine anyHT_pure (fun _ => trivial) (by kernel_rfl) (i := 15) (oi := { dst := some 29, op := Op.binOp BinOp.neq 25 (Operand.tmp 28) (Operand.const (Value.int IntKind.i64 0)) 25, type := 4, pos := "top09w.go:21", after := #[{ on := 14, ground := Ground.data }, { on := 12, ground := Ground.guard }], guard := some (12, false) }) (v := undef) rfl (by kernel_rfl) (by kernel_rfl) (by kernel_rfl) (fun _ _ _ h => h) (Or.inr ⟨by rfl, rfl⟩) ?_
    try simp only [Act.put, List.setIfInBounds_toArray, List.set_cons_zero, List.set_cons_succ]
    refine anyHT_pure (fun _ => trivial) (by kernel_rfl) (i := 16) (oi := { dst := some 30, op := Op.pick (Operand.tmp 26) (Operand.const (Value.bool true)) (Operand.tmp 29), type := 4, pos := "top09w.go:21", after := #[{ on := 12, ground := Ground.data }, { on := 15, ground := Ground.data }], guard := none }) (v := ?_) rfl (by kernel_rfl) (by kernel_rfl) (by kernel_rfl) (fun _ _ _ h => h) (Or.inl ⟨by rfl, ?_⟩) ?_
    rotate_left
    · (intro w _; go_simp <;> with_reducible rfl)
    try simp only [Act.put, List.setIfInBounds_toArray, List.set_cons_zero, List.set_cons_succ]
    refine anyHT_pure (fun _ => trivial) (by kernel_rfl) (i := 17) (oi := { dst := some 31, op := Op.move (Operand.tmp 30), type := 4, pos := "top09w.go:21", after := #[{ on := 16, ground := Ground.data }, { on := 14, ground := Ground.chain }], guard := none }) (v := ?_) rfl (by kernel_rfl) (by kernel_rfl) (by kernel_rfl) (fun _ _ _ h => h) (Or.inl ⟨by rfl, ?_⟩) ?_
    rotate_left
    · (intro w _; go_simp <;> with_reducible rfl)
    try simp only [Act.put, List.setIfInBounds_toArray, List.set_cons_zero, List.set_cons_succ]
    refine anyHT_pure (fun _ => trivial) (by kernel_rfl) (i := 18) (oi := { dst := some 32, op := Op.fieldAddr 24 (Operand.tmp 2) 1, type := 0, pos := "top09w.go:21", after := #[{ on := 17, ground := Ground.guard }], guard := some (17, false) }) (v := undef) rfl (by kernel_rfl) (by kernel_rfl) (by kernel_rfl) (fun _ _ _ h => h) (Or.inr ⟨by rfl, rfl⟩) ?_
    try simp only [Act.put, List.setIfInBounds_toArray, List.set_cons_zero, List.set_cons_succ]
    refine anyHT_pure (fun _ => trivial) (by kernel_rfl) (i := 19) (oi := { dst := some 33, op := Op.load 22 (Operand.tmp 32), type := 22, pos := "top09w.go:21", after := #[{ on := 18, ground := Ground.data }, { on := 17, ground := Ground.guard }], guard := some (17, false) }) (v := undef) rfl (by kernel_rfl) (by kernel_rfl) (by kernel_rfl) (fun _ _ _ h => h) (Or.inr ⟨by rfl, rfl⟩) ?_
    try simp only [Act.put, List.setIfInBounds_toArray, List.set_cons_zero, List.set_cons_succ]
    refine anyHT_pure (fun _ => trivial) (by kernel_rfl) (i := 20) (oi := { dst := some 34, op := Op.call { callee := Callee.builtin Builtin.len, args := #[Operand.tmp 33], argTypes := #[22] }, type := 3, pos := "top09w.go:21", after := #[{ on := 19, ground := Ground.data }, { on := 17, ground := Ground.guard }], guard := some (17, false) }) (v := undef) rfl (by kernel_rfl) (by kernel_rfl) (by kernel_rfl) (fun _ _ _ h => h) (Or.inr ⟨by rfl, rfl⟩) ?_
    try simp only [Act.put, List.setIfInBounds_toArray, List.set_cons_zero, List.set_cons_succ]
    refine anyHT_pure (fun _ => trivial) (by kernel_rfl) (i := 21) (oi := { dst := some 35, op := Op.binOp BinOp.lss 3 (Operand.tmp 34) (Operand.const (Value.int IntKind.i64 2)) 3, type := 4, pos := "top09w.go:21", after := #[{ on := 20, ground := Ground.data }, { on := 17, ground := Ground.guard }], guard := some (17, false) }) (v := undef) rfl (by kernel_rfl) (by kernel_rfl) (by kernel_rfl) (fun _ _ _ h => h) (Or.inr ⟨by rfl, rfl⟩) ?_
    try simp only [Act.put, List.setIfInBounds_toArray, List.set_cons_zero, List.set_cons_succ]
    refine anyHT_pure (fun _ => trivial) (by kernel_rfl) (i := 22) (oi := { dst := some 36, op := Op.pick (Operand.tmp 31) (Operand.const (Value.bool true)) (Operand.tmp 35), type := 4, pos := "top09w.go:21", after := #[{ on := 17, ground := Ground.data }, { on := 21, ground := Ground.data }], guard := none }) (v := ?_) rfl (by kernel_rfl) (by kernel_rfl) (by kernel_rfl) (fun _ _ _ h => h) (Or.inl ⟨by rfl, ?_⟩) ?_
    rotate_left
    · (intro w _; go_simp <;> with_reducible rfl)
    try simp only [Act.put, List.setIfInBounds_toArray, List.set_cons_zero, List.set_cons_succ]
    refine anyHT_pure (fun _ => trivial) (by kernel_rfl) (i := 23) (oi := { dst := some 37, op := Op.move (Operand.tmp 36), type := 4, pos := "top09w.go:21", after := #[{ on := 22, ground := Ground.data }, { on := 17, ground := Ground.chain }], guard := none }) (v := ?_) rfl (by kernel_rfl) (by kernel_rfl) (by kernel_rfl) (fun _ _ _ h => h) (Or.inl ⟨by rfl, ?_⟩) ?_
    rotate_left
    · (intro w _; go_simp <;> with_reducible rfl)
    try simp only [Act.put, List.setIfInBounds_toArray, List.set_cons_zero, List.set_cons_succ]
    refine anyHT_pure (fun _ => trivial) (by kernel_rfl) (i := 24) (oi := { dst := some 38, op := Op.fieldAddr 24 (Operand.tmp 2) 1, type := 0, pos := "top09w.go:21", after := #[{ on := 23, ground := Ground.guard }], guard := some (23, false) }) (v := undef) rfl (by kernel_rfl) (by kernel_rfl) (by kernel_rfl) (fun _ _ _ h => h) (Or.inr ⟨by rfl, rfl⟩) ?_
    try simp only [Act.put, List.setIfInBounds_toArray, List.set_cons_zero, List.set_cons_succ]
    refine anyHT_pure (fun _ => trivial) (by kernel_rfl) (i := 25) (oi := { dst := some 39, op := Op.load 22 (Operand.tmp 38), type := 22, pos := "top09w.go:21", after := #[{ on := 24, ground := Ground.data }, { on := 23, ground := Ground.guard }], guard := some (23, false) }) (v := undef) rfl (by kernel_rfl) (by kernel_rfl) (by kernel_rfl) (fun _ _ _ h => h) (Or.inr ⟨by rfl, rfl⟩) ?_
    try simp only [Act.put, List.setIfInBounds_toArray, List.set_cons_zero, List.set_cons_succ]
    refine anyHT_pure (fun _ => trivial) (by kernel_rfl) (i := 26) (oi := { dst := some 40, op := Op.call { callee := Callee.builtin Builtin.len, args := #[Operand.tmp 39], argTypes := #[22] }, type := 3, pos := "top09w.go:21", after := #[{ on := 25, ground := Ground.data }, { on := 23, ground := Ground.guard }], guard := some (23, false) }) (v := undef) rfl (by kernel_rfl) (by kernel_rfl) (by kernel_rfl) (fun _ _ _ h => h) (Or.inr ⟨by rfl, rfl⟩) ?_
    try simp only [Act.put, List.setIfInBounds_toArray, List.set_cons_zero, List.set_cons_succ]
    refine anyHT_pure (fun _ => trivial) (by kernel_rfl) (i := 27) (oi := { dst := some 41, op := Op.binOp BinOp.gtr 3 (Operand.tmp 40) (Operand.const (Value.int IntKind.i64 41)) 3, type := 4, pos := "top09w.go:21", after := #[{ on := 26, ground := Ground.data }, { on := 23, ground := Ground.guard }], guard := some (23, false) }) (v := undef) rfl (by kernel_rfl) (by kernel_rfl) (by kernel_rfl) (fun _ _ _ h => h) (Or.inr ⟨by rfl, rfl⟩) ?_
    try simp only [Act.put, List.setIfInBounds_toArray, List.set_cons_zero, List.set_cons_succ]
    refine anyHT_pure (fun _ => trivial) (by kernel_rfl) (i := 28) (oi := { dst := some 42, op := Op.pick (Operand.tmp 37) (Operand.const (Value.bool true)) (Operand.tmp 41), type := 4, pos := "top09w.go:21", after := #[{ on := 23, ground := Ground.data }, { on := 27, ground := Ground.data }], guard := none }) (v := ?_) rfl (by kernel_rfl) (by kernel_rfl) (by kernel_rfl) (fun _ _ _ h => h) (Or.inl ⟨by rfl, ?_⟩) ?_
    rotate_left
    · (intro w _; go_simp <;> with_reducible rfl)
    try simp only [Act.put, List.setIfInBounds_toArray, List.set_cons_zero, List.set_cons_succ]
    refine anyHT_pure (fun _ => trivial) (by kernel_rfl) (i := 29) (oi := { dst := some 43, op := Op.move (Operand.tmp 42), type := 4, pos := "top09w.go:21", after := #[{ on := 28, ground := Ground.data }, { on := 23, ground := Ground.chain }], guard := none }) (v := ?_) rfl (by kernel_rfl) (by kernel_rfl) (by kernel_rfl) (fun _ _ _ h => h) (Or.inl ⟨by rfl, ?_⟩) ?_
    rotate_left
    · (intro w _; go_simp <;> with_reducible rfl)
    try simp only [Act.put, List.setIfInBounds_toArray, List.set_cons_zero, List.set_cons_succ]
    refine anyHT_pure (fun _ => trivial) (by kernel_rfl) (i := 30) (oi := { dst := some 44, op := Op.fieldAddr 24 (Operand.tmp 2) 1, type := 0, pos := "top09w.go:21", after := #[{ on := 29, ground := Ground.guard }], guard := some (29, false) }) (v := undef) rfl (by kernel_rfl) (by kernel_rfl) (by kernel_rfl) (fun _ _ _ h => h) (Or.inr ⟨by rfl, rfl⟩) ?_
    try simp only [Act.put, List.setIfInBounds_toArray, List.set_cons_zero, List.set_cons_succ]
    refine anyHT_pure (fun _ => trivial) (by kernel_rfl) (i := 31) (oi := { dst := some 45, op := Op.load 22 (Operand.tmp 44), type := 22, pos := "top09w.go:21", after := #[{ on := 30, ground := Ground.data }, { on := 29, ground := Ground.guard }], guard := some (29, false) }) (v := undef) rfl (by kernel_rfl) (by kernel_rfl) (by kernel_rfl) (fun _ _ _ h => h) (Or.inr ⟨by rfl, rfl⟩) ?_
    try simp only [Act.put, List.setIfInBounds_toArray, List.set_cons_zero, List.set_cons_succ]
    refine anyHT_pure (fun _ => trivial) (by kernel_rfl) (i := 32) (oi := { dst := some 46, op := Op.fieldAddr 24 (Operand.tmp 2) 1, type := 0, pos := "top09w.go:21", after := #[{ on := 29, ground := Ground.guard }], guard := some (29, false) }) (v := undef) rfl (by kernel_rfl) (by kernel_rfl) (by kernel_rfl) (fun _ _ _ h => h) (Or.inr ⟨by rfl, rfl⟩) ?_
    try simp only [Act.put, List.setIfInBounds_toArray, List.set_cons_zero, List.set_cons_succ]
    refine anyHT_pure (fun _ => trivial) (by kernel_rfl) (i := 33) (oi := { dst := some 47, op := Op.load 22 (Operand.tmp 46), type := 22, pos := "top09w.go:21", after := #[{ on := 32, ground := Ground.data }, { on := 29, ground := Ground.guard }], guard := some (29, false) }) (v := undef) rfl (by kernel_rfl) (by kernel_rfl) (by kernel_rfl) (fun _ _ _ h => h) (Or.inr ⟨by rfl, rfl⟩) ?_
    try simp only [Act.put, List.setIfInBounds_toArray, List.set_cons_zero, List.set_cons_succ]
    refine anyHT_pure (fun _ => trivial) (by kernel_rfl) (i := 34) (oi := { dst := some 48, op := Op.call { callee := Callee.builtin Builtin.len, args := #[Operand.tmp 47], argTypes := #[22] }, type := 3, pos := "top09w.go:21", after := #[{ on := 33, ground := Ground.data }, { on := 29, ground := Ground.guard }], guard := some (29, false) }) (v := undef) rfl (by kernel_rfl) (by kernel_rfl) (by kernel_rfl) (fun _ _ _ h => h) (Or.inr ⟨by rfl, rfl⟩) ?_
    try simp only [Act.put, List.setIfInBounds_toArray, List.set_cons_zero, List.set_cons_succ]
    refine anyHT_pure (fun _ => trivial) (by kernel_rfl) (i := 35) (oi := { dst := some 49, op := Op.binOp BinOp.sub 3 (Operand.tmp 48) (Operand.const (Value.int IntKind.i64 1)) 3, type := 3, pos := "top09w.go:21", after := #[{ on := 34, ground := Ground.data }, { on := 29, ground := Ground.guard }], guard := some (29, false) }) (v := undef) rfl (by kernel_rfl) (by kernel_rfl) (by kernel_rfl) (fun _ _ _ h => h) (Or.inr ⟨by rfl, rfl⟩) ?_
    try simp only [Act.put, List.setIfInBounds_toArray, List.set_cons_zero, List.set_cons_succ]
    refine anyHT_pure (fun _ => trivial) (by kernel_rfl) (i := 36) (oi := { dst := some 50, op := Op.indexAddr 22 (Operand.tmp 45) (Operand.tmp 49), type := 0, pos := "top09w.go:21", after := #[{ on := 31, ground := Ground.data }, { on := 35, ground := Ground.data }, { on := 29, ground := Ground.guard }], guard := some (29, false) }) (v := undef) rfl (by kernel_rfl) (by kernel_rfl) (by kernel_rfl) (fun _ _ _ h => h) (Or.inr ⟨by rfl, rfl⟩) ?_
    try simp only [Act.put, List.setIfInBounds_toArray, List.set_cons_zero, List.set_cons_succ]
    refine anyHT_pure (fun _ => trivial) (by kernel_rfl) (i := 37) (oi := { dst := some 51, op := Op.load 3 (Operand.tmp 50), type := 3, pos := "top09w.go:21", after := #[{ on := 36, ground := Ground.data }, { on := 29, ground := Ground.guard }], guard := some (29, false) }) (v := undef) rfl (by kernel_rfl) (by kernel_rfl) (by kernel_rfl) (fun _ _ _ h => h) (Or.inr ⟨by rfl, rfl⟩) ?_
    try simp only [Act.put, List.setIfInBounds_toArray, List.set_cons_zero, List.set_cons_succ]
    refine anyHT_pure (fun _ => trivial) (by kernel_rfl) (i := 38) (oi := { dst := some 52, op := Op.fieldAddr 24 (Operand.tmp 2) 0, type := 0, pos := "top09w.go:21", after := #[{ on := 29, ground := Ground.guard }], guard := some (29, false) }) (v := undef) rfl (by kernel_rfl) (by kernel_rfl) (by kernel_rfl) (fun _ _ _ h => h) (Or.inr ⟨by rfl, rfl⟩) ?_
    try simp only [Act.put, List.setIfInBounds_toArray, List.set_cons_zero, List.set_cons_succ]
    refine anyHT_pure (fun _ => trivial) (by kernel_rfl) (i := 39) (oi := { dst := some 53, op := Op.load 22 (Operand.tmp 52), type := 22, pos := "top09w.go:21", after := #[{ on := 38, ground := Ground.data }, { on := 29, ground := Ground.guard }], guard := some (29, false) }) (v := undef) rfl (by kernel_rfl) (by kernel_rfl) (by kernel_rfl) (fun _ _ _ h => h) (Or.inr ⟨by rfl, rfl⟩) ?_
    try simp only [Act.put, List.setIfInBounds_toArray, List.set_cons_zero, List.set_cons_succ]
    refine anyHT_pure (fun _ => trivial) (by kernel_rfl) (i := 40) (oi := { dst := some 54, op := Op.call { callee := Callee.builtin Builtin.len, args := #[Operand.tmp 53], argTypes := #[22] }, type := 3, pos := "top09w.go:21", after := #[{ on := 39, ground := Ground.data }, { on := 29, ground := Ground.guard }], guard := some (29, false) }) (v := undef) rfl (by kernel_rfl) (by kernel_rfl) (by kernel_rfl) (fun _ _ _ h => h) (Or.inr ⟨by rfl, rfl⟩) ?_
    try simp only [Act.put, List.setIfInBounds_toArray, List.set_cons_zero, List.set_cons_succ]
    refine anyHT_pure (fun _ => trivial) (by kernel_rfl) (i := 41) (oi := { dst := some 55, op := Op.binOp BinOp.neq 3 (Operand.tmp 51) (Operand.tmp 54) 3, type := 4, pos := "top09w.go:21", after := #[{ on := 37, ground := Ground.data }, { on := 40, ground := Ground.data }, { on := 29, ground := Ground.guard }], guard := some (29, false) }) (v := undef) rfl (by kernel_rfl) (by kernel_rfl) (by kernel_rfl) (fun _ _ _ h => h) (Or.inr ⟨by rfl, rfl⟩) ?_
    try simp only [Act.put, List.setIfInBounds_toArray, List.set_cons_zero, List.set_cons_succ]
    refine anyHT_pure (fun _ => trivial) (by kernel_rfl) (i := 42) (oi := { dst := some 56, op := Op.pick (Operand.tmp 43) (Operand.const (Value.bool true)) (Operand.tmp 55), type := 4, pos := "top09w.go:21", after := #[{ on := 29, ground := Ground.data }, { on := 41, ground := Ground.data }], guard := none }) (v := ?_) rfl (by kernel_rfl) (by kernel_rfl) (by kernel_rfl) (fun _ _ _ h => h) (Or.inl ⟨by rfl, ?_⟩) ?_
    rotate_left
    · (intro w _; go_simp <;> with_reducible rfl)
    try simp only [Act.put, List.setIfInBounds_toArray, List.set_cons_zero, List.set_cons_succ]
    refine anyHT_done (by kernel_rfl) ?_ _
    go_wp2_with fail
    refine (HK.out _).mono ?_
    rintro e w9 ⟨rfl, hb9⟩
    have HB9 : Aside0 (Below w.heap.size w w9) := ⟨below_trans' (pw_below_drewN HB0.out 1) hb9⟩
    clear hb9
    go_wp2_with fail
    go_ret
    exact ⟨rfl, HB9.out⟩
  have d1 : decide ((xs.length : Int) > 400) = false := by simp; omega
  have d1n : decide (400 < xs.length) = false := by simp; omega
  by_cases b2 : k < 1
  · have d2 : decide (k < 1) = true := by simpa using b2
    go_enter Try.func3, Try.ntmps3
    go_wp2_with fail
    refine (wpIn_wide (n := 0)).1 ?_
    refine region_anyHT (fun W' => Below w.heap.size w W' ∧ W'.cell? ⟨w.heap.size, 0, none⟩ = some (.slice A0 xs.length c0) ∧ W'.cell? ⟨w.heap.size, 1, none⟩ = some (.slice A1 ms.length c1)) [] (by kernel_rfl) (⟨pw_below_drewN HB0.out 1, HSa.out, HSb.out⟩) (fun hHeld => ?_)
    refine anyHT_pure (fun _ => trivial) (by kernel_rfl) (i := 0) (oi := { dst := some 14, op := Op.fieldAddr 24 (Operand.tmp 2) 0, type := 0, pos := "top09w.go:21", after := #[], guard := none }) (v := ?_) rfl (by kernel_rfl) (by kernel_rfl) (by kernel_rfl) (fun _ _ _ h => h) (Or.inl ⟨by rfl, ?_⟩) ?_
    rotate_left
    · (intro w _; go_simp <;> with_reducible rfl)
    try simp only [Act.put, List.setIfInBounds_toArray, List.set_cons_zero, List.set_cons_succ]
    refine anyHT_take (fun _ => trivial) (by kernel_rfl) [2, 3, 4, 5, 6, 7, 8, 9, 10, 11, 12, 13, 14, 15, 16, 17, 18, 19, 20, 21, 22, 23, 24, 25, 26, 27, 28, 29, 30, 31, 32, 33, 34, 35, 36, 37, 38, 39, 40, 41, 42] (i := 1) (oi := { dst := some 15, op := Op.load 22 (Operand.tmp 14), type := 22, pos := "top09w.go:21", after := #[{ on := 0, ground := Ground.data }], guard := none }) (v := ?_) rfl (by kernel_rfl) (by kernel_rfl) (by kernel_rfl) (by kernel_rfl) (by kernel_rfl) (by decide) (fun _ _ _ h => h) (Or.inl ⟨by rfl, ?_⟩) hHeld ?_
    rotate_left
    · (intro w hSw; (try dsimp only at hSw); go_simp <;> with_reducible rfl)
    try simp only [Act.put, List.setIfInBounds_toArray, List.set_cons_zero, List.set_cons_succ]
    refine anyHT_pure (fun _ => trivial) (by kernel_rfl) (i := 2) (oi := { dst := some 16, op := Op.call { callee := Callee.builtin Builtin.len, args := #[Operand.tmp 15], argTypes := #[22] }, type := 3, pos := "top09w.go:21", after := #[{ on := 1, ground := Ground.data }], guard := none }) (v := ?_) rfl (by kernel_rfl) (by kernel_rfl) (by kernel_rfl) (fun _ _ _ h => h) (Or.inl ⟨by rfl, ?_⟩) ?_
    rotate_left
    · (intro w _; go_simp <;> with_reducible rfl)
    try simp only [Act.put, List.setIfInBounds_toArray, List.set_cons_zero, List.set_cons_succ]
    refine anyHT_pure (fun _ => trivial) (by kernel_rfl) (i := 3) (oi := { dst := some 17, op := Op.binOp BinOp.gtr 3 (Operand.tmp 16) (Operand.const (Value.int IntKind.i64 400)) 3, type := 4, pos := "top09w.go:21", after := #[{ on := 2, ground := Ground.data }], guard := none }) (v := ?_) rfl (by kernel_rfl) (by kernel_rfl) (by kernel_rfl) (fun _ _ _ h => h) (Or.inl ⟨by rfl, ?_⟩) ?_
    rotate_left
    · (intro w _; go_simp <;> with_reducible rfl)
    try simp only [Act.put, List.setIfInBounds_toArray, List.set_cons_zero, List.set_cons_succ]
    refine anyHT_pure (fun _ => trivial) (by kernel_rfl) (i := 4) (oi := { dst := some 18, op := Op.move (Operand.tmp 17), type := 4, pos := "top09w.go:21", after := #[{ on := 3, ground := Ground.data }], guard := none }) (v := ?_) rfl (by kernel_rfl) (by kernel_rfl) (by kernel_rfl) (fun _ _ _ h => h) (Or.inl ⟨by rfl, ?_⟩) ?_
    rotate_left
    · (intro w _; go_simp <;> with_reducible rfl)
    try simp only [Act.put, List.setIfInBounds_toArray, List.set_cons_zero, List.set_cons_succ]
    refine anyHT_pure (fun _ => trivial) (by kernel_rfl) (i := 5) (oi := { dst := some 19, op := Op.move (Operand.tmp 1), type := 3, pos := "top09w.go:21", after := #[{ on := 4, ground := Ground.guard }], guard := some (4, false) }) (v := ?_) rfl (by kernel_rfl) (by kernel_rfl) (by kernel_rfl) (fun _ _ _ h => h) (Or.inl ⟨by rfl, ?_⟩) ?_
    rotate_left
    · (intro w _; go_simp <;> with_reducible rfl)
    try simp only [Act.put, List.setIfInBounds_toArray, List.set_cons_zero, List.set_cons_succ]
    refine anyHT_pure (fun _ => trivial) (by kernel_rfl) (i := 6) (oi := { dst := some 20, op := Op.binOp BinOp.lss 3 (Operand.tmp 19) (Operand.const (Value.int IntKind.i64 1)) 3, type := 4, pos := "top09w.go:21", after := #[{ on := 5, ground := Ground.data }, { on := 4, ground := Ground.guard }], guard := some (4, false) }) (v := ?_) rfl (by kernel_rfl) (by kernel_rfl) (by kernel_rfl) (fun _ _ _ h => h) (Or.inl ⟨by rfl, ?_⟩) ?_
    rotate_left
    · (intro w _; go_simp <;> with_reducible rfl)
    try simp only [Act.put, List.setIfInBounds_toArray, List.set_cons_zero, List.set_cons_succ]
    refine anyHT_pure (fun _ => trivial) (by kernel_rfl) (i := 7) (oi := { dst := some 21, op := Op.pick (Operand.tmp 18) (Operand.const (Value.bool true)) (Operand.tmp 20), type := 4, pos := "top09w.go:21", after := #[{ on := 4, ground := Ground.data }, { on := 6, ground := Ground.data }], guard := none }) (v := ?_) rfl (by kernel_rfl) (by kernel_rfl) (by kernel_rfl) (fun _ _ _ h => h) (Or.inl ⟨by rfl, ?_⟩) ?_
    rotate_left
    · (intro w _; go_simp <;> with_reducible rfl)
    try simp only [Act.put, List.setIfInBounds_toArray, List.set_cons_zero, List.set_cons_succ]
    refine anyHT_pure (fun _ => trivial) (by kernel_rfl) (i := 8) (oi := { dst := some 22, op := Op.move (Operand.tmp 21), type := 4, pos := "top09w.go:21", after := #[{ on := 7, ground := Ground.data }, { on := 4, ground := Ground.chain }], guard := none }) (v := ?_) rfl (by kernel_rfl) (by kernel_rfl) (by kernel_rfl) (fun _ _ _ h => h) (Or.inl ⟨by rfl, ?_⟩) ?_
    rotate_left
    · (intro w _; go_simp <;> with_reducible rfl)
    try simp only [Act.put, List.setIfInBounds_toArray, List.set_cons_zero, List.set_cons_succ]
    refine anyHT_pure (fun _ => trivial) (by kernel_rfl) (i := 9) (oi := { dst := some 23, op := Op.move (Operand.tmp 1), type := 3, pos := "top09w.go:21", after := #[{ on := 8, ground := Ground.guard }], guard := some (8, false) }) (v := undef) rfl (by kernel_rfl) (by kernel_rfl) (by kernel_rfl) (fun _ _ _ h => h) (Or.inr ⟨by rfl, rfl⟩) ?_
    try simp only [Act.put, List.setIfInBounds_toArray, List.set_cons_zero, List.set_cons_succ]
    refine anyHT_pure (fun _ => trivial) (by kernel_rfl) (i := 10) (oi := { dst := some 24, op := Op.binOp BinOp.gtr 3 (Operand.tmp 23) (Operand.const (Value.int IntKind.i64 8)) 3, type := 4, pos := "top09w.go:21", after := #[{ on := 9, ground := Ground.data }, { on := 8, ground := Ground.guard }], guard := some (8, false) }) (v := undef) rfl (by kernel_rfl) (by kernel_rfl) (by kernel_rfl) (fun _ _ _ h => h) (Or.inr ⟨by rfl, rfl⟩) ?_
    try simp only [Act.put, List.setIfInBounds_toArray, List.set_cons_zero, List.set_cons_succ]
    refine anyHT_pure (fun _ => trivial) (by kernel_rfl) (i := 11) (oi := { dst := some 25, op := Op.pick (Operand.tmp 22) (Operand.const (Value.bool true)) (Operand.tmp 24), type := 4, pos := "top09w.go:21", after := #[{ on := 8, ground := Ground.data }, { on := 10, ground := Ground.data }], guard := none }) (v := ?_) rfl (by kernel_rfl) (by kernel_rfl) (by kernel_rfl) (fun _ _ _ h => h) (Or.inl ⟨by rfl, ?_⟩) ?_
    rotate_left
    · (intro w _; go_simp <;> with_reducible rfl)
    try simp only [Act.put, List.setIfInBounds_toArray, List.set_cons_zero, List.set_cons_succ]
    refine anyHT_pure (fun _ => trivial) (by kernel_rfl) (i := 12) (oi := { dst := some 26, op := Op.move (Operand.tmp 25), type := 4, pos := "top09w.go:21", after := #[{ on := 11, ground := Ground.data }, { on := 8, ground := Ground.chain }], guard := none }) (v := ?_) rfl (by kernel_rfl) (by kernel_rfl) (by kernel_rfl) (fun _ _ _ h => h) (Or.inl ⟨by rfl, ?_⟩) ?_
    rotate_left
    · (intro w _; go_simp <;> with_reducible rfl)
    try simp only [Act.put, List.setIfInBounds_toArray, List.set_cons_zero, List.set_cons_succ]
    refine anyHT_pure (fun _ => trivial) (by kernel_rfl) (i := 13) (oi := { dst := some 27, op := Op.load 24 (Operand.tmp 2), type := 24, pos := "top09w.go:21", after := #[{ on := 12, ground := Ground.guard }], guard := some (12, false) }) (v := undef) rfl (by kernel_rfl) (by kernel_rfl) (by kernel_rfl) (fun _ _ _ h => h) (Or.inr ⟨by rfl, rfl⟩) ?_
    try simp only [Act.put, List.setIfInBounds_toArray, List.set_cons_zero, List.set_cons_succ]
    refine anyHT_pure (fun _ => trivial) (by kernel_rfl) (i := 14) (oi := { dst := some 28, op := Op.call { callee := Callee.value (Operand.func 7), args := #[Operand.tmp 27], argTypes := #[24] }, type := 25, pos := "top09w.go:21", after := #[{ on := 13, ground := Ground.data }, { on := 12, ground := Ground.chain }, { on := 12, ground := Ground.guard }], guard := some (12, false) }) (v := undef) rfl (by kernel_rfl) (by kernel_rfl) (by kernel_rfl) (fun _ _ _ h => h) (Or.inr ⟨by rfl, rfl⟩) ?_
    try simp only [Act.put, List.setIfInBounds_toArray, List.set_cons_zero, List.set_cons_succ]
    refine anyHT_pure (fun _ => trivial) (by kernel_rfl) (i := 15) (oi := { dst := some 29, op := Op.binOp BinOp.neq 25 (Operand.tmp 28) (Operand.const (Value.int IntKind.i64 0)) 25, type := 4, pos := "top09w.go:21", after := #[{ on := 14, ground := Ground.data }, { on := 12, ground := Ground.guard }], guard := some (12, false) }) (v := undef) rfl (by kernel_rfl) (by kernel_rfl) (by kernel_rfl) (fun _ _ _ h => h) (Or.inr ⟨by rfl, rfl⟩) ?_
    try simp only [Act.put, List.setIfInBounds_toArray, List.set_cons_zero, List.set_cons_succ]
    refine anyHT_pure (fun _ => trivial) (by kernel_rfl) (i := 16) (oi := { dst := some 30, op := Op.pick (Operand.tmp 26) (Operand.const (Value.bool true)) (Operand.tmp 29), type := 4, pos := "top09w.go:21", after := #[{ on := 12, ground := Ground.data }, { on := 15, ground := Ground.data }], guard := none }) (v := ?_) rfl (by kernel_rfl) (by kernel_rfl) (by kernel_rfl) (fun _ _ _ h => h) (Or.inl ⟨by rfl, ?_⟩) ?_
    rotate_left
    · (intro w _; go_simp <;> with_reducible rfl)
    try simp only [Act.put, List.setIfInBounds_toArray, List.set_cons_zero, List.set_cons_succ]
    refine anyHT_pure (fun _ => trivial) (by kernel_rfl) (i := 17) (oi := { dst := some 31, op := Op.move (Operand.tmp 30), type := 4, pos := "top09w.go:21", after := #[{ on := 16, ground := Ground.data }, { on := 14, ground := Ground.chain }], guard := none }) (v := ?_) rfl (by kernel_rfl) (by kernel_rfl) (by kernel_rfl) (fun _ _ _ h => h) (Or.inl ⟨by rfl, ?_⟩) ?_
    rotate_left
    · (intro w _; go_simp <;> with_reducible rfl)
    try simp only [Act.put, List.setIfInBounds_toArray, List.set_cons_zero, List.set_cons_succ]
    refine anyHT_pure (fun _ => trivial) (by kernel_rfl) (i := 18) (oi := { dst := some 32, op := Op.fieldAddr 24 (Operand.tmp 2) 1, type := 0, pos := "top09w.go:21", after := #[{ on := 17, ground := Ground.guard }], guard := some (17, false) }) (v := undef) rfl (by kernel_rfl) (by kernel_rfl) (by kernel_rfl) (fun _ _ _ h => h) (Or.inr ⟨by rfl, rfl⟩) ?_
    try simp only [Act.put, List.setIfInBounds_toArray, List.set_cons_zero, List.set_cons_succ]
    refine anyHT_pure (fun _ => trivial) (by kernel_rfl) (i := 19) (oi := { dst := some 33, op := Op.load 22 (Operand.tmp 32), type := 22, pos := "top09w.go:21", after := #[{ on := 18, ground := Ground.data }, { on := 17, ground := Ground.guard }], guard := some (17, false) }) (v := undef) rfl (by kernel_rfl) (by kernel_rfl) (by kernel_rfl) (fun _ _ _ h => h) (Or.inr ⟨by rfl, rfl⟩) ?_
    try simp only [Act.put, List.setIfInBounds_toArray, List.set_cons_zero, List.set_cons_succ]
    refine anyHT_pure (fun _ => trivial) (by kernel_rfl) (i := 20) (oi := { dst := some 34, op := Op.call { callee := Callee.builtin Builtin.len, args := #[Operand.tmp 33], argTypes := #[22] }, type := 3, pos := "top09w.go:21", after := #[{ on := 19, ground := Ground.data }, { on := 17, ground := Ground.guard }], guard := some (17, false) }) (v := undef) rfl (by kernel_rfl) (by kernel_rfl) (by kernel_rfl) (fun _ _ _ h => h) (Or.inr ⟨by rfl, rfl⟩) ?_
    try simp only [Act.put, List.setIfInBounds_toArray, List.set_cons_zero, List.set_cons_succ]
    refine anyHT_pure (fun _ => trivial) (by kernel_rfl) (i := 21) (oi := { dst := some 35, op := Op.binOp BinOp.lss 3 (Operand.tmp 34) (Operand.const (Value.int IntKind.i64 2)) 3, type := 4, pos := "top09w.go:21", after := #[{ on := 20, ground := Ground.data }, { on := 17, ground := Ground.guard }], guard := some (17, false) }) (v := undef) rfl (by kernel_rfl) (by kernel_rfl) (by kernel_rfl) (fun _ _ _ h => h) (Or.inr ⟨by rfl, rfl⟩) ?_
    try simp only [Act.put, List.setIfInBounds_toArray, List.set_cons_zero, List.set_cons_succ]
    refine anyHT_pure (fun _ => trivial) (by kernel_rfl) (i := 22) (oi := { dst := some 36, op := Op.pick (Operand.tmp 31) (Operand.const (Value.bool true)) (Operand.tmp 35), type := 4, pos := "top09w.go:21", after := #[{ on := 17, ground := Ground.data }, { on := 21, ground := Ground.data }], guard := none }) (v := ?_) rfl (by kernel_rfl) (by kernel_rfl) (by kernel_rfl) (fun _ _ _ h => h) (Or.inl ⟨by rfl, ?_⟩) ?_
    rotate_left
    · (intro w _; go_simp <;> with_reducible rfl)
    try simp only [Act.put, List.setIfInBounds_toArray, List.set_cons_zero, List.set_cons_succ]
    refine anyHT_pure (fun _ => trivial) (by kernel_rfl) (i := 23) (oi := { dst := some 37, op := Op.move (Operand.tmp 36), type := 4, pos := "top09w.go:21", after := #[{ on := 22, ground := Ground.data }, { on := 17, ground := Ground.chain }], guard := none }) (v := ?_) rfl (by kernel_rfl) (by kernel_rfl) (by kernel_rfl) (fun _ _ _ h => h) (Or.inl ⟨by rfl, ?_⟩) ?_
    rotate_left
    · (intro w _; go_simp <;> with_reducible rfl)
    try simp only [Act.put, List.setIfInBounds_toArray, List.set_cons_zero, List.set_cons_succ]
    refine anyHT_pure (fun _ => trivial) (by kernel_rfl) (i := 24) (oi := { dst := some 38, op := Op.fieldAddr 24 (Operand.tmp 2) 1, type := 0, pos := "top09w.go:21", after := #[{ on := 23, ground := Ground.guard }], guard := some (23, false) }) (v := undef) rfl (by kernel_rfl) (by kernel_rfl) (by kernel_rfl) (fun _ _ _ h => h) (Or.inr ⟨by rfl, rfl⟩) ?_
    try simp only [Act.put, List.setIfInBounds_toArray, List.set_cons_zero, List.set_cons_succ]
    refine anyHT_pure (fun _ => trivial) (by kernel_rfl) (i := 25) (oi := { dst := some 39, op := Op.load 22 (Operand.tmp 38), type := 22, pos := "top09w.go:21", after := #[{ on := 24, ground := Ground.data }, { on := 23, ground := Ground.guard }], guard := some (23, false) }) (v := undef) rfl (by kernel_rfl) (by kernel_rfl) (by kernel_rfl) (fun _ _ _ h => h) (Or.inr ⟨by rfl, rfl⟩) ?_
    try simp only [Act.put, List.setIfInBounds_toArray, List.set_cons_zero, List.set_cons_succ]
    refine anyHT_pure (fun _ => trivial) (by kernel_rfl) (i := 26) (oi := { dst := some 40, op := Op.call { callee := Callee.builtin Builtin.len, args := #[Operand.tmp 39], argTypes := #[22] }, type := 3, pos := "top09w.go:21", after := #[{ on := 25, ground := Ground.data }, { on := 23, ground := Ground.guard }], guard := some (23, false) }) (v := undef) rfl (by kernel_rfl) (by kernel_rfl) (by kernel_rfl) (fun _ _ _ h => h) (Or.inr ⟨by rfl, rfl⟩) ?_
    try simp only [Act.put, List.setIfInBounds_toArray, List.set_cons_zero, List.set_cons_succ]
    refine anyHT_pure (fun _ => trivial) (by kernel_rfl) (i := 27) (oi := { dst := some 41, op := Op.binOp BinOp.gtr 3 (Operand.tmp 40) (Operand.const (Value.int IntKind.i64 41)) 3, type := 4, pos := "top09w.go:21", after := #[{ on := 26, ground := Ground.data }, { on := 23, ground := Ground.guard }], guard := some (23, false) }) (v := undef) rfl (by kernel_rfl) (by kernel_rfl) (by kernel_rfl) (fun _ _ _ h => h) (Or.inr ⟨by rfl, rfl⟩) ?_
    try simp only [Act.put, List.setIfInBounds_toArray, List.set_cons_zero, List.set_cons_succ]
    refine anyHT_pure (fun _ => trivial) (by kernel_rfl) (i := 28) (oi := { dst := some 42, op := Op.pick (Operand.tmp 37) (Operand.const (Value.bool true)) (Operand.tmp 41), type := 4, pos := "top09w.go:21", after := #[{ on := 23, ground := Ground.data }, { on := 27, ground := Ground.data }], guard := none }) (v := ?_) rfl (by kernel_rfl) (by kernel_rfl) (by kernel_rfl) (fun _ _ _ h => h) (Or.inl ⟨by rfl, ?_⟩) ?_
    rotate_left
    · (intro w _; go_simp <;> with_reducible rfl)
    try simp only [Act.put, List.setIfInBounds_toArray, List.set_cons_zero, List.set_cons_succ]
    refine anyHT_pure (fun _ => trivial) (by kernel_rfl) (i := 29) (oi := { dst := some 43, op := Op.move (Operand.tmp 42), type := 4, pos := "top09w.go:21", after := #[{ on := 28, ground := Ground.data }, { on := 23, ground := Ground.chain }], guard := none }) (v := ?_) rfl (by kernel_rfl) (by kernel_rfl) (by kernel_rfl) (fun _ _ _ h => h) (Or.inl ⟨by rfl, ?_⟩) ?_
    rotate_left
    · (intro w _; go_simp <;> with_reducible rfl)
    try simp only [Act.put, List.setIfInBounds_toArray, List.set_cons_zero, List.set_cons_succ]
    refine anyHT_pure (fun _ => trivial) (by kernel_rfl) (i := 30) (oi := { dst := some 44, op := Op.fieldAddr 24 (Operand.tmp 2) 1, type := 0, pos := "top09w.go:21", after := #[{ on := 29, ground := Ground.guard }], guard := some (29, false) }) (v := undef) rfl (by kernel_rfl) (by kernel_rfl) (by kernel_rfl) (fun _ _ _ h => h) (Or.inr ⟨by rfl, rfl⟩) ?_
    try simp only [Act.put, List.setIfInBounds_toArray, List.set_cons_zero, List.set_cons_succ]
    refine anyHT_pure (fun _ => trivial) (by kernel_rfl) (i := 31) (oi := { dst := some 45, op := Op.load 22 (Operand.tmp 44), type := 22, pos := "top09w.go:21", after := #[{ on := 30, ground := Ground.data }, { on := 29, ground := Ground.guard }], guard := some (29, false) }) (v := undef) rfl (by kernel_rfl) (by kernel_rfl) (by kernel_rfl) (fun _ _ _ h => h) (Or.inr ⟨by rfl, rfl⟩) ?_
    try simp only [Act.put, List.setIfInBounds_toArray, List.set_cons_zero, List.set_cons_succ]
    refine anyHT_pure (fun _ => trivial) (by kernel_rfl) (i := 32) (oi := { dst := some 46, op := Op.fieldAddr 24 (Operand.tmp 2) 1, type := 0, pos := "top09w.go:21", after := #[{ on := 29, ground := Ground.guard }], guard := some (29, false) }) (v := undef) rfl (by kernel_rfl) (by kernel_rfl) (by kernel_rfl) (fun _ _ _ h => h) (Or.inr ⟨by rfl, rfl⟩) ?_
    try simp only [Act.put, List.setIfInBounds_toArray, List.set_cons_zero, List.set_cons_succ]
    refine anyHT_pure (fun _ => trivial) (by kernel_rfl) (i := 33) (oi := { dst := some 47, op := Op.load 22 (Operand.tmp 46), type := 22, pos := "top09w.go:21", after := #[{ on := 32, ground := Ground.data }, { on := 29, ground := Ground.guard }], guard := some (29, false) }) (v := undef) rfl (by kernel_rfl) (by kernel_rfl) (by kernel_rfl) (fun _ _ _ h => h) (Or.inr ⟨by rfl, rfl⟩) ?_
    try simp only [Act.put, List.setIfInBounds_toArray, List.set_cons_zero, List.set_cons_succ]
    refine anyHT_pure (fun _ => trivial) (by kernel_rfl) (i := 34) (oi := { dst := some 48, op := Op.call { callee := Callee.builtin Builtin.len, args := #[Operand.tmp 47], argTypes := #[22] }, type := 3, pos := "top09w.go:21", after := #[{ on := 33, ground := Ground.data }, { on := 29, ground := Ground.guard }], guard := some (29, false) }) (v := undef) rfl (by kernel_rfl) (by kernel_rfl) (by kernel_rfl) (fun _ _ _ h => h) (Or.inr ⟨by rfl, rfl⟩) ?_
    try simp only [Act.put, List.setIfInBounds_toArray, List.set_cons_zero, List.set_cons_succ]
    refine anyHT_pure (fun _ => trivial) (by kernel_rfl) (i := 35) (oi := { dst := some 49, op := Op.binOp BinOp.sub 3 (Operand.tmp 48) (Operand.const (Value.int IntKind.i64 1)) 3, type := 3, pos := "top09w.go:21", after := #[{ on := 34, ground := Ground.data }, { on := 29, ground := Ground.guard }], guard := some (29, false) }) (v := undef) rfl (by kernel_rfl) (by kernel_rfl) (by kernel_rfl) (fun _ _ _ h => h) (Or.inr ⟨by rfl, rfl⟩) ?_
    try simp only [Act.put, List.setIfInBounds_toArray, List.set_cons_zero, List.set_cons_succ]
    refine anyHT_pure (fun _ => trivial) (by kernel_rfl) (i := 36) (oi := { dst := some 50, op := Op.indexAddr 22 (Operand.tmp 45) (Operand.tmp 49), type := 0, pos := "top09w.go:21", after := #[{ on := 31, ground := Ground.data }, { on := 35, ground := Ground.data }, { on := 29, ground := Ground.guard }], guard := some (29, false) }) (v := undef) rfl (by kernel_rfl) (by kernel_rfl) (by kernel_rfl) (fun _ _ _ h => h) (Or.inr ⟨by rfl, rfl⟩) ?_
    try simp only [Act.put, List.setIfInBounds_toArray, List.set_cons_zero, List.set_cons_succ]
    refine anyHT_pure (fun _ => trivial) (by kernel_rfl) (i := 37) (oi := { dst := some 51, op := Op.load 3 (Operand.tmp 50), type := 3, pos := "top09w.go:21", after := #[{ on := 36, ground := Ground.data }, { on := 29, ground := Ground.guard }], guard := some (29, false) }) (v := undef) rfl (by kernel_rfl) (by kernel_rfl) (by kernel_rfl) (fun _ _ _ h => h) (Or.inr ⟨by rfl, rfl⟩) ?_
    try simp only [Act.put, List.setIfInBounds_toArray, List.set_cons_zero, List.set_cons_succ]
    refine anyHT_pure (fun _ => trivial) (by kernel_rfl) (i := 38) (oi := { dst := some 52, op := Op.fieldAddr 24 (Operand.tmp 2) 0, type := 0, pos := "top09w.go:21", after := #[{ on := 29, ground := Ground.guard }], guard := some (29, false) }) (v := undef) rfl (by kernel_rfl) (by kernel_rfl) (by kernel_rfl) (fun _ _ _ h => h) (Or.inr ⟨by rfl, rfl⟩) ?_
    try simp only [Act.put, List.setIfInBounds_toArray, List.set_cons_zero, List.set_cons_succ]
    refine anyHT_pure (fun _ => trivial) (by kernel_rfl) (i := 39) (oi := { dst := some 53, op := Op.load 22 (Operand.tmp 52), type := 22, pos := "top09w.go:21", after := #[{ on := 38, ground := Ground.data }, { on := 29, ground := Ground.guard }], guard := some (29, false) }) (v := undef) rfl (by kernel_rfl) (by kernel_rfl) (by kernel_rfl) (fun _ _ _ h => h) (Or.inr ⟨by rfl, rfl⟩) ?_
    try simp only [Act.put, List.setIfInBounds_toArray, List.set_cons_zero, List.set_cons_succ]
    refine anyHT_pure (fun _ => trivial) (by kernel_rfl) (i := 40) (oi := { dst := some 54, op := Op.call { callee := Callee.builtin Builtin.len, args := #[Operand.tmp 53], argTypes := #[22] }, type := 3, pos := "top09w.go:21", after := #[{ on := 39, ground := Ground.data }, { on := 29, ground := Ground.guard }], guard := some (29, false) }) (v := undef) rfl (by kernel_rfl) (by kernel_rfl) (by kernel_rfl) (fun _ _ _ h => h) (Or.inr ⟨by rfl, rfl⟩) ?_
    try simp only [Act.put, List.setIfInBounds_toArray, List.set_cons_zero, List.set_cons_succ]
    refine anyHT_pure (fun _ => trivial) (by kernel_rfl) (i := 41) (oi := { dst := some 55, op := Op.binOp BinOp.neq 3 (Operand.tmp 51) (Operand.tmp 54) 3, type := 4, pos := "top09w.go:21", after := #[{ on := 37, ground := Ground.data }, { on := 40, ground := Ground.data }, { on := 29, ground := Ground.guard }], guard := some (29, false) }) (v := undef) rfl (by kernel_rfl) (by kernel_rfl) (by kernel_rfl) (fun _ _ _ h => h) (Or.inr ⟨by rfl, rfl⟩) ?_
    try simp only [Act.put, List.setIfInBounds_toArray, List.set_cons_zero, List.set_cons_succ]
    refine anyHT_pure (fun _ => trivial) (by kernel_rfl) (i := 42) (oi := { dst := some 56, op := Op.pick (Operand.tmp 43) (Operand.const (Value.bool true)) (Operand.tmp 55), type := 4, pos := "top09w.go:21", after := #[{ on := 29, ground := Ground.data }, { on := 41, ground := Ground.data }], guard := none }) (v := ?_) rfl (by kernel_rfl) (by kernel_rfl) (by kernel_rfl) (fun _ _ _ h => h) (Or.inl ⟨by rfl, ?_⟩) ?_
    rotate_left
    · (intro w _; go_simp <;> with_reducible rfl)
    try simp only [Act.put, List.setIfInBounds_toArray, List.set_cons_zero, List.set_cons_succ]
    refine anyHT_done (by kernel_rfl) ?_ _
    go_wp2_with fail
    refine (HK.out _).mono ?_
    rintro e w9 ⟨rfl, hb9⟩
    have HB9 : Aside0 (Below w.heap.size w w9) := ⟨below_trans' (pw_below_drewN HB0.out 1) hb9⟩
    clear hb9
    go_wp2_with fail
    go_ret
    exact ⟨rfl, HB9.out⟩
  have d2 : decide (k < 1) = false := by simpa using b2
  by_cases b3 : 8 < k
  · have d3 : decide (k > 8) = true := by simpa using b3
    have d3n : decide (8 < k) = true := by simpa using b3
    go_enter Try.func3, Try.ntmps3
    go_wp2_with fail
    refine (wpIn_wide (n := 0)).1 ?_
    refine region_anyHT (fun W' => Below w.heap.size w W' ∧ W'.cell? ⟨w.heap.size, 0, none⟩ = some (.slice A0 xs.length c0) ∧ W'.cell? ⟨w.heap.size, 1, none⟩ = some (.slice A1 ms.length c1)) [] (by kernel_rfl) (⟨pw_below_drewN HB0.out 1, HSa.out, HSb.out⟩) (fun hHeld => ?_)
    refine anyHT_pure (fun _ => trivial) (by kernel_rfl) (i := 0) (oi := { dst := some 14, op := Op.fieldAddr 24 (Operand.tmp 2) 0, type := 0, pos := "top09w.go:21", after := #[], guard := none }) (v := ?_) rfl (by kernel_rfl) (by kernel_rfl) (by kernel_rfl) (fun _ _ _ h => h) (Or.inl ⟨by rfl, ?_⟩) ?_
    rotate_left
    · (intro w _; go_simp <;> with_reducible rfl)
    try simp only [Act.put, List.setIfInBounds_toArray, List.set_cons_zero, List.set_cons_succ]
    refine anyHT_take (fun _ => trivial) (by kernel_rfl) [2, 3, 4, 5, 6, 7, 8, 9, 10, 11, 12, 13, 14, 15, 16, 17, 18, 19, 20, 21, 22, 23, 24, 25, 26, 27, 28, 29, 30, 31, 32, 33, 34, 35, 36, 37, 38, 39, 40, 41, 42] (i := 1) (oi := { dst := some 15, op := Op.load 22 (Operand.tmp 14), type := 22, pos := "top09w.go:21", after := #[{ on := 0, ground := Ground.data }], guard := none }) (v := ?_) rfl (by kernel_rfl) (by kernel_rfl) (by kernel_rfl) (by kernel_rfl) (by kernel_rfl) (by decide) (fun _ _ _ h => h) (Or.inl ⟨by rfl, ?_⟩) hHeld ?_
    rotate_left
    · (intro w hSw; (try dsimp only at hSw); go_simp <;> with_reducible rfl)
    try simp only [Act.put, List.setIfInBounds_toArray, List.set_cons_zero, List.set_cons_succ]
    refine anyHT_pure (fun _ => trivial) (by kernel_rfl) (i := 2) (oi := { dst := some 16, op := Op.call { callee := Callee.builtin Builtin.len, args := #[Operand.tmp 15], argTypes := #[22] }, type := 3, pos := "top09w.go:21", after := #[{ on := 1, ground := Ground.data }], guard := none }) (v := ?_) rfl (by kernel_rfl) (by kernel_rfl) (by kernel_rfl) (fun _ _ _ h => h) (Or.inl ⟨by rfl, ?_⟩) ?_
    rotate_left
    · (intro w _; go_simp <;> with_reducible rfl)
    try simp only [Act.put, List.setIfInBounds_toArray, List.set_cons_zero, List.set_cons_succ]
    refine anyHT_pure (fun _ => trivial) (by kernel_rfl) (i := 3) (oi := { dst := some 17, op := Op.binOp BinOp.gtr 3 (Operand.tmp 16) (Operand.const (Value.int IntKind.i64 400)) 3, type := 4, pos := "top09w.go:21", after := #[{ on := 2, ground := Ground.data }], guard := none }) (v := ?_) rfl (by kernel_rfl) (by kernel_rfl) (by kernel_rfl) (fun _ _ _ h => h) (Or.inl ⟨by rfl, ?_⟩) ?_
    rotate_left
    · (intro w _; go_simp <;> with_reducible rfl)
    try simp only [Act.put, List.setIfInBounds_toArray, List.set_cons_zero, List.set_cons_succ]
    refine anyHT_pure (fun _ => trivial) (by kernel_rfl) (i := 4) (oi := { dst := some 18, op := Op.move (Operand.tmp 17), type := 4, pos := "top09w.go:21", after := #[{ on := 3, ground := Ground.data }], guard := none }) (v := ?_) rfl (by kernel_rfl) (by kernel_rfl) (by kernel_rfl) (fun _ _ _ h => h) (Or.inl ⟨by rfl, ?_⟩) ?_
    rotate_left
    · (intro w _; go_simp <;> with_reducible rfl)
    try simp only [Act.put, List.setIfInBounds_toArray, List.set_cons_zero, List.set_cons_succ]
    refine anyHT_pure (fun _ => trivial) (by kernel_rfl) (i := 5) (oi := { dst := some 19, op := Op.move (Operand.tmp 1), type := 3, pos := "top09w.go:21", after := #[{ on := 4, ground := Ground.guard }], guard := some (4, false) }) (v := ?_) rfl (by kernel_rfl) (by kernel_rfl) (by kernel_rfl) (fun _ _ _ h => h) (Or.inl ⟨by rfl, ?_⟩) ?_
    rotate_left
    · (intro w _; go_simp <;> with_reducible rfl)
    try simp only [Act.put, List.setIfInBounds_toArray, List.set_cons_zero, List.set_cons_succ]
    refine anyHT_pure (fun _ => trivial) (by kernel_rfl) (i := 6) (oi := { dst := some 20, op := Op.binOp BinOp.lss 3 (Operand.tmp 19) (Operand.const (Value.int IntKind.i64 1)) 3, type := 4, pos := "top09w.go:21", after := #[{ on := 5, ground := Ground.data }, { on := 4, ground := Ground.guard }], guard := some (4, false) }) (v := ?_) rfl (by kernel_rfl) (by kernel_rfl) (by kernel_rfl) (fun _ _ _ h => h) (Or.inl ⟨by rfl, ?_⟩) ?_
    rotate_left
    · (intro w _; go_simp <;> with_reducible rfl)
    try simp only [Act.put, List.setIfInBounds_toArray, List.set_cons_zero, List.set_cons_succ]
    refine anyHT_pure (fun _ => trivial) (by kernel_rfl) (i := 7) (oi := { dst := some 21, op := Op.pick (Operand.tmp 18) (Operand.const (Value.bool true)) (Operand.tmp 20), type := 4, pos := "top09w.go:21", after := #[{ on := 4, ground := Ground.data }, { on := 6, ground := Ground.data }], guard := none }) (v := ?_) rfl (by kernel_rfl) (by kernel_rfl) (by kernel_rfl) (fun _ _ _ h => h) (Or.inl ⟨by rfl, ?_⟩) ?_
    rotate_left
    · (intro w _; go_simp <;> with_reducible rfl)
    try simp only [Act.put, List.setIfInBounds_toArray, List.set_cons_zero, List.set_cons_succ]
    refine anyHT_pure (fun _ => trivial) (by kernel_rfl) (i := 8) (oi := { dst := some 22, op := Op.move (Operand.tmp 21), type := 4, pos := "top09w.go:21", after := #[{ on := 7, ground := Ground.data }, { on := 4, ground := Ground.chain }], guard := none }) (v := ?_) rfl (by kernel_rfl) (by kernel_rfl) (by kernel_rfl) (fun _ _ _ h => h) (Or.inl ⟨by rfl, ?_⟩) ?_
    rotate_left
    · (intro w _; go_simp <;> with_reducible rfl)
    try simp only [Act.put, List.setIfInBounds_toArray, List.set_cons_zero, List.set_cons_succ]
    refine anyHT_pure (fun _ => trivial) (by kernel_rfl) (i := 9) (oi := { dst := some 23, op := Op.move (Operand.tmp 1), type := 3, pos := "top09w.go:21", after := #[{ on := 8, ground := Ground.guard }], guard := some (8, false) }) (v := ?_) rfl (by kernel_rfl) (by kernel_rfl) (by kernel_rfl) (fun _ _ _ h => h) (Or.inl ⟨by rfl, ?_⟩) ?_
    rotate_left
    · (intro w _; go_simp <;> with_reducible rfl)
    try simp only [Act.put, List.setIfInBounds_toArray, List.set_cons_zero, List.set_cons_succ]
    refine anyHT_pure (fun _ => trivial) (by kernel_rfl) (i := 10) (oi := { dst := some 24, op := Op.binOp BinOp.gtr 3 (Operand.tmp 23) (Operand.const (Value.int IntKind.i64 8)) 3, type := 4, pos := "top09w.go:21", after := #[{ on := 9, ground := Ground.data }, { on := 8, ground := Ground.guard }], guard := some (8, false) }) (v := ?_) rfl (by kernel_rfl) (by kernel_rfl) (by kernel_rfl) (fun _ _ _ h => h) (Or.inl ⟨by rfl, ?_⟩) ?_
    rotate_left
    · (intro w _; go_simp <;> with_reducible rfl)
    try simp only [Act.put, List.setIfInBounds_toArray, List.set_cons_zero, List.set_cons_succ]
    refine anyHT_pure (fun _ => trivial) (by kernel_rfl) (i := 11) (oi := { dst := some 25, op := Op.pick (Operand.tmp 22) (Operand.const (Value.bool true)) (Operand.tmp 24), type := 4, pos := "top09w.go:21", after := #[{ on := 8, ground := Ground.data }, { on := 10, ground := Ground.data }], guard := none }) (v := ?_) rfl (by kernel_rfl) (by kernel_rfl) (by kernel_rfl) (fun _ _ _ h => h) (Or.inl ⟨by rfl, ?_⟩) ?_
    rotate_left
    · (intro w _; go_simp <;> with_reducible rfl)
    try simp only [Act.put, List.setIfInBounds_toArray, List.set_cons_zero, List.set_cons_succ]
    refine anyHT_pure (fun _ => trivial) (by kernel_rfl) (i := 12) (oi := { dst := some 26, op := Op.move (Operand.tmp 25), type := 4, pos := "top09w.go:21", after := #[{ on := 11, ground := Ground.data }, { on := 8, ground := Ground.chain }], guard := none }) (v := ?_) rfl (by kernel_rfl) (by kernel_rfl) (by kernel_rfl) (fun _ _ _ h => h) (Or.inl ⟨by rfl, ?_⟩) ?_
    rotate_left
    · (intro w _; go_simp <;> with_reducible rfl)
    try simp only [Act.put, List.setIfInBounds_toArray, List.set_cons_zero, List.set_cons_succ]
    refine anyHT_pure (fun _ => trivial) (by kernel_rfl) (i := 13) (oi := { dst := some 27, op := Op.load 24 (Operand.tmp 2), type := 24, pos := "top09w.go:21", after := #[{ on := 12, ground := Ground.guard }], guard := some (12, false) }) (v := undef) rfl (by kernel_rfl) (by kernel_rfl) (by kernel_rfl) (fun _ _ _ h => h) (Or.inr ⟨by rfl, rfl⟩) ?_
    try simp only [Act.put, List.setIfInBounds_toArray, List.set_cons_zero, List.set_cons_succ]
    refine anyHT_pure (fun _ => trivial) (by kernel_rfl) (i := 14) (oi := { dst := some 28, op := Op.call { callee := Callee.value (Operand.func 7), args := #[Operand.tmp 27], argTypes := #[24] }, type := 25, pos := "top09w.go:21", after := #[{ on := 13, ground := Ground.data }, { on := 12, ground := Ground.chain }, { on := 12, ground := Ground.guard }], guard := some (12, false) }) (v := undef) rfl (by kernel_rfl) (by kernel_rfl) (by kernel_rfl) (fun _ _ _ h => h) (Or.inr ⟨by rfl, rfl⟩) ?_
    try simp only [Act.put, List.setIfInBounds_toArray, List.set_cons_zero, List.set_cons_succ]
    refine anyHT_pure (fun _ => trivial) (by kernel_rfl) (i := 15) (oi := { dst := some 29, op := Op.binOp BinOp.neq 25 (Operand.tmp 28) (Operand.const (Value.int IntKind.i64 0)) 25, type := 4, pos := "top09w.go:21", after := #[{ on := 14, ground := Ground.data }, { on := 12, ground := Ground.guard }], guard := some (12, false) }) (v := undef) rfl (by kernel_rfl) (by kernel_rfl) (by kernel_rfl) (fun _ _ _ h => h) (Or.inr ⟨by rfl, rfl⟩) ?_
    try simp only [Act.put, List.setIfInBounds_toArray, List.set_cons_zero, List.set_cons_succ]
    refine anyHT_pure (fun _ => trivial) (by kernel_rfl) (i := 16) (oi := { dst := some 30, op := Op.pick (Operand.tmp 26) (Operand.const (Value.bool true)) (Operand.tmp 29), type := 4, pos := "top09w.go:21", after := #[{ on := 12, ground := Ground.data }, { on := 15, ground := Ground.data }], guard := none }) (v := ?_) rfl (by kernel_rfl) (by kernel_rfl) (by kernel_rfl) (fun _ _ _ h => h) (Or.inl ⟨by rfl, ?_⟩) ?_
    rotate_left
    · (intro w _; go_simp <;> with_reducible rfl)
    try simp only [Act.put, List.setIfInBounds_toArray, List.set_cons_zero, List.set_cons_succ]
    refine anyHT_pure (fun _ => trivial) (by kernel_rfl) (i := 17) (oi := { dst := some 31, op := Op.move (Operand.tmp 30), type := 4, pos := "top09w.go:21", after := #[{ on := 16, ground := Ground.data }, { on := 14, ground := Ground.chain }], guard := none }) (v := ?_) rfl (by kernel_rfl) (by kernel_rfl) (by kernel_rfl) (fun _ _ _ h => h) (Or.inl ⟨by rfl, ?_⟩) ?_
    rotate_left
    · (intro w _; go_simp <;> with_reducible rfl)
    try simp only [Act.put, List.setIfInBounds_toArray, List.set_cons_zero, List.set_cons_succ]
    refine anyHT_pure (fun _ => trivial) (by kernel_rfl) (i := 18) (oi := { dst := some 32, op := Op.fieldAddr 24 (Operand.tmp 2) 1, type := 0, pos := "top09w.go:21", after := #[{ on := 17, ground := Ground.guard }], guard := some (17, false) }) (v := undef) rfl (by kernel_rfl) (by kernel_rfl) (by kernel_rfl) (fun _ _ _ h => h) (Or.inr ⟨by rfl, rfl⟩) ?_
    try simp only [Act.put, List.setIfInBounds_toArray, List.set_cons_zero, List.set_cons_succ]
    refine anyHT_pure (fun _ => trivial) (by kernel_rfl) (i := 19) (oi := { dst := some 33, op := Op.load 22 (Operand.tmp 32), type := 22, pos := "top09w.go:21", after := #[{ on := 18, ground := Ground.data }, { on := 17, ground := Ground.guard }], guard := some (17, false) }) (v := undef) rfl (by kernel_rfl) (by kernel_rfl) (by kernel_rfl) (fun _ _ _ h => h) (Or.inr ⟨by rfl, rfl⟩) ?_
    try simp only [Act.put, List.setIfInBounds_toArray, List.set_cons_zero, List.set_cons_succ]
    refine anyHT_pure (fun _ => trivial) (by kernel_rfl) (i := 20) (oi := { dst := some 34, op := Op.call { callee := Callee.builtin Builtin.len, args := #[Operand.tmp 33], argTypes := #[22] }, type := 3, pos := "top09w.go:21", after := #[{ on := 19, ground := Ground.data }, { on := 17, ground := Ground.guard }], guard := some (17, false) }) (v := undef) rfl (by kernel_rfl) (by kernel_rfl) (by kernel_rfl) (fun _ _ _ h => h) (Or.inr ⟨by rfl, rfl⟩) ?_
    try simp only [Act.put, List.setIfInBounds_toArray, List.set_cons_zero, List.set_cons_succ]
    refine anyHT_pure (fun _ => trivial) (by kernel_rfl) (i := 21) (oi := { dst := some 35, op := Op.binOp BinOp.lss 3 (Operand.tmp 34) (Operand.const (Value.int IntKind.i64 2)) 3, type := 4, pos := "top09w.go:21", after := #[{ on := 20, ground := Ground.data }, { on := 17, ground := Ground.guard }], guard := some (17, false) }) (v := undef) rfl (by kernel_rfl) (by kernel_rfl) (by kernel_rfl) (fun _ _ _ h => h) (Or.inr ⟨by rfl, rfl⟩) ?_
    try simp only [Act.put, List.setIfInBounds_toArray, List.set_cons_zero, List.set_cons_succ]
    refine anyHT_pure (fun _ => trivial) (by kernel_rfl) (i := 22) (oi := { dst := some 36, op := Op.pick (Operand.tmp 31) (Operand.const (Value.bool true)) (Operand.tmp 35), type := 4, pos := "top09w.go:21", after := #[{ on := 17, ground := Ground.data }, { on := 21, ground := Ground.data }], guard := none }) (v := ?_) rfl (by kernel_rfl) (by kernel_rfl) (by kernel_rfl) (fun _ _ _ h => h) (Or.inl ⟨by rfl, ?_⟩) ?_
    rotate_left
    · (intro w _; go_simp <;> with_reducible rfl)
    try simp only [Act.put, List.setIfInBounds_toArray, List.set_cons_zero, List.set_cons_succ]
    refine anyHT_pure (fun _ => trivial) (by kernel_rfl) (i := 23) (oi := { dst := some 37, op := Op.move (Operand.tmp 36), type := 4, pos := "top09w.go:21", after := #[{ on := 22, ground := Ground.data }, { on := 17, ground := Ground.chain }], guard := none }) (v := ?_) rfl (by kernel_rfl) (by kernel_rfl) (by kernel_rfl) (fun _ _ _ h => h) (Or.inl ⟨by rfl, ?_⟩) ?_
    rotate_left
    · (intro w _; go_simp <;> with_reducible rfl)
    try simp only [Act.put, List.setIfInBounds_toArray, List.set_cons_zero, List.set_cons_succ]
    refine anyHT_pure (fun _ => trivial) (by kernel_rfl) (i := 24) (oi := { dst := some 38, op := Op.fieldAddr 24 (Operand.tmp 2) 1, type := 0, pos := "top09w.go:21", after := #[{ on := 23, ground := Ground.guard }], guard := some (23, false) }) (v := undef) rfl (by kernel_rfl) (by kernel_rfl) (by kernel_rfl) (fun _ _ _ h => h) (Or.inr ⟨by rfl, rfl⟩) ?_
    try simp only [Act.put, List.setIfInBounds_toArray, List.set_cons_zero, List.set_cons_succ]
    refine anyHT_pure (fun _ => trivial) (by kernel_rfl) (i := 25) (oi := { dst := some 39, op := Op.load 22 (Operand.tmp 38), type := 22, pos := "top09w.go:21", after := #[{ on := 24, ground := Ground.data }, { on := 23, ground := Ground.guard }], guard := some (23, false) }) (v := undef) rfl (by kernel_rfl) (by kernel_rfl) (by kernel_rfl) (fun _ _ _ h => h) (Or.inr ⟨by rfl, rfl⟩) ?_
    try simp only [Act.put, List.setIfInBounds_toArray, List.set_cons_zero, List.set_cons_succ]
    refine anyHT_pure (fun _ => trivial) (by kernel_rfl) (i := 26) (oi := { dst := some 40, op := Op.call { callee := Callee.builtin Builtin.len, args := #[Operand.tmp 39], argTypes := #[22] }, type := 3, pos := "top09w.go:21", after := #[{ on := 25, ground := Ground.data }, { on := 23, ground := Ground.guard }], guard := some (23, false) }) (v := undef) rfl (by kernel_rfl) (by kernel_rfl) (by kernel_rfl) (fun _ _ _ h => h) (Or.inr ⟨by rfl, rfl⟩) ?_
    try simp only [Act.put, List.setIfInBounds_toArray, List.set_cons_zero, List.set_cons_succ]
    refine anyHT_pure (fun _ => trivial) (by kernel_rfl) (i := 27) (oi := { dst := some 41, op := Op.binOp BinOp.gtr 3 (Operand.tmp 40) (Operand.const (Value.int IntKind.i64 41)) 3, type := 4, pos := "top09w.go:21", after := #[{ on := 26, ground := Ground.data }, { on := 23, ground := Ground.guard }], guard := some (23, false) }) (v := undef) rfl (by kernel_rfl) (by kernel_rfl) (by kernel_rfl) (fun _ _ _ h => h) (Or.inr ⟨by rfl, rfl⟩) ?_
    try simp only [Act.put, List.setIfInBounds_toArray, List.set_cons_zero, List.set_cons_succ]
    refine anyHT_pure (fun _ => trivial) (by kernel_rfl) (i := 28) (oi := { dst := some 42, op := Op.pick (Operand.tmp 37) (Operand.const (Value.bool true)) (Operand.tmp 41), type := 4, pos := "top09w.go:21", after := #[{ on := 23, ground := Ground.data }, { on := 27, ground := Ground.data }], guard := none }) (v := ?_) rfl (by kernel_rfl) (by kernel_rfl) (by kernel_rfl) (fun _ _ _ h => h) (Or.inl ⟨by rfl, ?_⟩) ?_
    rotate_left
    · (intro w _; go_simp <;> with_reducible rfl)
    try simp only [Act.put, List.setIfInBounds_toArray, List.set_cons_zero, List.set_cons_succ]
    refine anyHT_pure (fun _ => trivial) (by kernel_rfl) (i := 29) (oi := { dst := some 43, op := Op.move (Operand.tmp 42), type := 4, pos := "top09w.go:21", after := #[{ on := 28, ground := Ground.data }, { on := 23, ground := Ground.chain }], guard := none }) (v := ?_) rfl (by kernel_rfl) (by kernel_rfl) (by kernel_rfl) (fun _ _ _ h => h) (Or.inl ⟨by rfl, ?_⟩) ?_
    rotate_left
    · (intro w _; go_simp <;> with_reducible rfl)
    try simp only [Act.put, List.setIfInBounds_toArray, List.set_cons_zero, List.set_cons_succ]
    refine anyHT_pure (fun _ => trivial) (by kernel_rfl) (i := 30) (oi := { dst := some 44, op := Op.fieldAddr 24 (Operand.tmp 2) 1, type := 0, pos := "top09w.go:21", after := #[{ on := 29, ground := Ground.guard }], guard := some (29, false) }) (v := undef) rfl (by kernel_rfl) (by kernel_rfl) (by kernel_rfl) (fun _ _ _ h => h) (Or.inr ⟨by rfl, rfl⟩) ?_
    try simp only [Act.put, List.setIfInBounds_toArray, List.set_cons_zero, List.set_cons_succ]
    refine anyHT_pure (fun _ => trivial) (by kernel_rfl) (i := 31) (oi := { dst := some 45, op := Op.load 22 (Operand.tmp 44), type := 22, pos := "top09w.go:21", after := #[{ on := 30, ground := Ground.data }, { on := 29, ground := Ground.guard }], guard := some (29, false) }) (v := undef) rfl (by kernel_rfl) (by kernel_rfl) (by kernel_rfl) (fun _ _ _ h => h) (Or.inr ⟨by rfl, rfl⟩) ?_
    try simp only [Act.put, List.setIfInBounds_toArray, List.set_cons_zero, List.set_cons_succ]
    refine anyHT_pure (fun _ => trivial) (by kernel_rfl) (i := 32) (oi := { dst := some 46, op := Op.fieldAddr 24 (Operand.tmp 2) 1, type := 0, pos := "top09w.go:21", after := #[{ on := 29, ground := Ground.guard }], guard := some (29, false) }) (v := undef) rfl (by kernel_rfl) (by kernel_rfl) (by kernel_rfl) (fun _ _ _ h => h) (Or.inr ⟨by rfl, rfl⟩) ?_
    try simp only [Act.put, List.setIfInBounds_toArray, List.set_cons_zero, List.set_cons_succ]
    refine anyHT_pure (fun _ => trivial) (by kernel_rfl) (i := 33) (oi := { dst := some 47, op := Op.load 22 (Operand.tmp 46), type := 22, pos := "top09w.go:21", after := #[{ on := 32, ground := Ground.data }, { on := 29, ground := Ground.guard }], guard := some (29, false) }) (v := undef) rfl (by kernel_rfl) (by kernel_rfl) (by kernel_rfl) (fun _ _ _ h => h) (Or.inr ⟨by rfl, rfl⟩) ?_
    try simp only [Act.put, List.setIfInBounds_toArray, List.set_cons_zero, List.set_cons_succ]
    refine anyHT_pure (fun _ => trivial) (by kernel_rfl) (i := 34) (oi := { dst := some 48, op := Op.call { callee := Callee.builtin Builtin.len, args := #[Operand.tmp 47], argTypes := #[22] }, type := 3, pos := "top09w.go:21", after := #[{ on := 33, ground := Ground.data }, { on := 29, ground := Ground.guard }], guard := some (29, false) }) (v := undef) rfl (by kernel_rfl) (by kernel_rfl) (by kernel_rfl) (fun _ _ _ h => h) (Or.inr ⟨by rfl, rfl⟩) ?_
    try simp only [Act.put, List.setIfInBounds_toArray, List.set_cons_zero, List.set_cons_succ]
    refine anyHT_pure (fun _ => trivial) (by kernel_rfl) (i := 35) (oi := { dst := some 49, op := Op.binOp BinOp.sub 3 (Operand.tmp 48) (Operand.const (Value.int IntKind.i64 1)) 3, type := 3, pos := "top09w.go:21", after := #[{ on := 34, ground := Ground.data }, { on := 29, ground := Ground.guard }], guard := some (29, false) }) (v := undef) rfl (by kernel_rfl) (by kernel_rfl) (by kernel_rfl) (fun _ _ _ h => h) (Or.inr ⟨by rfl, rfl⟩) ?_
    try simp only [Act.put, List.setIfInBounds_toArray, List.set_cons_zero, List.set_cons_succ]
    refine anyHT_pure (fun _ => trivial) (by kernel_rfl) (i := 36) (oi := { dst := some 50, op := Op.indexAddr 22 (Operand.tmp 45) (Operand.tmp 49), type := 0, pos := "top09w.go:21", after := #[{ on := 31, ground := Ground.data }, { on := 35, ground := Ground.data }, { on := 29, ground := Ground.guard }], guard := some (29, false) }) (v := undef) rfl (by kernel_rfl) (by kernel_rfl) (by kernel_rfl) (fun _ _ _ h => h) (Or.inr ⟨by rfl, rfl⟩) ?_
    try simp only [Act.put, List.setIfInBounds_toArray, List.set_cons_zero, List.set_cons_succ]
    refine anyHT_pure (fun _ => trivial) (by kernel_rfl) (i := 37) (oi := { dst := some 51, op := Op.load 3 (Operand.tmp 50), type := 3, pos := "top09w.go:21", after := #[{ on := 36, ground := Ground.data }, { on := 29, ground := Ground.guard }], guard := some (29, false) }) (v := undef) rfl (by kernel_rfl) (by kernel_rfl) (by kernel_rfl) (fun _ _ _ h => h) (Or.inr ⟨by rfl, rfl⟩) ?_
    try simp only [Act.put, List.setIfInBounds_toArray, List.set_cons_zero, List.set_cons_succ]
    refine anyHT_pure (fun _ => trivial) (by kernel_rfl) (i := 38) (oi := { dst := some 52, op := Op.fieldAddr 24 (Operand.tmp 2) 0, type := 0, pos := "top09w.go:21", after := #[{ on := 29, ground := Ground.guard }], guard := some (29, false) }) (v := undef) rfl (by kernel_rfl) (by kernel_rfl) (by kernel_rfl) (fun _ _ _ h => h) (Or.inr ⟨by rfl, rfl⟩) ?_
    try simp only [Act.put, List.setIfInBounds_toArray, List.set_cons_zero, List.set_cons_succ]
    refine anyHT_pure (fun _ => trivial) (by kernel_rfl) (i := 39) (oi := { dst := some 53, op := Op.load 22 (Operand.tmp 52), type := 22, pos := "top09w.go:21", after := #[{ on := 38, ground := Ground.data }, { on := 29, ground := Ground.guard }], guard := some (29, false) }) (v := undef) rfl (by kernel_rfl) (by kernel_rfl) (by kernel_rfl) (fun _ _ _ h => h) (Or.inr ⟨by rfl, rfl⟩) ?_
    try simp only [Act.put, List.setIfInBounds_toArray, List.set_cons_zero, List.set_cons_succ]
    refine anyHT_pure (fun _ => trivial) (by kernel_rfl) (i := 40) (oi := { dst := some 54, op := Op.call { callee := Callee.builtin Builtin.len, args := #[Operand.tmp 53], argTypes := #[22] }, type := 3, pos := "top09w.go:21", after := #[{ on := 39, ground := Ground.data }, { on := 29, ground := Ground.guard }], guard := some (29, false) }) (v := undef) rfl (by kernel_rfl) (by kernel_rfl) (by kernel_rfl) (fun _ _ _ h => h) (Or.inr ⟨by rfl, rfl⟩) ?_
    try simp only [Act.put, List.setIfInBounds_toArray, List.set_cons_zero, List.set_cons_succ]
    refine anyHT_pure (fun _ => trivial) (by kernel_rfl) (i := 41) (oi := { dst := some 55, op := Op.binOp BinOp.neq 3 (Operand.tmp 51) (Operand.tmp 54) 3, type := 4, pos := "top09w.go:21", after := #[{ on := 37, ground := Ground.data }, { on := 40, ground := Ground.data }, { on := 29, ground := Ground.guard }], guard := some (29, false) }) (v := undef) rfl (by kernel_rfl) (by kernel_rfl) (by kernel_rfl) (fun _ _ _ h => h) (Or.inr ⟨by rfl, rfl⟩) ?_
    try simp only [Act.put, List.setIfInBounds_toArray, List.set_cons_zero, List.set_cons_succ]
    refine anyHT_pure (fun _ => trivial) (by kernel_rfl) (i := 42) (oi := { dst := some 56, op := Op.pick (Operand.tmp 43) (Operand.const (Value.bool true)) (Operand.tmp 55), type := 4, pos := "top09w.go:21", after := #[{ on := 29, ground := Ground.data }, { on := 41, ground := Ground.data }], guard := none }) (v := ?_) rfl (by kernel_rfl) (by kernel_rfl) (by kernel_rfl) (fun _ _ _ h => h) (Or.inl ⟨by rfl, ?_⟩) ?_
    rotate_left
    · (intro w _; go_simp <;> with_reducible rfl)
    try simp only [Act.put, List.setIfInBounds_toArray, List.set_cons_zero, List.set_cons_succ]
    refine anyHT_done (by kernel_rfl) ?_ _
    go_wp2_with fail
    refine (HK.out _).mono ?_
    rintro e w9 ⟨rfl, hb9⟩
    have HB9 : Aside0 (Below w.heap.size w w9) := ⟨below_trans' (pw_below_drewN HB0.out 1) hb9⟩
    clear hb9
    go_wp2_with fail
    go_ret
    exact ⟨rfl, HB9.out⟩
  have d3 : decide (k > 8) = false := by simpa using b3
  have d3n : decide (8 < k) = false := by simpa using b3
  obtain ⟨r, hr, hcall⟩ := Marked_any xs ms (by omega) hm
  have HM := Aside0.mk (fun (W : World) (hb : Below w.heap.size w W) => hcall A0 A1 c0 c1 W (Kd.C_below H0.out hb) HC0.out (Kd.C_below H1.out hb) HC1.out)
  clear hcall
  by_cases b4 : r = 0
  · subst b4
    obtain ⟨hx, hk⟩ := hr rfl
    clear hr
    have hm2 := hk.1
    have d5 : decide ((ms.length : Int) < 2) = false := by simp; omega
    have d5n : decide (ms.length < 2) = false := by simp; omega
    have HX := Aside0.mk hx
    have HKm := Aside0.mk hk
    clear hx hk
    by_cases b6 : 41 < ms.length
    · have d6 : decide ((ms.length : Int) > 41) = true := by simp; omega
      have d6n : decide (41 < ms.length) = true := by simpa using b6
      go_enter Try.func3, Try.ntmps3
      go_wp2_with fail
      refine (wpIn_wide (n := 0)).1 ?_
      refine region_anyHT (fun W' => Below w.heap.size w W' ∧ W'.cell? ⟨w.heap.size, 0, none⟩ = some (.slice A0 xs.length c0) ∧ W'.cell? ⟨w.heap.size, 1, none⟩ = some (.slice A1 ms.length c1)) [] (by kernel_rfl) (⟨pw_below_drewN HB0.out 1, HSa.out, HSb.out⟩) (fun hHeld => ?_)
      refine anyHT_pure (fun _ => trivial) (by kernel_rfl) (i := 0) (oi := { dst := some 14, op := Op.fieldAddr 24 (Operand.tmp 2) 0, type := 0, pos := "top09w.go:21", after := #[], guard := none }) (v := ?_) rfl (by kernel_rfl) (by kernel_rfl) (by kernel_rfl) (fun _ _ _ h => h) (Or.inl ⟨by rfl, ?_⟩) ?_
      rotate_left
      · (intro w _; go_simp <;> with_reducible rfl)
      try simp only [Act.put, List.setIfInBounds_toArray, List.set_cons_zero, List.set_cons_succ]
      refine anyHT_take (fun _ => trivial) (by kernel_rfl) [2, 3, 4, 5, 6, 7, 8, 9, 10, 11, 12, 13, 14, 15, 16, 17, 18, 19, 20, 21, 22, 23, 24, 25, 26, 27, 28, 29, 30, 31, 32, 33, 34, 35, 36, 37, 38, 39, 40, 41, 42] (i := 1) (oi := { dst := some 15, op := Op.load 22 (Operand.tmp 14), type := 22, pos := "top09w.go:21", after := #[{ on := 0, ground := Ground.data }], guard := none }) (v := ?_) rfl (by kernel_rfl) (by kernel_rfl) (by kernel_rfl) (by kernel_rfl) (by kernel_rfl) (by decide) (fun _ _ _ h => h) (Or.inl ⟨by rfl, ?_⟩) hHeld ?_
      rotate_left
      · (intro w hSw; (try dsimp only at hSw); go_simp <;> with_reducible rfl)
      try simp only [Act.put, List.setIfInBounds_toArray, List.set_cons_zero, List.set_cons_succ]
      refine anyHT_pure (fun _ => trivial) (by kernel_rfl) (i := 2) (oi := { dst := some 16, op := Op.call { callee := Callee.builtin Builtin.len, args := #[Operand.tmp 15], argTypes := #[22] }, type := 3, pos := "top09w.go:21", after := #[{ on := 1, ground := Ground.data }], guard := none }) (v := ?_) rfl (by kernel_rfl) (by kernel_rfl) (by kernel_rfl) (fun _ _ _ h => h) (Or.inl ⟨by rfl, ?_⟩) ?_
      rotate_left
      · (intro w _; go_simp <;> with_reducible rfl)
      try simp only [Act.put, List.setIfInBounds_toArray, List.set_cons_zero, List.set_cons_succ]
      refine anyHT_pure (fun _ => trivial) (by kernel_rfl) (i := 3) (oi := { dst := some 17, op := Op.binOp BinOp.gtr 3 (Operand.tmp 16) (Operand.const (Value.int IntKind.i64 400)) 3, type := 4, pos := "top09w.go:21", after := #[{ on := 2, ground := Ground.data }], guard := none }) (v := ?_) rfl (by kernel_rfl) (by kernel_rfl) (by kernel_rfl) (fun _ _ _ h => h) (Or.inl ⟨by rfl, ?_⟩) ?_
      rotate_left
      · (intro w _; go_simp <;> with_reducible rfl)
      try simp only [Act.put, List.setIfInBounds_toArray, List.set_cons_zero, List.set_cons_succ]
      refine anyHT_pure (fun _ => trivial) (by kernel_rfl) (i := 4) (oi := { dst := some 18, op := Op.move (Operand.tmp 17), type := 4, pos := "top09w.go:21", after := #[{ on := 3, ground := Ground.data }], guard := none }) (v := ?_) rfl (by kernel_rfl) (by kernel_rfl) (by kernel_rfl) (fun _ _ _ h => h) (Or.inl ⟨by rfl, ?_⟩) ?_
      rotate_left
      · (intro w _; go_simp <;> with_reducible rfl)
      try simp only [Act.put, List.setIfInBounds_toArray, List.set_cons_zero, List.set_cons_succ]
      refine anyHT_pure (fun _ => trivial) (by kernel_rfl) (i := 5) (oi := { dst := some 19, op := Op.move (Operand.tmp 1), type := 3, pos := "top09w.go:21", after := #[{ on := 4, ground := Ground.guard }], guard := some (4, false) }) (v := ?_) rfl (by kernel_rfl) (by kernel_rfl) (by kernel_rfl) (fun _ _ _ h => h) (Or.inl ⟨by rfl, ?_⟩) ?_
      rotate_left
      · (intro w _; go_simp <;> with_reducible rfl)
      try simp only [Act.put, List.setIfInBounds_toArray, List.set_cons_zero, List.set_cons_succ]
      refine anyHT_pure (fun _ => trivial) (by kernel_rfl) (i := 6) (oi := { dst := some 20, op := Op.binOp BinOp.lss 3 (Operand.tmp 19) (Operand.const (Value.int IntKind.i64 1)) 3, type := 4, pos := "top09w.go:21", after := #[{ on := 5, ground := Ground.data }, { on := 4, ground := Ground.guard }], guard := some (4, false) }) (v := ?_) rfl (by kernel_rfl) (by kernel_rfl) (by kernel_rfl) (fun _ _ _ h => h) (Or.inl ⟨by rfl, ?_⟩) ?_
      rotate_left
      · (intro w _; go_simp <;> with_reducible rfl)
      try simp only [Act.put, List.setIfInBounds_toArray, List.set_cons_zero, List.set_cons_succ]
      refine anyHT_pure (fun _ => trivial) (by kernel_rfl) (i := 7) (oi := { dst := some 21, op := Op.pick (Operand.tmp 18) (Operand.const (Value.bool true)) (Operand.tmp 20), type := 4, pos := "top09w.go:21", after := #[{ on := 4, ground := Ground.data }, { on := 6, ground := Ground.data }], guard := none }) (v := ?_) rfl (by kernel_rfl) (by kernel_rfl) (by kernel_rfl) (fun _ _ _ h => h) (Or.inl ⟨by rfl, ?_⟩) ?_
      rotate_left
      · (intro w _; go_simp <;> with_reducible rfl)
      try simp only [Act.put, List.setIfInBounds_toArray, List.set_cons_zero, List.set_cons_succ]
      refine anyHT_pure (fun _ => trivial) (by kernel_rfl) (i := 8) (oi := { dst := some 22, op := Op.move (Operand.tmp 21), type := 4, pos := "top09w.go:21", after := #[{ on := 7, ground := Ground.data }, { on := 4, ground := Ground.chain }], guard := none }) (v := ?_) rfl (by kernel_rfl) (by kernel_rfl) (by kernel_rfl) (fun _ _ _ h => h) (Or.inl ⟨by rfl, ?_⟩) ?_
      rotate_left
      · (intro w _; go_simp <;> with_reducible rfl)
      try simp only [Act.put, List.setIfInBounds_toArray, List.set_cons_zero, List.set_cons_succ]
      refine anyHT_pure (fun _ => trivial) (by kernel_rfl) (i := 9) (oi := { dst := some 23, op := Op.move (Operand.tmp 1), type := 3, pos := "top09w.go:21", after := #[{ on := 8, ground := Ground.guard }], guard := some (8, false) }) (v := ?_) rfl (by kernel_rfl) (by kernel_rfl) (by kernel_rfl) (fun _ _ _ h => h) (Or.inl ⟨by rfl, ?_⟩) ?_
      rotate_left
      · (intro w _; go_simp <;> with_reducible rfl)
      try simp only [Act.put, List.setIfInBounds_toArray, List.set_cons_zero, List.set_cons_succ]
      refine anyHT_pure (fun _ => trivial) (by kernel_rfl) (i := 10) (oi := { dst := some 24, op := Op.binOp BinOp.gtr 3 (Operand.tmp 23) (Operand.const (Value.int IntKind.i64 8)) 3, type := 4, pos := "top09w.go:21", after := #[{ on := 9, ground := Ground.data }, { on := 8, ground := Ground.guard }], guard := some (8, false) }) (v := ?_) rfl (by kernel_rfl) (by kernel_rfl) (by kernel_rfl) (fun _ _ _ h => h) (Or.inl ⟨by rfl, ?_⟩) ?_
      rotate_left
      · (intro w _; go_simp <;> with_reducible rfl)
      try simp only [Act.put, List.setIfInBounds_toArray, List.set_cons_zero, List.set_cons_succ]
      refine anyHT_pure (fun _ => trivial) (by kernel_rfl) (i := 11) (oi := { dst := some 25, op := Op.pick (Operand.tmp 22) (Operand.const (Value.bool true)) (Operand.tmp 24), type := 4, pos := "top09w.go:21", after := #[{ on := 8, ground := Ground.data }, { on := 10, ground := Ground.data }], guard := none }) (v := ?_) rfl (by kernel_rfl) (by kernel_rfl) (by kernel_rfl) (fun _ _ _ h => h) (Or.inl ⟨by rfl, ?_⟩) ?_
      rotate_left
      · (intro w _; go_simp <;> with_reducible rfl)
      try simp only [Act.put, List.setIfInBounds_toArray, List.set_cons_zero, List.set_cons_succ]
      refine anyHT_pure (fun _ => trivial) (by kernel_rfl) (i := 12) (oi := { dst := some 26, op := Op.move (Operand.tmp 25), type := 4, pos := "top09w.go:21", after := #[{ on := 11, ground := Ground.data }, { on := 8, ground := Ground.chain }], guard := none }) (v := ?_) rfl (by kernel_rfl) (by kernel_rfl) (by kernel_rfl) (fun _ _ _ h => h) (Or.inl ⟨by rfl, ?_⟩) ?_
      rotate_left
      · (intro w _; go_simp <;> with_reducible rfl)
      try simp only [Act.put, List.setIfInBounds_toArray, List.set_cons_zero, List.set_cons_succ]
      refine anyHT_take (fun _ => trivial) (by kernel_rfl) [14, 15, 16, 17, 18, 19, 20, 21, 22, 23, 24, 25, 26, 27, 28, 29, 30, 31, 32, 33, 34, 35, 36, 37, 38, 39, 40, 41, 42] (i := 13) (oi := { dst := some 27, op := Op.load 24 (Operand.tmp 2), type := 24, pos := "top09w.go:21", after := #[{ on := 12, ground := Ground.guard }], guard := some (12, false) }) (v := ?_) rfl (by kernel_rfl) (by kernel_rfl) (by kernel_rfl) (by kernel_rfl) (by kernel_rfl) (by decide) (fun _ _ _ h => h) (Or.inl ⟨by rfl, ?_⟩) hHeld ?_
      rotate_left
      · (intro w hSw; (try dsimp only at hSw); go_simp <;> with_reducible rfl)
      try simp only [Act.put, List.setIfInBounds_toArray, List.set_cons_zero, List.set_cons_succ]
      refine anyHT_one (i := 14) (o := { dst := some 28, op := Op.call { callee := Callee.value (Operand.func 7), args := #[Operand.tmp 27], argTypes := #[24] }, type := 25, pos := "top09w.go:21", after := #[{ on := 13, ground := Ground.data }, { on := 12, ground := Ground.chain }, { on := 12, ground := Ground.guard }], guard := some (12, false) }) (by kernel_rfl) rfl (by rfl) (fun K hK => ?_)
      go_simp
      refine ⟨trivial, rfl, ?_⟩
      refine (callsIn_wide.2 (HM.out _ hHeld.1)).mono ?_
      rintro e w1 ⟨rfl, hb⟩
      refine hK.out _ _ (fun _ hSw => ⟨below_trans' hSw.1 hb, pw_cell_below hb hSw.2.1, pw_cell_below hb hSw.2.2⟩) ?_
      replace hHeld : (fun (W' : World) => Below w.heap.size w W' ∧ W'.cell? ⟨w.heap.size, 0, none⟩ = some (.slice A0 xs.length c0) ∧ W'.cell? ⟨w.heap.size, 1, none⟩ = some (.slice A1 ms.length c1)) _ := (fun (hSw : (fun (W' : World) => Below w.heap.size w W' ∧ W'.cell? ⟨w.heap.size, 0, none⟩ = some (.slice A0 xs.length c0) ∧ W'.cell? ⟨w.heap.size, 1, none⟩ = some (.slice A1 ms.length c1)) _) => ⟨below_trans' hSw.1 hb, pw_cell_below hb hSw.2.1, pw_cell_below hb hSw.2.2⟩) hHeld
      clear hK K
      try simp only [Act.put, List.setIfInBounds_toArray, List.set_cons_zero, List.set_cons_succ]
      refine anyHT_pure (fun _ => trivial) (by kernel_rfl) (i := 15) (oi := { dst := some 29, op := Op.binOp BinOp.neq 25 (Operand.tmp 28) (Operand.const (Value.int IntKind.i64 0)) 25, type := 4, pos := "top09w.go:21", after := #[{ on := 14, ground := Ground.data }, { on := 12, ground := Ground.guard }], guard := some (12, false) }) (v := ?_) rfl (by kernel_rfl) (by kernel_rfl) (by kernel_rfl) (fun _ _ _ h => h) (Or.inl ⟨by rfl, ?_⟩) ?_
      rotate_left
      · (intro w _; go_simp <;> with_reducible rfl)
      try simp only [Act.put, List.setIfInBounds_toArray, List.set_cons_zero, List.set_cons_succ]
      refine anyHT_pure (fun _ => trivial) (by kernel_rfl) (i := 16) (oi := { dst := some 30, op := Op.pick (Operand.tmp 26) (Operand.const (Value.bool true)) (Operand.tmp 29), type := 4, pos := "top09w.go:21", after := #[{ on := 12, ground := Ground.data }, { on := 15, ground := Ground.data }], guard := none }) (v := ?_) rfl (by kernel_rfl) (by kernel_rfl) (by kernel_rfl) (fun _ _ _ h => h) (Or.inl ⟨by rfl, ?_⟩) ?_
      rotate_left
      · (intro w _; go_simp <;> with_reducible rfl)
      try simp only [Act.put, List.setIfInBounds_toArray, List.set_cons_zero, List.set_cons_succ]
      refine anyHT_pure (fun _ => trivial) (by kernel_rfl) (i := 17) (oi := { dst := some 31, op := Op.move (Operand.tmp 30), type := 4, pos := "top09w.go:21", after := #[{ on := 16, ground := Ground.data }, { on := 14, ground := Ground.chain }], guard := none }) (v := ?_) rfl (by kernel_rfl) (by kernel_rfl) (by kernel_rfl) (fun _ _ _ h => h) (Or.inl ⟨by rfl, ?_⟩) ?_
      rotate_left
      · (intro w _; go_simp <;> with_reducible rfl)
      try simp only [Act.put, List.setIfInBounds_toArray, List.set_cons_zero, List.set_cons_succ]
      refine anyHT_pure (fun _ => trivial) (by kernel_rfl) (i := 18) (oi := { dst := some 32, op := Op.fieldAddr 24 (Operand.tmp 2) 1, type := 0, pos := "top09w.go:21", after := #[{ on := 17, ground := Ground.guard }], guard := some (17, false) }) (v := ?_) rfl (by kernel_rfl) (by kernel_rfl) (by kernel_rfl) (fun _ _ _ h => h) (Or.inl ⟨by rfl, ?_⟩) ?_
      rotate_left
      · (intro w _; go_simp <;> with_reducible rfl)
      try simp only [Act.put, List.setIfInBounds_toArray, List.set_cons_zero, List.set_cons_succ]
      refine anyHT_take (fun _ => trivial) (by kernel_rfl) [20, 21, 22, 23, 24, 25, 26, 27, 28, 29, 30, 31, 32, 33, 34, 35, 36, 37, 38, 39, 40, 41, 42] (i := 19) (oi := { dst := some 33, op := Op.load 22 (Operand.tmp 32), type := 22, pos := "top09w.go:21", after := #[{ on := 18, ground := Ground.data }, { on := 17, ground := Ground.guard }], guard := some (17, false) }) (v := ?_) rfl (by kernel_rfl) (by kernel_rfl) (by kernel_rfl) (by kernel_rfl) (by kernel_rfl) (by decide) (fun _ _ _ h => h) (Or.inl ⟨by rfl, ?_⟩) hHeld ?_
      rotate_left
      · (intro w hSw; (try dsimp only at hSw); go_simp <;> with_reducible rfl)
      try simp only [Act.put, List.setIfInBounds_toArray, List.set_cons_zero, List.set_cons_succ]
      refine anyHT_pure (fun _ => trivial) (by kernel_rfl) (i := 20) (oi := { dst := some 34, op := Op.call { callee := Callee.builtin Builtin.len, args := #[Operand.tmp 33], argTypes := #[22] }, type := 3, pos := "top09w.go:21", after := #[{ on := 19, ground := Ground.data }, { on := 17, ground := Ground.guard }], guard := some (17, false) }) (v := ?_) rfl (by kernel_rfl) (by kernel_rfl) (by kernel_rfl) (fun _ _ _ h => h) (Or.inl ⟨by rfl, ?_⟩) ?_
      rotate_left
      · (intro w _; go_simp <;> with_reducible rfl)
      try simp only [Act.put, List.setIfInBounds_toArray, List.set_cons_zero, List.set_cons_succ]
      refine anyHT_pure (fun _ => trivial) (by kernel_rfl) (i := 21) (oi := { dst := some 35, op := Op.binOp BinOp.lss 3 (Operand.tmp 34) (Operand.const (Value.int IntKind.i64 2)) 3, type := 4, pos := "top09w.go:21", after := #[{ on := 20, ground := Ground.data }, { on := 17, ground := Ground.guard }], guard := some (17, false) }) (v := ?_) rfl (by kernel_rfl) (by kernel_rfl) (by kernel_rfl) (fun _ _ _ h => h) (Or.inl ⟨by rfl, ?_⟩) ?_
      rotate_left
      · (intro w _; go_simp <;> with_reducible rfl)
      try simp only [Act.put, List.setIfInBounds_toArray, List.set_cons_zero, List.set_cons_succ]
      refine anyHT_pure (fun _ => trivial) (by kernel_rfl) (i := 22) (oi := { dst := some 36, op := Op.pick (Operand.tmp 31) (Operand.const (Value.bool true)) (Operand.tmp 35), type := 4, pos := "top09w.go:21", after := #[{ on := 17, ground := Ground.data }, { on := 21, ground := Ground.data }], guard := none }) (v := ?_) rfl (by kernel_rfl) (by kernel_rfl) (by kernel_rfl) (fun _ _ _ h => h) (Or.inl ⟨by rfl, ?_⟩) ?_
      rotate_left
      · (intro w _; go_simp <;> with_reducible rfl)
      try simp only [Act.put, List.setIfInBounds_toArray, List.set_cons_zero, List.set_cons_succ]
      refine anyHT_pure (fun _ => trivial) (by kernel_rfl) (i := 23) (oi := { dst := some 37, op := Op.move (Operand.tmp 36), type := 4, pos := "top09w.go:21", after := #[{ on := 22, ground := Ground.data }, { on := 17, ground := Ground.chain }], guard := none }) (v := ?_) rfl (by kernel_rfl) (by kernel_rfl) (by kernel_rfl) (fun _ _ _ h => h) (Or.inl ⟨by rfl, ?_⟩) ?_
      rotate_left
      · (intro w _; go_simp <;> with_reducible rfl)
      try simp only [Act.put, List.setIfInBounds_toArray, List.set_cons_zero, List.set_cons_succ]
      refine anyHT_pure (fun _ => trivial) (by kernel_rfl) (i := 24) (oi := { dst := some 38, op := Op.fieldAddr 24 (Operand.tmp 2) 1, type := 0, pos := "top09w.go:21", after := #[{ on := 23, ground := Ground.guard }], guard := some (23, false) }) (v := ?_) rfl (by kernel_rfl) (by kernel_rfl) (by kernel_rfl) (fun _ _ _ h => h) (Or.inl ⟨by rfl, ?_⟩) ?_
      rotate_left
      · (intro w _; go_simp <;> with_reducible rfl)
      try simp only [Act.put, List.setIfInBounds_toArray, List.set_cons_zero, List.set_cons_succ]
      refine anyHT_take (fun _ => trivial) (by kernel_rfl) [26, 27, 28, 29, 30, 31, 32, 33, 34, 35, 36, 37, 38, 39, 40, 41, 42] (i := 25) (oi := { dst := some 39, op := Op.load 22 (Operand.tmp 38), type := 22, pos := "top09w.go:21", after := #[{ on := 24, ground := Ground.data }, { on := 23, ground := Ground.guard }], guard := some (23, false) }) (v := ?_) rfl (by kernel_rfl) (by kernel_rfl) (by kernel_rfl) (by kernel_rfl) (by kernel_rfl) (by decide) (fun _ _ _ h => h) (Or.inl ⟨by rfl, ?_⟩) hHeld ?_
      rotate_left
      · (intro w hSw; (try dsimp only at hSw); go_simp <;> with_reducible rfl)
      try simp only [Act.put, List.setIfInBounds_toArray, List.set_cons_zero, List.set_cons_succ]
      refine anyHT_pure (fun _ => trivial) (by kernel_rfl) (i := 26) (oi := { dst := some 40, op := Op.call { callee := Callee.builtin Builtin.len, args := #[Operand.tmp 39], argTypes := #[22] }, type := 3, pos := "top09w.go:21", after := #[{ on := 25, ground := Ground.data }, { on := 23, ground := Ground.guard }], guard := some (23, false) }) (v := ?_) rfl (by kernel_rfl) (by kernel_rfl) (by kernel_rfl) (fun _ _ _ h => h) (Or.inl ⟨by rfl, ?_⟩) ?_
      rotate_left
      · (intro w _; go_simp <;> with_reducible rfl)
      try simp only [Act.put, List.setIfInBounds_toArray, List.set_cons_zero, List.set_cons_succ]
      refine anyHT_pure (fun _ => trivial) (by kernel_rfl) (i := 27) (oi := { dst := some 41, op := Op.binOp BinOp.gtr 3 (Operand.tmp 40) (Operand.const (Value.int IntKind.i64 41)) 3, type := 4, pos := "top09w.go:21", after := #[{ on := 26, ground := Ground.data }, { on := 23, ground := Ground.guard }], guard := some (23, false) }) (v := ?_) rfl (by kernel_rfl) (by kernel_rfl) (by kernel_rfl) (fun _ _ _ h => h) (Or.inl ⟨by rfl, ?_⟩) ?_
      rotate_left
      · (intro w _; go_simp <;> with_reducible rfl)
      try simp only [Act.put, List.setIfInBounds_toArray, List.set_cons_zero, List.set_cons_succ]
      refine anyHT_pure (fun _ => trivial) (by kernel_rfl) (i := 28) (oi := { dst := some 42, op := Op.pick (Operand.tmp 37) (Operand.const (Value.bool true)) (Operand.tmp 41), type := 4, pos := "top09w.go:21", after := #[{ on := 23, ground := Ground.data }, { on := 27, ground := Ground.data }], guard := none }) (v := ?_) rfl (by kernel_rfl) (by kernel_rfl) (by kernel_rfl) (fun _ _ _ h => h) (Or.inl ⟨by rfl, ?_⟩) ?_
      rotate_left
      · (intro w _; go_simp <;> with_reducible rfl)
      try simp only [Act.put, List.setIfInBounds_toArray, List.set_cons_zero, List.set_cons_succ]
      refine anyHT_pure (fun _ => trivial) (by kernel_rfl) (i := 29) (oi := { dst := some 43, op := Op.move (Operand.tmp 42), type := 4, pos := "top09w.go:21", after := #[{ on := 28, ground := Ground.data }, { on := 23, ground := Ground.chain }], guard := none }) (v := ?_) rfl (by kernel_rfl) (by kernel_rfl) (by kernel_rfl) (fun _ _ _ h => h) (Or.inl ⟨by rfl, ?_⟩) ?_
      rotate_left
      · (intro w _; go_simp <;> with_reducible rfl)
      try simp only [Act.put, List.setIfInBounds_toArray, List.set_cons_zero, List.set_cons_succ]
      refine anyHT_pure (fun _ => trivial) (by kernel_rfl) (i := 30) (oi := { dst := some 44, op := Op.fieldAddr 24 (Operand.tmp 2) 1, type := 0, pos := "top09w.go:21", after := #[{ on := 29, ground := Ground.guard }], guard := some (29, false) }) (v := undef) rfl (by kernel_rfl) (by kernel_rfl) (by kernel_rfl) (fun _ _ _ h => h) (Or.inr ⟨by rfl, rfl⟩) ?_
      try simp only [Act.put, List.setIfInBounds_toArray, List.set_cons_zero, List.set_cons_succ]
      refine anyHT_pure (fun _ => trivial) (by kernel_rfl) (i := 31) (oi := { dst := some 45, op := Op.load 22 (Operand.tmp 44), type := 22, pos := "top09w.go:21", after := #[{ on := 30, ground := Ground.data }, { on := 29, ground := Ground.guard }], guard := some (29, false) }) (v := undef) rfl (by kernel_rfl) (by kernel_rfl) (by kernel_rfl) (fun _ _ _ h => h) (Or.inr ⟨by rfl, rfl⟩) ?_
      try simp only [Act.put, List.setIfInBounds_toArray, List.set_cons_zero, List.set_cons_succ]
      refine anyHT_pure (fun _ => trivial) (by kernel_rfl) (i := 32) (oi := { dst := some 46, op := Op.fieldAddr 24 (Operand.tmp 2) 1, type := 0, pos := "top09w.go:21", after := #[{ on := 29, ground := Ground.guard }], guard := some (29, false) }) (v := undef) rfl (by kernel_rfl) (by kernel_rfl) (by kernel_rfl) (fun _ _ _ h => h) (Or.inr ⟨by rfl, rfl⟩) ?_
      try simp only [Act.put, List.setIfInBounds_toArray, List.set_cons_zero, List.set_cons_succ]
      refine anyHT_pure (fun _ => trivial) (by kernel_rfl) (i := 33) (oi := { dst := some 47, op := Op.load 22 (Operand.tmp 46), type := 22, pos := "top09w.go:21", after := #[{ on := 32, ground := Ground.data }, { on := 29, ground := Ground.guard }], guard := some (29, false) }) (v := undef) rfl (by kernel_rfl) (by kernel_rfl) (by kernel_rfl) (fun _ _ _ h => h) (Or.inr ⟨by rfl, rfl⟩) ?_
      try simp only [Act.put, List.setIfInBounds_toArray, List.set_cons_zero, List.set_cons_succ]
      refine anyHT_pure (fun _ => trivial) (by kernel_rfl) (i := 34) (oi := { dst := some 48, op := Op.call { callee := Callee.builtin Builtin.len, args := #[Operand.tmp 47], argTypes := #[22] }, type := 3, pos := "top09w.go:21", after := #[{ on := 33, ground := Ground.data }, { on := 29, ground := Ground.guard }], guard := some (29, false) }) (v := undef) rfl (by kernel_rfl) (by kernel_rfl) (by kernel_rfl) (fun _ _ _ h => h) (Or.inr ⟨by rfl, rfl⟩) ?_
      try simp only [Act.put, List.setIfInBounds_toArray, List.set_cons_zero, List.set_cons_succ]
      refine anyHT_pure (fun _ => trivial) (by kernel_rfl) (i := 35) (oi := { dst := some 49, op := Op.binOp BinOp.sub 3 (Operand.tmp 48) (Operand.const (Value.int IntKind.i64 1)) 3, type := 3, pos := "top09w.go:21", after := #[{ on := 34, ground := Ground.data }, { on := 29, ground := Ground.guard }], guard := some (29, false) }) (v := undef) rfl (by kernel_rfl) (by kernel_rfl) (by kernel_rfl) (fun _ _ _ h => h) (Or.inr ⟨by rfl, rfl⟩) ?_
      try simp only [Act.put, List.setIfInBounds_toArray, List.set_cons_zero, List.set_cons_succ]
      refine anyHT_pure (fun _ => trivial) (by kernel_rfl) (i := 36) (oi := { dst := some 50, op := Op.indexAddr 22 (Operand.tmp 45) (Operand.tmp 49), type := 0, pos := "top09w.go:21", after := #[{ on := 31, ground := Ground.data }, { on := 35, ground := Ground.data }, { on := 29, ground := Ground.guard }], guard := some (29, false) }) (v := undef) rfl (by kernel_rfl) (by kernel_rfl) (by kernel_rfl) (fun _ _ _ h => h) (Or.inr ⟨by rfl, rfl⟩) ?_
      try simp only [Act.put, List.setIfInBounds_toArray, List.set_cons_zero, List.set_cons_succ]
      refine anyHT_pure (fun _ => trivial) (by kernel_rfl) (i := 37) (oi := { dst := some 51, op := Op.load 3 (Operand.tmp 50), type := 3, pos := "top09w.go:21", after := #[{ on := 36, ground := Ground.data }, { on := 29, ground := Ground.guard }], guard := some (29, false) }) (v := undef) rfl (by kernel_rfl) (by kernel_rfl) (by kernel_rfl) (fun _ _ _ h => h) (Or.inr ⟨by rfl, rfl⟩) ?_
      try simp only [Act.put, List.setIfInBounds_toArray, List.set_cons_zero, List.set_cons_succ]
      refine anyHT_pure (fun _ => trivial) (by kernel_rfl) (i := 38) (oi := { dst := some 52, op := Op.fieldAddr 24 (Operand.tmp 2) 0, type := 0, pos := "top09w.go:21", after := #[{ on := 29, ground := Ground.guard }], guard := some (29, false) }) (v := undef) rfl (by kernel_rfl) (by kernel_rfl) (by kernel_rfl) (fun _ _ _ h => h) (Or.inr ⟨by rfl, rfl⟩) ?_
      try simp only [Act.put, List.setIfInBounds_toArray, List.set_cons_zero, List.set_cons_succ]
      refine anyHT_pure (fun _ => trivial) (by kernel_rfl) (i := 39) (oi := { dst := some 53, op := Op.load 22 (Operand.tmp 52), type := 22, pos := "top09w.go:21", after := #[{ on := 38, ground := Ground.data }, { on := 29, ground := Ground.guard }], guard := some (29, false) }) (v := undef) rfl (by kernel_rfl) (by kernel_rfl) (by kernel_rfl) (fun _ _ _ h => h) (Or.inr ⟨by rfl, rfl⟩) ?_
      try simp only [Act.put, List.setIfInBounds_toArray, List.set_cons_zero, List.set_cons_succ]
      refine anyHT_pure (fun _ => trivial) (by kernel_rfl) (i := 40) (oi := { dst := some 54, op := Op.call { callee := Callee.builtin Builtin.len, args := #[Operand.tmp 53], argTypes := #[22] }, type := 3, pos := "top09w.go:21", after := #[{ on := 39, ground := Ground.data }, { on := 29, ground := Ground.guard }], guard := some (29, false) }) (v := undef) rfl (by kernel_rfl) (by kernel_rfl) (by kernel_rfl) (fun _ _ _ h => h) (Or.inr ⟨by rfl, rfl⟩) ?_
      try simp only [Act.put, List.setIfInBounds_toArray, List.set_cons_zero, List.set_cons_succ]
      refine anyHT_pure (fun _ => trivial) (by kernel_rfl) (i := 41) (oi := { dst := some 55, op := Op.binOp BinOp.neq 3 (Operand.tmp 51) (Operand.tmp 54) 3, type := 4, pos := "top09w.go:21", after := #[{ on := 37, ground := Ground.data }, { on := 40, ground := Ground.data }, { on := 29, ground := Ground.guard }], guard := some (29, false) }) (v := undef) rfl (by kernel_rfl) (by kernel_rfl) (by kernel_rfl) (fun _ _ _ h => h) (Or.inr ⟨by rfl, rfl⟩) ?_
      try simp only [Act.put, List.setIfInBounds_toArray, List.set_cons_zero, List.set_cons_succ]
      refine anyHT_pure (fun _ => trivial) (by kernel_rfl) (i := 42) (oi := { dst := some 56, op := Op.pick (Operand.tmp 43) (Operand.const (Value.bool true)) (Operand.tmp 55), type := 4, pos := "top09w.go:21", after := #[{ on := 29, ground := Ground.data }, { on := 41, ground := Ground.data }], guard := none }) (v := ?_) rfl (by kernel_rfl) (by kernel_rfl) (by kernel_rfl) (fun _ _ _ h => h) (Or.inl ⟨by rfl, ?_⟩) ?_
      rotate_left
      · (intro w _; go_simp <;> with_reducible rfl)
      try simp only [Act.put, List.setIfInBounds_toArray, List.set_cons_zero, List.set_cons_succ]
      refine anyHT_done (by kernel_rfl) ?_ _
      go_wp2_with fail
      refine (HK.out _).mono ?_
      rintro e w9 ⟨rfl, hb9⟩
      have HB9 : Aside0 (Below w.heap.size w w9) := ⟨below_trans' (hHeld.1) hb9⟩
      clear hb9
      go_wp2_with fail
      go_ret
      exact ⟨rfl, HB9.out⟩
    have d6 : decide ((ms.length : Int) > 41) = false := by simp; omega
    have d6n : decide (41 < ms.length) = false := by simp; omega
    obtain ⟨ad, rfl, hc⟩ := Kd.at_int H1.out ((ms.length : Int) - 1) (by omega) (by omega)
    rw [show ((ms.length : Int) - 1).toNat = ms.length - 1 from by omega] at hc
    replace hc := pw_cell_below HB0.out hc
    have hz1 : (1 : Int) ≤ (ms.length : Int) := by omega
    have hz2 : (0 : Int) < (ms.length : Int) := by omega
    have hz3 : (ms.length : Int) - 1 < (ms.length : Int) := by omega
    have hw1 : IntKind.i64.wrap ((ms.length : Int) - 1) = (ms.length : Int) - 1 := IntWalk.i64_in _ (by omega)
    generalize hml : rd ms ((ms.length : Int) - 1) = ml at *
    by_cases b7 : ml = (xs.length : Int)
    · have d7 : (ml == (xs.length : Int)) = true := by simpa using b7
      have d7n : (ml != (xs.length : Int)) = false := by simpa using b7
      go_enter Try.func3, Try.ntmps3
      go_wp2_with fail
      refine (wpIn_wide (n := 0)).1 ?_
      refine region_anyHT (fun W' => Below w.heap.size w W' ∧ W'.cell? ⟨w.heap.size, 0, none⟩ = some (.slice A0 xs.length c0) ∧ W'.cell? ⟨w.heap.size, 1, none⟩ = some (.slice (some ad) ms.length c1) ∧ W'.cell? (ad.add (ms.length - 1)) = some (.int .i64 ml)) [] (by kernel_rfl) (⟨pw_below_drewN HB0.out 1, HSa.out, HSb.out, hc⟩) (fun hHeld => ?_)
      refine anyHT_pure (fun _ => trivial) (by kernel_rfl) (i := 0) (oi := { dst := some 14, op := Op.fieldAddr 24 (Operand.tmp 2) 0, type := 0, pos := "top09w.go:21", after := #[], guard := none }) (v := ?_) rfl (by kernel_rfl) (by kernel_rfl) (by kernel_rfl) (fun _ _ _ h => h) (Or.inl ⟨by rfl, ?_⟩) ?_
      rotate_left
      · (intro w _; go_simp <;> with_reducible rfl)
      try simp only [Act.put, List.setIfInBounds_toArray, List.set_cons_zero, List.set_cons_succ]
      refine anyHT_take (fun _ => trivial) (by kernel_rfl) [2, 3, 4, 5, 6, 7, 8, 9, 10, 11, 12, 13, 14, 15, 16, 17, 18, 19, 20, 21, 22, 23, 24, 25, 26, 27, 28, 29, 30, 31, 32, 33, 34, 35, 36, 37, 38, 39, 40, 41, 42] (i := 1) (oi := { dst := some 15, op := Op.load 22 (Operand.tmp 14), type := 22, pos := "top09w.go:21", after := #[{ on := 0, ground := Ground.data }], guard := none }) (v := ?_) rfl (by kernel_rfl) (by kernel_rfl) (by kernel_rfl) (by kernel_rfl) (by kernel_rfl) (by decide) (fun _ _ _ h => h) (Or.inl ⟨by rfl, ?_⟩) hHeld ?_
      rotate_left
      · (intro w hSw; (try dsimp only at hSw); go_simp <;> with_reducible rfl)
      try simp only [Act.put, List.setIfInBounds_toArray, List.set_cons_zero, List.set_cons_succ]
      refine anyHT_pure (fun _ => trivial) (by kernel_rfl) (i := 2) (oi := { dst := some 16, op := Op.call { callee := Callee.builtin Builtin.len, args := #[Operand.tmp 15], argTypes := #[22] }, type := 3, pos := "top09w.go:21", after := #[{ on := 1, ground := Ground.data }], guard := none }) (v := ?_) rfl (by kernel_rfl) (by kernel_rfl) (by kernel_rfl) (fun _ _ _ h => h) (Or.inl ⟨by rfl, ?_⟩) ?_
      rotate_left
      · (intro w _; go_simp <;> with_reducible rfl)
      try simp only [Act.put, List.setIfInBounds_toArray, List.set_cons_zero, List.set_cons_succ]
      refine anyHT_pure (fun _ => trivial) (by kernel_rfl) (i := 3) (oi := { dst := some 17, op := Op.binOp BinOp.gtr 3 (Operand.tmp 16) (Operand.const (Value.int IntKind.i64 400)) 3, type := 4, pos := "top09w.go:21", after := #[{ on := 2, ground := Ground.data }], guard := none }) (v := ?_) rfl (by kernel_rfl) (by kernel_rfl) (by kernel_rfl) (fun _ _ _ h => h) (Or.inl ⟨by rfl, ?_⟩) ?_
      rotate_left
      · (intro w _; go_simp <;> with_reducible rfl)
      try simp only [Act.put, List.setIfInBounds_toArray, List.set_cons_zero, List.set_cons_succ]
      refine anyHT_pure (fun _ => trivial) (by kernel_rfl) (i := 4) (oi := { dst := some 18, op := Op.move (Operand.tmp 17), type := 4, pos := "top09w.go:21", after := #[{ on := 3, ground := Ground.data }], guard := none }) (v := ?_) rfl (by kernel_rfl) (by kernel_rfl) (by kernel_rfl) (fun _ _ _ h => h) (Or.inl ⟨by rfl, ?_⟩) ?_
      rotate_left
      · (intro w _; go_simp <;> with_reducible rfl)
      try simp only [Act.put, List.setIfInBounds_toArray, List.set_cons_zero, List.set_cons_succ]
      refine anyHT_pure (fun _ => trivial) (by kernel_rfl) (i := 5) (oi := { dst := some 19, op := Op.move (Operand.tmp 1), type := 3, pos := "top09w.go:21", after := #[{ on := 4, ground := Ground.guard }], guard := some (4, false) }) (v := ?_) rfl (by kernel_rfl) (by kernel_rfl) (by kernel_rfl) (fun _ _ _ h => h) (Or.inl ⟨by rfl, ?_⟩) ?_
      rotate_left
      · (intro w _; go_simp <;> with_reducible rfl)
      try simp only [Act.put, List.setIfInBounds_toArray, List.set_cons_zero, List.set_cons_succ]
      refine anyHT_pure (fun _ => trivial) (by kernel_rfl) (i := 6) (oi := { dst := some 20, op := Op.binOp BinOp.lss 3 (Operand.tmp 19) (Operand.const (Value.int IntKind.i64 1)) 3, type := 4, pos := "top09w.go:21", after := #[{ on := 5, ground := Ground.data }, { on := 4, ground := Ground.guard }], guard := some (4, false) }) (v := ?_) rfl (by kernel_rfl) (by kernel_rfl) (by kernel_rfl) (fun _ _ _ h => h) (Or.inl ⟨by rfl, ?_⟩) ?_
      rotate_left
      · (intro w _; go_simp <;> with_reducible rfl)
      try simp only [Act.put, List.setIfInBounds_toArray, List.set_cons_zero, List.set_cons_succ]
      refine anyHT_pure (fun _ => trivial) (by kernel_rfl) (i := 7) (oi := { dst := some 21, op := Op.pick (Operand.tmp 18) (Operand.const (Value.bool true)) (Operand.tmp 20), type := 4, pos := "top09w.go:21", after := #[{ on := 4, ground := Ground.data }, { on := 6, ground := Ground.data }], guard := none }) (v := ?_) rfl (by kernel_rfl) (by kernel_rfl) (by kernel_rfl) (fun _ _ _ h => h) (Or.inl ⟨by rfl, ?_⟩) ?_
      rotate_left
      · (intro w _; go_simp <;> with_reducible rfl)
      try simp only [Act.put, List.setIfInBounds_toArray, List.set_cons_zero, List.set_cons_succ]
      refine anyHT_pure (fun _ => trivial) (by kernel_rfl) (i := 8) (oi := { dst := some 22, op := Op.move (Operand.tmp 21), type := 4, pos := "top09w.go:21", after := #[{ on := 7, ground := Ground.data }, { on := 4, ground := Ground.chain }], guard := none }) (v := ?_) rfl (by kernel_rfl) (by kernel_rfl) (by kernel_rfl) (fun _ _ _ h => h) (Or.inl ⟨by rfl, ?_⟩) ?_
      rotate_left
      · (intro w _; go_simp <;> with_reducible rfl)
      try simp only [Act.put, List.setIfInBounds_toArray, List.set_cons_zero, List.set_cons_succ]
      refine anyHT_pure (fun _ => trivial) (by kernel_rfl) (i := 9) (oi := { dst := some 23, op := Op.move (Operand.tmp 1), type := 3, pos := "top09w.go:21", after := #[{ on := 8, ground := Ground.guard }], guard := some (8, false) }) (v := ?_) rfl (by kernel_rfl) (by kernel_rfl) (by kernel_rfl) (fun _ _ _ h => h) (Or.inl ⟨by rfl, ?_⟩) ?_
      rotate_left
      · (intro w _; go_simp <;> with_reducible rfl)
      try simp only [Act.put, List.setIfInBounds_toArray, List.set_cons_zero, List.set_cons_succ]
      refine anyHT_pure (fun _ => trivial) (by kernel_rfl) (i := 10) (oi := { dst := some 24, op := Op.binOp BinOp.gtr 3 (Operand.tmp 23) (Operand.const (Value.int IntKind.i64 8)) 3, type := 4, pos := "top09w.go:21", after := #[{ on := 9, ground := Ground.data }, { on := 8, ground := Ground.guard }], guard := some (8, false) }) (v := ?_) rfl (by kernel_rfl) (by kernel_rfl) (by kernel_rfl) (fun _ _ _ h => h) (Or.inl ⟨by rfl, ?_⟩) ?_
      rotate_left
      · (intro w _; go_simp <;> with_reducible rfl)
      try simp only [Act.put, List.setIfInBounds_toArray, List.set_cons_zero, List.set_cons_succ]
      refine anyHT_pure (fun _ => trivial) (by kernel_rfl) (i := 11) (oi := { dst := some 25, op := Op.pick (Operand.tmp 22) (Operand.const (Value.bool true)) (Operand.tmp 24), type := 4, pos := "top09w.go:21", after := #[{ on := 8, ground := Ground.data }, { on := 10, ground := Ground.data }], guard := none }) (v := ?_) rfl (by kernel_rfl) (by kernel_rfl) (by kernel_rfl) (fun _ _ _ h => h) (Or.inl ⟨by rfl, ?_⟩) ?_
      rotate_left
      · (intro w _; go_simp <;> with_reducible rfl)
      try simp only [Act.put, List.setIfInBounds_toArray, List.set_cons_zero, List.set_cons_succ]
      refine anyHT_pure (fun _ => trivial) (by kernel_rfl) (i := 12) (oi := { dst := some 26, op := Op.move (Operand.tmp 25), type := 4, pos := "top09w.go:21", after := #[{ on := 11, ground := Ground.data }, { on := 8, ground := Ground.chain }], guard := none }) (v := ?_) rfl (by kernel_rfl) (by kernel_rfl) (by kernel_rfl) (fun _ _ _ h => h) (Or.inl ⟨by rfl, ?_⟩) ?_
      rotate_left
      · (intro w _; go_simp <;> with_reducible rfl)
      try simp only [Act.put, List.setIfInBounds_toArray, List.set_cons_zero, List.set_cons_succ]
      refine anyHT_take (fun _ => trivial) (by kernel_rfl) [14, 15, 16, 17, 18, 19, 20, 21, 22, 23, 24, 25, 26, 27, 28, 29, 30, 31, 32, 33, 34, 35, 36, 37, 38, 39, 40, 41, 42] (i := 13) (oi := { dst := some 27, op := Op.load 24 (Operand.tmp 2), type := 24, pos := "top09w.go:21", after := #[{ on := 12, ground := Ground.guard }], guard := some (12, false) }) (v := ?_) rfl (by kernel_rfl) (by kernel_rfl) (by kernel_rfl) (by kernel_rfl) (by kernel_rfl) (by decide) (fun _ _ _ h => h) (Or.inl ⟨by rfl, ?_⟩) hHeld ?_
      rotate_left
      · (intro w hSw; (try dsimp only at hSw); go_simp <;> with_reducible rfl)
      try simp only [Act.put, List.setIfInBounds_toArray, List.set_cons_zero, List.set_cons_succ]
      refine anyHT_one (i := 14) (o := { dst := some 28, op := Op.call { callee := Callee.value (Operand.func 7), args := #[Operand.tmp 27], argTypes := #[24] }, type := 25, pos := "top09w.go:21", after := #[{ on := 13, ground := Ground.data }, { on := 12, ground := Ground.chain }, { on := 12, ground := Ground.guard }], guard := some (12, false) }) (by kernel_rfl) rfl (by rfl) (fun K hK => ?_)
      go_simp
      refine ⟨trivial, rfl, ?_⟩
      refine (callsIn_wide.2 (HM.out _ hHeld.1)).mono ?_
      rintro e w1 ⟨rfl, hb⟩
      refine hK.out _ _ (fun _ hSw => ⟨below_trans' hSw.1 hb, pw_cell_below hb hSw.2.1, pw_cell_below hb hSw.2.2.1, pw_cell_below hb hSw.2.2.2⟩) ?_
      replace hHeld : (fun (W' : World) => Below w.heap.size w W' ∧ W'.cell? ⟨w.heap.size, 0, none⟩ = some (.slice A0 xs.length c0) ∧ W'.cell? ⟨w.heap.size, 1, none⟩ = some (.slice (some ad) ms.length c1) ∧ W'.cell? (ad.add (ms.length - 1)) = some (.int .i64 ml)) _ := (fun (hSw : (fun (W' : World) => Below w.heap.size w W' ∧ W'.cell? ⟨w.heap.size, 0, none⟩ = some (.slice A0 xs.length c0) ∧ W'.cell? ⟨w.heap.size, 1, none⟩ = some (.slice (some ad) ms.length c1) ∧ W'.cell? (ad.add (ms.length - 1)) = some (.int .i64 ml)) _) => ⟨below_trans' hSw.1 hb, pw_cell_below hb hSw.2.1, pw_cell_below hb hSw.2.2.1, pw_cell_below hb hSw.2.2.2⟩) hHeld
      clear hK K
      try simp only [Act.put, List.setIfInBounds_toArray, List.set_cons_zero, List.set_cons_succ]
      refine anyHT_pure (fun _ => trivial) (by kernel_rfl) (i := 15) (oi := { dst := some 29, op := Op.binOp BinOp.neq 25 (Operand.tmp 28) (Operand.const (Value.int IntKind.i64 0)) 25, type := 4, pos := "top09w.go:21", after := #[{ on := 14, ground := Ground.data }, { on := 12, ground := Ground.guard }], guard := some (12, false) }) (v := ?_) rfl (by kernel_rfl) (by kernel_rfl) (by kernel_rfl) (fun _ _ _ h => h) (Or.inl ⟨by rfl, ?_⟩) ?_
      rotate_left
      · (intro w _; go_simp <;> with_reducible rfl)
      try simp only [Act.put, List.setIfInBounds_toArray, List.set_cons_zero, List.set_cons_succ]
      refine anyHT_pure (fun _ => trivial) (by kernel_rfl) (i := 16) (oi := { dst := some 30, op := Op.pick (Operand.tmp 26) (Operand.const (Value.bool true)) (Operand.tmp 29), type := 4, pos := "top09w.go:21", after := #[{ on := 12, ground := Ground.data }, { on := 15, ground := Ground.data }], guard := none }) (v := ?_) rfl (by kernel_rfl) (by kernel_rfl) (by kernel_rfl) (fun _ _ _ h => h) (Or.inl ⟨by rfl, ?_⟩) ?_
      rotate_left
      · (intro w _; go_simp <;> with_reducible rfl)
      try simp only [Act.put, List.setIfInBounds_toArray, List.set_cons_zero, List.set_cons_succ]
      refine anyHT_pure (fun _ => trivial) (by kernel_rfl) (i := 17) (oi := { dst := some 31, op := Op.move (Operand.tmp 30), type := 4, pos := "top09w.go:21", after := #[{ on := 16, ground := Ground.data }, { on := 14, ground := Ground.chain }], guard := none }) (v := ?_) rfl (by kernel_rfl) (by kernel_rfl) (by kernel_rfl) (fun _ _ _ h => h) (Or.inl ⟨by rfl, ?_⟩) ?_
      rotate_left
      · (intro w _; go_simp <;> with_reducible rfl)
      try simp only [Act.put, List.setIfInBounds_toArray, List.set_cons_zero, List.set_cons_succ]
      refine anyHT_pure (fun _ => trivial) (by kernel_rfl) (i := 18) (oi := { dst := some 32, op := Op.fieldAddr 24 (Operand.tmp 2) 1, type := 0, pos := "top09w.go:21", after := #[{ on := 17, ground := Ground.guard }], guard := some (17, false) }) (v := ?_) rfl (by kernel_rfl) (by kernel_rfl) (by kernel_rfl) (fun _ _ _ h => h) (Or.inl ⟨by rfl, ?_⟩) ?_
      rotate_left
      · (intro w _; go_simp <;> with_reducible rfl)
      try simp only [Act.put, List.setIfInBounds_toArray, List.set_cons_zero, List.set_cons_succ]
      refine anyHT_take (fun _ => trivial) (by kernel_rfl) [20, 21, 22, 23, 24, 25, 26, 27, 28, 29, 30, 31, 32, 33, 34, 35, 36, 37, 38, 39, 40, 41, 42] (i := 19) (oi := { dst := some 33, op := Op.load 22 (Operand.tmp 32), type := 22, pos := "top09w.go:21", after := #[{ on := 18, ground := Ground.data }, { on := 17, ground := Ground.guard }], guard := some (17, false) }) (v := ?_) rfl (by kernel_rfl) (by kernel_rfl) (by kernel_rfl) (by kernel_rfl) (by kernel_rfl) (by decide) (fun _ _ _ h => h) (Or.inl ⟨by rfl, ?_⟩) hHeld ?_
      rotate_left
      · (intro w hSw; (try dsimp only at hSw); go_simp <;> with_reducible rfl)
      try simp only [Act.put, List.setIfInBounds_toArray, List.set_cons_zero, List.set_cons_succ]
      refine anyHT_pure (fun _ => trivial) (by kernel_rfl) (i := 20) (oi := { dst := some 34, op := Op.call { callee := Callee.builtin Builtin.len, args := #[Operand.tmp 33], argTypes := #[22] }, type := 3, pos := "top09w.go:21", after := #[{ on := 19, ground := Ground.data }, { on := 17, ground := Ground.guard }], guard := some (17, false) }) (v := ?_) rfl (by kernel_rfl) (by kernel_rfl) (by kernel_rfl) (fun _ _ _ h => h) (Or.inl ⟨by rfl, ?_⟩) ?_
      rotate_left
      · (intro w _; go_simp <;> with_reducible rfl)
      try simp only [Act.put, List.setIfInBounds_toArray, List.set_cons_zero, List.set_cons_succ]
      refine anyHT_pure (fun _ => trivial) (by kernel_rfl) (i := 21) (oi := { dst := some 35, op := Op.binOp BinOp.lss 3 (Operand.tmp 34) (Operand.const (Value.int IntKind.i64 2)) 3, type := 4, pos := "top09w.go:21", after := #[{ on := 20, ground := Ground.data }, { on := 17, ground := Ground.guard }], guard := some (17, false) }) (v := ?_) rfl (by kernel_rfl) (by kernel_rfl) (by kernel_rfl) (fun _ _ _ h => h) (Or.inl ⟨by rfl, ?_⟩) ?_
      rotate_left
      · (intro w _; go_simp <;> with_reducible rfl)
      try simp only [Act.put, List.setIfInBounds_toArray, List.set_cons_zero, List.set_cons_succ]
      refine anyHT_pure (fun _ => trivial) (by kernel_rfl) (i := 22) (oi := { dst := some 36, op := Op.pick (Operand.tmp 31) (Operand.const (Value.bool true)) (Operand.tmp 35), type := 4, pos := "top09w.go:21", after := #[{ on := 17, ground := Ground.data }, { on := 21, ground := Ground.data }], guard := none }) (v := ?_) rfl (by kernel_rfl) (by kernel_rfl) (by kernel_rfl) (fun _ _ _ h => h) (Or.inl ⟨by rfl, ?_⟩) ?_
      rotate_left
      · (intro w _; go_simp <;> with_reducible rfl)
      try simp only [Act.put, List.setIfInBounds_toArray, List.set_cons_zero, List.set_cons_succ]
      refine anyHT_pure (fun _ => trivial) (by kernel_rfl) (i := 23) (oi := { dst := some 37, op := Op.move (Operand.tmp 36), type := 4, pos := "top09w.go:21", after := #[{ on := 22, ground := Ground.data }, { on := 17, ground := Ground.chain }], guard := none }) (v := ?_) rfl (by kernel_rfl) (by kernel_rfl) (by kernel_rfl) (fun _ _ _ h => h) (Or.inl ⟨by rfl, ?_⟩) ?_
      rotate_left
      · (intro w _; go_simp <;> with_reducible rfl)
      try simp only [Act.put, List.setIfInBounds_toArray, List.set_cons_zero, List.set_cons_succ]
      refine anyHT_pure (fun _ => trivial) (by kernel_rfl) (i := 24) (oi := { dst := some 38, op := Op.fieldAddr 24 (Operand.tmp 2) 1, type := 0, pos := "top09w.go:21", after := #[{ on := 23, ground := Ground.guard }], guard := some (23, false) }) (v := ?_) rfl (by kernel_rfl) (by kernel_rfl) (by kernel_rfl) (fun _ _ _ h => h) (Or.inl ⟨by rfl, ?_⟩) ?_
      rotate_left
      · (intro w _; go_simp <;> with_reducible rfl)
      try simp only [Act.put, List.setIfInBounds_toArray, List.set_cons_zero, List.set_cons_succ]
      refine anyHT_take (fun _ => trivial) (by kernel_rfl) [26, 27, 28, 29, 30, 31, 32, 33, 34, 35, 36, 37, 38, 39, 40, 41, 42] (i := 25) (oi := { dst := some 39, op := Op.load 22 (Operand.tmp 38), type := 22, pos := "top09w.go:21", after := #[{ on := 24, ground := Ground.data }, { on := 23, ground := Ground.guard }], guard := some (23, false) }) (v := ?_) rfl (by kernel_rfl) (by kernel_rfl) (by kernel_rfl) (by kernel_rfl) (by kernel_rfl) (by decide) (fun _ _ _ h => h) (Or.inl ⟨by rfl, ?_⟩) hHeld ?_
      rotate_left
      · (intro w hSw; (try dsimp only at hSw); go_simp <;> with_reducible rfl)
      try simp only [Act.put, List.setIfInBounds_toArray, List.set_cons_zero, List.set_cons_succ]
      refine anyHT_pure (fun _ => trivial) (by kernel_rfl) (i := 26) (oi := { dst := some 40, op := Op.call { callee := Callee.builtin Builtin.len, args := #[Operand.tmp 39], argTypes := #[22] }, type := 3, pos := "top09w.go:21", after := #[{ on := 25, ground := Ground.data }, { on := 23, ground := Ground.guard }], guard := some (23, false) }) (v := ?_) rfl (by kernel_rfl) (by kernel_rfl) (by kernel_rfl) (fun _ _ _ h => h) (Or.inl ⟨by rfl, ?_⟩) ?_
      rotate_left
      · (intro w _; go_simp <;> with_reducible rfl)
      try simp only [Act.put, List.setIfInBounds_toArray, List.set_cons_zero, List.set_cons_succ]
      refine anyHT_pure (fun _ => trivial) (by kernel_rfl) (i := 27) (oi := { dst := some 41, op := Op.binOp BinOp.gtr 3 (Operand.tmp 40) (Operand.const (Value.int IntKind.i64 41)) 3, type := 4, pos := "top09w.go:21", after := #[{ on := 26, ground := Ground.data }, { on := 23, ground := Ground.guard }], guard := some (23, false) }) (v := ?_) rfl (by kernel_rfl) (by kernel_rfl) (by kernel_rfl) (fun _ _ _ h => h) (Or.inl ⟨by rfl, ?_⟩) ?_
      rotate_left
      · (intro w _; go_simp <;> with_reducible rfl)
      try simp only [Act.put, List.setIfInBounds_toArray, List.set_cons_zero, List.set_cons_succ]
      refine anyHT_pure (fun _ => trivial) (by kernel_rfl) (i := 28) (oi := { dst := some 42, op := Op.pick (Operand.tmp 37) (Operand.const (Value.bool true)) (Operand.tmp 41), type := 4, pos := "top09w.go:21", after := #[{ on := 23, ground := Ground.data }, { on := 27, ground := Ground.data }], guard := none }) (v := ?_) rfl (by kernel_rfl) (by kernel_rfl) (by kernel_rfl) (fun _ _ _ h => h) (Or.inl ⟨by rfl, ?_⟩) ?_
      rotate_left
      · (intro w _; go_simp <;> with_reducible rfl)
      try simp only [Act.put, List.setIfInBounds_toArray, List.set_cons_zero, List.set_cons_succ]
      refine anyHT_pure (fun _ => trivial) (by kernel_rfl) (i := 29) (oi := { dst := some 43, op := Op.move (Operand.tmp 42), type := 4, pos := "top09w.go:21", after := #[{ on := 28, ground := Ground.data }, { on := 23, ground := Ground.chain }], guard := none }) (v := ?_) rfl (by kernel_rfl) (by kernel_rfl) (by kernel_rfl) (fun _ _ _ h => h) (Or.inl ⟨by rfl, ?_⟩) ?_
      rotate_left
      · (intro w _; go_simp <;> with_reducible rfl)
      try simp only [Act.put, List.setIfInBounds_toArray, List.set_cons_zero, List.set_cons_succ]
      refine anyHT_pure (fun _ => trivial) (by kernel_rfl) (i := 30) (oi := { dst := some 44, op := Op.fieldAddr 24 (Operand.tmp 2) 1, type := 0, pos := "top09w.go:21", after := #[{ on := 29, ground := Ground.guard }], guard := some (29, false) }) (v := ?_) rfl (by kernel_rfl) (by kernel_rfl) (by kernel_rfl) (fun _ _ _ h => h) (Or.inl ⟨by rfl, ?_⟩) ?_
      rotate_left
      · (intro w _; go_simp <;> with_reducible rfl)
      try simp only [Act.put, List.setIfInBounds_toArray, List.set_cons_zero, List.set_cons_succ]
      refine anyHT_take (fun _ => trivial) (by kernel_rfl) [36, 37, 41, 42] (i := 31) (oi := { dst := some 45, op := Op.load 22 (Operand.tmp 44), type := 22, pos := "top09w.go:21", after := #[{ on := 30, ground := Ground.data }, { on := 29, ground := Ground.guard }], guard := some (29, false) }) (v := ?_) rfl (by kernel_rfl) (by kernel_rfl) (by kernel_rfl) (by kernel_rfl) (by kernel_rfl) (by decide) (fun _ _ _ h => h) (Or.inl ⟨by rfl, ?_⟩) hHeld ?_
      rotate_left
      · (intro w hSw; (try dsimp only at hSw); go_simp <;> with_reducible rfl)
      try simp only [Act.put, List.setIfInBounds_toArray, List.set_cons_zero, List.set_cons_succ]
      refine anyHT_pure (fun _ => trivial) (by kernel_rfl) (i := 32) (oi := { dst := some 46, op := Op.fieldAddr 24 (Operand.tmp 2) 1, type := 0, pos := "top09w.go:21", after := #[{ on := 29, ground := Ground.guard }], guard := some (29, false) }) (v := ?_) rfl (by kernel_rfl) (by kernel_rfl) (by kernel_rfl) (fun _ _ _ h => h) (Or.inl ⟨by rfl, ?_⟩) ?_
      rotate_left
      · (intro w _; go_simp <;> with_reducible rfl)
      try simp only [Act.put, List.setIfInBounds_toArray, List.set_cons_zero, List.set_cons_succ]
      refine anyHT_take (fun _ => trivial) (by kernel_rfl) [34, 35, 36, 37, 41, 42] (i := 33) (oi := { dst := some 47, op := Op.load 22 (Operand.tmp 46), type := 22, pos := "top09w.go:21", after := #[{ on := 32, ground := Ground.data }, { on := 29, ground := Ground.guard }], guard := some (29, false) }) (v := ?_) rfl (by kernel_rfl) (by kernel_rfl) (by kernel_rfl) (by kernel_rfl) (by kernel_rfl) (by decide) (fun _ _ _ h => h) (Or.inl ⟨by rfl, ?_⟩) hHeld ?_
      rotate_left
      · (intro w hSw; (try dsimp only at hSw); go_simp <;> with_reducible rfl)
      try simp only [Act.put, List.setIfInBounds_toArray, List.set_cons_zero, List.set_cons_succ]
      refine anyHT_pure (fun _ => trivial) (by kernel_rfl) (i := 34) (oi := { dst := some 48, op := Op.call { callee := Callee.builtin Builtin.len, args := #[Operand.tmp 47], argTypes := #[22] }, type := 3, pos := "top09w.go:21", after := #[{ on := 33, ground := Ground.data }, { on := 29, ground := Ground.guard }], guard := some (29, false) }) (v := ?_) rfl (by kernel_rfl) (by kernel_rfl) (by kernel_rfl) (fun _ _ _ h => h) (Or.inl ⟨by rfl, ?_⟩) ?_
      rotate_left
      · (intro w _; go_simp <;> with_reducible rfl)
      try simp only [Act.put, List.setIfInBounds_toArray, List.set_cons_zero, List.set_cons_succ]
      refine anyHT_pure (fun _ => trivial) (by kernel_rfl) (i := 35) (oi := { dst := some 49, op := Op.binOp BinOp.sub 3 (Operand.tmp 48) (Operand.const (Value.int IntKind.i64 1)) 3, type := 3, pos := "top09w.go:21", after := #[{ on := 34, ground := Ground.data }, { on := 29, ground := Ground.guard }], guard := some (29, false) }) (v := ?_) rfl (by kernel_rfl) (by kernel_rfl) (by kernel_rfl) (fun _ _ _ h => h) (Or.inl ⟨by rfl, ?_⟩) ?_
      rotate_left
      · (intro w _; go_simp <;> with_reducible rfl)
      try simp only [Act.put, List.setIfInBounds_toArray, List.set_cons_zero, List.set_cons_succ]
      refine anyHT_pure (fun _ => trivial) (by kernel_rfl) (i := 36) (oi := { dst := some 50, op := Op.indexAddr 22 (Operand.tmp 45) (Operand.tmp 49), type := 0, pos := "top09w.go:21", after := #[{ on := 31, ground := Ground.data }, { on := 35, ground := Ground.data }, { on := 29, ground := Ground.guard }], guard := some (29, false) }) (v := ?_) rfl (by kernel_rfl) (by kernel_rfl) (by kernel_rfl) (fun _ _ _ h => h) (Or.inl ⟨by rfl, ?_⟩) ?_
      rotate_left
      · (intro w _; go_simp <;> with_reducible rfl)
      try simp only [Act.put, List.setIfInBounds_toArray, List.set_cons_zero, List.set_cons_succ]
      refine anyHT_take (fun _ => trivial) (by kernel_rfl) [41, 42] (i := 37) (oi := { dst := some 51, op := Op.load 3 (Operand.tmp 50), type := 3, pos := "top09w.go:21", after := #[{ on := 36, ground := Ground.data }, { on := 29, ground := Ground.guard }], guard := some (29, false) }) (v := ?_) rfl (by kernel_rfl) (by kernel_rfl) (by kernel_rfl) (by kernel_rfl) (by kernel_rfl) (by decide) (fun _ _ _ h => h) (Or.inl ⟨by rfl, ?_⟩) hHeld ?_
      rotate_left
      · (intro w hSw; (try dsimp only at hSw); go_simp <;> with_reducible rfl)
      try simp only [Act.put, List.setIfInBounds_toArray, List.set_cons_zero, List.set_cons_succ]
      refine anyHT_pure (fun _ => trivial) (by kernel_rfl) (i := 38) (oi := { dst := some 52, op := Op.fieldAddr 24 (Operand.tmp 2) 0, type := 0, pos := "top09w.go:21", after := #[{ on := 29, ground := Ground.guard }], guard := some (29, false) }) (v := ?_) rfl (by kernel_rfl) (by kernel_rfl) (by kernel_rfl) (fun _ _ _ h => h) (Or.inl ⟨by rfl, ?_⟩) ?_
      rotate_left
      · (intro w _; go_simp <;> with_reducible rfl)
      try simp only [Act.put, List.setIfInBounds_toArray, List.set_cons_zero, List.set_cons_succ]
      refine anyHT_take (fun _ => trivial) (by kernel_rfl) [40, 41, 42] (i := 39) (oi := { dst := some 53, op := Op.load 22 (Operand.tmp 52), type := 22, pos := "top09w.go:21", after := #[{ on := 38, ground := Ground.data }, { on := 29, ground := Ground.guard }], guard := some (29, false) }) (v := ?_) rfl (by kernel_rfl) (by kernel_rfl) (by kernel_rfl) (by kernel_rfl) (by kernel_rfl) (by decide) (fun _ _ _ h => h) (Or.inl ⟨by rfl, ?_⟩) hHeld ?_
      rotate_left
      · (intro w hSw; (try dsimp only at hSw); go_simp <;> with_reducible rfl)
      try simp only [Act.put, List.setIfInBounds_toArray, List.set_cons_zero, List.set_cons_succ]
      refine anyHT_pure (fun _ => trivial) (by kernel_rfl) (i := 40) (oi := { dst := some 54, op := Op.call { callee := Callee.builtin Builtin.len, args := #[Operand.tmp 53], argTypes := #[22] }, type := 3, pos := "top09w.go:21", after := #[{ on := 39, ground := Ground.data }, { on := 29, ground := Ground.guard }], guard := some (29, false) }) (v := ?_) rfl (by kernel_rfl) (by kernel_rfl) (by kernel_rfl) (fun _ _ _ h => h) (Or.inl ⟨by rfl, ?_⟩) ?_
      rotate_left
      · (intro w _; go_simp <;> with_reducible rfl)
      try simp only [Act.put, List.setIfInBounds_toArray, List.set_cons_zero, List.set_cons_succ]
      refine anyHT_pure (fun _ => trivial) (by kernel_rfl) (i := 41) (oi := { dst := some 55, op := Op.binOp BinOp.neq 3 (Operand.tmp 51) (Operand.tmp 54) 3, type := 4, pos := "top09w.go:21", after := #[{ on := 37, ground := Ground.data }, { on := 40, ground := Ground.data }, { on := 29, ground := Ground.guard }], guard := some (29, false) }) (v := ?_) rfl (by kernel_rfl) (by kernel_rfl) (by kernel_rfl) (fun _ _ _ h => h) (Or.inl ⟨by rfl, ?_⟩) ?_
      rotate_left
      · (intro w _; go_simp <;> with_reducible rfl)
      try simp only [Act.put, List.setIfInBounds_toArray, List.set_cons_zero, List.set_cons_succ]
      refine anyHT_pure (fun _ => trivial) (by kernel_rfl) (i := 42) (oi := { dst := some 56, op := Op.pick (Operand.tmp 43) (Operand.const (Value.bool true)) (Operand.tmp 55), type := 4, pos := "top09w.go:21", after := #[{ on := 29, ground := Ground.data }, { on := 41, ground := Ground.data }], guard := none }) (v := ?_) rfl (by kernel_rfl) (by kernel_rfl) (by kernel_rfl) (fun _ _ _ h => h) (Or.inl ⟨by rfl, ?_⟩) ?_
      rotate_left
      · (intro w _; go_simp <;> with_reducible rfl)
      try simp only [Act.put, List.setIfInBounds_toArray, List.set_cons_zero, List.set_cons_succ]
      refine anyHT_done (by kernel_rfl) ?_ _
      obtain ⟨kn, rfl⟩ : ∃ kn : Nat, k = kn := ⟨k.toNat, by omega⟩
      have HKN : Aside0 (1 ≤ kn ∧ kn ≤ 8) := ⟨by omega⟩
      have HML := Aside0.mk hml
      have HXL : Aside0 (xs.length ≤ 400) := ⟨by omega⟩
      have HL7 := Aside0.mk b7
      have HB1 := Aside0.mk hHeld.1
      have hs0 : w1.cell? ⟨w.heap.size, 0, none⟩ = some (.slice A0 xs.length c0) := hHeld.2.1
      have hs1 : w1.cell? ⟨w.heap.size, 1, none⟩ = some (.slice (some ad) ms.length c1) := hHeld.2.2.1
      have hcut : ∀ W : World, (Instr.slice 22 (.slice (some ad) ms.length c1) none (some (.int .i64 ((ms.length : Int) - 1))) none).run Try.prog W = .ok (.slice (some ad) (ms.length - 1) c1) W := by
        obtain ⟨i, hi, hz⟩ := Option.map_eq_some_iff.1 info3
        intro W
        have := cut_to 22 3 .i64 Try.underlying22 hi (some ad) ms.length c1 ((ms.length : Int) - 1) (by omega) (by omega) HC1.out W
        rwa [show ((ms.length : Int) - 1).toNat = ms.length - 1 from by omega] at this
      have HS0 := Aside0.mk hs0
      have HS1 := Aside0.mk hs1
      clear hHeld HM hb hc d1 d1n d2 d3 d3n d5 d5n d6 d6n d7 d7n hml b7 b1 b2 b3 HB0 HSa HSb
      go_wp2_with fail
      refine (wpIn_wide (n := 0)).1 ?_
      refine region_anyHT (fun W' => W'.cell? ⟨w.heap.size, 0, none⟩ = some (.slice A0 xs.length c0) ∧ W'.cell? ⟨w.heap.size, 1, none⟩ = some (.slice (some ad) ms.length c1)) [11] (by kernel_rfl) (⟨hs0, hs1⟩) (fun hHeld => ?_)
      refine anyHT_pure (fun _ => trivial) (by kernel_rfl) (i := 0) (oi := { dst := some 58, op := Op.fieldAddr 24 (Operand.tmp 2) 0, type := 0, pos := "top09w.go:24", after := #[], guard := none }) (v := ?_) rfl (by kernel_rfl) (by kernel_rfl) (by kernel_rfl) (fun _ _ _ h => h) (Or.inl ⟨by rfl, ?_⟩) ?_
      rotate_left
      · (intro w _; go_simp <;> with_reducible rfl)
      try simp only [Act.put, List.setIfInBounds_toArray, List.set_cons_zero, List.set_cons_succ]
      refine anyHT_take (fun _ => trivial) (by kernel_rfl) [9, 11] (i := 1) (oi := { dst := some 59, op := Op.load 22 (Operand.tmp 58), type := 22, pos := "top09w.go:24", after := #[{ on := 0, ground := Ground.data }], guard := none }) (v := ?_) rfl (by kernel_rfl) (by kernel_rfl) (by kernel_rfl) (by kernel_rfl) (by kernel_rfl) (by decide) (fun _ _ _ h => h) (Or.inl ⟨by rfl, ?_⟩) hHeld ?_
      rotate_left
      · (intro w hSw; (try dsimp only at hSw); go_simp <;> with_reducible rfl)
      try simp only [Act.put, List.setIfInBounds_toArray, List.set_cons_zero, List.set_cons_succ]
      refine anyHT_pure (fun _ => trivial) (by kernel_rfl) (i := 2) (oi := { dst := some 60, op := Op.fieldAddr 24 (Operand.tmp 2) 1, type := 0, pos := "top09w.go:24", after := #[], guard := none }) (v := ?_) rfl (by kernel_rfl) (by kernel_rfl) (by kernel_rfl) (fun _ _ _ h => h) (Or.inl ⟨by rfl, ?_⟩) ?_
      rotate_left
      · (intro w _; go_simp <;> with_reducible rfl)
      try simp only [Act.put, List.setIfInBounds_toArray, List.set_cons_zero, List.set_cons_succ]
      refine anyHT_take (fun _ => trivial) (by kernel_rfl) [8, 9, 11] (i := 3) (oi := { dst := some 61, op := Op.load 22 (Operand.tmp 60), type := 22, pos := "top09w.go:24", after := #[{ on := 2, ground := Ground.data }], guard := none }) (v := ?_) rfl (by kernel_rfl) (by kernel_rfl) (by kernel_rfl) (by kernel_rfl) (by kernel_rfl) (by decide) (fun _ _ _ h => h) (Or.inl ⟨by rfl, ?_⟩) hHeld ?_
      rotate_left
      · (intro w hSw; (try dsimp only at hSw); go_simp <;> with_reducible rfl)
      try simp only [Act.put, List.setIfInBounds_toArray, List.set_cons_zero, List.set_cons_succ]
      refine anyHT_pure (fun _ => trivial) (by kernel_rfl) (i := 4) (oi := { dst := some 62, op := Op.fieldAddr 24 (Operand.tmp 2) 1, type := 0, pos := "top09w.go:24", after := #[], guard := none }) (v := ?_) rfl (by kernel_rfl) (by kernel_rfl) (by kernel_rfl) (fun _ _ _ h => h) (Or.inl ⟨by rfl, ?_⟩) ?_
      rotate_left
      · (intro w _; go_simp <;> with_reducible rfl)
      try simp only [Act.put, List.setIfInBounds_toArray, List.set_cons_zero, List.set_cons_succ]
      refine anyHT_take (fun _ => trivial) (by kernel_rfl) [6, 7, 8, 9, 11] (i := 5) (oi := { dst := some 63, op := Op.load 22 (Operand.tmp 62), type := 22, pos := "top09w.go:24", after := #[{ on := 4, ground := Ground.data }], guard := none }) (v := ?_) rfl (by kernel_rfl) (by kernel_rfl) (by kernel_rfl) (by kernel_rfl) (by kernel_rfl) (by decide) (fun _ _ _ h => h) (Or.inl ⟨by rfl, ?_⟩) hHeld ?_
      rotate_left
      · (intro w hSw; (try dsimp only at hSw); go_simp <;> with_reducible rfl)
      try simp only [Act.put, List.setIfInBounds_toArray, List.set_cons_zero, List.set_cons_succ]
      refine anyHT_pure (fun _ => trivial) (by kernel_rfl) (i := 6) (oi := { dst := some 64, op := Op.call { callee := Callee.builtin Builtin.len, args := #[Operand.tmp 63], argTypes := #[22] }, type := 3, pos := "top09w.go:24", after := #[{ on := 5, ground := Ground.data }], guard := none }) (v := ?_) rfl (by kernel_rfl) (by kernel_rfl) (by kernel_rfl) (fun _ _ _ h => h) (Or.inl ⟨by rfl, ?_⟩) ?_
      rotate_left
      · (intro w _; go_simp <;> with_reducible rfl)
      try simp only [Act.put, List.setIfInBounds_toArray, List.set_cons_zero, List.set_cons_succ]
      refine anyHT_pure (fun _ => trivial) (by kernel_rfl) (i := 7) (oi := { dst := some 65, op := Op.binOp BinOp.sub 3 (Operand.tmp 64) (Operand.const (Value.int IntKind.i64 1)) 3, type := 3, pos := "top09w.go:24", after := #[{ on := 6, ground := Ground.data }], guard := none }) (v := ?_) rfl (by kernel_rfl) (by kernel_rfl) (by kernel_rfl) (fun _ _ _ h => h) (Or.inl ⟨by rfl, ?_⟩) ?_
      rotate_left
      · (intro w _; go_simp <;> with_reducible rfl)
      try simp only [Act.put, List.setIfInBounds_toArray, List.set_cons_zero, List.set_cons_succ]
      refine anyHT_pure (fun _ => trivial) (by kernel_rfl) (i := 8) (oi := { dst := some 66, op := Op.slice 22 (Operand.tmp 61) none (some (Operand.tmp 65)) none, type := 22, pos := "top09w.go:24", after := #[{ on := 3, ground := Ground.data }, { on := 7, ground := Ground.data }], guard := none }) (v := ?_) rfl (by kernel_rfl) (by kernel_rfl) (by kernel_rfl) (fun _ _ _ h => h) (Or.inl ⟨by rfl, ?_⟩) ?_
      rotate_left
      · (intro w _; go_simp <;> with_reducible rfl)
      try simp only [Act.put, List.setIfInBounds_toArray, List.set_cons_zero, List.set_cons_succ]
      refine anyHT_pure (fun _ => trivial) (by kernel_rfl) (i := 9) (oi := { dst := some 67, op := Op.build 30 #[(0, Operand.const (Value.int IntKind.i64 1)), (1, Operand.const (Value.int IntKind.i64 1)), (2, Operand.tmp 59), (3, Operand.tmp 66)], type := 30, pos := "top09w.go:24", after := #[{ on := 1, ground := Ground.data }, { on := 8, ground := Ground.data }], guard := none }) (v := ?_) rfl (by kernel_rfl) (by kernel_rfl) (by kernel_rfl) (fun _ _ _ h => h) (Or.inl ⟨by rfl, ?_⟩) ?_
      rotate_left
      · (intro w _; go_simp <;> with_reducible rfl)
      try simp only [Act.put, List.setIfInBounds_toArray, List.set_cons_zero, List.set_cons_succ]
      refine anyHT_one (i := 10) (o := { dst := some 5, op := Op.alloc 30, type := 0, pos := "top09w.go:24", after := #[], guard := none }) (by kernel_rfl) rfl (by rfl) (fun K hK => ?_)
      have hbA := below_alloc (Below.refl w1.drew.heap.size w1.drew) (.cells #[.int .i64 0, .int .i64 0, .slice none 0 0, .slice none 0 0, .slice none 0 0, .int .i64 0] 30)
      go_simp
      refine hK.out _ _ (fun _ hSw => ⟨pw_cell_below hbA hSw.1, pw_cell_below hbA hSw.2⟩) ?_
      replace hHeld : (fun (W' : World) => W'.cell? ⟨w.heap.size, 0, none⟩ = some (.slice A0 xs.length c0) ∧ W'.cell? ⟨w.heap.size, 1, none⟩ = some (.slice (some ad) ms.length c1)) _ := (fun (hSw : (fun (W' : World) => W'.cell? ⟨w.heap.size, 0, none⟩ = some (.slice A0 xs.length c0) ∧ W'.cell? ⟨w.heap.size, 1, none⟩ = some (.slice (some ad) ms.length c1)) _) => ⟨pw_cell_below hbA hSw.1, pw_cell_below hbA hSw.2⟩) hHeld
      clear hK K
      try simp only [Act.put, List.setIfInBounds_toArray, List.set_cons_zero, List.set_cons_succ]
      refine anyHT_one (i := 11) (o := { dst := none, op := Op.store 30 (Operand.tmp 5) (Operand.tmp 67), type := 0, pos := "top09w.go:24", after := #[{ on := 10, ground := Ground.data }, { on := 9, ground := Ground.data }, { on := 0, ground := Ground.phase }, { on := 1, ground := Ground.phase }, { on := 2, ground := Ground.phase }, { on := 3, ground := Ground.phase }, { on := 4, ground := Ground.phase }, { on := 5, ground := Ground.phase }, { on := 6, ground := Ground.phase }, { on := 7, ground := Ground.phase }, { on := 8, ground := Ground.phase }, { on := 9, ground := Ground.phase }, { on := 10, ground := Ground.phase }], guard := none }) (by kernel_rfl) rfl (by rfl) (fun K hK => ?_)
      go_simp
      refine hK.out _ _ (fun h => absurd (by decide) h) ?_
      clear hK K
      try simp only [Act.put, List.setIfInBounds_toArray, List.set_cons_zero, List.set_cons_succ]
      refine anyHT_done (by kernel_rfl) ?_ _
      have hb3 : Below w1.heap.size w1 ((w1.alloc (.cells #[.int .i64 1, .int .i64 1, .slice A0 xs.length c0, .slice (some ad) (ms.length - 1) c1, .slice none 0 0, .int .i64 0] 30)).drew) := below_trans' (below_alloc (Below.refl _ _) _) (below_drew (Below.refl _ _))
      have hp3 : ((w1.alloc (.cells #[.int .i64 1, .int .i64 1, .slice A0 xs.length c0, .slice (some ad) (ms.length - 1) c1, .slice none 0 0, .int .i64 0] 30)).drew).heap[w1.heap.size]? = some (.cells #[.int .i64 1, .int .i64 1, .slice A0 xs.length c0, .slice (some ad) (ms.length - 1) c1, .slice none 0 0, .int .i64 0] 30) := blk_drew (blk_new' rfl _)
      have HI0 : Aside0 (LInv w1 A0 c0 xs ad c1 ms 0 ((w1.alloc (.cells #[.int .i64 1, .int .i64 1, .slice A0 xs.length c0, .slice (some ad) (ms.length - 1) c1, .slice none 0 0, .int .i64 0] 30)).drew)) := ⟨⟨hb3, .slice none 0 0, hp3, own_nil _ _ _ _⟩⟩
      clear hHeld hcut hb3 hp3 hs0 hs1 hbA
      generalize ((w1.alloc (.cells #[.int .i64 1, .int .i64 1, .slice A0 xs.length c0, .slice (some ad) (ms.length - 1) c1, .slice none 0 0, .int .i64 0] 30)).drew) = w3 at *
      have hs0 : w1.cell? ⟨w.heap.size, 0, none⟩ = some (.slice A0 xs.length c0) := HS0.out
      have hs1 : w1.cell? ⟨w.heap.size, 1, none⟩ = some (.slice (some ad) ms.length c1) := HS1.out
      have hs0w := pw_cell_below HI0.out.below hs0
      have hs1w := pw_cell_below HI0.out.below hs1
      go_wp2
      go_loopg [6] ms.length (fun gg s6 wr => ∃ j : Nat, j ≤ ms.length ∧ ms.length - j ≤ gg ∧ s6 = .int .i64 j ∧ Aside0 (LInv w1 A0 c0 xs ad c1 ms j wr))
      case atStart => exact ⟨0, Nat.zero_le _, by omega, rfl, HI0⟩
      case round =>
        obtain ⟨j, hj, hg, rfl, HI⟩ := hrel
        obtain ⟨hbx, vg, hp, ho⟩ := HI.out
        have hs1r := pw_cell_below hbx hs1
        have hs0r := pw_cell_below hbx hs0
        have hvg : wr.cell? ⟨w1.heap.size, 4, none⟩ = some vg := blk_cell hp 4
        have HBX := Aside0.mk hbx
        have HP := Aside0.mk hp
        have HO := Aside0.mk ho
        clear hbx hp ho hs0w hs1w HI0 HI
        by_cases hlt : j < ms.length
        · have hltz : (j : Int) < (ms.length : Int) := by omega
          obtain ⟨ad', e', hcj⟩ := Kd.at_int H1.out (j : Int) (by omega) (by omega)
          cases e'
          rw [Int.toNat_natCast] at hcj
          replace hcj := pw_cell_below (below_trans' HB1.out HBX.out) hcj
          have hsn := signs_take ms hlt
          have HSN := Aside0.mk hsn
          clear hsn
          generalize rd ms (j : Int) = mj at *
          go_wp2_with fail
          refine (wpIn_wide (n := 0)).1 ?_
          refine region_anyHT (fun W' => W'.cell? ⟨w1.heap.size, 4, none⟩ = some vg ∧ W'.cell? ⟨w.heap.size, 1, none⟩ = some (.slice (some ad) ms.length c1) ∧ W'.cell? (ad.add j) = some (.int .i64 mj)) [9, 11] (by kernel_rfl) (⟨hvg, hs1r, hcj⟩) (fun hHeld => ?_)
          refine anyHT_pure (fun _ => trivial) (by kernel_rfl) (i := 0) (oi := { dst := some 75, op := Op.fieldAddr 30 (Operand.tmp 5) 4, type := 0, pos := "top09w.go:26", after := #[], guard := none }) (v := ?_) rfl (by kernel_rfl) (by kernel_rfl) (by kernel_rfl) (fun _ _ _ h => h) (Or.inl ⟨by rfl, ?_⟩) ?_
          rotate_left
          · (intro w _; go_simp <;> with_reducible rfl)
          try simp only [Act.put, List.setIfInBounds_toArray, List.set_cons_zero, List.set_cons_succ]
          refine anyHT_take (fun _ => trivial) (by kernel_rfl) [9, 10, 11] (i := 1) (oi := { dst := some 76, op := Op.load 28 (Operand.tmp 75), type := 28, pos := "top09w.go:26", after := #[{ on := 0, ground := Ground.data }], guard := none }) (v := ?_) rfl (by kernel_rfl) (by kernel_rfl) (by kernel_rfl) (by kernel_rfl) (by kernel_rfl) (by decide) (fun _ _ _ h => h) (Or.inl ⟨by rfl, ?_⟩) hHeld ?_
          rotate_left
          · (intro w hSw; (try dsimp only at hSw); go_simp <;> with_reducible rfl)
          try simp only [Act.put, List.setIfInBounds_toArray, List.set_cons_zero, List.set_cons_succ]
          refine anyHT_pure (fun _ => trivial) (by kernel_rfl) (i := 2) (oi := { dst := some 77, op := Op.fieldAddr 24 (Operand.tmp 2) 1, type := 0, pos := "top09w.go:26", after := #[], guard := none }) (v := ?_) rfl (by kernel_rfl) (by kernel_rfl) (by kernel_rfl) (fun _ _ _ h => h) (Or.inl ⟨by rfl, ?_⟩) ?_
          rotate_left
          · (intro w _; go_simp <;> with_reducible rfl)
          try simp only [Act.put, List.setIfInBounds_toArray, List.set_cons_zero, List.set_cons_succ]
          refine anyHT_take (fun _ => trivial) (by kernel_rfl) [5, 6, 7, 8, 9, 10, 11] (i := 3) (oi := { dst := some 78, op := Op.load 22 (Operand.tmp 77), type := 22, pos := "top09w.go:26", after := #[{ on := 2, ground := Ground.data }], guard := none }) (v := ?_) rfl (by kernel_rfl) (by kernel_rfl) (by kernel_rfl) (by kernel_rfl) (by kernel_rfl) (by decide) (fun _ _ _ h => h) (Or.inl ⟨by rfl, ?_⟩) hHeld ?_
          rotate_left
          · (intro w hSw; (try dsimp only at hSw); go_simp <;> with_reducible rfl)
          try simp only [Act.put, List.setIfInBounds_toArray, List.set_cons_zero, List.set_cons_succ]
          refine anyHT_pure (fun _ => trivial) (by kernel_rfl) (i := 4) (oi := { dst := some 79, op := Op.move (Operand.tmp 6), type := 3, pos := "top09w.go:26", after := #[], guard := none }) (v := ?_) rfl (by kernel_rfl) (by kernel_rfl) (by kernel_rfl) (fun _ _ _ h => h) (Or.inl ⟨by rfl, ?_⟩) ?_
          rotate_left
          · (intro w _; go_simp <;> with_reducible rfl)
          try simp only [Act.put, List.setIfInBounds_toArray, List.set_cons_zero, List.set_cons_succ]
          refine anyHT_pure (fun _ => trivial) (by kernel_rfl) (i := 5) (oi := { dst := some 80, op := Op.indexAddr 22 (Operand.tmp 78) (Operand.tmp 79), type := 0, pos := "top09w.go:26", after := #[{ on := 3, ground := Ground.data }, { on := 4, ground := Ground.data }], guard := none }) (v := ?_) rfl (by kernel_rfl) (by kernel_rfl) (by kernel_rfl) (fun _ _ _ h => h) (Or.inl ⟨by rfl, ?_⟩) ?_
          rotate_left
          · (intro w _; go_simp <;> with_reducible rfl)
          try simp only [Act.put, List.setIfInBounds_toArray, List.set_cons_zero, List.set_cons_succ]
          refine anyHT_take (fun _ => trivial) (by kernel_rfl) [7, 8, 9, 10, 11] (i := 6) (oi := { dst := some 81, op := Op.load 3 (Operand.tmp 80), type := 3, pos := "top09w.go:26", after := #[{ on := 5, ground := Ground.data }], guard := none }) (v := ?_) rfl (by kernel_rfl) (by kernel_rfl) (by kernel_rfl) (by kernel_rfl) (by kernel_rfl) (by decide) (fun _ _ _ h => h) (Or.inl ⟨by rfl, ?_⟩) hHeld ?_
          rotate_left
          · (intro w hSw; (try dsimp only at hSw); go_simp <;> with_reducible rfl)
          try simp only [Act.put, List.setIfInBounds_toArray, List.set_cons_zero, List.set_cons_succ]
          refine anyHT_pure (fun _ => trivial) (by kernel_rfl) (i := 7) (oi := { dst := some 82, op := Op.build 32 #[(0, Operand.tmp 81), (1, Operand.const (Value.string { data := #[109, 97, 114, 107] }))], type := 32, pos := "top09w.go:26", after := #[{ on := 6, ground := Ground.data }], guard := none }) (v := ?_) rfl (by kernel_rfl) (by kernel_rfl) (by kernel_rfl) (fun _ _ _ h => h) (Or.inl ⟨by rfl, ?_⟩) ?_
          rotate_left
          · (intro w _; go_simp <;> with_reducible rfl)
          try simp only [Act.put, List.setIfInBounds_toArray, List.set_cons_zero, List.set_cons_succ]
          refine anyHT_one (i := 8) (o := { dst := some 83, op := Op.buildSlice 28 1 #[(0, Operand.tmp 82)], type := 28, pos := "top09w.go:26", after := #[{ on := 7, ground := Ground.data }], guard := none }) (by kernel_rfl) rfl (by rfl) (fun K hK => ?_)
          have hbA := below_alloc (Below.refl wr.drew.heap.size wr.drew) (.cells #[.int .i64 mj, .string markName] 32)
          have hX7 : Below wr.heap.size wr (wr.alloc (.cells #[.int .i64 mj, .string markName] 32)).drew := below_trans' (below_alloc (Below.refl _ _) _) (below_drew (Below.refl _ _))
          go_simp
          refine hK.out _ _ (fun _ hSw => ⟨pw_cell_below hbA hSw.1, pw_cell_below hbA hSw.2.1, pw_cell_below hbA hSw.2.2⟩) ?_
          replace hHeld : (fun (W' : World) => W'.cell? ⟨w1.heap.size, 4, none⟩ = some vg ∧ W'.cell? ⟨w.heap.size, 1, none⟩ = some (.slice (some ad) ms.length c1) ∧ W'.cell? (ad.add j) = some (.int .i64 mj)) _ := (fun (hSw : (fun (W' : World) => W'.cell? ⟨w1.heap.size, 4, none⟩ = some vg ∧ W'.cell? ⟨w.heap.size, 1, none⟩ = some (.slice (some ad) ms.length c1) ∧ W'.cell? (ad.add j) = some (.int .i64 mj)) _) => ⟨pw_cell_below hbA hSw.1, pw_cell_below hbA hSw.2.1, pw_cell_below hbA hSw.2.2⟩) hHeld
          clear hK K
          try simp only [Act.put, List.setIfInBounds_toArray, List.set_cons_zero, List.set_cons_succ]
          refine anyHT_one (i := 9) (o := { dst := some 84, op := Op.call { callee := Callee.builtin Builtin.append, args := #[Operand.tmp 76, Operand.tmp 83], argTypes := #[28, 28] }, type := 28, pos := "top09w.go:26", after := #[{ on := 1, ground := Ground.data }, { on := 8, ground := Ground.data }], guard := none }) (by kernel_rfl) rfl (by rfl) (fun K hK => ?_)
          refine append_wpIn (fun _ => trivial) (.tmp 76) (.tmp 83) 28 32 (.agg #[.int .i64 0, .string ⟨#[]⟩]) 2 24 rfl Try.underlying28 info32 rfl (by decide) (by decide) (w1.heap.size + 1) vg j (Flat e32 (signsF (ms.take j))) (some ⟨wr.heap.size, 0, none⟩) 1 1 (e32 ⟨mj, markName⟩) rfl rfl (pw_own_below HO.out hX7) rfl ((Cells.new wr #[.int .i64 mj, .string markName] 32 1).below (below_drew (Below.refl _ _))) (e32_one _) ?bytes ?base ?_
          case bytes => omega
          case base => have := blk_lt HP.out; have := hX7.size; (try simp); omega
          intro v7 w7 hA
          obtain ⟨A7, c7, rfl⟩ := own_slice hA.own
          have hp7 := blk_grown (pw_blk_below HP.out hX7) hA.grown (own_ne HO.out HP.out (by decide))
          have hfz : w7.frozen? ⟨w1.heap.size, 4, none⟩ = false := blk_frozen hp7 4
          have hcl : w7.cell? ⟨w1.heap.size, 4, none⟩ = some vg := blk_cell hp7 4
          refine hK.out _ _ (fun h => absurd (by decide) h) ?_
          clear hK K
          try simp only [Act.put, List.setIfInBounds_toArray, List.set_cons_zero, List.set_cons_succ]
          refine anyHT_pure (fun _ => trivial) (by kernel_rfl) (i := 10) (oi := { dst := some 85, op := Op.fieldAddr 30 (Operand.tmp 5) 4, type := 0, pos := "top09w.go:26", after := #[{ on := 0, ground := Ground.phase }, { on := 1, ground := Ground.phase }, { on := 2, ground := Ground.phase }, { on := 3, ground := Ground.phase }, { on := 4, ground := Ground.phase }, { on := 5, ground := Ground.phase }, { on := 6, ground := Ground.phase }, { on := 7, ground := Ground.phase }, { on := 8, ground := Ground.phase }, { on := 9, ground := Ground.phase }], guard := none }) (v := ?_) rfl (by kernel_rfl) (by kernel_rfl) (by kernel_rfl) (fun _ _ _ h => h) (Or.inl ⟨by rfl, ?_⟩) ?_
          rotate_left
          · (intro w _; go_simp <;> with_reducible rfl)
          try simp only [Act.put, List.setIfInBounds_toArray, List.set_cons_zero, List.set_cons_succ]
          refine anyHT_one (i := 11) (o := { dst := none, op := Op.store 28 (Operand.tmp 85) (Operand.tmp 84), type := 0, pos := "top09w.go:26", after := #[{ on := 10, ground := Ground.data }, { on := 9, ground := Ground.data }, { on := 9, ground := Ground.chain }, { on := 0, ground := Ground.phase }, { on := 1, ground := Ground.phase }, { on := 2, ground := Ground.phase }, { on := 3, ground := Ground.phase }, { on := 4, ground := Ground.phase }, { on := 5, ground := Ground.phase }, { on := 6, ground := Ground.phase }, { on := 7, ground := Ground.phase }, { on := 8, ground := Ground.phase }, { on := 9, ground := Ground.phase }], guard := none }) (by kernel_rfl) rfl (by rfl) (fun K hK => ?_)
          go_simp
          refine hK.out _ _ (fun h => absurd (by decide) h) ?_
          clear hK K
          try simp only [Act.put, List.setIfInBounds_toArray, List.set_cons_zero, List.set_cons_succ]
          refine anyHT_done (by kernel_rfl) ?_ _
          have hZo := own_far hA.own (a := ⟨w1.heap.size, 4, none⟩) (own_ne hA.own hp7 (by decide)) (.slice A7 (j + 1) c7)
          have HZ : Aside0 (LInv w1 A0 c0 xs ad c1 ms (j + 1) (w7.setCell ⟨w1.heap.size, 4, none⟩ (.slice A7 (j + 1) c7))) :=
            ⟨⟨((below_trans' HBX.out hX7).grown hA.grown (below_trans' HBX.out hX7).size (fun q e => by have := own_base HO.out q e; omega)).setCell (Nat.le_refl _) _, _, blk_put hp7 4 _ rfl, by rw [HSN.out, Flat_append, Flat_one]; exact hZo⟩⟩
          clear hZo hp7 hA hX7 hfz hcl hHeld HO HP HBX
          go_wp2
          go_roundg (ms.length - (j + 1))
          case measure => omega
          case rel => exact ⟨j + 1, by omega, by omega, by go_num, HZ⟩
        · have hltz : ¬ (j : Int) < (ms.length : Int) := by omega
          obtain rfl : j = ms.length := by omega
          go_wp2_with fail
          obtain ⟨Ag, cg, rfl, hcg, hCg⟩ := own_flat k32 (xs := signsF ms) e32_len e32_K (by have := HO.out; rw [List.take_length] at this; rw [show (signsF ms).length = ms.length from by simp [signsF]]; exact this)
          rw [show (signsF ms).length = ms.length from by simp [signsF]] at *
          have hst := Stretch_ok kn A0 (some ad) c0 c1 xs ms wr (Kd.C_below H0.out (below_trans' HB1.out HBX.out)) HC0.out (Kd.C_below H1.out (below_trans' HB1.out HBX.out)) HX.out HKm.out (by omega) HKN.out (by have := HXL.out; omega)
          refine hst.mono ?_
          clear hst
          rintro e w4 ⟨⟨As, cs, Am, cm, rfl, hos, hom⟩, hb4⟩
          have HSL := Aside0.mk (slow_speech (k := kn) HKm.out (by rw [HML.out, HL7.out]) HKN.out.1)
          have HPO := Aside0.mk (piece_ok HX.out.2 HXL.out HKm.out (by rw [HML.out, HL7.out]) (by omega))
          have hlenS : (sampS kn xs ms (totS kn ms) ++ tailS xs ms).length ≤ 100000 := by rw [List.length_append]; have := sampS_bound HKm.out HKN.out (Nat.le_refl (totS kn ms)); have := HXL.out; omega
          have hslow := HSL.out.slow
          generalize hY : (sampS kn xs ms (totS kn ms) ++ tailS xs ms) = ys at *
          obtain ⟨A, c, hv, hcs, hCs⟩ := own_flat (Kd.int .i64) eI_len eI_K hos
          injection hv with e1 _ e2
          subst e1 e2
          have hmk := markS_length kn xs ms (totS kn ms)
          generalize hQ : markS kn xs ms (totS kn ms) = qs at *
          obtain ⟨A, c, hv, hcm, hCm⟩ := own_flat (Kd.int .i64) (xs := qs) eI_len eI_K (by rw [hmk]; exact hom)
          rw [hmk] at hv hcm hCm
          injection hv with e1 _ e2
          subst e1 e2
          have hb5 : Below w4.heap.size w4 (w4.alloc (.cells #[.slice As ys.length cs, .slice Am (totS kn ms + 1) cm] 24)) := below_alloc (Below.refl _ _) _
          have hp4 := pw_blk_below HP.out hb4
          have g0 : w4.cell? ⟨w1.heap.size, 0, none⟩ = some (.int .i64 1) := blk_cell hp4 0
          have g1 : w4.cell? ⟨w1.heap.size, 1, none⟩ = some (.int .i64 1) := blk_cell hp4 1
          have g2 : w4.cell? ⟨w1.heap.size, 2, none⟩ = some (.slice A0 xs.length c0) := blk_cell hp4 2
          have g3 : w4.cell? ⟨w1.heap.size, 3, none⟩ = some (.slice (some ad) (ms.length - 1) c1) := blk_cell hp4 3
          have g4 : w4.cell? ⟨w1.heap.size, 4, none⟩ = some (.slice Ag ms.length cg) := blk_cell hp4 4
          have g5 : w4.cell? ⟨w1.heap.size, 5, none⟩ = some (.int .i64 0) := blk_cell hp4 5
          have g0a := pw_cell_below hb5 g0
          have g1a := pw_cell_below hb5 g1
          have g2a := pw_cell_below hb5 g2
          have g3a := pw_cell_below hb5 g3
          have g4a := pw_cell_below hb5 g4
          have g5a := pw_cell_below hb5 g5
          have HB5 := Aside0.mk hb5
          have HP4 := Aside0.mk hp4
          have HB4 := Aside0.mk hb4
          clear hb4 hb5 hp4
          have hW5 : Below w.heap.size w (w4.alloc (.cells #[.slice As ys.length cs, .slice Am (totS kn ms + 1) cm] 24)) := below_trans' HB1.out (below_trans' HBX.out (below_trans' HB4.out HB5.out))
          have hg5 : Kd.C k32 (w4.alloc (.cells #[.slice As ys.length cs, .slice Am (totS kn ms + 1) cm] 24)) Ag ms.length (signsF ms) := Kd.C_below hCg (below_trans' HB4.out HB5.out)
          have hq5 : (w4.alloc (.cells #[.slice As ys.length cs, .slice Am (totS kn ms + 1) cm] 24)).heap[w4.heap.size]? = some (.cells #[.slice As ys.length cs, .slice Am (totS kn ms + 1) cm] 24) := blk_new' rfl _
          have hC5 := Kd.C_below hCs HB5.out
          have hM5 := Kd.C_below hCm HB5.out
          have hP5 := pw_blk_below HP4.out HB5.out
          have hs05 := pw_cell_below (below_trans' HBX.out (below_trans' HB4.out HB5.out)) hs0
          have hs15 := pw_cell_below (below_trans' HBX.out (below_trans' HB4.out HB5.out)) hs1
          go_wp2_with fail
          have HW5 := Aside0.mk hW5
          have HG5 := Aside0.mk hg5
          have HQ5 := Aside0.mk hq5
          have HC5 := Aside0.mk hC5
          have HM5 := Aside0.mk hM5
          have HP5 := Aside0.mk hP5
          have HS05 := Aside0.mk hs05
          have HS15 := Aside0.mk hs15
          clear hW5 hg5 hq5 hC5 hM5 hP5 hs05 hs15 g0 g1 g2 g3 g4 g5 g0a g1a g2a g3a g4a g5a hCs hCm hCg hs0 hs1 hs1r hs0r hvg HP4 HB4 HB5 HB1 HBX HP HO hos hom
          generalize (w4.alloc (.cells #[.slice As ys.length cs, .slice Am (totS kn ms + 1) cm] 24)) = w5 at *
          obtain ⟨ts6, ht6⟩ : ∃ ts, (pacedF (pieceF xs ms) 1 (kn : Int)).f4 = ts := ⟨_, rfl⟩
          obtain ⟨ts7, ht7⟩ : ∃ ts, (pacedF (pieceF xs ms) (kn : Int) (kn : Int)).f4 = ts := ⟨_, rfl⟩
          have hn6 : ts6.length = ms.length := by rw [← ht6]; exact HSL.out.n1
          have hn7 : ts7.length = ms.length := by rw [← ht7]; exact HSL.out.n2
          have hpc7 := fun (W : World) (hb : Below w5.heap.size w5 W) => Paced_piece (kn : Int) (kn : Int) A0 (some ad) Ag c0 c1 cg xs ms W (Kd.C_below H0.out (below_trans' HW5.out hb)) HC0.out (Kd.C_below H1.out (below_trans' HW5.out hb)) (Kd.C_below HG5.out hb) hcg HPO.out (by have := HKN.out; omega) (by have := HKN.out; omega) HSL.out.same ht7
          rw [hn7] at hpc7
          have HPC7 := Aside0.mk hpc7
          have hpc6 := Paced_piece 1 (kn : Int) A0 (some ad) Ag c0 c1 cg xs ms w5 (Kd.C_below H0.out HW5.out) HC0.out (Kd.C_below H1.out HW5.out) HG5.out hcg HPO.out (by omega) (by have := HKN.out; omega) hslow ht6
          rw [hn6] at hpc6
          refine hpc6.mono ?_
          clear hpc6 hpc7
          rintro e w6 ⟨A6, c6, T6, d6, rfl, hc6, hC6, hT6, hb6⟩
          have hb6a : Below w6.heap.size w6 (w6.alloc (.cells #[.int .i64 1, .int .i64 1, .slice A6 ys.length c6, .slice none 0 0, .slice T6 ms.length d6, .int .i64 0] 30)) := below_alloc (Below.refl _ _) _
          have hp6 := pw_blk_below HP5.out (below_trans' hb6 hb6a)
          have g0 : (w6.alloc (.cells #[.int .i64 1, .int .i64 1, .slice A6 ys.length c6, .slice none 0 0, .slice T6 ms.length d6, .int .i64 0] 30)).cell? ⟨w1.heap.size, 0, none⟩ = some (.int .i64 1) := blk_cell hp6 0
          have g1 : (w6.alloc (.cells #[.int .i64 1, .int .i64 1, .slice A6 ys.length c6, .slice none 0 0, .slice T6 ms.length d6, .int .i64 0] 30)).cell? ⟨w1.heap.size, 1, none⟩ = some (.int .i64 1) := blk_cell hp6 1
          have g2 : (w6.alloc (.cells #[.int .i64 1, .int .i64 1, .slice A6 ys.length c6, .slice none 0 0, .slice T6 ms.length d6, .int .i64 0] 30)).cell? ⟨w1.heap.size, 2, none⟩ = some (.slice A0 xs.length c0) := blk_cell hp6 2
          have g3 : (w6.alloc (.cells #[.int .i64 1, .int .i64 1, .slice A6 ys.length c6, .slice none 0 0, .slice T6 ms.length d6, .int .i64 0] 30)).cell? ⟨w1.heap.size, 3, none⟩ = some (.slice (some ad) (ms.length - 1) c1) := blk_cell hp6 3
          have g4 : (w6.alloc (.cells #[.int .i64 1, .int .i64 1, .slice A6 ys.length c6, .slice none 0 0, .slice T6 ms.length d6, .int .i64 0] 30)).cell? ⟨w1.heap.size, 4, none⟩ = some (.slice Ag ms.length cg) := blk_cell hp6 4
          have g5 : (w6.alloc (.cells #[.int .i64 1, .int .i64 1, .slice A6 ys.length c6, .slice none 0 0, .slice T6 ms.length d6, .int .i64 0] 30)).cell? ⟨w1.heap.size, 5, none⟩ = some (.int .i64 0) := blk_cell hp6 5
          have HB6 := Aside0.mk (below_trans' hb6 hb6a)
          have HQ6 : Aside0 ((w6.alloc (.cells #[.int .i64 1, .int .i64 1, .slice A6 ys.length c6, .slice none 0 0, .slice T6 ms.length d6, .int .i64 0] 30)).heap[w6.heap.size]? = some (.cells #[.int .i64 1, .int .i64 1, .slice A6 ys.length c6, .slice none 0 0, .slice T6 ms.length d6, .int .i64 0] 30)) := ⟨blk_new' rfl _⟩
          have HC6 := Aside0.mk (Kd.C_below hC6 hb6a)
          have HT6 := Aside0.mk (Kd.C_below hT6 hb6a)
          clear hb6 hb6a hp6 hC6 hT6
          go_wp2_with fail
          clear g0 g1 g2 g3 g4 g5
          have hx6 : w6.heap.size < (w6.alloc (.cells #[.int .i64 1, .int .i64 1, .slice A6 ys.length c6, .slice none 0 0, .slice T6 ms.length d6, .int .i64 0] 30)).heap.size := by simp
          generalize (w6.alloc (.cells #[.int .i64 1, .int .i64 1, .slice A6 ys.length c6, .slice none 0 0, .slice T6 ms.length d6, .int .i64 0] 30)) = x6 at *
          refine (HPC7.out _ HB6.out).mono ?_
          rintro e w7 ⟨A7, c7, T7, d7, rfl, hc7, hC7, hT7, hb7⟩
          have hb8 : Below w7.heap.size w7 (w7.alloc (.cells #[.int .i64 1, .int .i64 1, .slice A7 xs.length c7, .slice none 0 0, .slice T7 ms.length d7, .int .i64 0] 30)) := below_alloc (Below.refl _ _) _
          have hb78 := below_trans' hb7 hb8
          have hb58 := below_trans' HB6.out hb78
          have k0 : (w7.alloc (.cells #[.int .i64 1, .int .i64 1, .slice A7 xs.length c7, .slice none 0 0, .slice T7 ms.length d7, .int .i64 0] 30)).cell? ⟨w.heap.size, 0, none⟩ = some (.slice A0 xs.length c0) := pw_cell_below hb58 HS05.out
          have k1 : (w7.alloc (.cells #[.int .i64 1, .int .i64 1, .slice A7 xs.length c7, .slice none 0 0, .slice T7 ms.length d7, .int .i64 0] 30)).cell? ⟨w.heap.size, 1, none⟩ = some (.slice (some ad) ms.length c1) := pw_cell_below hb58 HS15.out
          have q5 := pw_blk_below HQ5.out hb58
          have q6 := pw_blk_below HQ6.out hb78
          have q7 : (w7.alloc (.cells #[.int .i64 1, .int .i64 1, .slice A7 xs.length c7, .slice none 0 0, .slice T7 ms.length d7, .int .i64 0] 30)).heap[w7.heap.size]? = some (.cells #[.int .i64 1, .int .i64 1, .slice A7 xs.length c7, .slice none 0 0, .slice T7 ms.length d7, .int .i64 0] 30) := blk_new' rfl _
          have k2 : (w7.alloc (.cells #[.int .i64 1, .int .i64 1, .slice A7 xs.length c7, .slice none 0 0, .slice T7 ms.length d7, .int .i64 0] 30)).cell? ⟨w4.heap.size, 0, none⟩ = some (.slice As ys.length cs) := blk_cell q5 0
          have k3 : (w7.alloc (.cells #[.int .i64 1, .int .i64 1, .slice A7 xs.length c7, .slice none 0 0, .slice T7 ms.length d7, .int .i64 0] 30)).cell? ⟨w4.heap.size, 1, none⟩ = some (.slice Am (totS kn ms + 1) cm) := blk_cell q5 1
          have k4 : (w7.alloc (.cells #[.int .i64 1, .int .i64 1, .slice A7 xs.length c7, .slice none 0 0, .slice T7 ms.length d7, .int .i64 0] 30)).cell? ⟨w6.heap.size, 2, none⟩ = some (.slice A6 ys.length c6) := blk_cell q6 2
          have k5 : (w7.alloc (.cells #[.int .i64 1, .int .i64 1, .slice A7 xs.length c7, .slice none 0 0, .slice T7 ms.length d7, .int .i64 0] 30)).cell? ⟨w6.heap.size, 4, none⟩ = some (.slice T6 ms.length d6) := blk_cell q6 4
          have k6 : (w7.alloc (.cells #[.int .i64 1, .int .i64 1, .slice A7 xs.length c7, .slice none 0 0, .slice T7 ms.length d7, .int .i64 0] 30)).cell? ⟨w7.heap.size, 2, none⟩ = some (.slice A7 xs.length c7) := blk_cell q7 2
          have k7 : (w7.alloc (.cells #[.int .i64 1, .int .i64 1, .slice A7 xs.length c7, .slice none 0 0, .slice T7 ms.length d7, .int .i64 0] 30)).cell? ⟨w7.heap.size, 4, none⟩ = some (.slice T7 ms.length d7) := blk_cell q7 4
          have D0 := Aside0.mk (Kd.C_below H0.out (below_trans' HW5.out hb58))
          have D1 := Aside0.mk (Kd.C_below H1.out (below_trans' HW5.out hb58))
          have D2 := Aside0.mk (Kd.C_below HC5.out hb58)
          have D3 := Aside0.mk (Kd.C_below HM5.out hb58)
          have D4 := Aside0.mk (Kd.C_below HC6.out hb78)
          have D5 := Aside0.mk (Kd.C_below HT6.out hb78)
          have D6 := Aside0.mk (Kd.C_below hC7 hb8)
          have D7 := Aside0.mk (Kd.C_below hT7 hb8)
          have DW := Aside0.mk (below_trans' HW5.out hb58)
          have htot : (kn : Int) * ((ms.length : Int) - 1) = ((totS kn ms : Nat) : Int) := by unfold totS; rw [show (ms.length : Int) - 1 = ((ms.length - 1 : Nat) : Int) from by omega]; push_cast; rfl
          have htt : totS kn ms ≤ 8000 := by unfold totS; have := Nat.mul_le_mul HKN.out.2 (show ms.length - 1 ≤ 1000 by omega); omega
          have hwt : IntKind.i64.wrap ((kn : Int) * ((ms.length : Int) - 1)) = ((totS kn ms : Nat) : Int) := by rw [htot]; exact IntWalk.i64_in _ (by omega)
          clear hb7 hb8 hb78 hb58 q5 q6 q7 hC7 hT7 HPC7 HS05 HS15 HQ5 HQ6 HP5 HC5 HM5 HC6 HT6 HB6 HW5 HG5
          go_wp2_with fail
          generalize hX8 : (w7.alloc (.cells #[.int .i64 1, .int .i64 1, .slice A7 xs.length c7, .slice none 0 0, .slice T7 ms.length d7, .int .i64 0] 30)) = x8 at *
          clear hX8
          refine (Same_true As A6 cs c6 ys x8 D2.out hcs D4.out hc6 (by omega)).mono ?_
          rintro e w9 ⟨rfl, n9, rfl⟩
          go_wp2_with fail
          refine (Same_true A7 A0 c7 c0 xs _ (Kd.C_below D6.out (pw_below_drewN (Below.refl _ _) n9)) hc7 (Kd.C_below D0.out (pw_below_drewN (Below.refl _ _) n9)) HC0.out (by have := HXL.out; omega)).mono ?_
          rintro e w9 ⟨rfl, n8, rfl⟩
          go_wp2_with fail
          have hs1' := HSL.out.s1
          have hs2' := HSL.out.s2
          rw [ht6, hQ] at hs1'
          rw [ht7] at hs2'
          have HT1 := Aside0.mk hs1'
          have HT2 := Aside0.mk hs2'
          clear hs1' hs2' htot hwt hslow hmk hY hQ ht6 ht7 hn6 hn7 k2 k4 k6 k0
          go_loopg [13] ms.length (fun gg s13 wr => ∃ j : Nat, j ≤ ms.length ∧ ms.length - j ≤ gg ∧ s13 = .int .i64 j ∧ Aside0 (∃ q, wr = x8.drewN q))
          case atStart => exact ⟨0, Nat.zero_le _, by omega, rfl, ⟨⟨_, rfl⟩⟩⟩
          case round =>
            obtain ⟨j, hj, hg, rfl, ⟨q, rfl⟩⟩ := hrel
            by_cases hlt : j < ms.length
            · have hltz : (j : Int) < (ms.length : Int) := by omega
              obtain ⟨a6, rfl, t60, _⟩ := at_T32 D5.out (j : Int) (by omega) (by omega)
              obtain ⟨a7, rfl, t70, _⟩ := at_T32 D7.out (j : Int) (by omega) (by omega)
              have hmul : kn * j ≤ totS kn ms := Nat.mul_le_mul_left kn (by omega)
              obtain ⟨am, rfl, tm⟩ := Kd.at_int D3.out ((kn * j : Nat) : Int) (by omega) (by omega)
              obtain ⟨ad', e', tj⟩ := Kd.at_int D1.out (j : Int) (by omega) (by omega)
              cases e'
              rw [Int.toNat_natCast] at t60 t70 tm tj
              have e1 := HT1.out j hlt
              have e2 := HT2.out j hlt
              rw [show (kn : Int) * (j : Int) = ((kn * j : Nat) : Int) from by push_cast; rfl] at e1
              rw [e1] at t60
              rw [e2] at t70
              have hwm : IntKind.i64.wrap ((kn : Int) * (j : Int)) = ((kn * j : Nat) : Int) := by rw [show (kn : Int) * (j : Int) = ((kn * j : Nat) : Int) from by push_cast; rfl]; exact IntWalk.i64_in _ (by omega)
              have hmz : ((kn * j : Nat) : Int) < ((totS kn ms + 1 : Nat) : Int) := by omega
              clear e1 e2
              generalize hkj : kn * j = kj at *
              generalize rd qs (kj : Int) = va at *
              generalize rd ms (j : Int) = vb at *
              have hmz2 : (kj : Int) < (totS kn ms : Int) + 1 := by omega
              have hmz3 : kj < totS kn ms + 1 := by omega
              clear hkj
              go_wp2_with fail
              go_quiet (fail)
              go_wp2
              go_roundg (ms.length - (j + 1))
              case measure => omega
              case rel => exact ⟨j + 1, by omega, by omega, by go_num, ⟨⟨_, rfl⟩⟩⟩
            · have hltz : ¬ (j : Int) < (ms.length : Int) := by omega
              obtain rfl : j = ms.length := by omega
              go_wp2_with fail
              refine (HK.out _).mono ?_
              rintro e w9 ⟨rfl, hb9⟩
              have HBQ : Aside0 (Below w.heap.size w w9) := ⟨below_trans' (pw_below_drewN DW.out q) hb9⟩
              clear hb9
              go_wp2_with fail
              go_ret
              exact ⟨rfl, HBQ.out⟩
    · have d7 : (ml == (xs.length : Int)) = false := by simpa using b7
      have d7n : (ml != (xs.length : Int)) = true := by simpa using b7
      go_enter Try.func3, Try.ntmps3
      go_wp2_with fail
      refine (wpIn_wide (n := 0)).1 ?_
      refine region_anyHT (fun W' => Below w.heap.size w W' ∧ W'.cell? ⟨w.heap.size, 0, none⟩ = some (.slice A0 xs.length c0) ∧ W'.cell? ⟨w.heap.size, 1, none⟩ = some (.slice (some ad) ms.length c1) ∧ W'.cell? (ad.add (ms.length - 1)) = some (.int .i64 ml)) [] (by kernel_rfl) (⟨pw_below_drewN HB0.out 1, HSa.out, HSb.out, hc⟩) (fun hHeld => ?_)
      refine anyHT_pure (fun _ => trivial) (by kernel_rfl) (i := 0) (oi := { dst := some 14, op := Op.fieldAddr 24 (Operand.tmp 2) 0, type := 0, pos := "top09w.go:21", after := #[], guard := none }) (v := ?_) rfl (by kernel_rfl) (by kernel_rfl) (by kernel_rfl) (fun _ _ _ h => h) (Or.inl ⟨by rfl, ?_⟩) ?_
      rotate_left
      · (intro w _; go_simp <;> with_reducible rfl)
      try simp only [Act.put, List.setIfInBounds_toArray, List.set_cons_zero, List.set_cons_succ]
      refine anyHT_take (fun _ => trivial) (by kernel_rfl) [2, 3, 4, 5, 6, 7, 8, 9, 10, 11, 12, 13, 14, 15, 16, 17, 18, 19, 20, 21, 22, 23, 24, 25, 26, 27, 28, 29, 30, 31, 32, 33, 34, 35, 36, 37, 38, 39, 40, 41, 42] (i := 1) (oi := { dst := some 15, op := Op.load 22 (Operand.tmp 14), type := 22, pos := "top09w.go:21", after := #[{ on := 0, ground := Ground.data }], guard := none }) (v := ?_) rfl (by kernel_rfl) (by kernel_rfl) (by kernel_rfl) (by kernel_rfl) (by kernel_rfl) (by decide) (fun _ _ _ h => h) (Or.inl ⟨by rfl, ?_⟩) hHeld ?_
      rotate_left
      · (intro w hSw; (try dsimp only at hSw); go_simp <;> with_reducible rfl)
      try simp only [Act.put, List.setIfInBounds_toArray, List.set_cons_zero, List.set_cons_succ]
      refine anyHT_pure (fun _ => trivial) (by kernel_rfl) (i := 2) (oi := { dst := some 16, op := Op.call { callee := Callee.builtin Builtin.len, args := #[Operand.tmp 15], argTypes := #[22] }, type := 3, pos := "top09w.go:21", after := #[{ on := 1, ground := Ground.data }], guard := none }) (v := ?_) rfl (by kernel_rfl) (by kernel_rfl) (by kernel_rfl) (fun _ _ _ h => h) (Or.inl ⟨by rfl, ?_⟩) ?_
      rotate_left
      · (intro w _; go_simp <;> with_reducible rfl)
      try simp only [Act.put, List.setIfInBounds_toArray, List.set_cons_zero, List.set_cons_succ]
      refine anyHT_pure (fun _ => trivial) (by kernel_rfl) (i := 3) (oi := { dst := some 17, op := Op.binOp BinOp.gtr 3 (Operand.tmp 16) (Operand.const (Value.int IntKind.i64 400)) 3, type := 4, pos := "top09w.go:21", after := #[{ on := 2, ground := Ground.data }], guard := none }) (v := ?_) rfl (by kernel_rfl) (by kernel_rfl) (by kernel_rfl) (fun _ _ _ h => h) (Or.inl ⟨by rfl, ?_⟩) ?_
      rotate_left
      · (intro w _; go_simp <;> with_reducible rfl)
      try simp only [Act.put, List.setIfInBounds_toArray, List.set_cons_zero, List.set_cons_succ]
      refine anyHT_pure (fun _ => trivial) (by kernel_rfl) (i := 4) (oi := { dst := some 18, op := Op.move (Operand.tmp 17), type := 4, pos := "top09w.go:21", after := #[{ on := 3, ground := Ground.data }], guard := none }) (v := ?_) rfl (by kernel_rfl) (by kernel_rfl) (by kernel_rfl) (fun _ _ _ h => h) (Or.inl ⟨by rfl, ?_⟩) ?_
      rotate_left
      · (intro w _; go_simp <;> with_reducible rfl)
      try simp only [Act.put, List.setIfInBounds_toArray, List.set_cons_zero, List.set_cons_succ]
      refine anyHT_pure (fun _ => trivial) (by kernel_rfl) (i := 5) (oi := { dst := some 19, op := Op.move (Operand.tmp 1), type := 3, pos := "top09w.go:21", after := #[{ on := 4, ground := Ground.guard }], guard := some (4, false) }) (v := ?_) rfl (by kernel_rfl) (by kernel_rfl) (by kernel_rfl) (fun _ _ _ h => h) (Or.inl ⟨by rfl, ?_⟩) ?_
      rotate_left
      · (intro w _; go_simp <;> with_reducible rfl)
      try simp only [Act.put, List.setIfInBounds_toArray, List.set_cons_zero, List.set_cons_succ]
      refine anyHT_pure (fun _ => trivial) (by kernel_rfl) (i := 6) (oi := { dst := some 20, op := Op.binOp BinOp.lss 3 (Operand.tmp 19) (Operand.const (Value.int IntKind.i64 1)) 3, type := 4, pos := "top09w.go:21", after := #[{ on := 5, ground := Ground.data }, { on := 4, ground := Ground.guard }], guard := some (4, false) }) (v := ?_) rfl (by kernel_rfl) (by kernel_rfl) (by kernel_rfl) (fun _ _ _ h => h) (Or.inl ⟨by rfl, ?_⟩) ?_
      rotate_left
      · (intro w _; go_simp <;> with_reducible rfl)
      try simp only [Act.put, List.setIfInBounds_toArray, List.set_cons_zero, List.set_cons_succ]
      refine anyHT_pure (fun _ => trivial) (by kernel_rfl) (i := 7) (oi := { dst := some 21, op := Op.pick (Operand.tmp 18) (Operand.const (Value.bool true)) (Operand.tmp 20), type := 4, pos := "top09w.go:21", after := #[{ on := 4, ground := Ground.data }, { on := 6, ground := Ground.data }], guard := none }) (v := ?_) rfl (by kernel_rfl) (by kernel_rfl) (by kernel_rfl) (fun _ _ _ h => h) (Or.inl ⟨by rfl, ?_⟩) ?_
      rotate_left
      · (intro w _; go_simp <;> with_reducible rfl)
      try simp only [Act.put, List.setIfInBounds_toArray, List.set_cons_zero, List.set_cons_succ]
      refine anyHT_pure (fun _ => trivial) (by kernel_rfl) (i := 8) (oi := { dst := some 22, op := Op.move (Operand.tmp 21), type := 4, pos := "top09w.go:21", after := #[{ on := 7, ground := Ground.data }, { on := 4, ground := Ground.chain }], guard := none }) (v := ?_) rfl (by kernel_rfl) (by kernel_rfl) (by kernel_rfl) (fun _ _ _ h => h) (Or.inl ⟨by rfl, ?_⟩) ?_
      rotate_left
      · (intro w _; go_simp <;> with_reducible rfl)
      try simp only [Act.put, List.setIfInBounds_toArray, List.set_cons_zero, List.set_cons_succ]
      refine anyHT_pure (fun _ => trivial) (by kernel_rfl) (i := 9) (oi := { dst := some 23, op := Op.move (Operand.tmp 1), type := 3, pos := "top09w.go:21", after := #[{ on := 8, ground := Ground.guard }], guard := some (8, false) }) (v := ?_) rfl (by kernel_rfl) (by kernel_rfl) (by kernel_rfl) (fun _ _ _ h => h) (Or.inl ⟨by rfl, ?_⟩) ?_
      rotate_left
      · (intro w _; go_simp <;> with_reducible rfl)
      try simp only [Act.put, List.setIfInBounds_toArray, List.set_cons_zero, List.set_cons_succ]
      refine anyHT_pure (fun _ => trivial) (by kernel_rfl) (i := 10) (oi := { dst := some 24, op := Op.binOp BinOp.gtr 3 (Operand.tmp 23) (Operand.const (Value.int IntKind.i64 8)) 3, type := 4, pos := "top09w.go:21", after := #[{ on := 9, ground := Ground.data }, { on := 8, ground := Ground.guard }], guard := some (8, false) }) (v := ?_) rfl (by kernel_rfl) (by kernel_rfl) (by kernel_rfl) (fun _ _ _ h => h) (Or.inl ⟨by rfl, ?_⟩) ?_
      rotate_left
      · (intro w _; go_simp <;> with_reducible rfl)
      try simp only [Act.put, List.setIfInBounds_toArray, List.set_cons_zero, List.set_cons_succ]
      refine anyHT_pure (fun _ => trivial) (by kernel_rfl) (i := 11) (oi := { dst := some 25, op := Op.pick (Operand.tmp 22) (Operand.const (Value.bool true)) (Operand.tmp 24), type := 4, pos := "top09w.go:21", after := #[{ on := 8, ground := Ground.data }, { on := 10, ground := Ground.data }], guard := none }) (v := ?_) rfl (by kernel_rfl) (by kernel_rfl) (by kernel_rfl) (fun _ _ _ h => h) (Or.inl ⟨by rfl, ?_⟩) ?_
      rotate_left
      · (intro w _; go_simp <;> with_reducible rfl)
      try simp only [Act.put, List.setIfInBounds_toArray, List.set_cons_zero, List.set_cons_succ]
      refine anyHT_pure (fun _ => trivial) (by kernel_rfl) (i := 12) (oi := { dst := some 26, op := Op.move (Operand.tmp 25), type := 4, pos := "top09w.go:21", after := #[{ on := 11, ground := Ground.data }, { on := 8, ground := Ground.chain }], guard := none }) (v := ?_) rfl (by kernel_rfl) (by kernel_rfl) (by kernel_rfl) (fun _ _ _ h => h) (Or.inl ⟨by rfl, ?_⟩) ?_
      rotate_left
      · (intro w _; go_simp <;> with_reducible rfl)
      try simp only [Act.put, List.setIfInBounds_toArray, List.set_cons_zero, List.set_cons_succ]
      refine anyHT_take (fun _ => trivial) (by kernel_rfl) [14, 15, 16, 17, 18, 19, 20, 21, 22, 23, 24, 25, 26, 27, 28, 29, 30, 31, 32, 33, 34, 35, 36, 37, 38, 39, 40, 41, 42] (i := 13) (oi := { dst := some 27, op := Op.load 24 (Operand.tmp 2), type := 24, pos := "top09w.go:21", after := #[{ on := 12, ground := Ground.guard }], guard := some (12, false) }) (v := ?_) rfl (by kernel_rfl) (by kernel_rfl) (by kernel_rfl) (by kernel_rfl) (by kernel_rfl) (by decide) (fun _ _ _ h => h) (Or.inl ⟨by rfl, ?_⟩) hHeld ?_
      rotate_left
      · (intro w hSw; (try dsimp only at hSw); go_simp <;> with_reducible rfl)
      try simp only [Act.put, List.setIfInBounds_toArray, List.set_cons_zero, List.set_cons_succ]
      refine anyHT_one (i := 14) (o := { dst := some 28, op := Op.call { callee := Callee.value (Operand.func 7), args := #[Operand.tmp 27], argTypes := #[24] }, type := 25, pos := "top09w.go:21", after := #[{ on := 13, ground := Ground.data }, { on := 12, ground := Ground.chain }, { on := 12, ground := Ground.guard }], guard := some (12, false) }) (by kernel_rfl) rfl (by rfl) (fun K hK => ?_)
      go_simp
      refine ⟨trivial, rfl, ?_⟩
      refine (callsIn_wide.2 (HM.out _ hHeld.1)).mono ?_
      rintro e w1 ⟨rfl, hb⟩
      refine hK.out _ _ (fun _ hSw => ⟨below_trans' hSw.1 hb, pw_cell_below hb hSw.2.1, pw_cell_below hb hSw.2.2.1, pw_cell_below hb hSw.2.2.2⟩) ?_
      replace hHeld : (fun (W' : World) => Below w.heap.size w W' ∧ W'.cell? ⟨w.heap.size, 0, none⟩ = some (.slice A0 xs.length c0) ∧ W'.cell? ⟨w.heap.size, 1, none⟩ = some (.slice (some ad) ms.length c1) ∧ W'.cell? (ad.add (ms.length - 1)) = some (.int .i64 ml)) _ := (fun (hSw : (fun (W' : World) => Below w.heap.size w W' ∧ W'.cell? ⟨w.heap.size, 0, none⟩ = some (.slice A0 xs.length c0) ∧ W'.cell? ⟨w.heap.size, 1, none⟩ = some (.slice (some ad) ms.length c1) ∧ W'.cell? (ad.add (ms.length - 1)) = some (.int .i64 ml)) _) => ⟨below_trans' hSw.1 hb, pw_cell_below hb hSw.2.1, pw_cell_below hb hSw.2.2.1, pw_cell_below hb hSw.2.2.2⟩) hHeld
      clear hK K
      try simp only [Act.put, List.setIfInBounds_toArray, List.set_cons_zero, List.set_cons_succ]
      refine anyHT_pure (fun _ => trivial) (by kernel_rfl) (i := 15) (oi := { dst := some 29, op := Op.binOp BinOp.neq 25 (Operand.tmp 28) (Operand.const (Value.int IntKind.i64 0)) 25, type := 4, pos := "top09w.go:21", after := #[{ on := 14, ground := Ground.data }, { on := 12, ground := Ground.guard }], guard := some (12, false) }) (v := ?_) rfl (by kernel_rfl) (by kernel_rfl) (by kernel_rfl) (fun _ _ _ h => h) (Or.inl ⟨by rfl, ?_⟩) ?_
      rotate_left
      · (intro w _; go_simp <;> with_reducible rfl)
      try simp only [Act.put, List.setIfInBounds_toArray, List.set_cons_zero, List.set_cons_succ]
      refine anyHT_pure (fun _ => trivial) (by kernel_rfl) (i := 16) (oi := { dst := some 30, op := Op.pick (Operand.tmp 26) (Operand.const (Value.bool true)) (Operand.tmp 29), type := 4, pos := "top09w.go:21", after := #[{ on := 12, ground := Ground.data }, { on := 15, ground := Ground.data }], guard := none }) (v := ?_) rfl (by kernel_rfl) (by kernel_rfl) (by kernel_rfl) (fun _ _ _ h => h) (Or.inl ⟨by rfl, ?_⟩) ?_
      rotate_left
      · (intro w _; go_simp <;> with_reducible rfl)
      try simp only [Act.put, List.setIfInBounds_toArray, List.set_cons_zero, List.set_cons_succ]
      refine anyHT_pure (fun _ => trivial) (by kernel_rfl) (i := 17) (oi := { dst := some 31, op := Op.move (Operand.tmp 30), type := 4, pos := "top09w.go:21", after := #[{ on := 16, ground := Ground.data }, { on := 14, ground := Ground.chain }], guard := none }) (v := ?_) rfl (by kernel_rfl) (by kernel_rfl) (by kernel_rfl) (fun _ _ _ h => h) (Or.inl ⟨by rfl, ?_⟩) ?_
      rotate_left
      · (intro w _; go_simp <;> with_reducible rfl)
      try simp only [Act.put, List.setIfInBounds_toArray, List.set_cons_zero, List.set_cons_succ]
      refine anyHT_pure (fun _ => trivial) (by kernel_rfl) (i := 18) (oi := { dst := some 32, op := Op.fieldAddr 24 (Operand.tmp 2) 1, type := 0, pos := "top09w.go:21", after := #[{ on := 17, ground := Ground.guard }], guard := some (17, false) }) (v := ?_) rfl (by kernel_rfl) (by kernel_rfl) (by kernel_rfl) (fun _ _ _ h => h) (Or.inl ⟨by rfl, ?_⟩) ?_
      rotate_left
      · (intro w _; go_simp <;> with_reducible rfl)
      try simp only [Act.put, List.setIfInBounds_toArray, List.set_cons_zero, List.set_cons_succ]
      refine anyHT_take (fun _ => trivial) (by kernel_rfl) [20, 21, 22, 23, 24, 25, 26, 27, 28, 29, 30, 31, 32, 33, 34, 35, 36, 37, 38, 39, 40, 41, 42] (i := 19) (oi := { dst := some 33, op := Op.load 22 (Operand.tmp 32), type := 22, pos := "top09w.go:21", after := #[{ on := 18, ground := Ground.data }, { on := 17, ground := Ground.guard }], guard := some (17, false) }) (v := ?_) rfl (by kernel_rfl) (by kernel_rfl) (by kernel_rfl) (by kernel_rfl) (by kernel_rfl) (by decide) (fun _ _ _ h => h) (Or.inl ⟨by rfl, ?_⟩) hHeld ?_
      rotate_left
      · (intro w hSw; (try dsimp only at hSw); go_simp <;> with_reducible rfl)
      try simp only [Act.put, List.setIfInBounds_toArray, List.set_cons_zero, List.set_cons_succ]
      refine anyHT_pure (fun _ => trivial) (by kernel_rfl) (i := 20) (oi := { dst := some 34, op := Op.call { callee := Callee.builtin Builtin.len, args := #[Operand.tmp 33], argTypes := #[22] }, type := 3, pos := "top09w.go:21", after := #[{ on := 19, ground := Ground.data }, { on := 17, ground := Ground.guard }], guard := some (17, false) }) (v := ?_) rfl (by kernel_rfl) (by kernel_rfl) (by kernel_rfl) (fun _ _ _ h => h) (Or.inl ⟨by rfl, ?_⟩) ?_
      rotate_left
      · (intro w _; go_simp <;> with_reducible rfl)
      try simp only [Act.put, List.setIfInBounds_toArray, List.set_cons_zero, List.set_cons_succ]
      refine anyHT_pure (fun _ => trivial) (by kernel_rfl) (i := 21) (oi := { dst := some 35, op := Op.binOp BinOp.lss 3 (Operand.tmp 34) (Operand.const (Value.int IntKind.i64 2)) 3, type := 4, pos := "top09w.go:21", after := #[{ on := 20, ground := Ground.data }, { on := 17, ground := Ground.guard }], guard := some (17, false) }) (v := ?_) rfl (by kernel_rfl) (by kernel_rfl) (by kernel_rfl) (fun _ _ _ h => h) (Or.inl ⟨by rfl, ?_⟩) ?_
      rotate_left
      · (intro w _; go_simp <;> with_reducible rfl)
      try simp only [Act.put, List.setIfInBounds_toArray, List.set_cons_zero, List.set_cons_succ]
      refine anyHT_pure (fun _ => trivial) (by kernel_rfl) (i := 22) (oi := { dst := some 36, op := Op.pick (Operand.tmp 31) (Operand.const (Value.bool true)) (Operand.tmp 35), type := 4, pos := "top09w.go:21", after := #[{ on := 17, ground := Ground.data }, { on := 21, ground := Ground.data }], guard := none }) (v := ?_) rfl (by kernel_rfl) (by kernel_rfl) (by kernel_rfl) (fun _ _ _ h => h) (Or.inl ⟨by rfl, ?_⟩) ?_
      rotate_left
      · (intro w _; go_simp <;> with_reducible rfl)
      try simp only [Act.put, List.setIfInBounds_toArray, List.set_cons_zero, List.set_cons_succ]
      refine anyHT_pure (fun _ => trivial) (by kernel_rfl) (i := 23) (oi := { dst := some 37, op := Op.move (Operand.tmp 36), type := 4, pos := "top09w.go:21", after := #[{ on := 22, ground := Ground.data }, { on := 17, ground := Ground.chain }], guard := none }) (v := ?_) rfl (by kernel_rfl) (by kernel_rfl) (by kernel_rfl) (fun _ _ _ h => h) (Or.inl ⟨by rfl, ?_⟩) ?_
      rotate_left
      · (intro w _; go_simp <;> with_reducible rfl)
      try simp only [Act.put, List.setIfInBounds_toArray, List.set_cons_zero, List.set_cons_succ]
      refine anyHT_pure (fun _ => trivial) (by kernel_rfl) (i := 24) (oi := { dst := some 38, op := Op.fieldAddr 24 (Operand.tmp 2) 1, type := 0, pos := "top09w.go:21", after := #[{ on := 23, ground := Ground.guard }], guard := some (23, false) }) (v := ?_) rfl (by kernel_rfl) (by kernel_rfl) (by kernel_rfl) (fun _ _ _ h => h) (Or.inl ⟨by rfl, ?_⟩) ?_
      rotate_left
      · (intro w _; go_simp <;> with_reducible rfl)
      try simp only [Act.put, List.setIfInBounds_toArray, List.set_cons_zero, List.set_cons_succ]
      refine anyHT_take (fun _ => trivial) (by kernel_rfl) [26, 27, 28, 29, 30, 31, 32, 33, 34, 35, 36, 37, 38, 39, 40, 41, 42] (i := 25) (oi := { dst := some 39, op := Op.load 22 (Operand.tmp 38), type := 22, pos := "top09w.go:21", after := #[{ on := 24, ground := Ground.data }, { on := 23, ground := Ground.guard }], guard := some (23, false) }) (v := ?_) rfl (by kernel_rfl) (by kernel_rfl) (by kernel_rfl) (by kernel_rfl) (by kernel_rfl) (by decide) (fun _ _ _ h => h) (Or.inl ⟨by rfl, ?_⟩) hHeld ?_
      rotate_left
      · (intro w hSw; (try dsimp only at hSw); go_simp <;> with_reducible rfl)
      try simp only [Act.put, List.setIfInBounds_toArray, List.set_cons_zero, List.set_cons_succ]
      refine anyHT_pure (fun _ => trivial) (by kernel_rfl) (i := 26) (oi := { dst := some 40, op := Op.call { callee := Callee.builtin Builtin.len, args := #[Operand.tmp 39], argTypes := #[22] }, type := 3, pos := "top09w.go:21", after := #[{ on := 25, ground := Ground.data }, { on := 23, ground := Ground.guard }], guard := some (23, false) }) (v := ?_) rfl (by kernel_rfl) (by kernel_rfl) (by kernel_rfl) (fun _ _ _ h => h) (Or.inl ⟨by rfl, ?_⟩) ?_
      rotate_left
      · (intro w _; go_simp <;> with_reducible rfl)
      try simp only [Act.put, List.setIfInBounds_toArray, List.set_cons_zero, List.set_cons_succ]
      refine anyHT_pure (fun _ => trivial) (by kernel_rfl) (i := 27) (oi := { dst := some 41, op := Op.binOp BinOp.gtr 3 (Operand.tmp 40) (Operand.const (Value.int IntKind.i64 41)) 3, type := 4, pos := "top09w.go:21", after := #[{ on := 26, ground := Ground.data }, { on := 23, ground := Ground.guard }], guard := some (23, false) }) (v := ?_) rfl (by kernel_rfl) (by kernel_rfl) (by kernel_rfl) (fun _ _ _ h => h) (Or.inl ⟨by rfl, ?_⟩) ?_
      rotate_left
      · (intro w _; go_simp <;> with_reducible rfl)
      try simp only [Act.put, List.setIfInBounds_toArray, List.set_cons_zero, List.set_cons_succ]
      refine anyHT_pure (fun _ => trivial) (by kernel_rfl) (i := 28) (oi := { dst := some 42, op := Op.pick (Operand.tmp 37) (Operand.const (Value.bool true)) (Operand.tmp 41), type := 4, pos := "top09w.go:21", after := #[{ on := 23, ground := Ground.data }, { on := 27, ground := Ground.data }], guard := none }) (v := ?_) rfl (by kernel_rfl) (by kernel_rfl) (by kernel_rfl) (fun _ _ _ h => h) (Or.inl ⟨by rfl, ?_⟩) ?_
      rotate_left
      · (intro w _; go_simp <;> with_reducible rfl)
      try simp only [Act.put, List.setIfInBounds_toArray, List.set_cons_zero, List.set_cons_succ]
      refine anyHT_pure (fun _ => trivial) (by kernel_rfl) (i := 29) (oi := { dst := some 43, op := Op.move (Operand.tmp 42), type := 4, pos := "top09w.go:21", after := #[{ on := 28, ground := Ground.data }, { on := 23, ground := Ground.chain }], guard := none }) (v := ?_) rfl (by kernel_rfl) (by kernel_rfl) (by kernel_rfl) (fun _ _ _ h => h) (Or.inl ⟨by rfl, ?_⟩) ?_
      rotate_left
      · (intro w _; go_simp <;> with_reducible rfl)
      try simp only [Act.put, List.setIfInBounds_toArray, List.set_cons_zero, List.set_cons_succ]
      refine anyHT_pure (fun _ => trivial) (by kernel_rfl) (i := 30) (oi := { dst := some 44, op := Op.fieldAddr 24 (Operand.tmp 2) 1, type := 0, pos := "top09w.go:21", after := #[{ on := 29, ground := Ground.guard }], guard := some (29, false) }) (v := ?_) rfl (by kernel_rfl) (by kernel_rfl) (by kernel_rfl) (fun _ _ _ h => h) (Or.inl ⟨by rfl, ?_⟩) ?_
      rotate_left
      · (intro w _; go_simp <;> with_reducible rfl)
      try simp only [Act.put, List.setIfInBounds_toArray, List.set_cons_zero, List.set_cons_succ]
      refine anyHT_take (fun _ => trivial) (by kernel_rfl) [36, 37, 41, 42] (i := 31) (oi := { dst := some 45, op := Op.load 22 (Operand.tmp 44), type := 22, pos := "top09w.go:21", after := #[{ on := 30, ground := Ground.data }, { on := 29, ground := Ground.guard }], guard := some (29, false) }) (v := ?_) rfl (by kernel_rfl) (by kernel_rfl) (by kernel_rfl) (by kernel_rfl) (by kernel_rfl) (by decide) (fun _ _ _ h => h) (Or.inl ⟨by rfl, ?_⟩) hHeld ?_
      rotate_left
      · (intro w hSw; (try dsimp only at hSw); go_simp <;> with_reducible rfl)
      try simp only [Act.put, List.setIfInBounds_toArray, List.set_cons_zero, List.set_cons_succ]
      refine anyHT_pure (fun _ => trivial) (by kernel_rfl) (i := 32) (oi := { dst := some 46, op := Op.fieldAddr 24 (Operand.tmp 2) 1, type := 0, pos := "top09w.go:21", after := #[{ on := 29, ground := Ground.guard }], guard := some (29, false) }) (v := ?_) rfl (by kernel_rfl) (by kernel_rfl) (by kernel_rfl) (fun _ _ _ h => h) (Or.inl ⟨by rfl, ?_⟩) ?_
      rotate_left
      · (intro w _; go_simp <;> with_reducible rfl)
      try simp only [Act.put, List.setIfInBounds_toArray, List.set_cons_zero, List.set_cons_succ]
      refine anyHT_take (fun _ => trivial) (by kernel_rfl) [34, 35, 36, 37, 41, 42] (i := 33) (oi := { dst := some 47, op := Op.load 22 (Operand.tmp 46), type := 22, pos := "top09w.go:21", after := #[{ on := 32, ground := Ground.data }, { on := 29, ground := Ground.guard }], guard := some (29, false) }) (v := ?_) rfl (by kernel_rfl) (by kernel_rfl) (by kernel_rfl) (by kernel_rfl) (by kernel_rfl) (by decide) (fun _ _ _ h => h) (Or.inl ⟨by rfl, ?_⟩) hHeld ?_
      rotate_left
      · (intro w hSw; (try dsimp only at hSw); go_simp <;> with_reducible rfl)
      try simp only [Act.put, List.setIfInBounds_toArray, List.set_cons_zero, List.set_cons_succ]
      refine anyHT_pure (fun _ => trivial) (by kernel_rfl) (i := 34) (oi := { dst := some 48, op := Op.call { callee := Callee.builtin Builtin.len, args := #[Operand.tmp 47], argTypes := #[22] }, type := 3, pos := "top09w.go:21", after := #[{ on := 33, ground := Ground.data }, { on := 29, ground := Ground.guard }], guard := some (29, false) }) (v := ?_) rfl (by kernel_rfl) (by kernel_rfl) (by kernel_rfl) (fun _ _ _ h => h) (Or.inl ⟨by rfl, ?_⟩) ?_
      rotate_left
      · (intro w _; go_simp <;> with_reducible rfl)
      try simp only [Act.put, List.setIfInBounds_toArray, List.set_cons_zero, List.set_cons_succ]
      refine anyHT_pure (fun _ => trivial) (by kernel_rfl) (i := 35) (oi := { dst := some 49, op := Op.binOp BinOp.sub 3 (Operand.tmp 48) (Operand.const (Value.int IntKind.i64 1)) 3, type := 3, pos := "top09w.go:21", after := #[{ on := 34, ground := Ground.data }, { on := 29, ground := Ground.guard }], guard := some (29, false) }) (v := ?_) rfl (by kernel_rfl) (by kernel_rfl) (by kernel_rfl) (fun _ _ _ h => h) (Or.inl ⟨by rfl, ?_⟩) ?_
      rotate_left
      · (intro w _; go_simp <;> with_reducible rfl)
      try simp only [Act.put, List.setIfInBounds_toArray, List.set_cons_zero, List.set_cons_succ]
      refine anyHT_pure (fun _ => trivial) (by kernel_rfl) (i := 36) (oi := { dst := some 50, op := Op.indexAddr 22 (Operand.tmp 45) (Operand.tmp 49), type := 0, pos := "top09w.go:21", after := #[{ on := 31, ground := Ground.data }, { on := 35, ground := Ground.data }, { on := 29, ground := Ground.guard }], guard := some (29, false) }) (v := ?_) rfl (by kernel_rfl) (by kernel_rfl) (by kernel_rfl) (fun _ _ _ h => h) (Or.inl ⟨by rfl, ?_⟩) ?_
      rotate_left
      · (intro w _; go_simp <;> with_reducible rfl)
      try simp only [Act.put, List.setIfInBounds_toArray, List.set_cons_zero, List.set_cons_succ]
      refine anyHT_take (fun _ => trivial) (by kernel_rfl) [41, 42] (i := 37) (oi := { dst := some 51, op := Op.load 3 (Operand.tmp 50), type := 3, pos := "top09w.go:21", after := #[{ on := 36, ground := Ground.data }, { on := 29, ground := Ground.guard }], guard := some (29, false) }) (v := ?_) rfl (by kernel_rfl) (by kernel_rfl) (by kernel_rfl) (by kernel_rfl) (by kernel_rfl) (by decide) (fun _ _ _ h => h) (Or.inl ⟨by rfl, ?_⟩) hHeld ?_
      rotate_left
      · (intro w hSw; (try dsimp only at hSw); go_simp <;> with_reducible rfl)
      try simp only [Act.put, List.setIfInBounds_toArray, List.set_cons_zero, List.set_cons_succ]
      refine anyHT_pure (fun _ => trivial) (by kernel_rfl) (i := 38) (oi := { dst := some 52, op := Op.fieldAddr 24 (Operand.tmp 2) 0, type := 0, pos := "top09w.go:21", after := #[{ on := 29, ground := Ground.guard }], guard := some (29, false) }) (v := ?_) rfl (by kernel_rfl) (by kernel_rfl) (by kernel_rfl) (fun _ _ _ h => h) (Or.inl ⟨by rfl, ?_⟩) ?_
      rotate_left
      · (intro w _; go_simp <;> with_reducible rfl)
      try simp only [Act.put, List.setIfInBounds_toArray, List.set_cons_zero, List.set_cons_succ]
      refine anyHT_take (fun _ => trivial) (by kernel_rfl) [40, 41, 42] (i := 39) (oi := { dst := some 53, op := Op.load 22 (Operand.tmp 52), type := 22, pos := "top09w.go:21", after := #[{ on := 38, ground := Ground.data }, { on := 29, ground := Ground.guard }], guard := some (29, false) }) (v := ?_) rfl (by kernel_rfl) (by kernel_rfl) (by kernel_rfl) (by kernel_rfl) (by kernel_rfl) (by decide) (fun _ _ _ h => h) (Or.inl ⟨by rfl, ?_⟩) hHeld ?_
      rotate_left
      · (intro w hSw; (try dsimp only at hSw); go_simp <;> with_reducible rfl)
      try simp only [Act.put, List.setIfInBounds_toArray, List.set_cons_zero, List.set_cons_succ]
      refine anyHT_pure (fun _ => trivial) (by kernel_rfl) (i := 40) (oi := { dst := some 54, op := Op.call { callee := Callee.builtin Builtin.len, args := #[Operand.tmp 53], argTypes := #[22] }, type := 3, pos := "top09w.go:21", after := #[{ on := 39, ground := Ground.data }, { on := 29, ground := Ground.guard }], guard := some (29, false) }) (v := ?_) rfl (by kernel_rfl) (by kernel_rfl) (by kernel_rfl) (fun _ _ _ h => h) (Or.inl ⟨by rfl, ?_⟩) ?_
      rotate_left
      · (intro w _; go_simp <;> with_reducible rfl)
      try simp only [Act.put, List.setIfInBounds_toArray, List.set_cons_zero, List.set_cons_succ]
      refine anyHT_pure (fun _ => trivial) (by kernel_rfl) (i := 41) (oi := { dst := some 55, op := Op.binOp BinOp.neq 3 (Operand.tmp 51) (Operand.tmp 54) 3, type := 4, pos := "top09w.go:21", after := #[{ on := 37, ground := Ground.data }, { on := 40, ground := Ground.data }, { on := 29, ground := Ground.guard }], guard := some (29, false) }) (v := ?_) rfl (by kernel_rfl) (by kernel_rfl) (by kernel_rfl) (fun _ _ _ h => h) (Or.inl ⟨by rfl, ?_⟩) ?_
      rotate_left
      · (intro w _; go_simp <;> with_reducible rfl)
      try simp only [Act.put, List.setIfInBounds_toArray, List.set_cons_zero, List.set_cons_succ]
      refine anyHT_pure (fun _ => trivial) (by kernel_rfl) (i := 42) (oi := { dst := some 56, op := Op.pick (Operand.tmp 43) (Operand.const (Value.bool true)) (Operand.tmp 55), type := 4, pos := "top09w.go:21", after := #[{ on := 29, ground := Ground.data }, { on := 41, ground := Ground.data }], guard := none }) (v := ?_) rfl (by kernel_rfl) (by kernel_rfl) (by kernel_rfl) (fun _ _ _ h => h) (Or.inl ⟨by rfl, ?_⟩) ?_
      rotate_left
      · (intro w _; go_simp <;> with_reducible rfl)
      try simp only [Act.put, List.setIfInBounds_toArray, List.set_cons_zero, List.set_cons_succ]
      refine anyHT_done (by kernel_rfl) ?_ _
      go_wp2_with fail
      refine (HK.out _).mono ?_
      rintro e w9 ⟨rfl, hb9⟩
      have HB9 : Aside0 (Below w.heap.size w w9) := ⟨below_trans' (hHeld.1) hb9⟩
      clear hb9
      go_wp2_with fail
      go_ret
      exact ⟨rfl, HB9.out⟩
  · have d4 : (r == 0) = false := by simpa using b4
    have d4n : (r != 0) = true := by simpa using b4
    clear hr
    go_enter Try.func3, Try.ntmps3
    go_wp2_with fail
    refine (wpIn_wide (n := 0)).1 ?_
    refine region_anyHT (fun W' => Below w.heap.size w W' ∧ W'.cell? ⟨w.heap.size, 0, none⟩ = some (.slice A0 xs.length c0) ∧ W'.cell? ⟨w.heap.size, 1, none⟩ = some (.slice A1 ms.length c1)) [] (by kernel_rfl) (⟨pw_below_drewN HB0.out 1, HSa.out, HSb.out⟩) (fun hHeld => ?_)
    refine anyHT_pure (fun _ => trivial) (by kernel_rfl) (i := 0) (oi := { dst := some 14, op := Op.fieldAddr 24 (Operand.tmp 2) 0, type := 0, pos := "top09w.go:21", after := #[], guard := none }) (v := ?_) rfl (by kernel_rfl) (by kernel_rfl) (by kernel_rfl) (fun _ _ _ h => h) (Or.inl ⟨by rfl, ?_⟩) ?_
    rotate_left
    · (intro w _; go_simp <;> with_reducible rfl)
    try simp only [Act.put, List.setIfInBounds_toArray, List.set_cons_zero, List.set_cons_succ]
    refine anyHT_take (fun _ => trivial) (by kernel_rfl) [2, 3, 4, 5, 6, 7, 8, 9, 10, 11, 12, 13, 14, 15, 16, 17, 18, 19, 20, 21, 22, 23, 24, 25, 26, 27, 28, 29, 30, 31, 32, 33, 34, 35, 36, 37, 38, 39, 40, 41, 42] (i := 1) (oi := { dst := some 15, op := Op.load 22 (Operand.tmp 14), type := 22, pos := "top09w.go:21", after := #[{ on := 0, ground := Ground.data }], guard := none }) (v := ?_) rfl (by kernel_rfl) (by kernel_rfl) (by kernel_rfl) (by kernel_rfl) (by kernel_rfl) (by decide) (fun _ _ _ h => h) (Or.inl ⟨by rfl, ?_⟩) hHeld ?_
    rotate_left
    · (intro w hSw; (try dsimp only at hSw); go_simp <;> with_reducible rfl)
    try simp only [Act.put, List.setIfInBounds_toArray, List.set_cons_zero, List.set_cons_succ]
    refine anyHT_pure (fun _ => trivial) (by kernel_rfl) (i := 2) (oi := { dst := some 16, op := Op.call { callee := Callee.builtin Builtin.len, args := #[Operand.tmp 15], argTypes := #[22] }, type := 3, pos := "top09w.go:21", after := #[{ on := 1, ground := Ground.data }], guard := none }) (v := ?_) rfl (by kernel_rfl) (by kernel_rfl) (by kernel_rfl) (fun _ _ _ h => h) (Or.inl ⟨by rfl, ?_⟩) ?_
    rotate_left
    · (intro w _; go_simp <;> with_reducible rfl)
    try simp only [Act.put, List.setIfInBounds_toArray, List.set_cons_zero, List.set_cons_succ]
    refine anyHT_pure (fun _ => trivial) (by kernel_rfl) (i := 3) (oi := { dst := some 17, op := Op.binOp BinOp.gtr 3 (Operand.tmp 16) (Operand.const (Value.int IntKind.i64 400)) 3, type := 4, pos := "top09w.go:21", after := #[{ on := 2, ground := Ground.data }], guard := none }) (v := ?_) rfl (by kernel_rfl) (by kernel_rfl) (by kernel_rfl) (fun _ _ _ h => h) (Or.inl ⟨by rfl, ?_⟩) ?_
    rotate_left
    · (intro w _; go_simp <;> with_reducible rfl)
    try simp only [Act.put, List.setIfInBounds_toArray, List.set_cons_zero, List.set_cons_succ]
    refine anyHT_pure (fun _ => trivial) (by kernel_rfl) (i := 4) (oi := { dst := some 18, op := Op.move (Operand.tmp 17), type := 4, pos := "top09w.go:21", after := #[{ on := 3, ground := Ground.data }], guard := none }) (v := ?_) rfl (by kernel_rfl) (by kernel_rfl) (by kernel_rfl) (fun _ _ _ h => h) (Or.inl ⟨by rfl, ?_⟩) ?_
    rotate_left
    · (intro w _; go_simp <;> with_reducible rfl)
    try simp only [Act.put, List.setIfInBounds_toArray, List.set_cons_zero, List.set_cons_succ]
    refine anyHT_pure (fun _ => trivial) (by kernel_rfl) (i := 5) (oi := { dst := some 19, op := Op.move (Operand.tmp 1), type := 3, pos := "top09w.go:21", after := #[{ on := 4, ground := Ground.guard }], guard := some (4, false) }) (v := ?_) rfl (by kernel_rfl) (by kernel_rfl) (by kernel_rfl) (fun _ _ _ h => h) (Or.inl ⟨by rfl, ?_⟩) ?_
    rotate_left
    · (intro w _; go_simp <;> with_reducible rfl)
    try simp only [Act.put, List.setIfInBounds_toArray, List.set_cons_zero, List.set_cons_succ]
    refine anyHT_pure (fun _ => trivial) (by kernel_rfl) (i := 6) (oi := { dst := some 20, op := Op.binOp BinOp.lss 3 (Operand.tmp 19) (Operand.const (Value.int IntKind.i64 1)) 3, type := 4, pos := "top09w.go:21", after := #[{ on := 5, ground := Ground.data }, { on := 4, ground := Ground.guard }], guard := some (4, false) }) (v := ?_) rfl (by kernel_rfl) (by kernel_rfl) (by kernel_rfl) (fun _ _ _ h => h) (Or.inl ⟨by rfl, ?_⟩) ?_
    rotate_left
    · (intro w _; go_simp <;> with_reducible rfl)
    try simp only [Act.put, List.setIfInBounds_toArray, List.set_cons_zero, List.set_cons_succ]
    refine anyHT_pure (fun _ => trivial) (by kernel_rfl) (i := 7) (oi := { dst := some 21, op := Op.pick (Operand.tmp 18) (Operand.const (Value.bool true)) (Operand.tmp 20), type := 4, pos := "top09w.go:21", after := #[{ on := 4, ground := Ground.data }, { on := 6, ground := Ground.data }], guard := none }) (v := ?_) rfl (by kernel_rfl) (by kernel_rfl) (by kernel_rfl) (fun _ _ _ h => h) (Or.inl ⟨by rfl, ?_⟩) ?_
    rotate_left
    · (intro w _; go_simp <;> with_reducible rfl)
    try simp only [Act.put, List.setIfInBounds_toArray, List.set_cons_zero, List.set_cons_succ]
    refine anyHT_pure (fun _ => trivial) (by kernel_rfl) (i := 8) (oi := { dst := some 22, op := Op.move (Operand.tmp 21), type := 4, pos := "top09w.go:21", after := #[{ on := 7, ground := Ground.data }, { on := 4, ground := Ground.chain }], guard := none }) (v := ?_) rfl (by kernel_rfl) (by kernel_rfl) (by kernel_rfl) (fun _ _ _ h => h) (Or.inl ⟨by rfl, ?_⟩) ?_
    rotate_left
    · (intro w _; go_simp <;> with_reducible rfl)
    try simp only [Act.put, List.setIfInBounds_toArray, List.set_cons_zero, List.set_cons_succ]
    refine anyHT_pure (fun _ => trivial) (by kernel_rfl) (i := 9) (oi := { dst := some 23, op := Op.move (Operand.tmp 1), type := 3, pos := "top09w.go:21", after := #[{ on := 8, ground := Ground.guard }], guard := some (8, false) }) (v := ?_) rfl (by kernel_rfl) (by kernel_rfl) (by kernel_rfl) (fun _ _ _ h => h) (Or.inl ⟨by rfl, ?_⟩) ?_
    rotate_left
    · (intro w _; go_simp <;> with_reducible rfl)
    try simp only [Act.put, List.setIfInBounds_toArray, List.set_cons_zero, List.set_cons_succ]
    refine anyHT_pure (fun _ => trivial) (by kernel_rfl) (i := 10) (oi := { dst := some 24, op := Op.binOp BinOp.gtr 3 (Operand.tmp 23) (Operand.const (Value.int IntKind.i64 8)) 3, type := 4, pos := "top09w.go:21", after := #[{ on := 9, ground := Ground.data }, { on := 8, ground := Ground.guard }], guard := some (8, false) }) (v := ?_) rfl (by kernel_rfl) (by kernel_rfl) (by kernel_rfl) (fun _ _ _ h => h) (Or.inl ⟨by rfl, ?_⟩) ?_
    rotate_left
    · (intro w _; go_simp <;> with_reducible rfl)
    try simp only [Act.put, List.setIfInBounds_toArray, List.set_cons_zero, List.set_cons_succ]
    refine anyHT_pure (fun _ => trivial) (by kernel_rfl) (i := 11) (oi := { dst := some 25, op := Op.pick (Operand.tmp 22) (Operand.const (Value.bool true)) (Operand.tmp 24), type := 4, pos := "top09w.go:21", after := #[{ on := 8, ground := Ground.data }, { on := 10, ground := Ground.data }], guard := none }) (v := ?_) rfl (by kernel_rfl) (by kernel_rfl) (by kernel_rfl) (fun _ _ _ h => h) (Or.inl ⟨by rfl, ?_⟩) ?_
    rotate_left
    · (intro w _; go_simp <;> with_reducible rfl)
    try simp only [Act.put, List.setIfInBounds_toArray, List.set_cons_zero, List.set_cons_succ]
    refine anyHT_pure (fun _ => trivial) (by kernel_rfl) (i := 12) (oi := { dst := some 26, op := Op.move (Operand.tmp 25), type := 4, pos := "top09w.go:21", after := #[{ on := 11, ground := Ground.data }, { on := 8, ground := Ground.chain }], guard := none }) (v := ?_) rfl (by kernel_rfl) (by kernel_rfl) (by kernel_rfl) (fun _ _ _ h => h) (Or.inl ⟨by rfl, ?_⟩) ?_
    rotate_left
    · (intro w _; go_simp <;> with_reducible rfl)
    try simp only [Act.put, List.setIfInBounds_toArray, List.set_cons_zero, List.set_cons_succ]
    refine anyHT_take (fun _ => trivial) (by kernel_rfl) [14, 15, 16, 17, 18, 19, 20, 21, 22, 23, 24, 25, 26, 27, 28, 29, 30, 31, 32, 33, 34, 35, 36, 37, 38, 39, 40, 41, 42] (i := 13) (oi := { dst := some 27, op := Op.load 24 (Operand.tmp 2), type := 24, pos := "top09w.go:21", after := #[{ on := 12, ground := Ground.guard }], guard := some (12, false) }) (v := ?_) rfl (by kernel_rfl) (by kernel_rfl) (by kernel_rfl) (by kernel_rfl) (by kernel_rfl) (by decide) (fun _ _ _ h => h) (Or.inl ⟨by rfl, ?_⟩) hHeld ?_
    rotate_left
    · (intro w hSw; (try dsimp only at hSw); go_simp <;> with_reducible rfl)
    try simp only [Act.put, List.setIfInBounds_toArray, List.set_cons_zero, List.set_cons_succ]
    refine anyHT_one (i := 14) (o := { dst := some 28, op := Op.call { callee := Callee.value (Operand.func 7), args := #[Operand.tmp 27], argTypes := #[24] }, type := 25, pos := "top09w.go:21", after := #[{ on := 13, ground := Ground.data }, { on := 12, ground := Ground.chain }, { on := 12, ground := Ground.guard }], guard := some (12, false) }) (by kernel_rfl) rfl (by rfl) (fun K hK => ?_)
    go_simp
    refine ⟨trivial, rfl, ?_⟩
    refine (callsIn_wide.2 (HM.out _ hHeld.1)).mono ?_
    rintro e w1 ⟨rfl, hb⟩
    refine hK.out _ _ (fun _ hSw => ⟨below_trans' hSw.1 hb, pw_cell_below hb hSw.2.1, pw_cell_below hb hSw.2.2⟩) ?_
    replace hHeld : (fun (W' : World) => Below w.heap.size w W' ∧ W'.cell? ⟨w.heap.size, 0, none⟩ = some (.slice A0 xs.length c0) ∧ W'.cell? ⟨w.heap.size, 1, none⟩ = some (.slice A1 ms.length c1)) _ := (fun (hSw : (fun (W' : World) => Below w.heap.size w W' ∧ W'.cell? ⟨w.heap.size, 0, none⟩ = some (.slice A0 xs.length c0) ∧ W'.cell? ⟨w.heap.size, 1, none⟩ = some (.slice A1 ms.length c1)) _) => ⟨below_trans' hSw.1 hb, pw_cell_below hb hSw.2.1, pw_cell_below hb hSw.2.2⟩) hHeld
    clear hK K
    try simp only [Act.put, List.setIfInBounds_toArray, List.set_cons_zero, List.set_cons_succ]
    refine anyHT_pure (fun _ => trivial) (by kernel_rfl) (i := 15) (oi := { dst := some 29, op := Op.binOp BinOp.neq 25 (Operand.tmp 28) (Operand.const (Value.int IntKind.i64 0)) 25, type := 4, pos := "top09w.go:21", after := #[{ on := 14, ground := Ground.data }, { on := 12, ground := Ground.guard }], guard := some (12, false) }) (v := ?_) rfl (by kernel_rfl) (by kernel_rfl) (by kernel_rfl) (fun _ _ _ h => h) (Or.inl ⟨by rfl, ?_⟩) ?_
    rotate_left
    · (intro w _; go_simp <;> with_reducible rfl)
    try simp only [Act.put, List.setIfInBounds_toArray, List.set_cons_zero, List.set_cons_succ]
    refine anyHT_pure (fun _ => trivial) (by kernel_rfl) (i := 16) (oi := { dst := some 30, op := Op.pick (Operand.tmp 26) (Operand.const (Value.bool true)) (Operand.tmp 29), type := 4, pos := "top09w.go:21", after := #[{ on := 12, ground := Ground.data }, { on := 15, ground := Ground.data }], guard := none }) (v := ?_) rfl (by kernel_rfl) (by kernel_rfl) (by kernel_rfl) (fun _ _ _ h => h) (Or.inl ⟨by rfl, ?_⟩) ?_
    rotate_left
    · (intro w _; go_simp <;> with_reducible rfl)
    try simp only [Act.put, List.setIfInBounds_toArray, List.set_cons_zero, List.set_cons_succ]
    refine anyHT_pure (fun _ => trivial) (by kernel_rfl) (i := 17) (oi := { dst := some 31, op := Op.move (Operand.tmp 30), type := 4, pos := "top09w.go:21", after := #[{ on := 16, ground := Ground.data }, { on := 14, ground := Ground.chain }], guard := none }) (v := ?_) rfl (by kernel_rfl) (by kernel_rfl) (by kernel_rfl) (fun _ _ _ h => h) (Or.inl ⟨by rfl, ?_⟩) ?_
    rotate_left
    · (intro w _; go_simp <;> with_reducible rfl)
    try simp only [Act.put, List.setIfInBounds_toArray, List.set_cons_zero, List.set_cons_succ]
    refine anyHT_pure (fun _ => trivial) (by kernel_rfl) (i := 18) (oi := { dst := some 32, op := Op.fieldAddr 24 (Operand.tmp 2) 1, type := 0, pos := "top09w.go:21", after := #[{ on := 17, ground := Ground.guard }], guard := some (17, false) }) (v := undef) rfl (by kernel_rfl) (by kernel_rfl) (by kernel_rfl) (fun _ _ _ h => h) (Or.inr ⟨by rfl, rfl⟩) ?_
    try simp only [Act.put, List.setIfInBounds_toArray, List.set_cons_zero, List.set_cons_succ]
    refine anyHT_pure (fun _ => trivial) (by kernel_rfl) (i := 19) (oi := { dst := some 33, op := Op.load 22 (Operand.tmp 32), type := 22, pos := "top09w.go:21", after := #[{ on := 18, ground := Ground.data }, { on := 17, ground := Ground.guard }], guard := some (17, false) }) (v := undef) rfl (by kernel_rfl) (by kernel_rfl) (by kernel_rfl) (fun _ _ _ h => h) (Or.inr ⟨by rfl, rfl⟩) ?_
    try simp only [Act.put, List.setIfInBounds_toArray, List.set_cons_zero, List.set_cons_succ]
    refine anyHT_pure (fun _ => trivial) (by kernel_rfl) (i := 20) (oi := { dst := some 34, op := Op.call { callee := Callee.builtin Builtin.len, args := #[Operand.tmp 33], argTypes := #[22] }, type := 3, pos := "top09w.go:21", after := #[{ on := 19, ground := Ground.data }, { on := 17, ground := Ground.guard }], guard := some (17, false) }) (v := undef) rfl (by kernel_rfl) (by kernel_rfl) (by kernel_rfl) (fun _ _ _ h => h) (Or.inr ⟨by rfl, rfl⟩) ?_
    try simp only [Act.put, List.setIfInBounds_toArray, List.set_cons_zero, List.set_cons_succ]
    refine anyHT_pure (fun _ => trivial) (by kernel_rfl) (i := 21) (oi := { dst := some 35, op := Op.binOp BinOp.lss 3 (Operand.tmp 34) (Operand.const (Value.int IntKind.i64 2)) 3, type := 4, pos := "top09w.go:21", after := #[{ on := 20, ground := Ground.data }, { on := 17, ground := Ground.guard }], guard := some (17, false) }) (v := undef) rfl (by kernel_rfl) (by kernel_rfl) (by kernel_rfl) (fun _ _ _ h => h) (Or.inr ⟨by rfl, rfl⟩) ?_
    try simp only [Act.put, List.setIfInBounds_toArray, List.set_cons_zero, List.set_cons_succ]
    refine anyHT_pure (fun _ => trivial) (by kernel_rfl) (i := 22) (oi := { dst := some 36, op := Op.pick (Operand.tmp 31) (Operand.const (Value.bool true)) (Operand.tmp 35), type := 4, pos := "top09w.go:21", after := #[{ on := 17, ground := Ground.data }, { on := 21, ground := Ground.data }], guard := none }) (v := ?_) rfl (by kernel_rfl) (by kernel_rfl) (by kernel_rfl) (fun _ _ _ h => h) (Or.inl ⟨by rfl, ?_⟩) ?_
    rotate_left
    · (intro w _; go_simp <;> with_reducible rfl)
    try simp only [Act.put, List.setIfInBounds_toArray, List.set_cons_zero, List.set_cons_succ]
    refine anyHT_pure (fun _ => trivial) (by kernel_rfl) (i := 23) (oi := { dst := some 37, op := Op.move (Operand.tmp 36), type := 4, pos := "top09w.go:21", after := #[{ on := 22, ground := Ground.data }, { on := 17, ground := Ground.chain }], guard := none }) (v := ?_) rfl (by kernel_rfl) (by kernel_rfl) (by kernel_rfl) (fun _ _ _ h => h) (Or.inl ⟨by rfl, ?_⟩) ?_
    rotate_left
    · (intro w _; go_simp <;> with_reducible rfl)
    try simp only [Act.put, List.setIfInBounds_toArray, List.set_cons_zero, List.set_cons_succ]
    refine anyHT_pure (fun _ => trivial) (by kernel_rfl) (i := 24) (oi := { dst := some 38, op := Op.fieldAddr 24 (Operand.tmp 2) 1, type := 0, pos := "top09w.go:21", after := #[{ on := 23, ground := Ground.guard }], guard := some (23, false) }) (v := undef) rfl (by kernel_rfl) (by kernel_rfl) (by kernel_rfl) (fun _ _ _ h => h) (Or.inr ⟨by rfl, rfl⟩) ?_
    try simp only [Act.put, List.setIfInBounds_toArray, List.set_cons_zero, List.set_cons_succ]
    refine anyHT_pure (fun _ => trivial) (by kernel_rfl) (i := 25) (oi := { dst := some 39, op := Op.load 22 (Operand.tmp 38), type := 22, pos := "top09w.go:21", after := #[{ on := 24, ground := Ground.data }, { on := 23, ground := Ground.guard }], guard := some (23, false) }) (v := undef) rfl (by kernel_rfl) (by kernel_rfl) (by kernel_rfl) (fun _ _ _ h => h) (Or.inr ⟨by rfl, rfl⟩) ?_
    try simp only [Act.put, List.setIfInBounds_toArray, List.set_cons_zero, List.set_cons_succ]
    refine anyHT_pure (fun _ => trivial) (by kernel_rfl) (i := 26) (oi := { dst := some 40, op := Op.call { callee := Callee.builtin Builtin.len, args := #[Operand.tmp 39], argTypes := #[22] }, type := 3, pos := "top09w.go:21", after := #[{ on := 25, ground := Ground.data }, { on := 23, ground := Ground.guard }], guard := some (23, false) }) (v := undef) rfl (by kernel_rfl) (by kernel_rfl) (by kernel_rfl) (fun _ _ _ h => h) (Or.inr ⟨by rfl, rfl⟩) ?_
    try simp only [Act.put, List.setIfInBounds_toArray, List.set_cons_zero, List.set_cons_succ]
    refine anyHT_pure (fun _ => trivial) (by kernel_rfl) (i := 27) (oi := { dst := some 41, op := Op.binOp BinOp.gtr 3 (Operand.tmp 40) (Operand.const (Value.int IntKind.i64 41)) 3, type := 4, pos := "top09w.go:21", after := #[{ on := 26, ground := Ground.data }, { on := 23, ground := Ground.guard }], guard := some (23, false) }) (v := undef) rfl (by kernel_rfl) (by kernel_rfl) (by kernel_rfl) (fun _ _ _ h => h) (Or.inr ⟨by rfl, rfl⟩) ?_
    try simp only [Act.put, List.setIfInBounds_toArray, List.set_cons_zero, List.set_cons_succ]
    refine anyHT_pure (fun _ => trivial) (by kernel_rfl) (i := 28) (oi := { dst := some 42, op := Op.pick (Operand.tmp 37) (Operand.const (Value.bool true)) (Operand.tmp 41), type := 4, pos := "top09w.go:21", after := #[{ on := 23, ground := Ground.data }, { on := 27, ground := Ground.data }], guard := none }) (v := ?_) rfl (by kernel_rfl) (by kernel_rfl) (by kernel_rfl) (fun _ _ _ h => h) (Or.inl ⟨by rfl, ?_⟩) ?_
    rotate_left
    · (intro w _; go_simp <;> with_reducible rfl)
    try simp only [Act.put, List.setIfInBounds_toArray, List.set_cons_zero, List.set_cons_succ]
    refine anyHT_pure (fun _ => trivial) (by kernel_rfl) (i := 29) (oi := { dst := some 43, op := Op.move (Operand.tmp 42), type := 4, pos := "top09w.go:21", after := #[{ on := 28, ground := Ground.data }, { on := 23, ground := Ground.chain }], guard := none }) (v := ?_) rfl (by kernel_rfl) (by kernel_rfl) (by kernel_rfl) (fun _ _ _ h => h) (Or.inl ⟨by rfl, ?_⟩) ?_
    rotate_left
    · (intro w _; go_simp <;> with_reducible rfl)
    try simp only [Act.put, List.setIfInBounds_toArray, List.set_cons_zero, List.set_cons_succ]
    refine anyHT_pure (fun _ => trivial) (by kernel_rfl) (i := 30) (oi := { dst := some 44, op := Op.fieldAddr 24 (Operand.tmp 2) 1, type := 0, pos := "top09w.go:21", after := #[{ on := 29, ground := Ground.guard }], guard := some (29, false) }) (v := undef) rfl (by kernel_rfl) (by kernel_rfl) (by kernel_rfl) (fun _ _ _ h => h) (Or.inr ⟨by rfl, rfl⟩) ?_
    try simp only [Act.put, List.setIfInBounds_toArray, List.set_cons_zero, List.set_cons_succ]
    refine anyHT_pure (fun _ => trivial) (by kernel_rfl) (i := 31) (oi := { dst := some 45, op := Op.load 22 (Operand.tmp 44), type := 22, pos := "top09w.go:21", after := #[{ on := 30, ground := Ground.data }, { on := 29, ground := Ground.guard }], guard := some (29, false) }) (v := undef) rfl (by kernel_rfl) (by kernel_rfl) (by kernel_rfl) (fun _ _ _ h => h) (Or.inr ⟨by rfl, rfl⟩) ?_
    try simp only [Act.put, List.setIfInBounds_toArray, List.set_cons_zero, List.set_cons_succ]
    refine anyHT_pure (fun _ => trivial) (by kernel_rfl) (i := 32) (oi := { dst := some 46, op := Op.fieldAddr 24 (Operand.tmp 2) 1, type := 0, pos := "top09w.go:21", after := #[{ on := 29, ground := Ground.guard }], guard := some (29, false) }) (v := undef) rfl (by kernel_rfl) (by kernel_rfl) (by kernel_rfl) (fun _ _ _ h => h) (Or.inr ⟨by rfl, rfl⟩) ?_
    try simp only [Act.put, List.setIfInBounds_toArray, List.set_cons_zero, List.set_cons_succ]
    refine anyHT_pure (fun _ => trivial) (by kernel_rfl) (i := 33) (oi := { dst := some 47, op := Op.load 22 (Operand.tmp 46), type := 22, pos := "top09w.go:21", after := #[{ on := 32, ground := Ground.data }, { on := 29, ground := Ground.guard }], guard := some (29, false) }) (v := undef) rfl (by kernel_rfl) (by kernel_rfl) (by kernel_rfl) (fun _ _ _ h => h) (Or.inr ⟨by rfl, rfl⟩) ?_
    try simp only [Act.put, List.setIfInBounds_toArray, List.set_cons_zero, List.set_cons_succ]
    refine anyHT_pure (fun _ => trivial) (by kernel_rfl) (i := 34) (oi := { dst := some 48, op := Op.call { callee := Callee.builtin Builtin.len, args := #[Operand.tmp 47], argTypes := #[22] }, type := 3, pos := "top09w.go:21", after := #[{ on := 33, ground := Ground.data }, { on := 29, ground := Ground.guard }], guard := some (29, false) }) (v := undef) rfl (by kernel_rfl) (by kernel_rfl) (by kernel_rfl) (fun _ _ _ h => h) (Or.inr ⟨by rfl, rfl⟩) ?_
    try simp only [Act.put, List.setIfInBounds_toArray, List.set_cons_zero, List.set_cons_succ]
    refine anyHT_pure (fun _ => trivial) (by kernel_rfl) (i := 35) (oi := { dst := some 49, op := Op.binOp BinOp.sub 3 (Operand.tmp 48) (Operand.const (Value.int IntKind.i64 1)) 3, type := 3, pos := "top09w.go:21", after := #[{ on := 34, ground := Ground.data }, { on := 29, ground := Ground.guard }], guard := some (29, false) }) (v := undef) rfl (by kernel_rfl) (by kernel_rfl) (by kernel_rfl) (fun _ _ _ h => h) (Or.inr ⟨by rfl, rfl⟩) ?_
    try simp only [Act.put, List.setIfInBounds_toArray, List.set_cons_zero, List.set_cons_succ]
    refine anyHT_pure (fun _ => trivial) (by kernel_rfl) (i := 36) (oi := { dst := some 50, op := Op.indexAddr 22 (Operand.tmp 45) (Operand.tmp 49), type := 0, pos := "top09w.go:21", after := #[{ on := 31, ground := Ground.data }, { on := 35, ground := Ground.data }, { on := 29, ground := Ground.guard }], guard := some (29, false) }) (v := undef) rfl (by kernel_rfl) (by kernel_rfl) (by kernel_rfl) (fun _ _ _ h => h) (Or.inr ⟨by rfl, rfl⟩) ?_
    try simp only [Act.put, List.setIfInBounds_toArray, List.set_cons_zero, List.set_cons_succ]
    refine anyHT_pure (fun _ => trivial) (by kernel_rfl) (i := 37) (oi := { dst := some 51, op := Op.load 3 (Operand.tmp 50), type := 3, pos := "top09w.go:21", after := #[{ on := 36, ground := Ground.data }, { on := 29, ground := Ground.guard }], guard := some (29, false) }) (v := undef) rfl (by kernel_rfl) (by kernel_rfl) (by kernel_rfl) (fun _ _ _ h => h) (Or.inr ⟨by rfl, rfl⟩) ?_
    try simp only [Act.put, List.setIfInBounds_toArray, List.set_cons_zero, List.set_cons_succ]
    refine anyHT_pure (fun _ => trivial) (by kernel_rfl) (i := 38) (oi := { dst := some 52, op := Op.fieldAddr 24 (Operand.tmp 2) 0, type := 0, pos := "top09w.go:21", after := #[{ on := 29, ground := Ground.guard }], guard := some (29, false) }) (v := undef) rfl (by kernel_rfl) (by kernel_rfl) (by kernel_rfl) (fun _ _ _ h => h) (Or.inr ⟨by rfl, rfl⟩) ?_
    try simp only [Act.put, List.setIfInBounds_toArray, List.set_cons_zero, List.set_cons_succ]
    refine anyHT_pure (fun _ => trivial) (by kernel_rfl) (i := 39) (oi := { dst := some 53, op := Op.load 22 (Operand.tmp 52), type := 22, pos := "top09w.go:21", after := #[{ on := 38, ground := Ground.data }, { on := 29, ground := Ground.guard }], guard := some (29, false) }) (v := undef) rfl (by kernel_rfl) (by kernel_rfl) (by kernel_rfl) (fun _ _ _ h => h) (Or.inr ⟨by rfl, rfl⟩) ?_
    try simp only [Act.put, List.setIfInBounds_toArray, List.set_cons_zero, List.set_cons_succ]
    refine anyHT_pure (fun _ => trivial) (by kernel_rfl) (i := 40) (oi := { dst := some 54, op := Op.call { callee := Callee.builtin Builtin.len, args := #[Operand.tmp 53], argTypes := #[22] }, type := 3, pos := "top09w.go:21", after := #[{ on := 39, ground := Ground.data }, { on := 29, ground := Ground.guard }], guard := some (29, false) }) (v := undef) rfl (by kernel_rfl) (by kernel_rfl) (by kernel_rfl) (fun _ _ _ h => h) (Or.inr ⟨by rfl, rfl⟩) ?_
    try simp only [Act.put, List.setIfInBounds_toArray, List.set_cons_zero, List.set_cons_succ]
    refine anyHT_pure (fun _ => trivial) (by kernel_rfl) (i := 41) (oi := { dst := some 55, op := Op.binOp BinOp.neq 3 (Operand.tmp 51) (Operand.tmp 54) 3, type := 4, pos := "top09w.go:21", after := #[{ on := 37, ground := Ground.data }, { on := 40, ground := Ground.data }, { on := 29, ground := Ground.guard }], guard := some (29, false) }) (v := undef) rfl (by kernel_rfl) (by kernel_rfl) (by kernel_rfl) (fun _ _ _ h => h) (Or.inr ⟨by rfl, rfl⟩) ?_
    try simp only [Act.put, List.setIfInBounds_toArray, List.set_cons_zero, List.set_cons_succ]
    refine anyHT_pure (fun _ => trivial) (by kernel_rfl) (i := 42) (oi := { dst := some 56, op := Op.pick (Operand.tmp 43) (Operand.const (Value.bool true)) (Operand.tmp 55), type := 4, pos := "top09w.go:21", after := #[{ on := 29, ground := Ground.data }, { on := 41, ground := Ground.data }], guard := none }) (v := ?_) rfl (by kernel_rfl) (by kernel_rfl) (by kernel_rfl) (fun _ _ _ h => h) (Or.inl ⟨by rfl, ?_⟩) ?_
    rotate_left
    · (intro w _; go_simp <;> with_reducible rfl)
    try simp only [Act.put, List.setIfInBounds_toArray, List.set_cons_zero, List.set_cons_succ]
    refine anyHT_done (by kernel_rfl) ?_ _
    go_wp2_with fail
    refine (HK.out _).mono ?_
    rintro e w9 ⟨rfl, hb9⟩
    have HB9 : Aside0 (Below w.heap.size w w9) := ⟨below_trans' (hHeld.1) hb9⟩
    clear hb9
    go_wp2_with fail
    go_ret
    exact ⟨rfl, HB9.out⟩
end Go.Proofs.Ytoodagohkepcpaa
