/- A ledger is opened and given a grant; a speaker is made; its pace is set. -/
import Derived.Test.YtoodagohkepcpaaE2
namespace Go.Proofs.Ytoodagohkepcpaa
open Go.RowKit Go.Shelf Go.Proofs.YtoodagohkepcpaaW.PrintWords
set_option maxRecDepth 100000

set_option maxHeartbeats 1000000 in
theorem Open_ok (w : World) : Calls Try.prog 16 #[] w fun e w' => e = .returned (.pointer (some ⟨w.heap.size, 0, none⟩)) ∧ w' = w.alloc (.cells #[.bool true, .slice none 0 0] 102) := by
  go_enter Try.func16, Try.ntmps16
  go_wp2
  go_ret
  exact ⟨rfl, rfl⟩
theorem info104 : (Try.prog.info? 104).map (fun i => (i.zero, i.size, i.bytes)) = some (some (.agg #[.int .i64 0, .int .i64 0, .int .i64 0, .int .i64 0, .int .i64 0, .bool false, .int .i64 0]), 7, 56) := by kernel_rfl

set_option maxHeartbeats 8000000 in
/-- The first grant: for each use, from the beginning to the end. -/
theorem Give_ok (cls : Nat → Nat) (w : World) (Bg : Nat) (v b : Int) (hle : w.heap[Bg]? = some (.cells #[.bool true, .slice none 0 0] 102)) (hv : 1 ≤ v ∧ v ≤ 100) (hb : 0 ≤ b ∧ b ≤ 1099511627776) (hcl : cls Bg = 3) :
    Calls Try.prog 17 #[.pointer (some ⟨Bg, 0, none⟩), .agg #[.int .i64 v, .int .i64 0, .int .i64 0, .int .i64 1099511627776, .int .i64 b]] w fun e w' => e = .returned (.tuple #[.int .i64 0, .int .i64 0]) ∧ LedAt (newCls cls w.heap.size 3) w' Bg ⟨v, b, 0⟩ ∧ Keeps (fun b => b ≠ Bg) w w' := by
  have W1 := Aside0.mk (within_yes v 1 100 hv)
  have W2 := Aside0.mk (within_yes 0 0 100 (by decide))
  have W3 := Aside0.mk (within_yes 0 0 1099511627776 (by decide))
  have W5 := Aside0.mk (within_yes b 0 1099511627776 hb)
  have hlt := blk_lt hle
  have HR := Aside0.mk (fun W (hb : Below w.heap.size w W) => ready_led Bg W (pw_blk_below hle hb) rfl)
  have hB0 : Below w.heap.size w (w.alloc (.cells #[.int .i64 v, .int .i64 0, .int .i64 0, .int .i64 1099511627776, .int .i64 b] 54)) := below_alloc (Below.refl _ _) _
  have hg0 : (w.alloc (.cells #[.int .i64 v, .int .i64 0, .int .i64 0, .int .i64 1099511627776, .int .i64 b] 54)).heap[w.heap.size]? = some (.cells #[.int .i64 v, .int .i64 0, .int .i64 0, .int .i64 1099511627776, .int .i64 b] 54) := blk_new w _
  have HLE := Aside0.mk hle
  have HG0 := Aside0.mk hg0
  have HB0 := Aside0.mk hB0
  clear hle hg0 hB0 hv hb
  go_enter Try.func17, Try.ntmps17
  go_wp2_with fail
  refine (HR.out _ HB0.out).mono ?_
  rintro e w1 ⟨rfl, q1, rfl⟩
  have hB1 := pw_below_drewN HB0.out q1
  have hg1 := blk_drewN HG0.out q1
  generalize ((w.alloc (.cells #[.int .i64 v, .int .i64 0, .int .i64 0, .int .i64 1099511627776, .int .i64 b] 54)).drewN q1) = X at *
  have hle := pw_blk_below HLE.out hB1
  have c0 : X.cell? ⟨w.heap.size, 0, none⟩ = some (.int .i64 v) := blk_cell hg1 0
  have c1 : X.cell? ⟨w.heap.size, 1, none⟩ = some (.int .i64 0) := blk_cell hg1 1
  have c2 : X.cell? ⟨w.heap.size, 2, none⟩ = some (.int .i64 0) := blk_cell hg1 2
  have c3 : X.cell? ⟨w.heap.size, 3, none⟩ = some (.int .i64 1099511627776) := blk_cell hg1 3
  have c4 : X.cell? ⟨w.heap.size, 4, none⟩ = some (.int .i64 b) := blk_cell hg1 4
  have d0 : X.cell? ⟨Bg, 1, none⟩ = some (.slice none 0 0) := blk_cell hle 1
  have d1 : X.frozen? ⟨Bg, 1, none⟩ = false := blk_frozen hle 1
  have HB1 := Aside0.mk hB1
  have HG1 := Aside0.mk hg1
  have HLE1 := Aside0.mk hle
  clear hB1 hg1 hle HB0 HG0 HR HLE
  go_wp2_with fail
  refine (W1.out _).mono ?_
  rintro e w1 ⟨rfl, q2, rfl⟩
  go_wp2_with fail
  refine (W2.out _).mono ?_
  rintro e w1 ⟨rfl, q3, rfl⟩
  go_wp2_with fail
  refine (W3.out _).mono ?_
  rintro e w1 ⟨rfl, q4, rfl⟩
  go_wp2_with fail
  refine (W5.out _).mono ?_
  rintro e w1 ⟨rfl, q5, rfl⟩
  go_wp2_with fail
  have hB2 := pw_below_drewN HB1.out (q2 + q3 + q4 + q5)
  have hle2 := blk_drewN HLE1.out (q2 + q3 + q4 + q5)
  have hg2 := blk_drewN HG1.out (q2 + q3 + q4 + q5)
  clear c0 c1 c2 c3 c4 d0 d1
  generalize hY : X.drewN (q2 + q3 + q4 + q5) = Y at *
  clear hY
  have c0 : Y.cell? ⟨w.heap.size, 0, none⟩ = some (.int .i64 v) := blk_cell hg2 0
  have c1 : Y.cell? ⟨w.heap.size, 1, none⟩ = some (.int .i64 0) := blk_cell hg2 1
  have c2 : Y.cell? ⟨w.heap.size, 2, none⟩ = some (.int .i64 0) := blk_cell hg2 2
  have c3 : Y.cell? ⟨w.heap.size, 3, none⟩ = some (.int .i64 1099511627776) := blk_cell hg2 3
  have c4 : Y.cell? ⟨w.heap.size, 4, none⟩ = some (.int .i64 b) := blk_cell hg2 4
  have d0 : Y.cell? ⟨Bg, 1, none⟩ = some (.slice none 0 0) := blk_cell hle2 1
  have HB2 := Aside0.mk hB2
  have HLE2 := Aside0.mk hle2
  clear hB2 hle2 hg2 HB1 HG1 HLE1 W1 W2 W3 W5
  refine (wpIn_wide (n := 0)).1 ?_
  refine region_anyHT (fun W' => W'.cell? ⟨Bg, 1, none⟩ = some (.slice none 0 0) ∧ W'.cell? ⟨w.heap.size, 0, none⟩ = some (.int .i64 v) ∧ W'.cell? ⟨w.heap.size, 1, none⟩ = some (.int .i64 0) ∧ W'.cell? ⟨w.heap.size, 2, none⟩ = some (.int .i64 0) ∧ W'.cell? ⟨w.heap.size, 3, none⟩ = some (.int .i64 1099511627776) ∧ W'.cell? ⟨w.heap.size, 4, none⟩ = some (.int .i64 b)) [8, 11] (by kernel_rfl) (⟨d0, c0, c1, c2, c3, c4⟩) (fun hHeld => ?_)
  refine anyHT_pure (fun _ => trivial) (by kernel_rfl) (i := 0) (oi := { dst := some 47, op := Op.move (Operand.tmp 0), type := 49, pos := "stream.go:139", after := #[], guard := none }) (v := ?_) rfl (by kernel_rfl) (by kernel_rfl) (by kernel_rfl) (fun _ _ _ h => h) (Or.inl ⟨by rfl, ?_⟩) ?_
  rotate_left
  · (intro w _; go_simp <;> with_reducible rfl)
  try simp only [Act.put, List.setIfInBounds_toArray, List.set_cons_zero, List.set_cons_succ]
  refine anyHT_pure (fun _ => trivial) (by kernel_rfl) (i := 1) (oi := { dst := some 48, op := Op.move (Operand.tmp 0), type := 49, pos := "stream.go:139", after := #[], guard := none }) (v := ?_) rfl (by kernel_rfl) (by kernel_rfl) (by kernel_rfl) (fun _ _ _ h => h) (Or.inl ⟨by rfl, ?_⟩) ?_
  rotate_left
  · (intro w _; go_simp <;> with_reducible rfl)
  try simp only [Act.put, List.setIfInBounds_toArray, List.set_cons_zero, List.set_cons_succ]
  refine anyHT_pure (fun _ => trivial) (by kernel_rfl) (i := 2) (oi := { dst := some 49, op := Op.nilCheck (Operand.tmp 48), type := 0, pos := "stream.go:139", after := #[{ on := 1, ground := Ground.data }], guard := none }) (v := ?_) rfl (by kernel_rfl) (by kernel_rfl) (by kernel_rfl) (fun _ _ _ h => h) (Or.inl ⟨by rfl, ?_⟩) ?_
  rotate_left
  · (intro w _; go_simp <;> with_reducible rfl)
  try simp only [Act.put, List.setIfInBounds_toArray, List.set_cons_zero, List.set_cons_succ]
  refine anyHT_pure (fun _ => trivial) (by kernel_rfl) (i := 3) (oi := { dst := some 50, op := Op.fieldAddr 102 (Operand.tmp 49) 1, type := 0, pos := "stream.go:139", after := #[{ on := 2, ground := Ground.data }], guard := none }) (v := ?_) rfl (by kernel_rfl) (by kernel_rfl) (by kernel_rfl) (fun _ _ _ h => h) (Or.inl ⟨by rfl, ?_⟩) ?_
  rotate_left
  · (intro w _; go_simp <;> with_reducible rfl)
  try simp only [Act.put, List.setIfInBounds_toArray, List.set_cons_zero, List.set_cons_succ]
  refine anyHT_take (fun _ => trivial) (by kernel_rfl) [8, 9, 10, 11] (i := 4) (oi := { dst := some 51, op := Op.load 100 (Operand.tmp 50), type := 100, pos := "stream.go:139", after := #[{ on := 3, ground := Ground.data }], guard := none }) (v := ?_) rfl (by kernel_rfl) (by kernel_rfl) (by kernel_rfl) (by kernel_rfl) (by kernel_rfl) (by decide) (fun _ _ _ h => h) (Or.inl ⟨by rfl, ?_⟩) hHeld ?_
  rotate_left
  · (intro w hSw; (try dsimp only at hSw); go_simp <;> with_reducible rfl)
  try simp only [Act.put, List.setIfInBounds_toArray, List.set_cons_zero, List.set_cons_succ]
  refine anyHT_take (fun _ => trivial) (by kernel_rfl) [6, 7, 8, 9, 10, 11] (i := 5) (oi := { dst := some 52, op := Op.load 54 (Operand.tmp 3), type := 54, pos := "stream.go:139", after := #[], guard := none }) (v := ?_) rfl (by kernel_rfl) (by kernel_rfl) (by kernel_rfl) (by kernel_rfl) (by kernel_rfl) (by decide) (fun _ _ _ h => h) (Or.inl ⟨by rfl, ?_⟩) hHeld ?_
  rotate_left
  · (intro w hSw; (try dsimp only at hSw); go_simp <;> with_reducible rfl)
  try simp only [Act.put, List.setIfInBounds_toArray, List.set_cons_zero, List.set_cons_succ]
  refine anyHT_pure (fun _ => trivial) (by kernel_rfl) (i := 6) (oi := { dst := some 53, op := Op.build 104 #[(0, Operand.tmp 52)], type := 104, pos := "stream.go:139", after := #[{ on := 5, ground := Ground.data }], guard := none }) (v := ?_) rfl (by kernel_rfl) (by kernel_rfl) (by kernel_rfl) (fun _ _ _ h => h) (Or.inl ⟨by rfl, ?_⟩) ?_
  rotate_left
  · (intro w _; go_simp <;> with_reducible rfl)
  try simp only [Act.put, List.setIfInBounds_toArray, List.set_cons_zero, List.set_cons_succ]
  refine anyHT_one (i := 7) (o := { dst := some 54, op := Op.buildSlice 100 1 #[(0, Operand.tmp 53)], type := 100, pos := "stream.go:139", after := #[{ on := 6, ground := Ground.data }], guard := none }) (by kernel_rfl) rfl (by rfl) (fun K hK => ?_)
  have hbA := below_alloc (Below.refl Y.drew.heap.size Y.drew) (.cells #[.int .i64 v, .int .i64 0, .int .i64 0, .int .i64 1099511627776, .int .i64 b, .bool false, .int .i64 0] 104)
  have hX7 : Below Y.heap.size Y ((Y.alloc (.cells #[.int .i64 v, .int .i64 0, .int .i64 0, .int .i64 1099511627776, .int .i64 b, .bool false, .int .i64 0] 104)).drew) := below_trans' (below_alloc (Below.refl _ _) _) (below_drew (Below.refl _ _))
  go_simp
  refine hK.out _ _ (fun _ hSw => ⟨pw_cell_below hbA hSw.1, pw_cell_below hbA hSw.2.1, pw_cell_below hbA hSw.2.2.1, pw_cell_below hbA hSw.2.2.2.1, pw_cell_below hbA hSw.2.2.2.2.1, pw_cell_below hbA hSw.2.2.2.2.2⟩) ?_
  replace hHeld : (fun (W' : World) => W'.cell? ⟨Bg, 1, none⟩ = some (.slice none 0 0) ∧ W'.cell? ⟨w.heap.size, 0, none⟩ = some (.int .i64 v) ∧ W'.cell? ⟨w.heap.size, 1, none⟩ = some (.int .i64 0) ∧ W'.cell? ⟨w.heap.size, 2, none⟩ = some (.int .i64 0) ∧ W'.cell? ⟨w.heap.size, 3, none⟩ = some (.int .i64 1099511627776) ∧ W'.cell? ⟨w.heap.size, 4, none⟩ = some (.int .i64 b)) _ := (fun (hSw : (fun (W' : World) => W'.cell? ⟨Bg, 1, none⟩ = some (.slice none 0 0) ∧ W'.cell? ⟨w.heap.size, 0, none⟩ = some (.int .i64 v) ∧ W'.cell? ⟨w.heap.size, 1, none⟩ = some (.int .i64 0) ∧ W'.cell? ⟨w.heap.size, 2, none⟩ = some (.int .i64 0) ∧ W'.cell? ⟨w.heap.size, 3, none⟩ = some (.int .i64 1099511627776) ∧ W'.cell? ⟨w.heap.size, 4, none⟩ = some (.int .i64 b)) _) => ⟨pw_cell_below hbA hSw.1, pw_cell_below hbA hSw.2.1, pw_cell_below hbA hSw.2.2.1, pw_cell_below hbA hSw.2.2.2.1, pw_cell_below hbA hSw.2.2.2.2.1, pw_cell_below hbA hSw.2.2.2.2.2⟩) hHeld
  clear hK K
  try simp only [Act.put, List.setIfInBounds_toArray, List.set_cons_zero, List.set_cons_succ]
  refine anyHT_one (i := 8) (o := { dst := some 55, op := Op.call { callee := Callee.builtin Builtin.append, args := #[Operand.tmp 51, Operand.tmp 54], argTypes := #[100, 100] }, type := 100, pos := "stream.go:139", after := #[{ on := 4, ground := Ground.data }, { on := 7, ground := Ground.data }], guard := none }) (by kernel_rfl) rfl (by rfl) (fun K hK => ?_)
  refine append_wpIn (fun _ => trivial) (.tmp 51) (.tmp 54) 100 104 (.agg #[.int .i64 0, .int .i64 0, .int .i64 0, .int .i64 0, .int .i64 0, .bool false, .int .i64 0]) 7 56 rfl Try.underlying100 info104 rfl (by decide) (by decide) w.heap.size (.slice none 0 0) 0 [] (some ⟨Y.heap.size, 0, none⟩) 1 1 [.int .i64 v, .int .i64 0, .int .i64 0, .int .i64 1099511627776, .int .i64 b, .bool false, .int .i64 0] rfl rfl (own_nil _ _ _ _) rfl ((Cells.new Y #[.int .i64 v, .int .i64 0, .int .i64 0, .int .i64 1099511627776, .int .i64 b, .bool false, .int .i64 0] 104 1).below (below_drew (Below.refl _ _))) (by simp [Value.oneCell']) (by decide) ?base ?_
  case base => have := HB2.out.size; (try simp); omega
  intro v7 w7 hA
  have hown := hA.own
  rcases hown.2 with ⟨_, h0⟩ | ⟨gB, cap7, cur7, rfl, hbase7, hrow7, hcap7, _, _, hcur7⟩
  · exact absurd h0 (by decide)
  have hp7 := blk_grown (pw_blk_below HLE2.out hX7) hA.grown (by simp [Value.ownBlock])
  have hfz : w7.frozen? ⟨Bg, 1, none⟩ = false := blk_frozen hp7 1
  have hcl7 : w7.cell? ⟨Bg, 1, none⟩ = some (.slice none 0 0) := blk_cell hp7 1
  clear hown
  refine hK.out _ _ (fun h => absurd (by decide) h) ?_
  clear hK K
  try simp only [Act.put, List.setIfInBounds_toArray, List.set_cons_zero, List.set_cons_succ]
  refine anyHT_pure (fun _ => trivial) (by kernel_rfl) (i := 9) (oi := { dst := some 56, op := Op.nilCheck (Operand.tmp 47), type := 0, pos := "stream.go:139", after := #[{ on := 0, ground := Ground.data }, { on := 0, ground := Ground.phase }, { on := 1, ground := Ground.phase }, { on := 2, ground := Ground.phase }, { on := 3, ground := Ground.phase }, { on := 4, ground := Ground.phase }, { on := 5, ground := Ground.phase }, { on := 6, ground := Ground.phase }, { on := 7, ground := Ground.phase }, { on := 8, ground := Ground.phase }], guard := none }) (v := ?_) rfl (by kernel_rfl) (by kernel_rfl) (by kernel_rfl) (fun _ _ _ h => h) (Or.inl ⟨by rfl, ?_⟩) ?_
  rotate_left
  · (intro w _; go_simp <;> with_reducible rfl)
  try simp only [Act.put, List.setIfInBounds_toArray, List.set_cons_zero, List.set_cons_succ]
  refine anyHT_pure (fun _ => trivial) (by kernel_rfl) (i := 10) (oi := { dst := some 57, op := Op.fieldAddr 102 (Operand.tmp 56) 1, type := 0, pos := "stream.go:139", after := #[{ on := 9, ground := Ground.data }, { on := 0, ground := Ground.phase }, { on := 1, ground := Ground.phase }, { on := 2, ground := Ground.phase }, { on := 3, ground := Ground.phase }, { on := 4, ground := Ground.phase }, { on := 5, ground := Ground.phase }, { on := 6, ground := Ground.phase }, { on := 7, ground := Ground.phase }, { on := 8, ground := Ground.phase }], guard := none }) (v := ?_) rfl (by kernel_rfl) (by kernel_rfl) (by kernel_rfl) (fun _ _ _ h => h) (Or.inl ⟨by rfl, ?_⟩) ?_
  rotate_left
  · (intro w _; go_simp <;> with_reducible rfl)
  try simp only [Act.put, List.setIfInBounds_toArray, List.set_cons_zero, List.set_cons_succ]
  refine anyHT_one (i := 11) (o := { dst := none, op := Op.store 100 (Operand.tmp 57) (Operand.tmp 55), type := 0, pos := "stream.go:139", after := #[{ on := 10, ground := Ground.data }, { on := 8, ground := Ground.data }, { on := 8, ground := Ground.chain }, { on := 0, ground := Ground.phase }, { on := 1, ground := Ground.phase }, { on := 2, ground := Ground.phase }, { on := 3, ground := Ground.phase }, { on := 4, ground := Ground.phase }, { on := 5, ground := Ground.phase }, { on := 6, ground := Ground.phase }, { on := 7, ground := Ground.phase }, { on := 8, ground := Ground.phase }], guard := none }) (by kernel_rfl) rfl (by rfl) (fun K hK => ?_)
  go_simp
  refine hK.out _ _ (fun h => absurd (by decide) h) ?_
  clear hK K
  try simp only [Act.put, List.setIfInBounds_toArray, List.set_cons_zero, List.set_cons_succ]
  refine anyHT_done (by kernel_rfl) ?_ _
  have HZ : Aside0 (LedAt (newCls cls w.heap.size 3) (w7.setCell ⟨Bg, 1, none⟩ (.slice (some ⟨gB, 0, none⟩) 1 cap7)) Bg ⟨v, b, 0⟩ ∧ Keeps (fun b => b ≠ Bg) w (w7.setCell ⟨Bg, 1, none⟩ (.slice (some ⟨gB, 0, none⟩) 1 cap7))) := ⟨by
    have hsz : w.heap.size ≤ gB := hbase7
    refine ⟨⟨gB, cap7, cur7.toList.drop 7, blk_put hp7 1 _ rfl, ?_, hcap7, by rw [newCls_old _ _ _ _ hlt]; exact hcl, newCls_new _ _ _ hsz⟩, ?_⟩
    · refine blk_far ?_ (p := ⟨Bg, 1, none⟩) (by dsimp only; omega) _
      have hcur : cur7 = (grantRow ⟨v, b, 0⟩ (cur7.toList.drop 7)).toArray := by
        have h1 : cur7 = (cur7.toList.take 7 ++ cur7.toList.drop 7).toArray := by rw [List.take_append_drop]
        have h2 : cur7.toList.take 7 = [.int .i64 v, .int .i64 0, .int .i64 0, .int .i64 1099511627776, .int .i64 b, .bool false, .int .i64 0] := hcur7
        rw [h2] at h1
        exact h1
      rw [← hcur]
      exact hrow7
    · exact (((Keeps.of_below HB2.out).trans (.of_below hX7)).grown hA.grown (fun k e => by simp [Value.ownBlock] at e)).setCell (fun _ h => h rfl) _⟩
  have hpz := blk_put hp7 1 (.slice (some ⟨gB, 0, none⟩) 1 cap7) rfl
  have y0 : (w7.setCell ⟨Bg, 1, none⟩ (.slice (some ⟨gB, 0, none⟩) 1 cap7)).cell? ⟨Bg, 1, none⟩ = some (.slice (some ⟨gB, 0, none⟩) 1 cap7) := blk_cell hpz 1
  clear hp7 hA hX7 hfz hcl7 hHeld hpz hrow7 hcur7
  go_wp2
  go_ret2
  exact ⟨rfl, HZ.out.1, HZ.out.2⟩

set_option maxHeartbeats 2000000 in
theorem newList_ok (w : World) : Calls Try.prog 40 #[] w fun e w' => e = .returned (.pointer (some ⟨w.heap.size + 1, 0, none⟩)) ∧ w'.heap[w.heap.size]? = some (.cells (rootCells w.heap.size w.heap.size) 141) ∧ w'.heap[w.heap.size + 1]? = some (.cells #[.pointer (some ⟨w.heap.size, 0, none⟩), .int .i64 0] 115) ∧ w'.heap.size = w.heap.size + 2 ∧ Below w.heap.size w w' := by
  go_enter Try.func40, Try.ntmps40
  go_wp2
  go_ret
  exact ⟨rfl, blk_alloc (blk_new w _) _, blk_new' (by simp) _, by simp, below_alloc (below_alloc (Below.refl _ _) _) _⟩

set_option maxHeartbeats 4000000 in
/-- A new speaker. -/
theorem New_ok (cls : Nat → Nat) (k : Nat) (w : World) (Bg : Nat) (g : Gr) (hL : LedAt cls w Bg g) :
    Calls Try.prog 18 #[.pointer (some ⟨Bg, 0, none⟩)] w fun e w' => ∃ Bs Bl Br, e = .returned (.tuple #[.pointer (some ⟨Bs, 0, none⟩), .int .i64 0]) ∧ SpAt (newCls cls w.heap.size k) k w' Bs Bl Br Bg ⟨[], 0, 1, 1, 0, none, false⟩ ∧ Below w.heap.size w w' := by
  obtain ⟨Ba, c, rest, hI⟩ := hL
  have HR := Aside0.mk (ready_led Bg w hI.le rfl)
  clear hI
  go_enter Try.func18, Try.ntmps18
  go_wp2_with fail
  refine HR.out.mono ?_
  rintro e w1 ⟨rfl, q1, rfl⟩
  go_wp2_with fail
  refine (newList_ok _).mono ?_
  rintro e w2 ⟨rfl, h1, h2, h3, h4⟩
  have hB := below_trans' (pw_below_drewN (Below.refl w.heap.size w) q1) h4
  have hsz : w.heap.size + 2 = w2.heap.size := h3.symm
  have hZ : Aside0 (SpAt (newCls cls w.heap.size k) k (w2.alloc (.cells #[.iface 49 (.pointer (some ⟨Bg, 0, none⟩)), .pointer (some ⟨w.heap.size + 1, 0, none⟩), .int .i64 0, .int .i64 1, .int .i64 1, .int .i64 0, .int .i64 0, .pointer none, .int .i64 0, .bool false] 111)) w2.heap.size (w.heap.size + 1) w.heap.size Bg ⟨[], 0, 1, 1, 0, none, false⟩) :=
    ⟨⟨[], .pointer none, 0, blk_new w2 _, blk_alloc h2 _, blk_alloc h1 _, trivial, trivial, by simp, by simp, ⟨newCls_new _ _ _ (by omega), newCls_new _ _ _ (by omega), newCls_new _ _ _ (Nat.le_refl _), fun n hn => by simp at hn⟩, trivial⟩⟩
  have HB := Aside0.mk (below_trans' hB (below_alloc (Below.refl _ _) (.cells #[.iface 49 (.pointer (some ⟨Bg, 0, none⟩)), .pointer (some ⟨w.heap.size + 1, 0, none⟩), .int .i64 0, .int .i64 1, .int .i64 1, .int .i64 0, .int .i64 0, .pointer none, .int .i64 0, .bool false] 111)))
  clear h1 h2 h3 h4 hB hsz
  go_wp2
  go_ret2
  exact ⟨_, _, _, rfl, hZ.out, HB.out⟩

set_option maxHeartbeats 4000000 in
/-- The pace is set. -/
theorem Pace_ok (cls : Nat → Nat) (k : Nat) (w : World) (Bs Bl Br Bg : Nat) (s : Sp) (num den : Int) (hS : SpAt cls k w Bs Bl Br Bg s) (hnum : 1 ≤ num ∧ num ≤ 8) (hden : 1 ≤ den ∧ den ≤ 8) :
    Calls Try.prog 37 #[.pointer (some ⟨Bs, 0, none⟩), .agg #[.int .i64 num, .int .i64 den]] w fun e w' => e = .returned (.int .i64 0) ∧ SpAt cls k w' Bs Bl Br Bg { s with pn := num, pd := den } ∧ Keeps (fun b => b ≠ Bs) w w' ∧ (∀ b, b < w.heap.size → b ≠ Bs → w'.heap[b]? = w.heap[b]?) := by
  obtain ⟨nodes, nowv, said, hsp⟩ := hS
  have HR := Aside0.mk (fun W (hb : Below w.heap.size w W) => ready_sp Bs Bl W (pw_blk_below hsp.sp hb) rfl)
  have HP := Aside0.mk (fun (W : World) => pace_ok num den W hnum hden)
  have hB0 : Below w.heap.size w (w.alloc (.cells #[.int .i64 num, .int .i64 den] 38)) := below_alloc (Below.refl _ _) _
  have hg0 : (w.alloc (.cells #[.int .i64 num, .int .i64 den] 38)).heap[w.heap.size]? = some (.cells #[.int .i64 num, .int .i64 den] 38) := blk_new w _
  have HB0 := Aside0.mk hB0
  have HG0 := Aside0.mk hg0
  have HSP := Aside0.mk hsp
  clear hB0 hg0 hsp hnum hden
  go_enter Try.func37, Try.ntmps37
  go_wp2_with fail
  refine (HR.out _ HB0.out).mono ?_
  rintro e w1 ⟨rfl, q1, rfl⟩
  have hB1 := pw_below_drewN HB0.out q1
  have hg1 := blk_drewN HG0.out q1
  generalize ((w.alloc (.cells #[.int .i64 num, .int .i64 den] 38)).drewN q1) = X at *
  have c0 : X.cell? ⟨w.heap.size, 0, none⟩ = some (.int .i64 num) := blk_cell hg1 0
  have c1 : X.cell? ⟨w.heap.size, 1, none⟩ = some (.int .i64 den) := blk_cell hg1 1
  have HB1 := Aside0.mk hB1
  have HG1 := Aside0.mk hg1
  clear hB1 hg1 HB0 HG0
  go_wp2_with fail
  refine (HP.out _).mono ?_
  rintro e w2 ⟨rfl, hb2⟩
  have hB2 := below_trans' HB1.out hb2
  have hg2 := pw_blk_below HG1.out hb2
  have hs2 := HSP.out.moved (W' := w2) (fun b _ hl => hB2.block b hl)
  have d0 : w2.cell? ⟨w.heap.size, 0, none⟩ = some (.int .i64 num) := blk_cell hg2 0
  have d1 : w2.cell? ⟨w.heap.size, 1, none⟩ = some (.int .i64 den) := blk_cell hg2 1
  have e0 : w2.cell? ⟨Bs, 3, none⟩ = some (.int .i64 s.pn) := blk_cell hs2.sp 3
  have e1 : w2.cell? ⟨Bs, 4, none⟩ = some (.int .i64 s.pd) := blk_cell hs2.sp 4
  have e2 : w2.frozen? ⟨Bs, 3, none⟩ = false := blk_frozen hs2.sp 3
  have e3 : w2.frozen? ⟨Bs, 4, none⟩ = false := blk_frozen hs2.sp 4
  have HZ : Aside0 (SpAt cls k ((w2.setCell ⟨Bs, 3, none⟩ (.int .i64 num)).setCell ⟨Bs, 4, none⟩ (.int .i64 den)) Bs Bl Br Bg { s with pn := num, pd := den } ∧ Keeps (fun b => b ≠ Bs) w ((w2.setCell ⟨Bs, 3, none⟩ (.int .i64 num)).setCell ⟨Bs, 4, none⟩ (.int .i64 den)) ∧
      (∀ b, b < w.heap.size → b ≠ Bs → ((w2.setCell ⟨Bs, 3, none⟩ (.int .i64 num)).setCell ⟨Bs, 4, none⟩ (.int .i64 den)).heap[b]? = w.heap[b]?)) := ⟨by
    refine ⟨⟨nodes, nowv, said, hs2.spk (s' := { s with pn := num, pd := den }) (blk_put (blk_put hs2.sp 3 (.int .i64 num) rfl) 4 (.int .i64 den) rfl) (fun b hb => ?_) rfl hs2.cur⟩, ?_, fun b hl hb => ?_⟩
    · rw [Below.heap_setCell _ _ _ _ hb, Below.heap_setCell _ _ _ _ hb]
    · exact ((Keeps.of_below hB2).setCell (a := ⟨Bs, 3, none⟩) (fun _ h => h rfl) _).setCell (a := ⟨Bs, 4, none⟩) (fun _ h => h rfl) _
    · rw [Below.heap_setCell _ _ _ _ hb, Below.heap_setCell _ _ _ _ hb]
      exact hB2.block b hl⟩
  clear c0 c1 hb2 hB2 hg2 hs2 HB1 HG1 HSP HR HP
  go_wp2
  go_ret
  exact ⟨rfl, HZ.out.1, HZ.out.2.1, HZ.out.2.2⟩
end Go.Proofs.Ytoodagohkepcpaa
