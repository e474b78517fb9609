/- The iterator over the periods of a marked wave. -/
import Derived.Test.YtoodagohkepcpaaA7
namespace Go.Proofs.Ytoodagohkepcpaa
open Go.RowKit Go.Shelf Go.Proofs.YtoodagohkepcpaaW.PrintWords

def encP (A : Option Addr) (x : Int × Int) : Value := .slice (A.map (·.add x.1.toNat)) (x.2.toNat - x.1.toNat) (x.2.toNat - x.1.toNat)
def encPs (A : Option Addr) (x : Int × Int) : Array Value := #[encP A x]
def pairsTo (ms : List Int) (k : Nat) : List (Int × Int) := (List.range k).map (fun i : Nat => (rd ms (i : Int), rd ms ((i : Int) + 1)))
def pairs (ms : List Int) : List (Int × Int) := pairsTo ms (ms.length - 1)
theorem pairsTo_succ (ms : List Int) (k : Nat) : pairsTo ms (k + 1) = pairsTo ms k ++ [(rd ms (k : Int), rd ms ((k : Int) + 1))] := by simp [pairsTo, List.range_succ]
theorem pairsTo_le (ms : List Int) {k m : Nat} (h : k ≤ m) : pairsTo ms k <+: pairsTo ms m := by
  induction m with
  | zero => obtain rfl : k = 0 := by omega
            exact List.prefix_refl _
  | succ m ih =>
    rcases Nat.lt_or_ge m k with hk | hk
    · obtain rfl : k = m + 1 := by omega
      exact List.prefix_refl _
    · rw [pairsTo_succ]
      exact (ih hk).trans (List.prefix_append _ _)
theorem cut3 {A : Option Addr} {c n : Nat} {a b : Int} (h0 : 0 ≤ a) (h1 : a < b) (h2 : b ≤ c) : ∀ W : World, (Instr.slice 22 (.slice A n c) (some (.int .i64 a)) (some (.int .i64 b)) (some (.int .i64 b))).run Try.prog W = .ok (encP A (a, b)) W := by
  intro W
  obtain ⟨i, hi, hz⟩ := Option.map_eq_some_iff.1 info3
  simp only [Prod.mk.injEq] at hz
  have hel : Try.prog.elem 22 = 3 := by simp [Program.elem, Try.underlying22]
  have hu : Try.prog.underlying 22 = some (.slice (Try.prog.elem 22)) := by rw [hel]; exact Try.underlying22
  rw [run_slice_lhm W 22 A n c hu .i64 .i64 .i64 a b b h0 (by omega) (by omega) h2, hel]
  simp [sizeOf, typeInfo, hi, hz.2.1, sliced, Result.andThen, encP]
  intro h; omega

attribute [local go_sem] Oper.semAt_some
set_option maxRecDepth 100000 in
set_option maxHeartbeats 4000000 in
theorem periods1_in (n : Nat) (hn : 1 ≤ n) (l Bm : Nat) (kp : Nat → Prop) (A0 A1 : Option Addr) (c0 c1 : Nat) (xs ms : List Int) (hc : xs.length ≤ c0)
    (hk : okMarks xs.length ms) (hbm : kp Bm)
    (J Jx : List (Int × Int) → World → Prop) (hJd : ∀ s W m, J s W → J s (W.drewN m))
    (hY : ∀ pre x W, J pre W → pre ++ [x] <+: pairs ms → YieldAt Fence.wide (n - 1) Try.prog l (encPs A0 x) W fun e W' =>
      (e = .returned (.bool true) ∧ J (pre ++ [x]) W' ∧ Keeps kp W W') ∨ (e = .returned (.bool false) ∧ Jx (pre ++ [x]) W'))
    (W : World) (h24 : W.heap[Bm]? = some (.cells #[.slice A0 xs.length c0, .slice A1 ms.length c1] 24))
    (h1 : Kd.C (Kd.int .i64) W A1 ms.length ms) (h1b : ∀ ad, A1 = some ad → 0 < ms.length → kp ad.block) (h0 : J [] W) :
    CallsIn Fence.wide n Try.prog 72 #[.func (.yield l) #[] #[], .pointer (some ⟨Bm, 0, none⟩)] W (ItPost (pairs ms) J Jx) := by
  have hml : ms.length ≤ 9223372036854775807 := h1.2.1
  have H1 := Aside0.mk h1
  have H1B := Aside0.mk h1b
  have HK := Aside0.mk hk
  have HC := Aside0.mk hc
  have hm2 : 2 ≤ ms.length := hk.1
  have hc0 : W.cell? ⟨Bm, 0, none⟩ = some (.slice A0 xs.length c0) := blk_cell h24 0
  have hc1 : W.cell? ⟨Bm, 1, none⟩ = some (.slice A1 ms.length c1) := blk_cell h24 1
  clear h1 h1b h24 hk hc
  refine callsIn_of_wp Try.func72 rfl trivial ?_ rfl
  simp only [Try.ntmps72, List.size_toArray, List.length_cons, List.length_nil, Nat.reduceAdd, Nat.reduceSub, Array.replicate_succ, Array.replicate_zero, List.push_toArray, List.append_toArray, List.nil_append, List.cons_append]
  gi_wp2
  gi_loopw [3] (fun i wr => ∃ kk : Nat, 1 ≤ kk ∧ kk ≤ ms.length ∧ i = .int .i64 kk ∧ Aside0 (J (pairsTo ms (kk - 1)) wr) ∧ Aside0 (Keeps kp W wr)) (fun i _ => ms.length - (intOf i).toNat)
  case atStart => exact ⟨1, by omega, by omega, rfl, ⟨by simpa [pairsTo] using h0⟩, ⟨Keeps.refl _ _⟩⟩
  case round =>
    obtain ⟨kk, hk1, hkk, rfl, HJ, HB⟩ := hrel
    replace hc0 := HB.out.cellOf hbm hc0
    replace hc1 := HB.out.cellOf hbm hc1
    by_cases hlt : kk < ms.length
    · have hltz : (kk : Int) < (ms.length : Int) := by omega
      obtain ⟨p1, p2, p3⟩ := HK.out.2 kk hlt
      have p3 := p3 (by omega)
      obtain ⟨ad, rfl, hcell⟩ := Kd.at_int H1.out (kk : Int) (by omega) (by omega)
      obtain ⟨ad', e', hcell'⟩ := Kd.at_int H1.out ((kk : Int) - 1) (by omega) (by omega)
      cases e'
      rw [Int.toNat_natCast] at hcell
      rw [show ((kk : Int) - 1).toNat = kk - 1 from by omega] at hcell'
      have had : ∀ j, kp (ad.add j).block := fun j => by rw [add_block]; exact H1B.out ad rfl (by omega)
      replace hcell := HB.out.cellOf (had _) hcell
      replace hcell' := HB.out.cellOf (had _) hcell'
      obtain ⟨q1, q2, _⟩ := HK.out.2 (kk - 1) (by omega)
      rw [show ((kk - 1 : Nat) : Int) = (kk : Int) - 1 from by omega] at q1 q2
      have hsnoc0 : pairsTo ms (kk - 1) ++ [(rd ms ((kk : Int) - 1), rd ms (kk : Int))] = pairsTo ms kk := by
        have := pairsTo_succ ms (kk - 1)
        rw [show kk - 1 + 1 = kk from by omega, show ((kk - 1 : Nat) : Int) = (kk : Int) - 1 from by omega, show (kk : Int) - 1 + 1 = (kk : Int) from by omega] at this
        exact this.symm
      have hk1z : (1 : Int) ≤ (kk : Int) := by omega
      have hn0 : (0 : Int) ≤ (kk : Int) - 1 := by omega
      have hn1 : (kk : Int) - 1 < (ms.length : Int) := by omega
      have hw1 : IntKind.i64.wrap ((kk : Int) - 1) = (kk : Int) - 1 := IntWalk.i64_in _ (by omega)
      have hcut := cut3 (A := A0) (c := c0) (n := xs.length) q1 p3 (by have := HC.out; omega)
      generalize rd ms (kk : Int) = b at *
      generalize rd ms ((kk : Int) - 1) = a at *
      have HSN := Aside0.mk hsnoc0
      clear had hsnoc0
      gi_wp2
      refine region_anyHT (fun W' => W'.cell? ⟨Bm, 0, none⟩ = some (.slice A0 xs.length c0) ∧ W'.cell? ⟨Bm, 1, none⟩ = some (.slice (some ad) ms.length c1) ∧ W'.cell? (ad.add (kk - 1)) = some (.int .i64 a) ∧ W'.cell? (ad.add kk) = some (.int .i64 b)) [20, 21] (by kernel_rfl) (⟨hc0, hc1, hcell', hcell⟩) (fun hHeld => ?_)
      refine anyHT_pure (fun _ => trivial) (by kernel_rfl) (i := 0) (oi := { dst := some 11, op := Op.move (Operand.tmp 0), type := 126, pos := "period.go:33", after := #[], guard := none }) (v := ?_) rfl (by kernel_rfl) (by kernel_rfl) (by kernel_rfl) (fun _ _ _ h => h) (Or.inl ⟨by rfl, ?_⟩) ?_
      rotate_left
      · (intro w _; go_simp <;> with_reducible rfl)
      try simp only [Act.put, List.setIfInBounds_toArray, List.set_cons_zero, List.set_cons_succ]
      refine anyHT_pure (fun _ => trivial) (by kernel_rfl) (i := 1) (oi := { dst := some 12, op := Op.fieldAddr 24 (Operand.tmp 1) 0, type := 0, pos := "period.go:33", after := #[], guard := none }) (v := ?_) rfl (by kernel_rfl) (by kernel_rfl) (by kernel_rfl) (fun _ _ _ h => h) (Or.inl ⟨by rfl, ?_⟩) ?_
      rotate_left
      · (intro w _; go_simp <;> with_reducible rfl)
      try simp only [Act.put, List.setIfInBounds_toArray, List.set_cons_zero, List.set_cons_succ]
      refine anyHT_take (fun _ => trivial) (by kernel_rfl) [19, 20, 21] (i := 2) (oi := { dst := some 13, op := Op.load 22 (Operand.tmp 12), type := 22, pos := "period.go:33", after := #[{ on := 1, ground := Ground.data }], guard := none }) (v := ?_) rfl (by kernel_rfl) (by kernel_rfl) (by kernel_rfl) (by kernel_rfl) (by kernel_rfl) (by decide) (fun _ _ _ h => h) (Or.inl ⟨by rfl, ?_⟩) hHeld ?_
      rotate_left
      · (intro w hSw; (try dsimp only at hSw); go_simp <;> with_reducible rfl)
      try simp only [Act.put, List.setIfInBounds_toArray, List.set_cons_zero, List.set_cons_succ]
      refine anyHT_pure (fun _ => trivial) (by kernel_rfl) (i := 3) (oi := { dst := some 14, op := Op.fieldAddr 24 (Operand.tmp 1) 1, type := 0, pos := "period.go:33", after := #[], guard := none }) (v := ?_) rfl (by kernel_rfl) (by kernel_rfl) (by kernel_rfl) (fun _ _ _ h => h) (Or.inl ⟨by rfl, ?_⟩) ?_
      rotate_left
      · (intro w _; go_simp <;> with_reducible rfl)
      try simp only [Act.put, List.setIfInBounds_toArray, List.set_cons_zero, List.set_cons_succ]
      refine anyHT_take (fun _ => trivial) (by kernel_rfl) [7, 8, 19, 20, 21] (i := 4) (oi := { dst := some 15, op := Op.load 22 (Operand.tmp 14), type := 22, pos := "period.go:33", after := #[{ on := 3, ground := Ground.data }], guard := none }) (v := ?_) rfl (by kernel_rfl) (by kernel_rfl) (by kernel_rfl) (by kernel_rfl) (by kernel_rfl) (by decide) (fun _ _ _ h => h) (Or.inl ⟨by rfl, ?_⟩) hHeld ?_
      rotate_left
      · (intro w hSw; (try dsimp only at hSw); go_simp <;> with_reducible rfl)
      try simp only [Act.put, List.setIfInBounds_toArray, List.set_cons_zero, List.set_cons_succ]
      refine anyHT_pure (fun _ => trivial) (by kernel_rfl) (i := 5) (oi := { dst := some 16, op := Op.move (Operand.tmp 3), type := 3, pos := "period.go:33", after := #[], guard := none }) (v := ?_) rfl (by kernel_rfl) (by kernel_rfl) (by kernel_rfl) (fun _ _ _ h => h) (Or.inl ⟨by rfl, ?_⟩) ?_
      rotate_left
      · (intro w _; go_simp <;> with_reducible rfl)
      try simp only [Act.put, List.setIfInBounds_toArray, List.set_cons_zero, List.set_cons_succ]
      refine anyHT_pure (fun _ => trivial) (by kernel_rfl) (i := 6) (oi := { dst := some 17, op := Op.binOp BinOp.sub 3 (Operand.tmp 16) (Operand.const (Value.int IntKind.i64 1)) 3, type := 3, pos := "period.go:33", after := #[{ on := 5, ground := Ground.data }], guard := none }) (v := ?_) rfl (by kernel_rfl) (by kernel_rfl) (by kernel_rfl) (fun _ _ _ h => h) (Or.inl ⟨by rfl, ?_⟩) ?_
      rotate_left
      · (intro w _; go_simp <;> with_reducible rfl)
      try simp only [Act.put, List.setIfInBounds_toArray, List.set_cons_zero, List.set_cons_succ]
      refine anyHT_pure (fun _ => trivial) (by kernel_rfl) (i := 7) (oi := { dst := some 18, op := Op.indexAddr 22 (Operand.tmp 15) (Operand.tmp 17), type := 0, pos := "period.go:33", after := #[{ on := 4, ground := Ground.data }, { on := 6, ground := Ground.data }], guard := none }) (v := ?_) rfl (by kernel_rfl) (by kernel_rfl) (by kernel_rfl) (fun _ _ _ h => h) (Or.inl ⟨by rfl, ?_⟩) ?_
      rotate_left
      · (intro w _; go_simp <;> with_reducible rfl)
      try simp only [Act.put, List.setIfInBounds_toArray, List.set_cons_zero, List.set_cons_succ]
      refine anyHT_take (fun _ => trivial) (by kernel_rfl) [19, 20, 21] (i := 8) (oi := { dst := some 19, op := Op.load 3 (Operand.tmp 18), type := 3, pos := "period.go:33", after := #[{ on := 7, ground := Ground.data }], guard := none }) (v := ?_) rfl (by kernel_rfl) (by kernel_rfl) (by kernel_rfl) (by kernel_rfl) (by kernel_rfl) (by decide) (fun _ _ _ h => h) (Or.inl ⟨by rfl, ?_⟩) hHeld ?_
      rotate_left
      · (intro w hSw; (try dsimp only at hSw); go_simp <;> with_reducible rfl)
      try simp only [Act.put, List.setIfInBounds_toArray, List.set_cons_zero, List.set_cons_succ]
      refine anyHT_pure (fun _ => trivial) (by kernel_rfl) (i := 9) (oi := { dst := some 20, op := Op.fieldAddr 24 (Operand.tmp 1) 1, type := 0, pos := "period.go:33", after := #[], guard := none }) (v := ?_) rfl (by kernel_rfl) (by kernel_rfl) (by kernel_rfl) (fun _ _ _ h => h) (Or.inl ⟨by rfl, ?_⟩) ?_
      rotate_left
      · (intro w _; go_simp <;> with_reducible rfl)
      try simp only [Act.put, List.setIfInBounds_toArray, List.set_cons_zero, List.set_cons_succ]
      refine anyHT_take (fun _ => trivial) (by kernel_rfl) [12, 13, 19, 20, 21] (i := 10) (oi := { dst := some 21, op := Op.load 22 (Operand.tmp 20), type := 22, pos := "period.go:33", after := #[{ on := 9, ground := Ground.data }], guard := none }) (v := ?_) rfl (by kernel_rfl) (by kernel_rfl) (by kernel_rfl) (by kernel_rfl) (by kernel_rfl) (by decide) (fun _ _ _ h => h) (Or.inl ⟨by rfl, ?_⟩) hHeld ?_
      rotate_left
      · (intro w hSw; (try dsimp only at hSw); go_simp <;> with_reducible rfl)
      try simp only [Act.put, List.setIfInBounds_toArray, List.set_cons_zero, List.set_cons_succ]
      refine anyHT_pure (fun _ => trivial) (by kernel_rfl) (i := 11) (oi := { dst := some 22, op := Op.move (Operand.tmp 3), type := 3, pos := "period.go:33", after := #[], guard := none }) (v := ?_) rfl (by kernel_rfl) (by kernel_rfl) (by kernel_rfl) (fun _ _ _ h => h) (Or.inl ⟨by rfl, ?_⟩) ?_
      rotate_left
      · (intro w _; go_simp <;> with_reducible rfl)
      try simp only [Act.put, List.setIfInBounds_toArray, List.set_cons_zero, List.set_cons_succ]
      refine anyHT_pure (fun _ => trivial) (by kernel_rfl) (i := 12) (oi := { dst := some 23, op := Op.indexAddr 22 (Operand.tmp 21) (Operand.tmp 22), type := 0, pos := "period.go:33", after := #[{ on := 10, ground := Ground.data }, { on := 11, ground := Ground.data }], guard := none }) (v := ?_) rfl (by kernel_rfl) (by kernel_rfl) (by kernel_rfl) (fun _ _ _ h => h) (Or.inl ⟨by rfl, ?_⟩) ?_
      rotate_left
      · (intro w _; go_simp <;> with_reducible rfl)
      try simp only [Act.put, List.setIfInBounds_toArray, List.set_cons_zero, List.set_cons_succ]
      refine anyHT_take (fun _ => trivial) (by kernel_rfl) [19, 20, 21] (i := 13) (oi := { dst := some 24, op := Op.load 3 (Operand.tmp 23), type := 3, pos := "period.go:33", after := #[{ on := 12, ground := Ground.data }], guard := none }) (v := ?_) rfl (by kernel_rfl) (by kernel_rfl) (by kernel_rfl) (by kernel_rfl) (by kernel_rfl) (by decide) (fun _ _ _ h => h) (Or.inl ⟨by rfl, ?_⟩) hHeld ?_
      rotate_left
      · (intro w hSw; (try dsimp only at hSw); go_simp <;> with_reducible rfl)
      try simp only [Act.put, List.setIfInBounds_toArray, List.set_cons_zero, List.set_cons_succ]
      refine anyHT_pure (fun _ => trivial) (by kernel_rfl) (i := 14) (oi := { dst := some 25, op := Op.fieldAddr 24 (Operand.tmp 1) 1, type := 0, pos := "period.go:33", after := #[], guard := none }) (v := ?_) rfl (by kernel_rfl) (by kernel_rfl) (by kernel_rfl) (fun _ _ _ h => h) (Or.inl ⟨by rfl, ?_⟩) ?_
      rotate_left
      · (intro w _; go_simp <;> with_reducible rfl)
      try simp only [Act.put, List.setIfInBounds_toArray, List.set_cons_zero, List.set_cons_succ]
      refine anyHT_take (fun _ => trivial) (by kernel_rfl) [17, 18, 19, 20, 21] (i := 15) (oi := { dst := some 26, op := Op.load 22 (Operand.tmp 25), type := 22, pos := "period.go:33", after := #[{ on := 14, ground := Ground.data }], guard := none }) (v := ?_) rfl (by kernel_rfl) (by kernel_rfl) (by kernel_rfl) (by kernel_rfl) (by kernel_rfl) (by decide) (fun _ _ _ h => h) (Or.inl ⟨by rfl, ?_⟩) hHeld ?_
      rotate_left
      · (intro w hSw; (try dsimp only at hSw); go_simp <;> with_reducible rfl)
      try simp only [Act.put, List.setIfInBounds_toArray, List.set_cons_zero, List.set_cons_succ]
      refine anyHT_pure (fun _ => trivial) (by kernel_rfl) (i := 16) (oi := { dst := some 27, op := Op.move (Operand.tmp 3), type := 3, pos := "period.go:33", after := #[], guard := none }) (v := ?_) rfl (by kernel_rfl) (by kernel_rfl) (by kernel_rfl) (fun _ _ _ h => h) (Or.inl ⟨by rfl, ?_⟩) ?_
      rotate_left
      · (intro w _; go_simp <;> with_reducible rfl)
      try simp only [Act.put, List.setIfInBounds_toArray, List.set_cons_zero, List.set_cons_succ]
      refine anyHT_pure (fun _ => trivial) (by kernel_rfl) (i := 17) (oi := { dst := some 28, op := Op.indexAddr 22 (Operand.tmp 26) (Operand.tmp 27), type := 0, pos := "period.go:33", after := #[{ on := 15, ground := Ground.data }, { on := 16, ground := Ground.data }], guard := none }) (v := ?_) rfl (by kernel_rfl) (by kernel_rfl) (by kernel_rfl) (fun _ _ _ h => h) (Or.inl ⟨by rfl, ?_⟩) ?_
      rotate_left
      · (intro w _; go_simp <;> with_reducible rfl)
      try simp only [Act.put, List.setIfInBounds_toArray, List.set_cons_zero, List.set_cons_succ]
      refine anyHT_take (fun _ => trivial) (by kernel_rfl) [19, 20, 21] (i := 18) (oi := { dst := some 29, op := Op.load 3 (Operand.tmp 28), type := 3, pos := "period.go:33", after := #[{ on := 17, ground := Ground.data }], guard := none }) (v := ?_) rfl (by kernel_rfl) (by kernel_rfl) (by kernel_rfl) (by kernel_rfl) (by kernel_rfl) (by decide) (fun _ _ _ h => h) (Or.inl ⟨by rfl, ?_⟩) hHeld ?_
      rotate_left
      · (intro w hSw; (try dsimp only at hSw); go_simp <;> with_reducible rfl)
      try simp only [Act.put, List.setIfInBounds_toArray, List.set_cons_zero, List.set_cons_succ]
      refine anyHT_pure (fun _ => trivial) (by kernel_rfl) (i := 19) (oi := { dst := some 30, op := Op.slice 22 (Operand.tmp 13) (some (Operand.tmp 19)) (some (Operand.tmp 24)) (some (Operand.tmp 29)), type := 22, pos := "period.go:33", after := #[{ on := 2, ground := Ground.data }, { on := 8, ground := Ground.data }, { on := 13, ground := Ground.data }, { on := 18, ground := Ground.data }], guard := none }) (v := ?_) rfl (by kernel_rfl) (by kernel_rfl) (by kernel_rfl) (fun _ _ _ h => h) (Or.inl ⟨by rfl, ?_⟩) ?_
      rotate_left
      · (intro w _; go_simp <;> with_reducible rfl)
      try simp only [Act.put, List.setIfInBounds_toArray, List.set_cons_zero, List.set_cons_succ]
      refine anyHT_one (i := 20) (o := { dst := some 31, op := Op.call { callee := Callee.value (Operand.tmp 11), args := #[Operand.tmp 30], argTypes := #[22] }, type := 4, pos := "period.go:33", after := #[{ on := 0, ground := Ground.data }, { on := 19, ground := Ground.data }], guard := none }) (by kernel_rfl) rfl (by rfl) (fun K hK => ?_)
      obtain ⟨fn, tmps, assign, body, hy, hR⟩ := hY (pairsTo ms (kk - 1)) (a, b) wr.drew (hJd _ wr 1 HJ.out) (by rw [HSN.out]; exact pairsTo_le ms (by omega))
      simp only [encPs] at hy
      go_simp
      refine hR.mono ?_
      clear hy hR
      rintro e W2 (⟨rfl, hj, hk⟩ | ⟨rfl, hjx⟩)
      · refine hK.out _ _ (fun h => absurd (by decide) h) ?_
        clear hK K
        try simp only [Act.put, List.setIfInBounds_toArray, List.set_cons_zero, List.set_cons_succ]
        refine anyHT_pure (fun _ => trivial) (by kernel_rfl) (i := 21) (oi := { dst := some 32, op := Op.unOp UnOp.not 4 (Operand.tmp 31), type := 4, pos := "period.go:33", after := #[{ on := 20, ground := Ground.data }], guard := none }) (v := ?_) rfl (by kernel_rfl) (by kernel_rfl) (by kernel_rfl) (fun _ _ _ h => h) (Or.inl ⟨by rfl, ?_⟩) ?_
        rotate_left
        · (intro w _; go_simp <;> with_reducible rfl)
        try simp only [Act.put, List.setIfInBounds_toArray, List.set_cons_zero, List.set_cons_succ]
        refine anyHT_done (by kernel_rfl) ?_ _
        rw [HSN.out] at hj
        have HJ2 := Aside0.mk hj
        have HK2 := Aside0.mk (HB.out.trans ((Keeps.of_below (below_drew (Below.refl wr.heap.size wr))).trans hk))
        clear hj hk HB HJ
        gi_wp2
        go_roundw
        case rel => exact ⟨kk + 1, by omega, by omega, by go_num, HJ2, HK2⟩
        case measure => simp [intOf]; omega
      · refine hK.out _ _ (fun h => absurd (by decide) h) ?_
        clear hK K
        try simp only [Act.put, List.setIfInBounds_toArray, List.set_cons_zero, List.set_cons_succ]
        refine anyHT_pure (fun _ => trivial) (by kernel_rfl) (i := 21) (oi := { dst := some 32, op := Op.unOp UnOp.not 4 (Operand.tmp 31), type := 4, pos := "period.go:33", after := #[{ on := 20, ground := Ground.data }], guard := none }) (v := ?_) rfl (by kernel_rfl) (by kernel_rfl) (by kernel_rfl) (fun _ _ _ h => h) (Or.inl ⟨by rfl, ?_⟩) ?_
        rotate_left
        · (intro w _; go_simp <;> with_reducible rfl)
        try simp only [Act.put, List.setIfInBounds_toArray, List.set_cons_zero, List.set_cons_succ]
        refine anyHT_done (by kernel_rfl) ?_ _
        gi_wp2
        refine bodyPost_ret (results_none rfl _ _ _) rfl ?_
        exact ⟨⟨_, rfl⟩, .inr ⟨_, trivial, hjx⟩⟩
    · have hltz : ¬ (kk : Int) < (ms.length : Int) := by omega
      obtain rfl : kk = ms.length := by omega
      gi_wp2
      go_end0
      exact ⟨⟨_, rfl⟩, Or.inl ⟨_, rfl, HJ.out⟩⟩
end Go.Proofs.Ytoodagohkepcpaa
