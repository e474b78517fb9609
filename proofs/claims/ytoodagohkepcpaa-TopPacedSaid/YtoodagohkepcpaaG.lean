/- append(v, source...), v a row of the call's own, the source a slice that is read (nil let in): the run, the operation, the operation inside a fence. -/
import Derived.Test.YtoodagohkepcpaaF
import Derived.Test.YtoodagohkepcpaaWWords
namespace Go.Proofs.Ytoodagohkepcpaa
open Go.RowKit Go.Proofs.YtoodagohkepcpaaW.PrintWords

/-- The blocks of which `p` speaks lie as they lay. -/
structure Keeps (p : Nat → Prop) (W W' : World) : Prop where
  os : W'.os = W.os
  tape : W'.tape = W.tape
  output : W'.output = W.output
  size : W.heap.size ≤ W'.heap.size
  block : ∀ b, p b → b < W.heap.size → W'.heap[b]? = W.heap[b]?
section
variable {p q : Nat → Prop} {W W' W2 : World}
theorem Keeps.refl (p : Nat → Prop) (W : World) : Keeps p W W := ⟨rfl, rfl, rfl, Nat.le_refl _, fun _ _ _ => rfl⟩
theorem Keeps.trans (h : Keeps p W W') (k : Keeps p W' W2) : Keeps p W W2 :=
  ⟨k.os.trans h.os, k.tape.trans h.tape, k.output.trans h.output, Nat.le_trans h.size k.size, fun b hb hl => (k.block b hb (Nat.lt_of_lt_of_le hl h.size)).trans (h.block b hb hl)⟩
theorem Keeps.mono (h : Keeps p W W') (hq : ∀ b, b < W.heap.size → q b → p b) : Keeps q W W' := ⟨h.os, h.tape, h.output, h.size, fun b hb hl => h.block b (hq b hl hb) hl⟩
theorem Keeps.drewN (h : Keeps p W W') (n : Nat) : Keeps p W (W'.drewN n) := ⟨h.os, h.tape, h.output, h.size, h.block⟩
theorem Keeps.of_below (h : Below W.heap.size W W') : Keeps p W W' := ⟨h.os, h.tape, h.output, h.size, fun b _ hl => h.block b hl⟩
theorem Keeps.below (h : Keeps p W W') {B : Nat} (hB : ∀ b, b < B → p b) (hBW : B ≤ W.heap.size) : Below B W W' := ⟨h.os, h.tape, h.output, h.size, fun b hb => h.block b (hB b hb) (by omega)⟩
theorem Keeps.alloc (h : Keeps p W W') (o : Obj) : Keeps p W (W'.alloc o) := h.trans (.of_below (below_alloc (Below.refl _ _) o))
theorem Keeps.setCell (h : Keeps p W W') {a : Addr} (ha : a.block < W.heap.size → ¬ p a.block) (v : Value) : Keeps p W (W'.setCell a v) :=
  ⟨h.os, h.tape, h.output, by simpa [World.setCell] using h.size, fun b hb hl => (Below.heap_setCell W' a v b (fun e => ha (e ▸ hl) (e ▸ hb))).trans (h.block b hb hl)⟩
theorem Keeps.grown (h : Keeps p W W') {row : Option Nat} (hg : W'.grownBy W2 row) (hr : ∀ k, row = some k → k < W.heap.size → ¬ p k) : Keeps p W W2 :=
  ⟨hg.os.trans h.os, hg.tape.trans h.tape, hg.output.trans h.output, Nat.le_trans h.size hg.size,
    fun b hb hl => (hg.block b (Nat.lt_of_lt_of_le hl h.size) (fun e => hr b e.symm hl hb)).trans (h.block b hb hl)⟩
theorem Keeps.cellOf (h : Keeps p W W') {a : Addr} {v : Value} (hp : p a.block) (hc : W.cell? a = some v) : W'.cell? a = some v :=
  (World.cell?_of_block (h.block a.block hp (World.block_lt_of_cell? W a hc))).trans hc
theorem Keeps.blk (h : Keeps p W W') {b : Nat} {o : Obj} (hp : p b) (hc : W.heap[b]? = some o) : W'.heap[b]? = some o := (h.block b hp (blk_lt hc)).trans hc
end

/-- The cells of a slice that is read. -/
def Cells (w : World) (A : Option Addr) (m : Nat) (news : List Value) : Prop :=
  0 < m → ∃ ad, A = some ad ∧ ∀ j u, news[j]? = some u → w.cell? (ad.add j) = some u

/-- What an append leaves. -/
structure Appended (w w' : World) (base : Nat) (e : TypeId) (size : Nat) (v v' : Value) (n : Nat) (xs : List Value) : Prop where
  own : w'.ownsRow base e size v' n xs
  grown : w.grownBy w' v.ownBlock
  place : v'.ownBlock = v.ownBlock ∨ v'.ownBlock = some w.heap.size

theorem run_append_src {P : Program} (w : World) (base : Nat) (t ty e : TypeId) (z : Value) (size bytes : Nat) (ht : P.underlying t = some (.slice e))
    (hinfo : (P.info? e).map (fun i => (i.zero, i.size, i.bytes)) = some (some z, size, bytes)) (hzs : z.cells.size = size) (hsz : 0 < size) (hb0 : 0 < bytes)
    (v : Value) (n : Nat) (xs : List Value) (hown : w.ownsRow base e size v n xs)
    (A : Option Addr) (m c : Nat) (news : List Value) (hl : news.length = m * size) (hnews : Cells w A m news) (h1 : ∀ u ∈ news, u.oneCell' = true)
    (hbytes : (n + m) * bytes ≤ 140737488355328) (hbase : base ≤ w.heap.size) :
    ∃ v' w', (Builtin.append_ #[t, t] ty #[v, .slice A m c]).run P w = .ok v' w' ∧ Appended w w' base e size v v' (n + m) (xs ++ news) := by
  obtain ⟨i, hi, hzz⟩ := Option.map_eq_some_iff.1 hinfo
  simp only [Prod.mk.injEq] at hzz
  obtain ⟨hz0, hz1, hz2⟩ := hzz
  have hlen : n + m ≤ 140737488355328 := Nat.le_trans (Nat.le_mul_of_pos_right _ hb0) hbytes
  rcases A with _ | ad
  · have h0 : m = 0 := by
      rcases Nat.eq_zero_or_pos m with h0 | h0
      · exact h0
      · obtain ⟨ad, h, _⟩ := hnews h0
        cases h
    subst h0
    obtain rfl : news = [] := List.eq_nil_of_length_eq_zero (by simpa using hl)
    refine ⟨v, w, ?_, ⟨by simpa using hown, World.grownBy.refl w _, .inl rfl⟩⟩
    rcases hown.2 with ⟨rfl, hn⟩ | ⟨g, cap, cur, rfl, _, _, hnc, _⟩
    · simp [Builtin.append_, run_underlying ht, sizeOf, typeInfo, hi, Builtin.lenOf, Builtin.firstCells]
    · simp [Builtin.append_, run_underlying ht, sizeOf, typeInfo, hi, Builtin.lenOf, Builtin.firstCells, hnc, storeCells]
  · have hcells : ∀ j u, news[j]? = some u → w.cell? (ad.add j) = some u := by
      intro j u hu
      have hm : 0 < m := by
        rcases Nat.eq_zero_or_pos m with h0 | h0
        · subst h0
          have : news = [] := List.eq_nil_of_length_eq_zero (by simpa using hl)
          rw [this] at hu; simp at hu
        · exact h0
      obtain ⟨ad', h', hc⟩ := hnews hm
      cases h'
      exact hc j u hu
    obtain ⟨v1, w1, hr, h2, h3, _, h5⟩ := run_append_own_at (P := P) w base t ty e i z size bytes ht hi hz0 hz1 hz2 hzs hsz v n xs hown ad m c news hl hcells h1 (by simp only [maxLen]; omega) hbytes hbase
    exact ⟨v1, w1, hr, h2, h3, h5⟩

section
variable {P : Program} {ops : Array Oper} {rest : List Oper} {o : Oper} {a : Act} {Q : Exit → Act → World → Prop} {K : Act → World → Prop} {F : Fence} {q : Nat}

/-- The operation inside a fence. -/
theorem append_wpIn {w : World} (hF : ∀ f, F.fn f) (s x : Operand) (t e : TypeId) (z : Value) (size bytes : Nat)
    (hop : o.op = .call { callee := .builtin .append, args := #[s, x], argTypes := #[t, t] }) (ht : P.underlying t = some (.slice e))
    (hinfo : (P.info? e).map (fun i => (i.zero, i.size, i.bytes)) = some (some z, size, bytes)) (hzs : z.cells.size = size) (hsz : 0 < size) (hb0 : 0 < bytes)
    (base : Nat) (v : Value) (n : Nat) (xs : List Value) (A : Option Addr) (m c : Nat) (news : List Value) (hs : a.eval s = v) (hx : a.eval x = .slice A m c)
    (hown : w.ownsRow base e size v n xs) (hl : news.length = m * size) (hnews : Cells w A m news) (h1 : ∀ u ∈ news, u.oneCell' = true)
    (hbytes : (n + m) * bytes ≤ 140737488355328) (hbase : base ≤ w.heap.size)
    (h : ∀ v' w', Appended w w' base e size v v' (n + m) (xs ++ news) → K (a.put o.dst v') w') : Oper.wpIn F q P o a w K Q := by
  obtain ⟨v', w', hrun, hA⟩ := run_append_src (P := P) w base t o.type e z size bytes ht hinfo hzs hsz hb0 v n xs hown A m c news hl hnews h1 hbytes hbase
  unfold Oper.wpIn
  refine ⟨fun f _ => hF f, ?_⟩
  rw [Oper.semAt_plain F _ _ (by rw [hop]; intro c hc'; cases hc')]
  simp [execOp, hop, resolve, invoke, builtin, hs, hx, hrun, Result.andThen]
  exact h v' w' hA

/-- The operation. -/
theorem append_wp {w : World} (s x : Operand) (t e : TypeId) (z : Value) (size bytes : Nat)
    (hop : o.op = .call { callee := .builtin .append, args := #[s, x], argTypes := #[t, t] }) (ht : P.underlying t = some (.slice e))
    (hinfo : (P.info? e).map (fun i => (i.zero, i.size, i.bytes)) = some (some z, size, bytes)) (hzs : z.cells.size = size) (hsz : 0 < size) (hb0 : 0 < bytes)
    (base : Nat) (v : Value) (n : Nat) (xs : List Value) (A : Option Addr) (m c : Nat) (news : List Value) (hs : a.eval s = v) (hx : a.eval x = .slice A m c)
    (hown : w.ownsRow base e size v n xs) (hl : news.length = m * size) (hnews : Cells w A m news) (h1 : ∀ u ∈ news, u.oneCell' = true)
    (hbytes : (n + m) * bytes ≤ 140737488355328) (hbase : base ≤ w.heap.size)
    (h : ∀ v' w', Appended w w' base e size v v' (n + m) (xs ++ news) → K (a.put o.dst v') w') : Oper.wp P o a w K Q := by
  obtain ⟨v', w', hrun, hA⟩ := run_append_src (P := P) w base t o.type e z size bytes ht hinfo hzs hsz hb0 v n xs hown A m c news hl hnews h1 hbytes hbase
  unfold Oper.wp execOp
  simp only [hop, resolve, invoke, builtin, Sem.run_bind, Sem.run_pure, Result.andThen_ok, List.map_toArray, List.map_cons, List.map_nil, hs, hx, hrun]
  exact h v' w' hA

theorem append_listIn {w : World} (hF : ∀ f, F.fn f) (hgd : o.guard = none) (s x : Operand) (t e : TypeId) (z : Value) (size bytes : Nat)
    (hop : o.op = .call { callee := .builtin .append, args := #[s, x], argTypes := #[t, t] }) (ht : P.underlying t = some (.slice e))
    (hinfo : (P.info? e).map (fun i => (i.zero, i.size, i.bytes)) = some (some z, size, bytes)) (hzs : z.cells.size = size) (hsz : 0 < size) (hb0 : 0 < bytes)
    (base : Nat) (v : Value) (n : Nat) (xs : List Value) (A : Option Addr) (m c : Nat) (news : List Value) (hs : a.eval s = v) (hx : a.eval x = .slice A m c)
    (hown : w.ownsRow base e size v n xs) (hl : news.length = m * size) (hnews : Cells w A m news) (h1 : ∀ u ∈ news, u.oneCell' = true)
    (hbytes : (n + m) * bytes ≤ 140737488355328) (hbase : base ≤ w.heap.size)
    (h : ∀ v' w', Appended w w' base e size v v' (n + m) (xs ++ news) → wpListIn F q P ops Q rest (a.put o.dst v') w') : wpListIn F q P ops Q (o :: rest) a w :=
  wpListIn_plain hgd fun _ hK => append_wpIn hF s x t e z size bytes hop ht hinfo hzs hsz hb0 base v n xs A m c news hs hx hown hl hnews h1 hbytes hbase fun v' w' hA => hK _ _ (h v' w' hA)

theorem append_list {w : World} (hgd : o.guard = none) (s x : Operand) (t e : TypeId) (z : Value) (size bytes : Nat)
    (hop : o.op = .call { callee := .builtin .append, args := #[s, x], argTypes := #[t, t] }) (ht : P.underlying t = some (.slice e))
    (hinfo : (P.info? e).map (fun i => (i.zero, i.size, i.bytes)) = some (some z, size, bytes)) (hzs : z.cells.size = size) (hsz : 0 < size) (hb0 : 0 < bytes)
    (base : Nat) (v : Value) (n : Nat) (xs : List Value) (A : Option Addr) (m c : Nat) (news : List Value) (hs : a.eval s = v) (hx : a.eval x = .slice A m c)
    (hown : w.ownsRow base e size v n xs) (hl : news.length = m * size) (hnews : Cells w A m news) (h1 : ∀ u ∈ news, u.oneCell' = true)
    (hbytes : (n + m) * bytes ≤ 140737488355328) (hbase : base ≤ w.heap.size)
    (h : ∀ v' w', Appended w w' base e size v v' (n + m) (xs ++ news) → wpList P ops Q rest (a.put o.dst v') w') : wpList P ops Q (o :: rest) a w :=
  wpList_plain hgd fun _ hK => append_wp s x t e z size bytes hop ht hinfo hzs hsz hb0 base v n xs A m c news hs hx hown hl hnews h1 hbytes hbase fun v' w' hA => hK _ _ (h v' w' hA)
end

/-- The cells of a block that has just been made. -/
theorem Cells.new (W : World) (cs : Array Value) (e : TypeId) (m : Nat) : Cells (W.alloc (.cells cs e)) (some ⟨W.heap.size, 0, none⟩) m cs.toList := by
  intro _
  refine ⟨_, rfl, fun j u hu => ?_⟩
  rw [add_plain, blk_cell (blk_new W _) j]
  simpa using hu
theorem Cells.of_ints {w : World} {k : IntKind} {A : Option Addr} {n : Nat} {xs : List Int} (h : Kd.C (Kd.int k) w A n xs) : Cells w A n (nums k xs) := by
  intro hn
  obtain ⟨ad, rfl, hc⟩ := (Kd.reads_of_C (enc := Value.int k) (d := (0 : Int)) (h1 := fun _ => rfl) h).2.2 hn
  refine ⟨ad, rfl, fun j u hu => ?_⟩
  have hj : j < xs.length := by
    rcases Nat.lt_or_ge j xs.length with h' | h'
    · exact h'
    · simp [nums, List.getElem?_eq_none h'] at hu
  have := hc j (by have := h.1; omega)
  simp [nums, List.getElem?_eq_getElem hj] at hu
  subst hu
  rw [this]
  simp [List.getD_eq_getElem?_getD, List.getElem?_eq_getElem hj]
theorem nums_one (k : IntKind) (xs : List Int) : ∀ u ∈ nums k xs, u.oneCell' = true := by
  intro u hu
  simp only [nums, List.mem_map] at hu
  obtain ⟨q, _, rfl⟩ := hu
  rfl
end Go.Proofs.Ytoodagohkepcpaa
