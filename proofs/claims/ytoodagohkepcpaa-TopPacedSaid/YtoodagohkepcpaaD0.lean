/- How a speaker, its queue, a ledger and the news lie in memory. -/
import Derived.Test.YtoodagohkepcpaaC0
namespace Go.Proofs.Ytoodagohkepcpaa
open Go.RowKit Go.Proofs.YtoodagohkepcpaaW.PrintWords

/-! ### rows of a class -/
/-- What an element's cells are does not hang on the world. -/
def Plain {α : Type} (d : Kd α) : Prop := ∀ (w w' : World) (x : α) (cs : List Value), d.K w x cs → d.K w' x cs
theorem plain_int (k : IntKind) : Plain (Kd.int k) := fun _ _ _ _ h => h
theorem plain_32 : Plain k32 := fun _ w' x _ h => by rw [k32_open h]; exact k32_mk w' x
theorem C_moved {α : Type} {d : Kd α} (hp : Plain d) {W W' : World} {A : Option Addr} {n : Nat} {xs : List α} (h : d.C W A n xs)
    (hm : ∀ ad, A = some ad → 0 < n → W'.heap[ad.block]? = W.heap[ad.block]?) : d.C W' A n xs := by
  refine ⟨h.1, h.2.1, fun hn => ?_⟩
  obtain ⟨ad, e, hc⟩ := h.2.2 hn
  refine ⟨ad, e, fun j p hj => ?_⟩
  obtain ⟨c, hl, hK, hcells⟩ := hc j p hj
  refine ⟨c, hl, hp _ _ _ _ hK, fun i u hu => ?_⟩
  rw [World.cell?_of_block (w := W) (by rw [add_block]; exact hm ad e hn)]
  exact hcells i u hu
/-- The row that is read lies in a block of the class, of elements of type e. -/
structure Dat {α : Type} (d : Kd α) (e : TypeId) (cls : Nat → Nat) (k : Nat) (W : World) (v : Value) (xs : List α) : Prop where
  ex : ∃ A c, v = .slice A xs.length c ∧ xs.length ≤ c ∧ d.C W A xs.length xs ∧ ∀ ad, A = some ad → 0 < xs.length → cls ad.block = k ∧ ∃ cells, W.heap[ad.block]? = some (.cells cells e (0, 0))
section
variable {α : Type} {d : Kd α} {e : TypeId} {cls cls' : Nat → Nat} {k : Nat} {W W' : World} {v : Value} {xs : List α}
theorem Dat.step (hp : Plain d) (h : Dat d e cls k W v xs) (hm : ∀ (b : Nat) (cells : Array Value), cls b = k → W.heap[b]? = some (.cells cells e (0, 0)) → W'.heap[b]? = some (.cells cells e (0, 0))) : Dat d e cls k W' v xs := by
  obtain ⟨A, c, e, hc, hC, hk⟩ := h.ex
  refine ⟨A, c, e, hc, C_moved hp hC (fun ad ha hn => ?_), fun ad ha hn => ?_⟩
  · obtain ⟨h1, cells, h2⟩ := hk ad ha hn
    rw [hm _ cells h1 h2, h2]
  · obtain ⟨h1, cells, h2⟩ := hk ad ha hn
    exact ⟨h1, cells, hm _ cells h1 h2⟩
theorem Dat.moved (hp : Plain d) (h : Dat d e cls k W v xs) (hm : ∀ b, cls b = k → b < W.heap.size → W'.heap[b]? = W.heap[b]?) : Dat d e cls k W' v xs :=
  h.step hp (fun b cells hb hh => (hm b hb (blk_lt hh)).trans hh)
theorem Dat.again (h : Dat d e cls k W v xs) (hc : ∀ b, b < W.heap.size → cls' b = cls b) : Dat d e cls' k W v xs := by
  obtain ⟨A, c, e, hc', hC, hk⟩ := h.ex
  refine ⟨A, c, e, hc', hC, fun ad ha hn => ?_⟩
  obtain ⟨h1, cells, h2⟩ := hk ad ha hn
  exact ⟨(hc _ (blk_lt h2)).trans h1, cells, h2⟩
theorem Dat.nil (d : Kd α) (e : TypeId) (cls : Nat → Nat) (k : Nat) (W : World) : Dat d e cls k W (.slice none 0 0) [] := ⟨none, 0, rfl, Nat.le_refl _, Kd.C_nil d W, fun _ h => by cases h⟩
end
/-- A row of the call's own, taken into a class. -/
theorem Dat.of_own {α : Type} {d : Kd α} {enc : α → List Value} (hl : ∀ x, (enc x).length = d.sz) (hK : ∀ w x, d.K w x (enc x)) {cls : Nat → Nat} {k : Nat} {W : World} {base : Nat} {e : TypeId} {v : Value} {xs : List α}
    (h : W.ownsRow base e d.sz v xs.length (Flat enc xs)) (hk : ∀ b, v.ownBlock = some b → cls b = k) : Dat d e cls k W v xs := by
  obtain ⟨A, c, rfl, hc, hC⟩ := own_flat d hl hK h
  refine ⟨A, c, rfl, hc, hC, fun ad ha hn => ?_⟩
  subst ha
  exact ⟨hk ad.block rfl, own_typed h ad.block rfl⟩
/-- Rows and pieces lie as they lay. -/
def Kept3 (W W' : World) : Prop := ∀ (b : Nat) (cells : Array Value) (e : TypeId), W.heap[b]? = some (.cells cells e (0, 0)) → (e = 3 ∨ e = 32 ∨ e = 122) → W'.heap[b]? = some (.cells cells e (0, 0))
theorem Kept3.refl (W : World) : Kept3 W W := fun _ _ _ h _ => h
theorem Kept3.trans {W W' W2 : World} (h : Kept3 W W') (k : Kept3 W' W2) : Kept3 W W2 := fun b c e hb he => k b c e (h b c e hb he) he
theorem Kept3.set_ {W W' : World} (h : Kept3 W W') {g t : Nat} {cs : Array Value} (hg : W'.heap[g]? = some (.cells cs t (0, 0))) (ht : t ≠ 3 ∧ t ≠ 32 ∧ t ≠ 122) (i : Nat) (u : Value) : Kept3 W (W'.setCell ⟨g, i, none⟩ u) := by
  intro b c e hb he
  have h1 := h b c e hb he
  exact blk_far h1 (p := ⟨g, i, none⟩) (blk_ne h1 hg (by rcases he with rfl | rfl | rfl; exact fun e => ht.1 e.symm; exact fun e => ht.2.1 e.symm; exact fun e => ht.2.2 e.symm)) u
theorem Kept3.drewN {W W' : World} (h : Kept3 W W') (n : Nat) : Kept3 W (W'.drewN n) := h
theorem Kept3.drew {W W' : World} (h : Kept3 W W') : Kept3 W W'.drew := h
theorem Kept3.below {W W' W2 : World} (h : Kept3 W W') (hb : Below W'.heap.size W' W2) : Kept3 W W2 := fun b c e h1 he => blk_below (h b c e h1 he) hb

/-! ### a piece -/
structure PieceAt (cls : Nat → Nat) (k : Nat) (W : World) (b : Nat) (p : S30) (num got : Int) : Prop where
  cl : cls b = k
  ex : ∃ v2 v3 v4, W.heap[b]? = some (.cells #[.int .i64 p.f0, .int .i64 p.f1, v2, v3, v4, .int .i64 p.f5, .int .i64 num, .int .i64 got] 122) ∧
    Dat (Kd.int .i64) 3 cls k W v2 p.f2 ∧ Dat (Kd.int .i64) 3 cls k W v3 p.f3 ∧ Dat k32 32 cls k W v4 p.f4
/-! ### the queue -/
def nxt (Br : Nat) : List (Nat × Nat) → Nat
  | [] => Br
  | n :: _ => n.1
def lst (Br : Nat) : List (Nat × Nat) → Nat
  | [] => Br
  | n :: l => lst n.1 l
def nodeCells (pb nx pv : Nat) : Array Value := #[.pointer (some ⟨pb, 0, none⟩), .pointer (some ⟨nx, 0, none⟩), .pointer (some ⟨pv, 0, none⟩)]
def rootCells (nx pv : Nat) : Array Value := #[.pointer none, .pointer (some ⟨nx, 0, none⟩), .pointer (some ⟨pv, 0, none⟩)]
def Chain (W : World) (Br : Nat) : Nat → List (Nat × Nat) → Prop
  | _, [] => True
  | pv, n :: l => W.heap[n.1]? = some (.cells (nodeCells n.2 (nxt Br l) pv) 141) ∧ Chain W Br n.1 l
def PiecesAt (cls : Nat → Nat) (k : Nat) (W : World) : List (Nat × Nat) → List Pc → Prop
  | [], [] => True
  | n :: l, p :: q => PieceAt cls k W n.2 p.sp p.num p.got ∧ PiecesAt cls k W l q
  | _, _ => False
theorem Chain.moved {W W' : World} {Br : Nat} {l : List (Nat × Nat)} : ∀ {pv : Nat}, Chain W Br pv l → (∀ n ∈ l, W'.heap[n.1]? = W.heap[n.1]?) → Chain W' Br pv l := by
  induction l with
  | nil => intros; trivial
  | cons n l ih =>
    intro pv h hm
    exact ⟨(hm n (by simp)).trans h.1, ih h.2 (fun n' hn' => hm n' (by simp [hn']))⟩
theorem PieceAt.moved {cls : Nat → Nat} {k : Nat} {W W' : World} {b : Nat} {p : S30} {num got : Int} (h : PieceAt cls k W b p num got) (hm : ∀ b, cls b = k → b < W.heap.size → W'.heap[b]? = W.heap[b]?) : PieceAt cls k W' b p num got := by
  obtain ⟨v2, v3, v4, h1, h2, h3, h4⟩ := h.ex
  exact ⟨h.cl, v2, v3, v4, (hm b h.cl (blk_lt h1)).trans h1, h2.moved (plain_int _) hm, h3.moved (plain_int _) hm, h4.moved plain_32 hm⟩
theorem PieceAt.kept {cls : Nat → Nat} {k : Nat} {W W' : World} {b : Nat} {p : S30} {num got : Int} (h : PieceAt cls k W b p num got) (hm : Kept3 W W') : PieceAt cls k W' b p num got := by
  obtain ⟨v2, v3, v4, h1, h2, h3, h4⟩ := h.ex
  exact ⟨h.cl, v2, v3, v4, hm b _ _ h1 (by simp), h2.step (plain_int _) (fun b c _ hb => hm b c 3 hb (by simp)), h3.step (plain_int _) (fun b c _ hb => hm b c 3 hb (by simp)), h4.step plain_32 (fun b c _ hb => hm b c 32 hb (by simp))⟩
theorem PieceAt.again {cls cls' : Nat → Nat} {k : Nat} {W : World} {b : Nat} {p : S30} {num got : Int} (h : PieceAt cls k W b p num got) (hc : ∀ b, b < W.heap.size → cls' b = cls b) : PieceAt cls' k W b p num got := by
  obtain ⟨v2, v3, v4, h1, h2, h3, h4⟩ := h.ex
  exact ⟨(hc b (blk_lt h1)).trans h.cl, v2, v3, v4, h1, h2.again hc, h3.again hc, h4.again hc⟩
theorem PiecesAt.imp {cls cls' : Nat → Nat} {k : Nat} {W W' : World} {l : List (Nat × Nat)} : ∀ {q : List Pc}, PiecesAt cls k W l q → (∀ n ∈ l, ∀ p num got, PieceAt cls k W n.2 p num got → PieceAt cls' k W' n.2 p num got) → PiecesAt cls' k W' l q := by
  induction l with
  | nil =>
    intro q h _
    cases q with
    | nil => trivial
    | cons p q => exact h.elim
  | cons n l ih =>
    intro q h hm
    cases q with
    | nil => exact h.elim
    | cons p q => exact ⟨hm n (by simp) _ _ _ h.1, ih h.2 (fun n' hn' => hm n' (by simp [hn']))⟩
theorem PiecesAt.length {cls : Nat → Nat} {k : Nat} {W : World} {l : List (Nat × Nat)} : ∀ {q : List Pc}, PiecesAt cls k W l q → l.length = q.length := by
  induction l with
  | nil =>
    intro q h
    cases q with
    | nil => rfl
    | cons p q => exact h.elim
  | cons n l ih =>
    intro q h
    cases q with
    | nil => exact h.elim
    | cons p q => simp [ih h.2]

/-! ### a speaker -/
def stateF : Option Cur → Int
  | none => 0
  | some _ => 1
/-- What is said: behind which pointer, and how much of it was said. -/
def CurAt (cls : Nat → Nat) (k : Nat) (W : World) (nodes : List (Nat × Nat)) (nowv : Value) (said : Int) : Option Cur → Prop
  | none => True
  | some c => ∃ bn f0 f1 f5, nowv = .pointer (some ⟨bn, 0, none⟩) ∧ said = c.said ∧ PieceAt cls k W bn ⟨f0, f1, c.xs, [], c.ss, f5⟩ c.num 0 ∧ bn ∉ nodes.map (·.2)
structure SpIn (cls : Nat → Nat) (k : Nat) (W : World) (Bs Bl Br Bg : Nat) (s : Sp) (nodes : List (Nat × Nat)) (nowv : Value) (said : Int) : Prop where
  sp : W.heap[Bs]? = some (.cells #[.iface 49 (.pointer (some ⟨Bg, 0, none⟩)), .pointer (some ⟨Bl, 0, none⟩), .int .i64 s.number, .int .i64 s.pn, .int .i64 s.pd, .int .i64 s.clock, .int .i64 (stateF s.cur), nowv, .int .i64 said, .bool s.late] 111)
  li : W.heap[Bl]? = some (.cells #[.pointer (some ⟨Br, 0, none⟩), .int .i64 (s.q.length : Int)] 115)
  ro : W.heap[Br]? = some (.cells (rootCells (nxt Br nodes) (lst Br nodes)) 141)
  chain : Chain W Br Br nodes
  pieces : PiecesAt cls k W nodes s.q
  nodup : (Br :: nodes.map (·.1)).Nodup
  pnodup : (nodes.map (·.2)).Nodup
  kl : cls Bs = k ∧ cls Bl = k ∧ cls Br = k ∧ ∀ n ∈ nodes, cls n.1 = k
  cur : CurAt cls k W nodes nowv said s.cur
def SpAt (cls : Nat → Nat) (k : Nat) (W : World) (Bs Bl Br Bg : Nat) (s : Sp) : Prop := ∃ nodes nowv said, SpIn cls k W Bs Bl Br Bg s nodes nowv said
theorem Chain.lt {W : World} {Br : Nat} {l : List (Nat × Nat)} : ∀ {pv : Nat}, Chain W Br pv l → ∀ n ∈ l, n.1 < W.heap.size := by
  induction l with
  | nil => intro _ _ n hn; simp at hn
  | cons m l ih =>
    intro pv h n hn
    rcases List.mem_cons.1 hn with rfl | hn
    · exact blk_lt h.1
    · exact ih h.2 n hn
section
variable {cls cls' : Nat → Nat} {k : Nat} {W W' : World} {Bs Bl Br Bg : Nat} {s : Sp} {nodes : List (Nat × Nat)} {nowv : Value} {said : Int}
theorem CurAt.moved (h : CurAt cls k W nodes nowv said s.cur) (hm : ∀ b, cls b = k → b < W.heap.size → W'.heap[b]? = W.heap[b]?) : CurAt cls k W' nodes nowv said s.cur := by
  cases hc : s.cur with
  | none => trivial
  | some c =>
    rw [hc] at h
    obtain ⟨bn, f0, f1, f5, e1, e2, e3, e4⟩ := h
    exact ⟨bn, f0, f1, f5, e1, e2, e3.moved hm, e4⟩
theorem CurAt.kept (h : CurAt cls k W nodes nowv said s.cur) (hm : Kept3 W W') : CurAt cls k W' nodes nowv said s.cur := by
  cases hc : s.cur with
  | none => trivial
  | some c =>
    rw [hc] at h
    obtain ⟨bn, f0, f1, f5, e1, e2, e3, e4⟩ := h
    exact ⟨bn, f0, f1, f5, e1, e2, e3.kept hm, e4⟩
theorem CurAt.again (h : CurAt cls k W nodes nowv said s.cur) (hc' : ∀ b, b < W.heap.size → cls' b = cls b) : CurAt cls' k W nodes nowv said s.cur := by
  cases hc : s.cur with
  | none => trivial
  | some c =>
    rw [hc] at h
    obtain ⟨bn, f0, f1, f5, e1, e2, e3, e4⟩ := h
    exact ⟨bn, f0, f1, f5, e1, e2, e3.again hc', e4⟩
theorem SpIn.moved (h : SpIn cls k W Bs Bl Br Bg s nodes nowv said) (hm : ∀ b, cls b = k → b < W.heap.size → W'.heap[b]? = W.heap[b]?) : SpIn cls k W' Bs Bl Br Bg s nodes nowv said := by
  obtain ⟨c1, c2, c3, c4⟩ := h.kl
  exact ⟨(hm Bs c1 (blk_lt h.sp)).trans h.sp, (hm Bl c2 (blk_lt h.li)).trans h.li, (hm Br c3 (blk_lt h.ro)).trans h.ro, h.chain.moved (fun n hn => hm n.1 (c4 n hn) (h.chain.lt n hn)),
    h.pieces.imp (fun _ _ _ _ _ hp => hp.moved hm), h.nodup, h.pnodup, h.kl, h.cur.moved hm⟩
theorem SpIn.again (h : SpIn cls k W Bs Bl Br Bg s nodes nowv said) (hc : ∀ b, b < W.heap.size → cls' b = cls b) : SpIn cls' k W Bs Bl Br Bg s nodes nowv said := by
  obtain ⟨c1, c2, c3, c4⟩ := h.kl
  exact ⟨h.sp, h.li, h.ro, h.chain, h.pieces.imp (fun _ _ _ _ _ hp => hp.again hc), h.nodup, h.pnodup, ⟨(hc Bs (blk_lt h.sp)).trans c1, (hc Bl (blk_lt h.li)).trans c2, (hc Br (blk_lt h.ro)).trans c3, fun n hn => (hc n.1 (h.chain.lt n hn)).trans (c4 n hn)⟩, h.cur.again hc⟩
theorem SpAt.moved (h : SpAt cls k W Bs Bl Br Bg s) (hm : ∀ b, cls b = k → b < W.heap.size → W'.heap[b]? = W.heap[b]?) : SpAt cls k W' Bs Bl Br Bg s := by
  obtain ⟨n, v, d, h⟩ := h
  exact ⟨n, v, d, h.moved hm⟩
theorem SpAt.again (h : SpAt cls k W Bs Bl Br Bg s) (hc : ∀ b, b < W.heap.size → cls' b = cls b) : SpAt cls' k W Bs Bl Br Bg s := by
  obtain ⟨n, v, d, h⟩ := h
  exact ⟨n, v, d, h.again hc⟩
end

/-! ### a ledger with one grant -/
def grantRow (g : Gr) (rest : List Value) : List Value := .int .i64 g.voice :: .int .i64 0 :: .int .i64 0 :: .int .i64 1099511627776 :: .int .i64 g.budget :: .bool false :: .int .i64 g.used :: rest
structure LedIn (cls : Nat → Nat) (W : World) (Bg Ba c : Nat) (rest : List Value) (g : Gr) : Prop where
  le : W.heap[Bg]? = some (.cells #[.bool true, .slice (some ⟨Ba, 0, none⟩) 1 c] 102)
  ro : W.heap[Ba]? = some (.cells (grantRow g rest).toArray 104)
  cap : 1 ≤ c
  kl : cls Bg = 3 ∧ cls Ba = 3
def LedAt (cls : Nat → Nat) (W : World) (Bg : Nat) (g : Gr) : Prop := ∃ Ba c rest, LedIn cls W Bg Ba c rest g
section
variable {cls cls' : Nat → Nat} {W W' : World} {Bg : Nat} {g : Gr}
theorem LedAt.moved (h : LedAt cls W Bg g) (hm : ∀ b, cls b = 3 → b < W.heap.size → W'.heap[b]? = W.heap[b]?) : LedAt cls W' Bg g := by
  obtain ⟨Ba, c, rest, h1, h2, h3, h4⟩ := h
  exact ⟨Ba, c, rest, (hm Bg h4.1 (blk_lt h1)).trans h1, (hm Ba h4.2 (blk_lt h2)).trans h2, h3, h4⟩
theorem LedAt.again (h : LedAt cls W Bg g) (hc : ∀ b, b < W.heap.size → cls' b = cls b) : LedAt cls' W Bg g := by
  obtain ⟨Ba, c, rest, h1, h2, h3, h4⟩ := h
  exact ⟨Ba, c, rest, h1, h2, h3, (hc Bg (blk_lt h1)).trans h4.1, (hc Ba (blk_lt h2)).trans h4.2⟩
end

/-! ### news -/
structure NewsIn (cls : Nat → Nat) (base : Nat) (W : World) (Bn : Nat) (ns : List S75) (v : Value) : Prop where
  bo : W.heap[Bn]? = some (.cells #[v] 43)
  ow : W.ownsRow base 75 4 v ns.length (Flat e75 ns)
  kl : cls Bn = 4 ∧ ∀ b, v.ownBlock = some b → cls b = 4
def NewsAt (cls : Nat → Nat) (base : Nat) (W : World) (Bn : Nat) (ns : List S75) : Prop := ∃ v, NewsIn cls base W Bn ns v
section
variable {cls cls' : Nat → Nat} {base : Nat} {W W' : World} {Bn : Nat} {ns : List S75}
theorem NewsAt.moved (h : NewsAt cls base W Bn ns) (hm : ∀ b, cls b = 4 → b < W.heap.size → W'.heap[b]? = W.heap[b]?) : NewsAt cls base W' Bn ns := by
  obtain ⟨v, h1, h2, h3⟩ := h
  exact ⟨v, (hm Bn h3.1 (blk_lt h1)).trans h1, own_move h2 (fun b hb => hm b (h3.2 b hb) (own_lt h2 b hb)), h3⟩
theorem NewsAt.again (h : NewsAt cls base W Bn ns) (hc : ∀ b, b < W.heap.size → cls' b = cls b) : NewsAt cls' base W Bn ns := by
  obtain ⟨v, h1, h2, h3⟩ := h
  exact ⟨v, h1, h2, (hc Bn (blk_lt h1)).trans h3.1, fun b hb => (hc b (own_lt h2 b hb)).trans (h3.2 b hb)⟩
end

/-! ### all of it -/
structure Sys (cls : Nat → Nat) (k base : Nat) (W : World) (Bs Bl Br Bg Bn : Nat) (x : St) : Prop where
  sp : SpAt cls k W Bs Bl Br Bg x.s
  le : LedAt cls W Bg x.g
  ne : NewsAt cls base W Bn x.ns
/-- What a call on a speaker may write. -/
def Mine (cls : Nat → Nat) (k : Nat) (b : Nat) : Prop := cls b = k ∨ cls b = 3 ∨ cls b = 4
structure Went (cls cls' : Nat → Nat) (k base : Nat) (W W' : World) (Bs Bl Br Bg Bn : Nat) (x : St) : Prop where
  cl : ∀ b, b < W.heap.size → cls' b = cls b
  sys : Sys cls' k base W' Bs Bl Br Bg Bn x
  keep : Keeps (fun b => ¬ Mine cls k b) W W'
section
variable {cls cls' cls2 : Nat → Nat} {k base : Nat} {W W' W2 : World} {Bs Bl Br Bg Bn : Nat} {x y : St}
theorem Sys.moved (h : Sys cls k base W Bs Bl Br Bg Bn x) (hm : ∀ b, Mine cls k b → b < W.heap.size → W'.heap[b]? = W.heap[b]?) : Sys cls k base W' Bs Bl Br Bg Bn x :=
  ⟨h.sp.moved (fun b hb => hm b (.inl hb)), h.le.moved (fun b hb => hm b (.inr (.inl hb))), h.ne.moved (fun b hb => hm b (.inr (.inr hb)))⟩
theorem Sys.again (h : Sys cls k base W Bs Bl Br Bg Bn x) (hc : ∀ b, b < W.heap.size → cls' b = cls b) : Sys cls' k base W Bs Bl Br Bg Bn x := ⟨h.sp.again hc, h.le.again hc, h.ne.again hc⟩
theorem Sys.below (h : Sys cls k base W Bs Bl Br Bg Bn x) (hb : Below W.heap.size W W') : Sys cls k base W' Bs Bl Br Bg Bn x := h.moved (fun b _ hl => hb.block b hl)
theorem Went.refl (h : Sys cls k base W Bs Bl Br Bg Bn x) : Went cls cls k base W W Bs Bl Br Bg Bn x := ⟨fun _ _ => rfl, h, Keeps.refl _ _⟩
theorem keeps_trans_cls (h : Keeps (fun b => ¬ Mine cls k b) W W') (hc : ∀ b, b < W.heap.size → cls' b = cls b) (h2 : Keeps (fun b => ¬ Mine cls' k b) W' W2) : Keeps (fun b => ¬ Mine cls k b) W W2 := by
  refine ⟨h2.os.trans h.os, h2.tape.trans h.tape, h2.output.trans h.output, Nat.le_trans h.size h2.size, fun b hb hl => ?_⟩
  have hb' : ¬ Mine cls' k b := by unfold Mine at hb ⊢; rw [hc b hl]; exact hb
  exact (h2.block b hb' (Nat.lt_of_lt_of_le hl h.size)).trans (h.block b hb hl)
theorem Went.trans (h : Went cls cls' k base W W' Bs Bl Br Bg Bn x) (h2 : Went cls' cls2 k base W' W2 Bs Bl Br Bg Bn y) : Went cls cls2 k base W W2 Bs Bl Br Bg Bn y :=
  ⟨fun b hb => (h2.cl b (Nat.lt_of_lt_of_le hb h.keep.size)).trans (h.cl b hb), h2.sys, keeps_trans_cls h.keep h.cl h2.keep⟩
theorem Went.below (h : Went cls cls' k base W W' Bs Bl Br Bg Bn x) (hb : Below W'.heap.size W' W2) : Went cls cls' k base W W2 Bs Bl Br Bg Bn x :=
  ⟨h.cl, h.sys.below hb, h.keep.trans (.of_below hb)⟩
end
/-- Blocks that are made now are of class k. -/
def newCls (cls : Nat → Nat) (n k : Nat) (b : Nat) : Nat := if b < n then cls b else k
theorem newCls_old (cls : Nat → Nat) (n k : Nat) : ∀ b, b < n → newCls cls n k b = cls b := fun b hb => if_pos hb
theorem newCls_new (cls : Nat → Nat) (n k : Nat) {b : Nat} (hb : n ≤ b) : newCls cls n k b = k := if_neg (by omega)
end Go.Proofs.Ytoodagohkepcpaa
