/- A piece at a pace: the walk. -/
import Derived.Test.YtoodagohkepcpaaA5
import Derived.Laws.Rows
namespace Go.Proofs.Ytoodagohkepcpaa
open Go.RowKit Go.Shelf Go.Proofs.YtoodagohkepcpaaW.PrintWords
attribute [local go_sem] Oper.semAt_some

theorem kept_cells {W W' : World} {row : Option Nat} {b : Nat} {c : Array Value} {t : TypeId} {f : Nat × Nat} (h : W.heap[b]? = some (.cells c t f)) (hg : W.grownBy W' row)
    (hr : ∀ r, row = some r → ∃ o : Obj, W.heap[r]? = some o ∧ o.isCells = false) : W'.heap[b]? = some (.cells c t f) :=
  blk_grown h hg (fun e => by
    obtain ⟨o, ho, hc⟩ := hr b e.symm
    rw [h] at ho; cases ho; cases hc)
theorem kept_own {W W' : World} {row : Option Nat} {base : Nat} {e : TypeId} {size n : Nat} {v : Value} {xs : List Value} (h : W.ownsRow base e size v n xs) (hg : W.grownBy W' row)
    (hr : ∀ r, row = some r → ∃ o : Obj, W.heap[r]? = some o ∧ o.isCells = false) : W'.ownsRow base e size v n xs := by
  refine h.kept hg ?_
  rcases hv : v.ownBlock with _ | k
  · exact .inl rfl
  · refine .inr fun e' => ?_
    obtain ⟨o, ho, hc⟩ := hr k e'.symm
    obtain ⟨cells, hk⟩ := own_typed h k hv
    rw [hk] at ho; cases ho; cases hc

theorem blk_new' {W : World} {k : Nat} (h : W.heap.size = k) (o : Obj) : (W.alloc o).heap[k]? = some o := h ▸ blk_new W o
/-- What lies in memory while a piece is paced. -/
structure PInv (w : World) (Bs Bo Bg Br : Nat) (f0 f1 f5 : Int) (sp : Array Value) (zr : Array Value) (st : PSt) (W : World) : Prop where
  below : Below w.heap.size w W
  size : w.heap.size + 7 ≤ W.heap.size
  s : W.heap[Bs]? = some (.cells sp 30)
  r : W.heap[Br]? = some (.cells zr 30)
  b5 : ∃ c, W.heap[w.heap.size + 5]? = some (.cells c 30)
  b6 : ∃ c, W.heap[w.heap.size + 6]? = some (.cells c 38)
  rest : ∃ vs vg Ag cg, W.heap[Bo]? = some (.cells #[.int .i64 f0, .int .i64 f1, vs, .slice none 0 0, vg, .int .i64 f5] 30) ∧ W.heap[Bg]? = some (.cells #[.slice Ag st.left.length cg] 28) ∧ st.left.length ≤ cg ∧
    Kd.C k32 w Ag st.left.length st.left ∧ W.ownsRow w.heap.size 3 1 vs st.out.length (Flat eI st.out) ∧ W.ownsRow w.heap.size 32 2 vg st.signs.length (Flat e32 st.signs)
theorem PInv.kept {w : World} {Bs Bo Bg Br : Nat} {f0 f1 f5 : Int} {sp zr : Array Value} {st : PSt} {W W' : World} {row : Option Nat} (h : PInv w Bs Bo Bg Br f0 f1 f5 sp zr st W) (hg : W.grownBy W' row)
    (hr : ∀ r, row = some r → w.heap.size ≤ r ∧ ∃ o : Obj, W.heap[r]? = some o ∧ o.isCells = false) : PInv w Bs Bo Bg Br f0 f1 f5 sp zr st W' := by
  have hr' := fun r e => (hr r e).2
  obtain ⟨vs, vg, Ag, cg, h1, h2, h3, h4, h5, h6⟩ := h.rest
  exact ⟨h.below.grown hg h.below.size (fun k e => (hr k e).1), Nat.le_trans h.size hg.size, kept_cells h.s hg hr', kept_cells h.r hg hr', h.b5.imp fun _ h => kept_cells h hg hr', h.b6.imp fun _ h => kept_cells h hg hr',
    vs, vg, Ag, cg, kept_cells h1 hg hr', kept_cells h2 hg hr', h3, h4, kept_own h5 hg hr', kept_own h6 hg hr'⟩

theorem grownBy_drew (W : World) : W.grownBy W.drew none := ⟨rfl, rfl, rfl, Nat.le_refl _, fun _ _ _ => rfl⟩
theorem PInv.drew {w : World} {Bs Bo Bg Br : Nat} {f0 f1 f5 : Int} {sp zr : Array Value} {st : PSt} {W : World} (h : PInv w Bs Bo Bg Br f0 f1 f5 sp zr st W) : PInv w Bs Bo Bg Br f0 f1 f5 sp zr st W.drew :=
  h.kept (grownBy_drew W) (fun r e => by cases e)
theorem own_ne {W : World} {base : Nat} {e : TypeId} {size n : Nat} {v : Value} {xs : List Value} (h : W.ownsRow base e size v n xs) {g : Nat} {c : Array Value} {t : TypeId} {f : Nat × Nat} (hb : W.heap[g]? = some (.cells c t f)) (ht : e ≠ t) : some g ≠ v.ownBlock := by
  intro hv
  obtain ⟨cells, hk⟩ := own_typed h g hv.symm
  rw [hb] at hk
  injection hk with hk
  injection hk with _ hk _
  exact ht hk.symm
/-- A store into another block than the row's. -/
theorem own_far {W : World} {base : Nat} {e : TypeId} {size n : Nat} {v : Value} {xs : List Value} (h : W.ownsRow base e size v n xs) {a : Addr} (hne : some a.block ≠ v.ownBlock) (u : Value) : (W.setCell a u).ownsRow base e size v n xs :=
  own_move h (fun k hk => Below.heap_setCell W a u k (fun e => hne (by rw [← e]; exact hk.symm)))
theorem own_cells {W : World} {base : Nat} {e : TypeId} {size n : Nat} {v : Value} {xs : List Value} (h : W.ownsRow base e size v n xs) : ∀ (j : Nat) (o : Obj), v.ownBlock = some j → W.heap[j]? = some o → o.isCells = true := by
  intro j o hj ho
  obtain ⟨cells, hk⟩ := own_typed h j hj
  rw [hk] at ho; cases ho; rfl
theorem own_unkept {w X : World} {kp : Nat → Prop} (hkpn : ∀ b, kp b → b < w.heap.size ∨ b = w.heap.size + 5 ∨ b = w.heap.size + 6) (h5 : ∃ c, X.heap[w.heap.size + 5]? = some (.cells c 30)) (h6 : ∃ c, X.heap[w.heap.size + 6]? = some (.cells c 38))
    {e : TypeId} {size n : Nat} {v : Value} {xs : List Value} (h : X.ownsRow w.heap.size e size v n xs) (t1 : e ≠ 30) (t2 : e ≠ 38) : ∀ k, v.ownBlock = some k → k < X.heap.size → ¬ kp k := by
  intro k hk _ hp
  rcases hkpn k hp with h' | rfl | rfl
  · have := own_base h k hk; omega
  · obtain ⟨c, hc⟩ := h5; exact own_ne h hc t1 hk.symm
  · obtain ⟨c, hc⟩ := h6; exact own_ne h hc t2 hk.symm
/-- What a step leaves. -/
structure Stepped (kp : Nat → Prop) (B : Nat) (w : World) (Bs Bo Bg Br : Nat) (f0 f1 f5 : Int) (sp zr : Array Value) (st : PSt) (X Z : World) : Prop where
  inv : PInv w Bs Bo Bg Br f0 f1 f5 sp zr st Z
  keep : Keeps kp X Z
  frm : KeepsFrom B X Z
section
variable {kp : Nat → Prop} {B : Nat} {w : World} {Bs Bo Bg Br : Nat} {f0 f1 f5 : Int} {sp zr : Array Value}
/-- Samples have been appended and stored. -/
theorem PInv.samples {st : PSt} {X w1 : World} {vs vg : Value} {Ag : Option Addr} {cg : Nat} (hkpn : ∀ b, kp b → b < w.heap.size ∨ b = w.heap.size + 5 ∨ b = w.heap.size + 6) (hb : Below w.heap.size w X) (hsz : w.heap.size + 7 ≤ X.heap.size)
    (hs : X.heap[Bs]? = some (.cells sp 30)) (hr : X.heap[Br]? = some (.cells zr 30)) (h5 : ∃ c, X.heap[w.heap.size + 5]? = some (.cells c 30)) (h6 : ∃ c, X.heap[w.heap.size + 6]? = some (.cells c 38)) (ho : X.heap[Bo]? = some (.cells #[.int .i64 f0, .int .i64 f1, vs, .slice none 0 0, vg, .int .i64 f5] 30)) (hg : X.heap[Bg]? = some (.cells #[.slice Ag st.left.length cg] 28)) (hlg : st.left.length ≤ cg)
    (hC : Kd.C k32 w Ag st.left.length st.left) (hos : X.ownsRow w.heap.size 3 1 vs st.out.length (Flat eI st.out)) (hog : X.ownsRow w.heap.size 32 2 vg st.signs.length (Flat e32 st.signs)) {m : List Int} {u : Value} {k : Nat}
    (hA : Appended X w1 w.heap.size 3 1 vs u k (Flat eI st.out ++ Flat eI m)) (hk : k = (st.out ++ m).length) (h1 : Bo ≠ Bg) (h2 : Bo ≠ Bs) (h3 : Bo ≠ Br) (h4 : w.heap.size ≤ Bo) (h7 : ¬ kp Bo) (h8 : Bo < w.heap.size + 5) :
    Stepped kp B w Bs Bo Bg Br f0 f1 f5 sp zr ⟨st.out ++ m, st.signs, st.left⟩ X (w1.setCell ⟨Bo, 2, none⟩ u) := by
  subst hk
  have ho1 := blk_grown ho hA.grown (own_ne hos ho (by decide))
  have hg1 := blk_grown hg hA.grown (own_ne hos hg (by decide))
  have hs1 := blk_grown hs hA.grown (own_ne hos hs (by decide))
  have hr1 := blk_grown hr hA.grown (own_ne hos hr (by decide))
  have hog1 := hog.kept hA.grown (own_type_ne hog hos (by decide))
  refine ⟨⟨(hb.grown hA.grown hb.size (own_base hos)).setCell h4 _, Nat.le_trans hsz (by simpa [World.setCell] using hA.grown.size), blk_far hs1 (Ne.symm h2) _, blk_far hr1 (Ne.symm h3) _, h5.imp fun c h => blk_far (blk_grown h hA.grown (own_ne hos h (by decide))) (by dsimp only; omega) _, h6.imp fun c h => blk_far (blk_grown h hA.grown (own_ne hos h (by decide))) (by dsimp only; omega) _,
    u, vg, Ag, cg, blk_put ho1 2 _ rfl, blk_far hg1 (Ne.symm h1) _, hlg, hC, ?_, own_far hog1 (own_ne hog1 ho1 (by decide)) _⟩,
    ((Keeps.refl kp X).grown hA.grown (own_unkept hkpn h5 h6 hos (by decide) (by decide))).setCell (fun _ => h7) _, ((KeepsOthers.of_grownBy hA.grown (own_cells hos)).trans (KeepsOthers.setCell _ _ _)).from B⟩
  have := own_far hA.own (a := ⟨Bo, 2, none⟩) (own_ne hA.own ho1 (by decide)) u
  rwa [← Flat_append] at this
/-- A sign has been appended and stored; the next one is at the head. -/
theorem PInv.signed {o : List Int} {g l : List S32} {X w1 : World} {vs vg : Value} {Ag : Option Addr} {cg : Nat} (hkpn : ∀ b, kp b → b < w.heap.size ∨ b = w.heap.size + 5 ∨ b = w.heap.size + 6) (hb : Below w.heap.size w X) (hsz : w.heap.size + 7 ≤ X.heap.size)
    (hs : X.heap[Bs]? = some (.cells sp 30)) (hr : X.heap[Br]? = some (.cells zr 30)) (h5 : ∃ c, X.heap[w.heap.size + 5]? = some (.cells c 30)) (h6 : ∃ c, X.heap[w.heap.size + 6]? = some (.cells c 38)) (ho : X.heap[Bo]? = some (.cells #[.int .i64 f0, .int .i64 f1, vs, .slice none 0 0, vg, .int .i64 f5] 30)) {cB : Array Value} (hg : X.heap[Bg]? = some (.cells cB 28)) (hcB : ∀ z, cB.setIfInBounds 0 z = #[z])
    (hos : X.ownsRow w.heap.size 3 1 vs o.length (Flat eI o)) (hog : X.ownsRow w.heap.size 32 2 vg g.length (Flat e32 g)) {m : S32} {u : Value} {k : Nat}
    (hA : Appended X w1 w.heap.size 32 2 vg u k (Flat e32 g ++ e32 m)) (hk : k = (g ++ [m]).length) (hlg : l.length ≤ cg) (hC : Kd.C k32 w Ag l.length l) (h1 : Bo ≠ Bg) (h2 : Bo ≠ Bs) (h3 : Bo ≠ Br) (h4 : w.heap.size ≤ Bo) (h5' : Bg ≠ Bs) (h6' : Bg ≠ Br) (h7 : w.heap.size ≤ Bg) (h8 : ¬ kp Bo) (h9 : ¬ kp Bg) (h10 : Bo < w.heap.size + 5) (h11 : Bg < w.heap.size + 5) :
    Stepped kp B w Bs Bo Bg Br f0 f1 f5 sp zr ⟨o, g ++ [m], l⟩ X ((w1.setCell ⟨Bo, 4, none⟩ u).setCell ⟨Bg, 0, none⟩ (.slice Ag l.length cg)) := by
  subst hk
  have ho1 := blk_grown ho hA.grown (own_ne hog ho (by decide))
  have hg1 := blk_grown hg hA.grown (own_ne hog hg (by decide))
  have hs1 := blk_grown hs hA.grown (own_ne hog hs (by decide))
  have hr1 := blk_grown hr hA.grown (own_ne hog hr (by decide))
  have hos1 := hos.kept hA.grown (own_type_ne hos hog (by decide))
  have ho2 := blk_put ho1 4 u rfl
  have hg2 := blk_far hg1 (p := ⟨Bo, 4, none⟩) (Ne.symm h1) u
  have hos2 := own_far hos1 (a := ⟨Bo, 4, none⟩) (own_ne hos1 ho1 (by decide)) u
  have how2 := own_far hA.own (a := ⟨Bo, 4, none⟩) (own_ne hA.own ho1 (by decide)) u
  refine ⟨⟨((hb.grown hA.grown hb.size (own_base hog)).setCell h4 _).setCell h7 _, Nat.le_trans hsz (by simpa [World.setCell] using hA.grown.size), blk_far (blk_far hs1 (Ne.symm h2) _) (Ne.symm h5') _, blk_far (blk_far hr1 (Ne.symm h3) _) (Ne.symm h6') _,
    h5.imp fun c h => blk_far (blk_far (blk_grown h hA.grown (own_ne hog h (by decide))) (by dsimp only; omega) _) (by dsimp only; omega) _, h6.imp fun c h => blk_far (blk_far (blk_grown h hA.grown (own_ne hog h (by decide))) (by dsimp only; omega) _) (by dsimp only; omega) _,
    vs, u, Ag, cg, blk_far ho2 h1 _, blk_put hg2 0 _ (hcB _), hlg, hC, own_far hos2 (own_ne hos2 hg2 (by decide)) _, ?_⟩,
    (((Keeps.refl kp X).grown hA.grown (own_unkept hkpn h5 h6 hog (by decide) (by decide))).setCell (fun _ => h8) _).setCell (fun _ => h9) _, (((KeepsOthers.of_grownBy hA.grown (own_cells hog)).trans (KeepsOthers.setCell _ _ _)).trans (KeepsOthers.setCell _ _ _)).from B⟩
  have := own_far how2 (a := ⟨Bg, 0, none⟩) (own_ne how2 hg2 (by decide)) (.slice Ag l.length cg)
  rwa [show Flat e32 g ++ e32 m = Flat e32 (g ++ [m]) from by rw [Flat_append, Flat_one]] at this
end
section
theorem blk_far'' {w : World} {g : Nat} {o : Obj} (h : w.heap[g]? = some o) {p : Addr} (hp : g ≠ p.block) (u : Value) : (w.setCell p u).heap[g]? = some o := (Below.heap_setCell w p u g hp).trans h
theorem PInv.ended {kp : Nat → Prop} {B : Nat} {w : World} {Bs Bo Bg Br : Nat} {f0 f1 f5 : Int} {sp zr : Array Value} {o : List Int} {g l : List S32} {X w1 : World} {vs vg : Value} {Ag : Option Addr} {cg : Nat} (hkpn : ∀ b, kp b → b < w.heap.size ∨ b = w.heap.size + 5 ∨ b = w.heap.size + 6) (hb : Below w.heap.size w X) (hsz : w.heap.size + 7 ≤ X.heap.size)
    (hs : X.heap[Bs]? = some (.cells sp 30)) (hr : X.heap[Br]? = some (.cells zr 30)) (h5 : ∃ c, X.heap[w.heap.size + 5]? = some (.cells c 30)) (h6 : ∃ c, X.heap[w.heap.size + 6]? = some (.cells c 38)) (ho : X.heap[Bo]? = some (.cells #[.int .i64 f0, .int .i64 f1, vs, .slice none 0 0, vg, .int .i64 f5] 30)) (hg : X.heap[Bg]? = some (.cells #[.slice Ag l.length cg] 28))
    (hos : X.ownsRow w.heap.size 3 1 vs o.length (Flat eI o)) (hog : X.ownsRow w.heap.size 32 2 vg g.length (Flat e32 g)) {m : S32} {u : Value} {k : Nat}
    (hA : Appended X w1 w.heap.size 32 2 vg u k (Flat e32 g ++ e32 m)) (hk : k = (g ++ [m]).length) (hlg : l.length ≤ cg) (hC : Kd.C k32 w Ag l.length l) (h1 : Bo ≠ Bg) (h2 : Bo ≠ Bs) (h3 : Bo ≠ Br) (h4 : w.heap.size ≤ Bo) (h8 : ¬ kp Bo) (h10 : Bo < w.heap.size + 5) :
    Stepped kp B w Bs Bo Bg Br f0 f1 f5 sp zr ⟨o, g ++ [m], l⟩ X (w1.setCell ⟨Bo, 4, none⟩ u) := by
  subst hk
  have ho1 := blk_grown ho hA.grown (own_ne hog ho (by decide))
  have hg1 := blk_grown hg hA.grown (own_ne hog hg (by decide))
  have hs1 := blk_grown hs hA.grown (own_ne hog hs (by decide))
  have hr1 := blk_grown hr hA.grown (own_ne hog hr (by decide))
  have hos1 := hos.kept hA.grown (own_type_ne hos hog (by decide))
  refine ⟨⟨(hb.grown hA.grown hb.size (own_base hog)).setCell h4 _, Nat.le_trans hsz (by simpa [World.setCell] using hA.grown.size), blk_far hs1 (Ne.symm h2) _, blk_far hr1 (Ne.symm h3) _,
    h5.imp fun c h => blk_far (blk_grown h hA.grown (own_ne hog h (by decide))) (by dsimp only; omega) _, h6.imp fun c h => blk_far (blk_grown h hA.grown (own_ne hog h (by decide))) (by dsimp only; omega) _,
    vs, u, Ag, cg, blk_put ho1 4 u rfl, blk_far hg1 (Ne.symm h1) _, hlg, hC, own_far hos1 (a := ⟨Bo, 4, none⟩) (own_ne hos1 ho1 (by decide)) u, ?_⟩,
    ((Keeps.refl kp X).grown hA.grown (own_unkept hkpn h5 h6 hog (by decide) (by decide))).setCell (fun _ => h8) _, ((KeepsOthers.of_grownBy hA.grown (own_cells hog)).trans (KeepsOthers.setCell _ _ _)).from B⟩
  have := own_far hA.own (a := ⟨Bo, 4, none⟩) (own_ne hA.own ho1 (by decide)) u
  rwa [show Flat e32 g ++ e32 m = Flat e32 (g ++ [m]) from by rw [Flat_append, Flat_one]] at this
end
theorem paceSt_signs (xs : List Int) (l : List (Int × Int × Bool)) : ∀ st : PSt, (l.foldl (paceStep xs) st).signs.length + (l.foldl (paceStep xs) st).left.length = st.signs.length + st.left.length := by
  induction l with
  | nil => intro st; rfl
  | cons x l ih =>
    intro st
    rw [List.foldl_cons, ih]
    have : st.left.length = (st.left.takeWhile (fun s => decide (s.f0 < x.2.1))).length + (st.left.dropWhile (fun s => decide (s.f0 < x.2.1))).length := by rw [← List.length_append, List.takeWhile_append_dropWhile]
    simp [paceStep]
    omega
theorem paceSt_left (xs : List Int) (ss : List S32) (l : List (Int × Int × Bool)) : ∀ st : PSt, st.left <:+ ss → (l.foldl (paceStep xs) st).left <:+ ss := by
  induction l with
  | nil => intro st h; exact h
  | cons x l ih => intro st h; exact ih _ ((List.dropWhile_suffix _).trans h)

theorem mid_length (xs : List Int) {a b : Int} (h0 : 0 ≤ a) (h1 : a ≤ b) (h2 : b ≤ xs.length) : (mid xs a b).length = b.toNat - a.toNat := by
  unfold mid; rw [List.length_drop, List.length_take]; omega
theorem cut_ints {w : World} {A : Option Addr} {c : Nat} {xs : List Int} (h : Kd.C (Kd.int .i64) w A xs.length xs) (hc : xs.length ≤ c) {a b : Int} (h0 : 0 ≤ a) (h1 : a ≤ b) (h2 : b ≤ xs.length) :
    ∃ A' c', (∀ W : World, (Instr.slice 22 (.slice A xs.length c) (some (.int .i64 a)) (some (.int .i64 b)) none).run Try.prog W = .ok (.slice A' (mid xs a b).length c') W) ∧ Kd.C (Kd.int .i64) w A' (mid xs a b).length (mid xs a b) := by
  obtain ⟨i, hi, hz⟩ := Option.map_eq_some_iff.1 info3
  simp only [Prod.mk.injEq] at hz
  refine ⟨if c = a.toNat then A else A.map (·.add (a.toNat * 1)), c - a.toNat, fun W => ?_, ?_⟩
  · rw [cut_mid 22 3 .i64 .i64 Try.underlying22 hi 1 hz.2.1 A xs.length c a b h0 h1 h2 hc W, mid_length xs h0 h1 h2]
  · exact Kd.C_mid (k := Kd.int .i64) (c := c) h (lo := a.toNat) (hi := b.toNat) (by omega) (by omega) hc

def vals {n : Nat} (l : List (Str n)) : List (Int × Int × Bool) := l.map fun y => y.1
theorem mid_le (xs : List Int) (a b : Int) : (mid xs a b).length ≤ xs.length := by unfold mid; rw [List.length_drop, List.length_take]; omega
theorem paceSt_len (xs : List Int) (l : List (Int × Int × Bool)) : ∀ st : PSt, (l.foldl (paceStep xs) st).out.length ≤ st.out.length + l.length * xs.length := by
  induction l with
  | nil => intro st; simp
  | cons x l ih =>
    intro st
    have h1 := ih (paceStep xs st x)
    have h2 : (paceStep xs st x).out.length ≤ st.out.length + xs.length := by
      unfold paceStep
      dsimp only
      split
      · rw [List.length_append]; have := mid_le xs x.1 x.2.1; omega
      · omega
    rw [List.foldl_cons, List.length_cons, Nat.add_mul, Nat.one_mul]
    omega
theorem vals_snoc {n : Nat} (l : List (Str n)) (x : Str n) : vals (l ++ [x]) = vals l ++ [x.1] := by simp [vals]
theorem tw_done {l : List S32} {c : S32 → Bool} {j : Nat} (hj : j ≤ (l.takeWhile c).length) (h : ∀ s0 rest, l.drop j = s0 :: rest → c s0 = false) : (l.takeWhile c).take j = l.takeWhile c ∧ l.drop j = l.dropWhile c := by
  induction l generalizing j with
  | nil => simp
  | cons a l ih =>
    cases hc : c a with
    | true =>
      cases j with
      | zero => have := h a l rfl; rw [hc] at this; cases this
      | succ j =>
        have := ih (j := j) (by simpa [hc] using hj) (fun s0 rest e => h s0 rest (by simpa using e))
        simp [hc, this]
    | false =>
      have : j = 0 := by simpa [hc] using hj
      subst this
      simp [hc]
theorem tw_more {l : List S32} {c : S32 → Bool} {j : Nat} (hj : j ≤ (l.takeWhile c).length) {s0 : S32} {rest : List S32} (h : l.drop j = s0 :: rest) (hc : c s0 = true) :
    j + 1 ≤ (l.takeWhile c).length ∧ (l.takeWhile c).take (j + 1) = (l.takeWhile c).take j ++ [s0] ∧ l.drop (j + 1) = rest := by
  induction l generalizing j with
  | nil => simp at h
  | cons a l ih =>
    cases hca : c a with
    | true =>
      cases j with
      | zero =>
        have h' : a = s0 ∧ l = rest := by simpa using h
        obtain ⟨rfl, rfl⟩ := h'
        simp [hca]
      | succ j =>
        have := ih (j := j) (by simpa [hca] using hj) (by simpa using h)
        simp [hca, this]
    | false =>
      have : j = 0 := by simpa [hca] using hj
      subst this
      have h' : a = s0 ∧ l = rest := by simpa using h
      rw [h'.1, hc] at hca
      cases hca

/-- How long the slice in a block's first cell is. -/
def leftLen (W : World) (b : Nat) : Nat := match W.cell? ⟨b, 0, none⟩ with
  | some (.slice _ n _) => n
  | _ => 0

theorem PInv.left {w : World} {Bs Bo Bg Br : Nat} {f0 f1 f5 : Int} {sp zr : Array Value} {st : PSt} {W : World} (h : PInv w Bs Bo Bg Br f0 f1 f5 sp zr st W) : leftLen W Bg = st.left.length := by
  obtain ⟨vs, vg, Ag, cg, h1, h2, _⟩ := h.rest
  have : W.cell? ⟨Bg, 0, none⟩ = some (.slice Ag st.left.length cg) := blk_cell h2 0
  simp [leftLen, this]
theorem Cells.new' {k : Nat} {W : World} (h : W.heap.size = k) (W' : World) (cs : Array Value) (e : TypeId) (m : Nat) (hW : W' = W.alloc (.cells cs e) := by rfl) : Cells W' (some ⟨k, 0, none⟩) m cs.toList := by
  subst h hW; exact Cells.new W cs e m
theorem below_trans' {X Y Z : World} (h : Below X.heap.size X Y) (k : Below Y.heap.size Y Z) : Below X.heap.size X Z := h.trans (k.mono h.size)
theorem pw_blk_below {X Y : World} {b : Nat} {o : Obj} (h : X.heap[b]? = some o) (k : Below X.heap.size X Y) : Y.heap[b]? = some o := (k.block b (blk_lt h)).trans h

set_option maxRecDepth 100000 in
set_option maxHeartbeats 8000000 in
theorem paced_in (n : Nat) (hn : 5 ≤ n) (num den : Int) (A2 A3 A4 : Option Addr) (c2 c3 c4 : Nat) (p : S30) (w : World)
    (h2 : Kd.C (Kd.int .i64) w A2 p.f2.length p.f2) (hc2 : p.f2.length ≤ c2) (h3 : Kd.C (Kd.int .i64) w A3 p.f3.length p.f3) (h4 : Kd.C k32 w A4 p.f4.length p.f4) (hc4 : p.f4.length ≤ c4) (hp : okPiece p)
    (hnum : 1 ≤ num ∧ num ≤ 8) (hden : 1 ≤ den ∧ den ≤ 8) :
    CallsIn Fence.wide n Try.prog 34 #[.agg #[.int .i64 p.f0, .int .i64 p.f1, .slice A2 p.f2.length c2, .slice A3 p.f3.length c3, .slice A4 p.f4.length c4, .int .i64 p.f5], .agg #[.int .i64 num, .int .i64 den]] w
      fun e w' => (∃ vs vg, e = .returned (.agg #[.int .i64 p.f0, .int .i64 p.f1, vs, .slice none 0 0, vg, .int .i64 p.f5]) ∧ w'.ownsRow w.heap.size 3 1 vs (pacedF p num den).f2.length (Flat eI (pacedF p num den).f2) ∧
        w'.ownsRow w.heap.size 32 2 vg (pacedF p num den).f4.length (Flat e32 (pacedF p num den).f4)) ∧ Below w.heap.size w w' := by
  obtain ⟨f0, f1, xs, ps, ss, f5⟩ := p
  obtain ⟨v1, v2, v3, v4, v5, v6, v7⟩ := hp
  dsimp only at *
  refine callsIn_of_wp_marks Try.func34 rfl trivial ?_ rfl
  simp only [Try.ntmps34, List.size_toArray, List.length_cons, List.length_nil, Nat.reduceAdd, Nat.reduceSub, Array.replicate_succ, Array.replicate_zero, List.push_toArray, List.append_toArray, List.nil_append, List.cons_append]
  have H2 := Aside0.mk h2
  have H3 := Aside0.mk h3
  have H4 := Aside0.mk h4
  have HC2 := Aside0.mk hc2
  have HC4 := Aside0.mk hc4
  have V4 := Aside0.mk v4
  have V6 := Aside0.mk v6
  have V7 := Aside0.mk v7
  have HNU := Aside0.mk hnum
  have HDE := Aside0.mk hden
  clear h2 h3 h4 hc2 hc4 v1 v2 v3 v4 v5 v6 v7 hnum hden
  gi_wp2_with fail
  refine ⟨trivial, fun h => (by cases h), ?_⟩
  refine (callsIn_wide.2 (stretches_any _ _ _ _ _ _ _ _ _)).mono ?_
  rintro e w' ⟨rfl, rfl⟩
  gi_wp2_with fail
  have hsz : (((((((w.alloc (.cells #[.int .i64 f0, .int .i64 f1, .slice A2 xs.length c2, .slice A3 ps.length c3, .slice A4 ss.length c4, .int .i64 f5] 30)).alloc (.cells #[.int .i64 num, .int .i64 den] 38)).alloc (.cells #[.int .i64 0, .int .i64 0, .slice none 0 0, .slice none 0 0, .slice none 0 0, .int .i64 0] 30)).alloc (.cells #[.int .i64 f0, .int .i64 f1, .slice none 0 0, .slice none 0 0, .slice none 0 0, .int .i64 f5] 30)).alloc (.cells #[.slice A4 ss.length c4] 28)).alloc (.cells #[.int .i64 f0, .int .i64 f1, .slice A2 xs.length c2, .slice A3 ps.length c3, .slice A4 ss.length c4, .int .i64 f5] 30)).alloc (.cells #[.int .i64 num, .int .i64 den] 38)).heap.size = w.heap.size + 7 := by simp
  have hB0 : Below w.heap.size w (((((((w.alloc (.cells #[.int .i64 f0, .int .i64 f1, .slice A2 xs.length c2, .slice A3 ps.length c3, .slice A4 ss.length c4, .int .i64 f5] 30)).alloc (.cells #[.int .i64 num, .int .i64 den] 38)).alloc (.cells #[.int .i64 0, .int .i64 0, .slice none 0 0, .slice none 0 0, .slice none 0 0, .int .i64 0] 30)).alloc (.cells #[.int .i64 f0, .int .i64 f1, .slice none 0 0, .slice none 0 0, .slice none 0 0, .int .i64 f5] 30)).alloc (.cells #[.slice A4 ss.length c4] 28)).alloc (.cells #[.int .i64 f0, .int .i64 f1, .slice A2 xs.length c2, .slice A3 ps.length c3, .slice A4 ss.length c4, .int .i64 f5] 30)).alloc (.cells #[.int .i64 num, .int .i64 den] 38)) := by repeat (first | exact Below.refl _ _ | apply below_alloc)
  obtain ⟨W0, hW0⟩ : ∃ W0, (((((((w.alloc (.cells #[.int .i64 f0, .int .i64 f1, .slice A2 xs.length c2, .slice A3 ps.length c3, .slice A4 ss.length c4, .int .i64 f5] 30)).alloc (.cells #[.int .i64 num, .int .i64 den] 38)).alloc (.cells #[.int .i64 0, .int .i64 0, .slice none 0 0, .slice none 0 0, .slice none 0 0, .int .i64 0] 30)).alloc (.cells #[.int .i64 f0, .int .i64 f1, .slice none 0 0, .slice none 0 0, .slice none 0 0, .int .i64 f5] 30)).alloc (.cells #[.slice A4 ss.length c4] 28)).alloc (.cells #[.int .i64 f0, .int .i64 f1, .slice A2 xs.length c2, .slice A3 ps.length c3, .slice A4 ss.length c4, .int .i64 f5] 30)).alloc (.cells #[.int .i64 num, .int .i64 den] 38)) = W0 := ⟨_, rfl⟩
  have hs : W0.heap[w.heap.size]? = some (.cells #[.int .i64 f0, .int .i64 f1, .slice A2 xs.length c2, .slice A3 ps.length c3, .slice A4 ss.length c4, .int .i64 f5] 30) := by rw [← hW0]; repeat (first | (refine blk_new' ?_ _; (simp; done)) | refine blk_alloc ?_ _)
  have hr : W0.heap[w.heap.size + 1 + 1]? = some (.cells #[.int .i64 0, .int .i64 0, .slice none 0 0, .slice none 0 0, .slice none 0 0, .int .i64 0] 30) := by rw [← hW0]; repeat (first | (refine blk_new' ?_ _; (simp; done)) | refine blk_alloc ?_ _)
  have ho : W0.heap[w.heap.size + 1 + 1 + 1]? = some (.cells #[.int .i64 f0, .int .i64 f1, .slice none 0 0, .slice none 0 0, .slice none 0 0, .int .i64 f5] 30) := by rw [← hW0]; repeat (first | (refine blk_new' ?_ _; (simp; done)) | refine blk_alloc ?_ _)
  have hg : W0.heap[w.heap.size + 1 + 1 + 1 + 1]? = some (.cells #[.slice A4 ss.length c4] 28) := by rw [← hW0]; repeat (first | (refine blk_new' ?_ _; (simp; done)) | refine blk_alloc ?_ _)
  have h30 : W0.heap[w.heap.size + 1 + 1 + 1 + 1 + 1]? = some (.cells #[.int .i64 f0, .int .i64 f1, .slice A2 xs.length c2, .slice A3 ps.length c3, .slice A4 ss.length c4, .int .i64 f5] 30) := by rw [← hW0]; repeat (first | (refine blk_new' ?_ _; (simp; done)) | refine blk_alloc ?_ _)
  have h38 : W0.heap[w.heap.size + 1 + 1 + 1 + 1 + 1 + 1]? = some (.cells #[.int .i64 num, .int .i64 den] 38) := by rw [← hW0]; repeat (first | (refine blk_new' ?_ _; (simp; done)) | refine blk_alloc ?_ _)
  rw [hW0] at hsz hB0 ⊢
  clear hW0
  have hb2 : ∀ ad, A3 = some ad → 0 < ps.length → ad.block < w.heap.size := by
    intro ad e h0
    obtain ⟨ad', e', hc⟩ := Kd.at_int H3.out 0 (by omega) (by omega)
    rw [e] at e'; cases e'
    have := World.block_lt_of_cell? w _ hc
    rwa [show (0 : Int).toNat = 0 from rfl, add_block] at this
  obtain ⟨kp, hkp⟩ : ∃ kp : Nat → Prop, kp = fun b => b < w.heap.size ∨ b = w.heap.size + 1 + 1 + 1 + 1 + 1 ∨ b = w.heap.size + 1 + 1 + 1 + 1 + 1 + 1 := ⟨_, rfl⟩
  have hkp5 : kp (w.heap.size + 1 + 1 + 1 + 1 + 1) := by rw [hkp]; exact .inr (.inl rfl)
  have hkp6 : kp (w.heap.size + 1 + 1 + 1 + 1 + 1 + 1) := by rw [hkp]; exact .inr (.inr rfl)
  have hkpo : ∀ b, b < w.heap.size → kp b := fun b hb => by rw [hkp]; exact .inl hb
  have hkpn : ∀ b, kp b → b < w.heap.size ∨ b = w.heap.size + 5 ∨ b = w.heap.size + 6 := fun b hb => by rw [hkp] at hb; omega
  clear hkp
  have hseq := stretches_stops (n - 1) (by omega) (w.heap.size + 1 + 1 + 1 + 1 + 1) (w.heap.size + 1 + 1 + 1 + 1 + 1 + 1) kp f0 f1 f5 num den A2 A3 A4 c2 c3 c4 ss.length xs ps V4.out V6.out HNU.out HDE.out hkp5 hkp6 W0 h30 h38
    (Kd.C_below H3.out hB0) (fun ad e h0 => hkpo _ (hb2 ad e h0))
  have hlenS := strs_length (n := xs.length) (ps := ps) num den HNU.out HDE.out V6.out.1
  obtain ⟨Nn, hNn⟩ : ∃ Nn, (strs xs.length ps num den).length = Nn := ⟨_, rfl⟩
  rw [hNn] at hseq hlenS
  clear hNn hb2
  refine wpIn_rangeFunc_ownH rfl (by omega) (gf := 76) (lb := #[.pointer (some ⟨w.heap.size + 1 + 1 + 1 + 1 + 1, 0, none⟩), .pointer (some ⟨w.heap.size + 1 + 1 + 1 + 1 + 1 + 1, 0, none⟩)]) rfl trivial (enters_of Try.func76 (by kernel_rfl) rfl)
    hseq (fun h k => h.trans k) (fun W l o o' hl ho hc _ => (Keeps.refl kp W).grown (grownBy_putObj' W l o') (fun k e _ hk => by cases e; have := hkpn _ hk; omega)) (Below.refl _ _) (fun _ => rfl)
    (fun (pre : List (Str xs.length)) W => PInv w w.heap.size (w.heap.size + 1 + 1 + 1) (w.heap.size + 1 + 1 + 1 + 1) (w.heap.size + 1 + 1) f0 f1 f5 #[.int .i64 f0, .int .i64 f1, .slice A2 xs.length c2, .slice A3 ps.length c3, .slice A4 ss.length c4, .int .i64 f5] #[.int .i64 0, .int .i64 0, .slice none 0 0, .slice none 0 0, .slice none 0 0, .int .i64 0] (paceSt xs ss (vals pre)) W ∧ pre.length ≤ Nn)
    (fun _ _ _ => False)
    (fun s W W' row hs hg hr => ⟨hs.1.kept hg (fun r e => ⟨by have := (hr r e).1; omega, (hr r e).2⟩), hs.2⟩)
    (fun _ _ _ _ _ hs _ _ => hs)
    ⟨⟨hB0, by omega, hs, hr, ⟨_, h30⟩, ⟨_, h38⟩, .slice none 0 0, .slice none 0 0, A4, c4, ho, hg, HC4.out, H4.out, World.ownsRow_nil _ _ _ _, World.ownsRow_nil _ _ _ _⟩, by simp⟩
    (fun x a' W => ∃ Bx, w.heap.size + 7 ≤ Bx ∧ W.heap[Bx]? = some (.cells #[.int .i64 x.1.1, .int .i64 x.1.2.1, .bool x.1.2.2] 139) ∧ a' = { tmps := #[.agg #[.int .i64 f0, .int .i64 f1, .slice A2 xs.length c2, .slice A3 ps.length c3, .slice A4 ss.length c4, .int .i64 f5], .agg #[.int .i64 num, .int .i64 den], .pointer (some ⟨w.heap.size, 0, none⟩), .pointer (some ⟨w.heap.size + 1, 0, none⟩), .pointer (some ⟨w.heap.size + 1 + 1, 0, none⟩), .pointer (some ⟨w.heap.size + 1 + 1 + 1, 0, none⟩), .pointer (some ⟨w.heap.size + 1 + 1 + 1 + 1, 0, none⟩), .pointer (some ⟨Bx, 0, none⟩), undef, undef, undef, undef, .pointer (some ⟨w.heap.size, 0, none⟩), .int .i64 f0, .pointer (some ⟨w.heap.size, 1, none⟩), .int .i64 f1, .pointer (some ⟨w.heap.size, 5, none⟩), .int .i64 f5, .agg #[.int .i64 f0, .int .i64 f1, .slice none 0 0, .slice none 0 0, .slice none 0 0, .int .i64 f5], .pointer (some ⟨w.heap.size, 4, none⟩), .slice A4 ss.length c4, .agg #[.int .i64 f0, .int .i64 f1, .slice A2 xs.length c2, .slice A3 ps.length c3, .slice A4 ss.length c4, .int .i64 f5], .agg #[.int .i64 num, .int .i64 den], .func (.func 76) #[] #[.pointer (some ⟨w.heap.size + 1 + 1 + 1 + 1 + 1, 0, none⟩), .pointer (some ⟨w.heap.size + 1 + 1 + 1 + 1 + 1 + 1, 0, none⟩)], .agg #[.int .i64 x.1.1, .int .i64 x.1.2.1, .bool x.1.2.2], undef, undef, undef, undef, undef, undef, undef, undef, undef, undef, undef, undef, undef, undef, undef, undef, undef, undef, undef, undef, undef, undef, undef, undef, undef, undef, undef, undef, undef, undef, undef, undef, undef, undef, undef, undef, undef, undef, undef, undef, undef, undef, undef, undef, undef, undef, undef, undef, undef, undef, undef, undef, undef, undef, undef, undef, undef, undef, undef, undef, undef, undef, undef, undef, undef, undef, undef, undef, undef, undef, undef, undef, undef, undef], defers := [] })
    (fun x a' _ X Y row hs hg hr => by obtain ⟨Bx, h1, h2, h3⟩ := hs; exact ⟨Bx, h1, kept_cells h2 hg (fun r e => (hr r e).2), h3⟩)
    ?assign ?body ?done ?stop
  case assign =>
    rintro l pre x W K ⟨hI, hlen⟩ hK
    have hszW := hI.size
    have hKF : KeepsFrom W0.heap.size W (W.alloc (.cells #[.int .i64 x.1.1, .int .i64 x.1.2.1, .bool x.1.2.2] 139)) := (KeepsOthers.alloc _ _).from _
    have hKK : Keeps kp W (W.alloc (.cells #[.int .i64 x.1.1, .int .i64 x.1.2.1, .bool x.1.2.2] 139)) := (Keeps.refl _ _).alloc _
    have hI' := hI.kept (World.grownBy_alloc W (.cells #[.int .i64 x.1.1, .int .i64 x.1.2.1, .bool x.1.2.2] 139) none) (fun r e => by cases e)
    have hN := blk_new W (.cells #[.int .i64 x.1.1, .int .i64 x.1.2.1, .bool x.1.2.2] 139)
    have HK := Aside0.mk (hK _ _ hKF hKK ⟨hI', hlen⟩ ⟨W.heap.size, hszW, hN, rfl⟩)
    clear hK hI hI' hKF hKK hN
    simp only [encStr, encS]
    gi_wp2
    exact HK.out
  case body =>
    rintro l pre x a' W hl ⟨r, hr⟩ ⟨hI, hlen⟩ ⟨Bx, hBx, hx, rfl⟩ hlt
    obtain ⟨st, hst⟩ : ∃ st, paceSt xs ss (vals pre) = st := ⟨_, rfl⟩
    have hstep : paceSt xs ss (vals (pre ++ [x])) = paceStep xs st x.1 := by rw [vals_snoc, ← hst]; exact paceSt_snoc _ _ _ _
    rw [hst] at hI
    have HST := Aside0.mk hstep
    have LO : st.out.length ≤ 400000000 := by
      have h1 := paceSt_len xs (vals pre) ⟨[], [], ss⟩
      have h2 : (vals pre).length = pre.length := by simp [vals]
      have h3 : pre.length * xs.length ≤ 9001 * 40000 := Nat.mul_le_mul (by omega) V4.out
      rw [← hst]
      unfold paceSt
      rw [h2] at h1
      simp only [List.length_nil, Nat.zero_add] at h1
      omega
    have HLO0 := Aside0.mk LO
    have HSG : Aside0 (st.signs.length + st.left.length = ss.length) := ⟨by rw [← hst]; have := paceSt_signs xs (vals pre) ⟨[], [], ss⟩; simpa [paceSt] using this⟩
    have HSUF : Aside0 (st.left <:+ ss) := ⟨by rw [← hst]; exact paceSt_left xs ss _ _ (List.suffix_refl _)⟩
    clear LO
    clear hstep hst
    obtain ⟨⟨from_, to_, said⟩, hx0, hx1, hx2⟩ := x
    dsimp only at *
    obtain ⟨hb1, hsz1, hs1, hr1, h51, h61, vs, vg, Ag, cg, ho1, hg1, hlg, hC, hos, hog⟩ := hI
    obtain ⟨As, cs, rfl, hcs, hCs⟩ := own_flat (Kd.int .i64) eI_len eI_K hos
    have hcO2 : W.cell? ⟨w.heap.size + 1 + 1 + 1, 2, none⟩ = some (.slice As st.out.length cs) := blk_cell ho1 2
    have HI := Aside0.mk (show PInv w w.heap.size (w.heap.size + 1 + 1 + 1) (w.heap.size + 1 + 1 + 1 + 1) (w.heap.size + 1 + 1) f0 f1 f5 #[.int .i64 f0, .int .i64 f1, .slice A2 xs.length c2, .slice A3 ps.length c3, .slice A4 ss.length c4, .int .i64 f5] #[.int .i64 0, .int .i64 0, .slice none 0 0, .slice none 0 0, .slice none 0 0, .int .i64 0] st W from ⟨hb1, hsz1, hs1, hr1, h51, h61, _, vg, Ag, cg, ho1, hg1, hlg, hC, hos, hog⟩)
    have HX := Aside0.mk hx
    have HR := Aside0.mk hr
    have HX0 := Aside0.mk hx0
    have HX1 := Aside0.mk hx1
    have HX2 := Aside0.mk hx2
    clear hr hx ho1 hg1 hlg hC hos hog hCs hs1 hr1 h51 h61 hcs hseq hs ho hg hb1 hsz1 h30 h38
    gi_wp2
    gi_loopw [28] (fun _ wr => ∃ j : Nat, Aside0 (j ≤ (st.left.takeWhile (fun s => decide (s.f0 < to_))).length) ∧
        Aside0 (PInv w w.heap.size (w.heap.size + 1 + 1 + 1) (w.heap.size + 1 + 1 + 1 + 1) (w.heap.size + 1 + 1) f0 f1 f5 #[.int .i64 f0, .int .i64 f1, .slice A2 xs.length c2, .slice A3 ps.length c3, .slice A4 ss.length c4, .int .i64 f5] #[.int .i64 0, .int .i64 0, .slice none 0 0, .slice none 0 0, .slice none 0 0, .int .i64 0] ⟨st.out, st.signs ++ ((st.left.takeWhile (fun s => decide (s.f0 < to_))).take j).map (place st.out.length (from_, to_, said)), st.left.drop j⟩ wr) ∧
        Aside0 (wr.heap[Bx]? = some (.cells #[.int .i64 from_, .int .i64 to_, .bool said] 139)) ∧ Aside0 (Keeps kp W wr) ∧ Aside0 (KeepsFrom W0.heap.size W wr)) (fun _ wr => leftLen wr (w.heap.size + 1 + 1 + 1 + 1))
    case atStart =>
      exact ⟨0, ⟨Nat.zero_le _⟩, ⟨by simpa using HI.out⟩, HX, ⟨Keeps.refl _ _⟩, ⟨KeepsFrom.refl _ _⟩⟩
    case round =>
      clear HI HX hcO2
      obtain ⟨j, HJ, HI, HX, HK, HF⟩ := hrel
      obtain ⟨hb2, hsz2, hs2, hr2, h52, h62, vs2, vg2, Ag, cg, ho2, hg2, hlg, hC, hos, hog⟩ := HI.out
      dsimp only at hg2 hlg hC hos hog
      have hX1 : wr.cell? ⟨Bx, 1, none⟩ = some (.int .i64 to_) := blk_cell HX.out 1
      cases hld : st.left.drop j with
      | nil =>
        rw [hld] at hg2 hlg hC
        have hG0 : wr.cell? ⟨w.heap.size + 1 + 1 + 1 + 1, 0, none⟩ = some (.slice Ag 0 cg) := blk_cell hg2 0
        have HTW := Aside0.mk (tw_done HJ.out (fun s0 rest e => by rw [hld] at e; cases e))
        clear hld hC hlg hg2 ho2 hos hog hs2 hr2 h52 h62 hsz2
        gi_wp2
        refine region_anyHT (fun W' => W'.cell? ⟨w.heap.size + 1 + 1 + 1 + 1, 0, none⟩ = some (.slice Ag 0 cg)) [] (by kernel_rfl) (hG0) (fun hHeld => ?_)
        refine anyHT_take (fun _ => trivial) (by kernel_rfl) [1, 2, 3, 4, 5, 6, 7, 8, 9, 10, 11] (i := 0) (oi := { dst := some 28, op := Op.load 28 (Operand.tmp 6), type := 28, pos := "stream.go:84", after := #[], guard := none }) (v := ?_) rfl (by kernel_rfl) (by kernel_rfl) (by kernel_rfl) (by kernel_rfl) (by kernel_rfl) (by decide) (fun _ _ _ h => h) (Or.inl ⟨by rfl, ?_⟩) hHeld ?_
        rotate_left
        · (intro w hSw; (try dsimp only at hSw); go_simp <;> with_reducible rfl)
        try simp only [Act.put, List.setIfInBounds_toArray, List.set_cons_zero, List.set_cons_succ]
        refine anyHT_pure (fun _ => trivial) (by kernel_rfl) (i := 1) (oi := { dst := some 29, op := Op.call { callee := Callee.builtin Builtin.len, args := #[Operand.tmp 28], argTypes := #[28] }, type := 3, pos := "stream.go:84", after := #[{ on := 0, ground := Ground.data }], guard := none }) (v := ?_) rfl (by kernel_rfl) (by kernel_rfl) (by kernel_rfl) (fun _ _ _ h => h) (Or.inl ⟨by rfl, ?_⟩) ?_
        rotate_left
        · (intro w _; go_simp <;> with_reducible rfl)
        try simp only [Act.put, List.setIfInBounds_toArray, List.set_cons_zero, List.set_cons_succ]
        refine anyHT_pure (fun _ => trivial) (by kernel_rfl) (i := 2) (oi := { dst := some 30, op := Op.binOp BinOp.gtr 3 (Operand.tmp 29) (Operand.const (Value.int IntKind.i64 0)) 3, type := 4, pos := "stream.go:84", after := #[{ on := 1, ground := Ground.data }], guard := none }) (v := ?_) rfl (by kernel_rfl) (by kernel_rfl) (by kernel_rfl) (fun _ _ _ h => h) (Or.inl ⟨by rfl, ?_⟩) ?_
        rotate_left
        · (intro w _; go_simp <;> with_reducible rfl)
        try simp only [Act.put, List.setIfInBounds_toArray, List.set_cons_zero, List.set_cons_succ]
        refine anyHT_pure (fun _ => trivial) (by kernel_rfl) (i := 3) (oi := { dst := some 31, op := Op.move (Operand.tmp 30), type := 4, pos := "stream.go:84", after := #[{ on := 2, ground := Ground.data }], guard := none }) (v := ?_) rfl (by kernel_rfl) (by kernel_rfl) (by kernel_rfl) (fun _ _ _ h => h) (Or.inl ⟨by rfl, ?_⟩) ?_
        rotate_left
        · (intro w _; go_simp <;> with_reducible rfl)
        try simp only [Act.put, List.setIfInBounds_toArray, List.set_cons_zero, List.set_cons_succ]
        refine anyHT_pure (fun _ => trivial) (by kernel_rfl) (i := 4) (oi := { dst := some 32, op := Op.load 28 (Operand.tmp 6), type := 28, pos := "stream.go:84", after := #[{ on := 3, ground := Ground.guard }], guard := some (3, true) }) (v := undef) rfl (by kernel_rfl) (by kernel_rfl) (by kernel_rfl) (fun _ _ _ h => h) (Or.inr ⟨by rfl, rfl⟩) ?_
        try simp only [Act.put, List.setIfInBounds_toArray, List.set_cons_zero, List.set_cons_succ]
        refine anyHT_pure (fun _ => trivial) (by kernel_rfl) (i := 5) (oi := { dst := some 33, op := Op.indexAddr 28 (Operand.tmp 32) (Operand.const (Value.int IntKind.i64 0)), type := 0, pos := "stream.go:84", after := #[{ on := 4, ground := Ground.data }, { on := 3, ground := Ground.guard }], guard := some (3, true) }) (v := undef) rfl (by kernel_rfl) (by kernel_rfl) (by kernel_rfl) (fun _ _ _ h => h) (Or.inr ⟨by rfl, rfl⟩) ?_
        try simp only [Act.put, List.setIfInBounds_toArray, List.set_cons_zero, List.set_cons_succ]
        refine anyHT_pure (fun _ => trivial) (by kernel_rfl) (i := 6) (oi := { dst := some 34, op := Op.fieldAddr 32 (Operand.tmp 33) 0, type := 0, pos := "stream.go:84", after := #[{ on := 5, ground := Ground.data }, { on := 3, ground := Ground.guard }], guard := some (3, true) }) (v := undef) rfl (by kernel_rfl) (by kernel_rfl) (by kernel_rfl) (fun _ _ _ h => h) (Or.inr ⟨by rfl, rfl⟩) ?_
        try simp only [Act.put, List.setIfInBounds_toArray, List.set_cons_zero, List.set_cons_succ]
        refine anyHT_pure (fun _ => trivial) (by kernel_rfl) (i := 7) (oi := { dst := some 35, op := Op.load 3 (Operand.tmp 34), type := 3, pos := "stream.go:84", after := #[{ on := 6, ground := Ground.data }, { on := 3, ground := Ground.guard }], guard := some (3, true) }) (v := undef) rfl (by kernel_rfl) (by kernel_rfl) (by kernel_rfl) (fun _ _ _ h => h) (Or.inr ⟨by rfl, rfl⟩) ?_
        try simp only [Act.put, List.setIfInBounds_toArray, List.set_cons_zero, List.set_cons_succ]
        refine anyHT_pure (fun _ => trivial) (by kernel_rfl) (i := 8) (oi := { dst := some 36, op := Op.fieldAddr 139 (Operand.tmp 7) 1, type := 0, pos := "stream.go:84", after := #[{ on := 3, ground := Ground.guard }], guard := some (3, true) }) (v := undef) rfl (by kernel_rfl) (by kernel_rfl) (by kernel_rfl) (fun _ _ _ h => h) (Or.inr ⟨by rfl, rfl⟩) ?_
        try simp only [Act.put, List.setIfInBounds_toArray, List.set_cons_zero, List.set_cons_succ]
        refine anyHT_pure (fun _ => trivial) (by kernel_rfl) (i := 9) (oi := { dst := some 37, op := Op.load 3 (Operand.tmp 36), type := 3, pos := "stream.go:84", after := #[{ on := 8, ground := Ground.data }, { on := 3, ground := Ground.guard }], guard := some (3, true) }) (v := undef) rfl (by kernel_rfl) (by kernel_rfl) (by kernel_rfl) (fun _ _ _ h => h) (Or.inr ⟨by rfl, rfl⟩) ?_
        try simp only [Act.put, List.setIfInBounds_toArray, List.set_cons_zero, List.set_cons_succ]
        refine anyHT_pure (fun _ => trivial) (by kernel_rfl) (i := 10) (oi := { dst := some 38, op := Op.binOp BinOp.lss 3 (Operand.tmp 35) (Operand.tmp 37) 3, type := 4, pos := "stream.go:84", after := #[{ on := 7, ground := Ground.data }, { on := 9, ground := Ground.data }, { on := 3, ground := Ground.guard }], guard := some (3, true) }) (v := undef) rfl (by kernel_rfl) (by kernel_rfl) (by kernel_rfl) (fun _ _ _ h => h) (Or.inr ⟨by rfl, rfl⟩) ?_
        try simp only [Act.put, List.setIfInBounds_toArray, List.set_cons_zero, List.set_cons_succ]
        refine anyHT_pure (fun _ => trivial) (by kernel_rfl) (i := 11) (oi := { dst := some 39, op := Op.pick (Operand.tmp 31) (Operand.tmp 38) (Operand.const (Value.bool false)), type := 4, pos := "stream.go:84", after := #[{ on := 3, ground := Ground.data }, { on := 10, ground := Ground.data }], guard := none }) (v := ?_) rfl (by kernel_rfl) (by kernel_rfl) (by kernel_rfl) (fun _ _ _ h => h) (Or.inl ⟨by rfl, ?_⟩) ?_
        rotate_left
        · (intro w _; go_simp <;> with_reducible rfl)
        try simp only [Act.put, List.setIfInBounds_toArray, List.set_cons_zero, List.set_cons_succ]
        refine anyHT_done (by kernel_rfl) ?_ _
        obtain ⟨hP1, hP2⟩ := HTW.out
        have HP := HI.out
        rw [hP1, hP2] at HP
        have HP2 := HP.drew
        have HXd := Aside0.mk (blk_drew HX.out)
        have HKd := Aside0.mk (HK.out.trans (Keeps.of_below (below_drew (Below.refl wr.heap.size wr))))
        have HFd := Aside0.mk (HF.out.trans ((KeepsFrom.of_grownBy (B := W0.heap.size) (grownBy_drew wr) (fun j e => by cases e))))
        have hX2 : wr.drew.cell? ⟨Bx, 2, none⟩ = some (.bool said) := blk_cell HXd.out 2
        clear hP1 hP2 HP HTW HI HX HK HF hX1 hG0
        generalize hw2 : wr.drew = wr2 at *
        clear hw2
        have HPP := Aside0.mk HP2
        clear HP2
        cases said with
        | false =>
          gi_wp2
          refine ⟨HFd.out, HKd.out, ?_, by simp; omega⟩
          rw [HST.out]
          simpa [paceStep] using HPP.out
        | true =>
          obtain ⟨hb3, hsz3, hs3, hr3, h53, h63, vs3, vg3, Ag3, cg3, ho3, hg3, hlg3, hC3, hos3, hog3⟩ := HPP.out
          try dsimp only at hg3 hlg3 hC3 hos3 hog3
          obtain ⟨As, cs2, rfl, hcs2, _⟩ := own_flat (Kd.int .i64) eI_len eI_K hos3
          obtain ⟨A', c', hcut, hCm⟩ := cut_ints H2.out HC2.out HX0.out HX1.out HX2.out
          try dsimp only at hcut hCm
          have hO2 : wr2.cell? ⟨w.heap.size + 1 + 1 + 1, 2, none⟩ = some (.slice As st.out.length cs2) := blk_cell ho3 2
          have hS2 : wr2.cell? ⟨w.heap.size, 2, none⟩ = some (.slice A2 xs.length c2) := blk_cell hs3 2
          have hX0 : wr2.cell? ⟨Bx, 0, none⟩ = some (.int .i64 from_) := blk_cell HXd.out 0
          have hX1 : wr2.cell? ⟨Bx, 1, none⟩ = some (.int .i64 to_) := blk_cell HXd.out 1
          have HOS := Aside0.mk hos3
          have HO3 := Aside0.mk ho3
          have HCm := Aside0.mk hCm
          have HB3 := Aside0.mk hb3
          have HLO : Aside0 (st.out.length ≤ 400000000) := ⟨HLO0.out⟩
          have HLM : Aside0 ((mid xs from_ to_).length ≤ 40000) := ⟨Nat.le_trans (mid_le _ _ _) V4.out⟩
          have HSTEP := Aside0.mk (fun (Z : World) (hb : Below wr2.heap.size wr2 Z) (w1 : World) (A1 : Option Addr) (cap1 : Nat) hA => PInv.samples (kp := kp) (B := W0.heap.size) (st := ⟨st.out, st.signs ++ (st.left.takeWhile (fun s => decide (s.f0 < to_))).map (place st.out.length (from_, to_, true)), st.left.dropWhile (fun s => decide (s.f0 < to_))⟩) (X := Z) (w1 := w1) (m := mid xs from_ to_) (u := .slice A1 (st.out.length + (mid xs from_ to_).length) cap1) (k := st.out.length + (mid xs from_ to_).length) (Br := w.heap.size + 1 + 1) hkpn (below_trans' hb3 hb) (Nat.le_trans hsz3 hb.size) (pw_blk_below hs3 hb) (pw_blk_below hr3 hb) (h53.imp fun _ h => pw_blk_below h hb) (h63.imp fun _ h => pw_blk_below h hb) (pw_blk_below ho3 hb) (pw_blk_below hg3 hb) hlg3 hC3 (pw_own_below hos3 hb) (pw_own_below hog3 hb) hA (by simp) (by omega) (by omega) (by omega) (by omega) (fun h => by have := hkpn _ h; omega) (by omega))
          clear hos3 ho3 hCm hb3 hcs2 hs3 hr3 h53 h63 hg3 hlg3 hC3 hog3
          gi_wp2
          refine region_anyHT (fun W' => W'.cell? ⟨w.heap.size + 1 + 1 + 1, 2, none⟩ = some (.slice As st.out.length cs2) ∧ W'.cell? ⟨w.heap.size, 2, none⟩ = some (.slice A2 xs.length c2) ∧ W'.cell? ⟨Bx, 0, none⟩ = some (.int .i64 from_) ∧ W'.cell? ⟨Bx, 1, none⟩ = some (.int .i64 to_)) [9, 11] (by kernel_rfl) (⟨hO2, hS2, hX0, hX1⟩) (fun hHeld => ?_)
          refine anyHT_pure (fun _ => trivial) (by kernel_rfl) (i := 0) (oi := { dst := some 69, op := Op.fieldAddr 30 (Operand.tmp 5) 2, type := 0, pos := "stream.go:93", after := #[], guard := none }) (v := ?_) rfl (by kernel_rfl) (by kernel_rfl) (by kernel_rfl) (fun _ _ _ h => h) (Or.inl ⟨by rfl, ?_⟩) ?_
          rotate_left
          · (intro w _; go_simp <;> with_reducible rfl)
          try simp only [Act.put, List.setIfInBounds_toArray, List.set_cons_zero, List.set_cons_succ]
          refine anyHT_take (fun _ => trivial) (by kernel_rfl) [9, 10, 11] (i := 1) (oi := { dst := some 70, op := Op.load 22 (Operand.tmp 69), type := 22, pos := "stream.go:93", after := #[{ on := 0, ground := Ground.data }], guard := none }) (v := ?_) rfl (by kernel_rfl) (by kernel_rfl) (by kernel_rfl) (by kernel_rfl) (by kernel_rfl) (by decide) (fun _ _ _ h => h) (Or.inl ⟨by rfl, ?_⟩) hHeld ?_
          rotate_left
          · (intro w hSw; (try dsimp only at hSw); go_simp <;> with_reducible rfl)
          try simp only [Act.put, List.setIfInBounds_toArray, List.set_cons_zero, List.set_cons_succ]
          refine anyHT_pure (fun _ => trivial) (by kernel_rfl) (i := 2) (oi := { dst := some 71, op := Op.fieldAddr 30 (Operand.tmp 2) 2, type := 0, pos := "stream.go:93", after := #[], guard := none }) (v := ?_) rfl (by kernel_rfl) (by kernel_rfl) (by kernel_rfl) (fun _ _ _ h => h) (Or.inl ⟨by rfl, ?_⟩) ?_
          rotate_left
          · (intro w _; go_simp <;> with_reducible rfl)
          try simp only [Act.put, List.setIfInBounds_toArray, List.set_cons_zero, List.set_cons_succ]
          refine anyHT_take (fun _ => trivial) (by kernel_rfl) [8, 9, 10, 11] (i := 3) (oi := { dst := some 72, op := Op.load 22 (Operand.tmp 71), type := 22, pos := "stream.go:93", after := #[{ on := 2, ground := Ground.data }], guard := none }) (v := ?_) rfl (by kernel_rfl) (by kernel_rfl) (by kernel_rfl) (by kernel_rfl) (by kernel_rfl) (by decide) (fun _ _ _ h => h) (Or.inl ⟨by rfl, ?_⟩) hHeld ?_
          rotate_left
          · (intro w hSw; (try dsimp only at hSw); go_simp <;> with_reducible rfl)
          try simp only [Act.put, List.setIfInBounds_toArray, List.set_cons_zero, List.set_cons_succ]
          refine anyHT_pure (fun _ => trivial) (by kernel_rfl) (i := 4) (oi := { dst := some 73, op := Op.fieldAddr 139 (Operand.tmp 7) 0, type := 0, pos := "stream.go:93", after := #[], guard := none }) (v := ?_) rfl (by kernel_rfl) (by kernel_rfl) (by kernel_rfl) (fun _ _ _ h => h) (Or.inl ⟨by rfl, ?_⟩) ?_
          rotate_left
          · (intro w _; go_simp <;> with_reducible rfl)
          try simp only [Act.put, List.setIfInBounds_toArray, List.set_cons_zero, List.set_cons_succ]
          refine anyHT_take (fun _ => trivial) (by kernel_rfl) [8, 9, 10, 11] (i := 5) (oi := { dst := some 74, op := Op.load 3 (Operand.tmp 73), type := 3, pos := "stream.go:93", after := #[{ on := 4, ground := Ground.data }], guard := none }) (v := ?_) rfl (by kernel_rfl) (by kernel_rfl) (by kernel_rfl) (by kernel_rfl) (by kernel_rfl) (by decide) (fun _ _ _ h => h) (Or.inl ⟨by rfl, ?_⟩) hHeld ?_
          rotate_left
          · (intro w hSw; (try dsimp only at hSw); go_simp <;> with_reducible rfl)
          try simp only [Act.put, List.setIfInBounds_toArray, List.set_cons_zero, List.set_cons_succ]
          refine anyHT_pure (fun _ => trivial) (by kernel_rfl) (i := 6) (oi := { dst := some 75, op := Op.fieldAddr 139 (Operand.tmp 7) 1, type := 0, pos := "stream.go:93", after := #[], guard := none }) (v := ?_) rfl (by kernel_rfl) (by kernel_rfl) (by kernel_rfl) (fun _ _ _ h => h) (Or.inl ⟨by rfl, ?_⟩) ?_
          rotate_left
          · (intro w _; go_simp <;> with_reducible rfl)
          try simp only [Act.put, List.setIfInBounds_toArray, List.set_cons_zero, List.set_cons_succ]
          refine anyHT_take (fun _ => trivial) (by kernel_rfl) [8, 9, 10, 11] (i := 7) (oi := { dst := some 76, op := Op.load 3 (Operand.tmp 75), type := 3, pos := "stream.go:93", after := #[{ on := 6, ground := Ground.data }], guard := none }) (v := ?_) rfl (by kernel_rfl) (by kernel_rfl) (by kernel_rfl) (by kernel_rfl) (by kernel_rfl) (by decide) (fun _ _ _ h => h) (Or.inl ⟨by rfl, ?_⟩) hHeld ?_
          rotate_left
          · (intro w hSw; (try dsimp only at hSw); go_simp <;> with_reducible rfl)
          try simp only [Act.put, List.setIfInBounds_toArray, List.set_cons_zero, List.set_cons_succ]
          refine anyHT_pure (fun _ => trivial) (by kernel_rfl) (i := 8) (oi := { dst := some 77, op := Op.slice 22 (Operand.tmp 72) (some (Operand.tmp 74)) (some (Operand.tmp 76)) none, type := 22, pos := "stream.go:93", after := #[{ on := 3, ground := Ground.data }, { on := 5, ground := Ground.data }, { on := 7, ground := Ground.data }], guard := none }) (v := ?_) rfl (by kernel_rfl) (by kernel_rfl) (by kernel_rfl) (fun _ _ _ h => h) (Or.inl ⟨by rfl, ?_⟩) ?_
          rotate_left
          · (intro w _; go_simp <;> with_reducible rfl)
          try simp only [Act.put, List.setIfInBounds_toArray, List.set_cons_zero, List.set_cons_succ]
          refine anyHT_one (i := 9) (o := { dst := some 78, op := Op.call { callee := Callee.builtin Builtin.append, args := #[Operand.tmp 70, Operand.tmp 77], argTypes := #[22, 22] }, type := 22, pos := "stream.go:93", after := #[{ on := 1, ground := Ground.data }, { on := 8, ground := Ground.data }], guard := none }) (by kernel_rfl) rfl (by rfl) (fun K hK => ?_)
          refine append_wpIn (fun _ => trivial) (.tmp 70) (.tmp 77) 22 3 (.int .i64 0) 1 8 rfl Try.underlying22 info3 rfl (by decide) (by decide) w.heap.size (.slice As st.out.length cs2) st.out.length (Flat eI st.out) A' (mid xs from_ to_).length c' (Flat eI (mid xs from_ to_)) rfl rfl (pw_own_below HOS.out (below_drew (Below.refl _ _))) (by rw [Flat_length eI_len]; rfl) ((Cells.of_C (Kd.int .i64) eI_len eI_inv (by decide) (Kd.C_below HCm.out (below_drew HB3.out)))) (Flat_mem eI_one) ?_ (Nat.le_trans (by have := HB3.out.size; omega) (below_drew (Below.refl wr2.heap.size wr2)).size) ?_
          · have := HLO.out; have := HLM.out; omega
          intro v1 w1 hA
          obtain ⟨A1, cap1, rfl⟩ := own_slice hA.own
          refine hK.out _ _ (fun h => absurd (by decide) h) ?_
          clear hK K
          try simp only [Act.put, List.setIfInBounds_toArray, List.set_cons_zero, List.set_cons_succ]
          refine anyHT_pure (fun _ => trivial) (by kernel_rfl) (i := 10) (oi := { dst := some 79, op := Op.fieldAddr 30 (Operand.tmp 5) 2, type := 0, pos := "stream.go:93", after := #[{ on := 0, ground := Ground.phase }, { on := 1, ground := Ground.phase }, { on := 2, ground := Ground.phase }, { on := 3, ground := Ground.phase }, { on := 4, ground := Ground.phase }, { on := 5, ground := Ground.phase }, { on := 6, ground := Ground.phase }, { on := 7, ground := Ground.phase }, { on := 8, ground := Ground.phase }, { on := 9, ground := Ground.phase }], guard := none }) (v := ?_) rfl (by kernel_rfl) (by kernel_rfl) (by kernel_rfl) (fun _ _ _ h => h) (Or.inl ⟨by rfl, ?_⟩) ?_
          rotate_left
          · (intro w _; go_simp <;> with_reducible rfl)
          try simp only [Act.put, List.setIfInBounds_toArray, List.set_cons_zero, List.set_cons_succ]
          refine anyHT_one (i := 11) (o := { dst := none, op := Op.store 22 (Operand.tmp 79) (Operand.tmp 78), type := 0, pos := "stream.go:93", after := #[{ on := 10, ground := Ground.data }, { on := 9, ground := Ground.data }, { on := 9, ground := Ground.chain }, { on := 0, ground := Ground.phase }, { on := 1, ground := Ground.phase }, { on := 2, ground := Ground.phase }, { on := 3, ground := Ground.phase }, { on := 4, ground := Ground.phase }, { on := 5, ground := Ground.phase }, { on := 6, ground := Ground.phase }, { on := 7, ground := Ground.phase }, { on := 8, ground := Ground.phase }, { on := 9, ground := Ground.phase }], guard := none }) (by kernel_rfl) rfl (by rfl) (fun K hK => ?_)
          have hfz : w1.frozen? ⟨w.heap.size + 1 + 1 + 1, 2, none⟩ = false := blk_frozen (blk_grown (blk_drew HO3.out) hA.grown (own_ne HOS.out HO3.out (by decide))) 2
          have hcl : w1.cell? ⟨w.heap.size + 1 + 1 + 1, 2, none⟩ = some (.slice As st.out.length cs2) := (blk_cell (blk_grown (blk_drew HO3.out) hA.grown (own_ne HOS.out HO3.out (by decide))) 2).trans rfl
          go_simp
          refine hK.out _ _ (fun h => absurd (by decide) h) ?_
          clear hK K
          try simp only [Act.put, List.setIfInBounds_toArray, List.set_cons_zero, List.set_cons_succ]
          refine anyHT_done (by kernel_rfl) ?_ _
          have HZ := HSTEP.out wr2.drew (below_drew (Below.refl _ _)) w1 A1 cap1 hA
          refine ⟨(HFd.out.trans (KeepsFrom.of_grownBy (grownBy_drew wr2) (fun j e => by cases e))).trans HZ.frm, (HKd.out.trans (Keeps.of_below (below_drew (Below.refl wr2.heap.size wr2)))).trans HZ.keep, ?_, by simp; omega⟩
          rw [HST.out]
          simpa [paceStep] using HZ.inv
      | cons s0 rest =>
        rw [hld] at hg2 hlg hC
        obtain ⟨ad, rfl, hS0, hS1⟩ := at_T32 hC 0 (by omega) (by simp)
        rw [show ad.add ((0 : Int).toNat * 2) = ad from by simp [Addr.add]] at hS0 hS1
        simp only [rd_T32, show (0 : Int).toNat = 0 from rfl, List.getD_cons_zero] at hS0 hS1
        replace hS0 := (hb2.cell (World.block_lt_of_cell? w _ hS0)).trans hS0
        replace hS1 := (hb2.cell (World.block_lt_of_cell? w _ hS1)).trans hS1
        have hG0 : wr.cell? ⟨w.heap.size + 1 + 1 + 1 + 1, 0, none⟩ = some (.slice (some ad) (s0 :: rest).length cg) := blk_cell hg2 0
        have HL : Aside0 ((s0 :: rest).length = rest.length + 1) := ⟨rfl⟩
        have hLp : 0 < (s0 :: rest).length := by simp
        have hLz : (0 : Int) < ((s0 :: rest).length : Int) := by omega
        have HG2 := Aside0.mk hg2
        have HC := Aside0.mk hC
        have HLG := Aside0.mk hlg
        clear hg2 hC hlg hos hog h52 h62 hs2 hr2 hsz2 ho2
        generalize hL : (s0 :: rest).length = L at *
        have hd1 : decide ((0 : Int) < (L : Int)) = true := decide_eq_true hLz
        have hd2 : decide (0 < L) = true := decide_eq_true hLp
        by_cases hlt' : s0.f0 < to_
        · have hd3 : decide (s0.f0 < to_) = true := decide_eq_true hlt'
          gi_wp2
          refine region_anyHT (fun W' => W'.cell? ⟨w.heap.size + 1 + 1 + 1 + 1, 0, none⟩ = some (.slice (some ad) L cg) ∧ W'.cell? ad = some (.int .i64 s0.f0) ∧ W'.cell? ⟨Bx, 1, none⟩ = some (.int .i64 to_)) [] (by kernel_rfl) (⟨hG0, hS0, hX1⟩) (fun hHeld => ?_)
          refine anyHT_take (fun _ => trivial) (by kernel_rfl) [1, 2, 3, 4, 5, 6, 7, 8, 9, 10, 11] (i := 0) (oi := { dst := some 28, op := Op.load 28 (Operand.tmp 6), type := 28, pos := "stream.go:84", after := #[], guard := none }) (v := ?_) rfl (by kernel_rfl) (by kernel_rfl) (by kernel_rfl) (by kernel_rfl) (by kernel_rfl) (by decide) (fun _ _ _ h => h) (Or.inl ⟨by rfl, ?_⟩) hHeld ?_
          rotate_left
          · (intro w hSw; (try dsimp only at hSw); go_simp <;> with_reducible rfl)
          try simp only [Act.put, List.setIfInBounds_toArray, List.set_cons_zero, List.set_cons_succ]
          refine anyHT_pure (fun _ => trivial) (by kernel_rfl) (i := 1) (oi := { dst := some 29, op := Op.call { callee := Callee.builtin Builtin.len, args := #[Operand.tmp 28], argTypes := #[28] }, type := 3, pos := "stream.go:84", after := #[{ on := 0, ground := Ground.data }], guard := none }) (v := ?_) rfl (by kernel_rfl) (by kernel_rfl) (by kernel_rfl) (fun _ _ _ h => h) (Or.inl ⟨by rfl, ?_⟩) ?_
          rotate_left
          · (intro w _; go_simp <;> with_reducible rfl)
          try simp only [Act.put, List.setIfInBounds_toArray, List.set_cons_zero, List.set_cons_succ]
          refine anyHT_pure (fun _ => trivial) (by kernel_rfl) (i := 2) (oi := { dst := some 30, op := Op.binOp BinOp.gtr 3 (Operand.tmp 29) (Operand.const (Value.int IntKind.i64 0)) 3, type := 4, pos := "stream.go:84", after := #[{ on := 1, ground := Ground.data }], guard := none }) (v := ?_) rfl (by kernel_rfl) (by kernel_rfl) (by kernel_rfl) (fun _ _ _ h => h) (Or.inl ⟨by rfl, ?_⟩) ?_
          rotate_left
          · (intro w _; go_simp <;> with_reducible rfl)
          try simp only [Act.put, List.setIfInBounds_toArray, List.set_cons_zero, List.set_cons_succ]
          refine anyHT_pure (fun _ => trivial) (by kernel_rfl) (i := 3) (oi := { dst := some 31, op := Op.move (Operand.tmp 30), type := 4, pos := "stream.go:84", after := #[{ on := 2, ground := Ground.data }], guard := none }) (v := ?_) rfl (by kernel_rfl) (by kernel_rfl) (by kernel_rfl) (fun _ _ _ h => h) (Or.inl ⟨by rfl, ?_⟩) ?_
          rotate_left
          · (intro w _; go_simp <;> with_reducible rfl)
          try simp only [Act.put, List.setIfInBounds_toArray, List.set_cons_zero, List.set_cons_succ]
          refine anyHT_take (fun _ => trivial) (by kernel_rfl) [5, 6, 7, 10, 11] (i := 4) (oi := { dst := some 32, op := Op.load 28 (Operand.tmp 6), type := 28, pos := "stream.go:84", after := #[{ on := 3, ground := Ground.guard }], guard := some (3, true) }) (v := ?_) rfl (by kernel_rfl) (by kernel_rfl) (by kernel_rfl) (by kernel_rfl) (by kernel_rfl) (by decide) (fun _ _ _ h => h) (Or.inl ⟨by rfl, ?_⟩) hHeld ?_
          rotate_left
          · (intro w hSw; (try dsimp only at hSw); go_simp <;> with_reducible rfl)
          try simp only [Act.put, List.setIfInBounds_toArray, List.set_cons_zero, List.set_cons_succ]
          refine anyHT_pure (fun _ => trivial) (by kernel_rfl) (i := 5) (oi := { dst := some 33, op := Op.indexAddr 28 (Operand.tmp 32) (Operand.const (Value.int IntKind.i64 0)), type := 0, pos := "stream.go:84", after := #[{ on := 4, ground := Ground.data }, { on := 3, ground := Ground.guard }], guard := some (3, true) }) (v := ?_) rfl (by kernel_rfl) (by kernel_rfl) (by kernel_rfl) (fun _ _ _ h => h) (Or.inl ⟨by rfl, ?_⟩) ?_
          rotate_left
          · (intro w _; go_simp <;> with_reducible rfl)
          try simp only [Act.put, List.setIfInBounds_toArray, List.set_cons_zero, List.set_cons_succ]
          refine anyHT_pure (fun _ => trivial) (by kernel_rfl) (i := 6) (oi := { dst := some 34, op := Op.fieldAddr 32 (Operand.tmp 33) 0, type := 0, pos := "stream.go:84", after := #[{ on := 5, ground := Ground.data }, { on := 3, ground := Ground.guard }], guard := some (3, true) }) (v := ?_) rfl (by kernel_rfl) (by kernel_rfl) (by kernel_rfl) (fun _ _ _ h => h) (Or.inl ⟨by rfl, ?_⟩) ?_
          rotate_left
          · (intro w _; go_simp <;> with_reducible rfl)
          try simp only [Act.put, List.setIfInBounds_toArray, List.set_cons_zero, List.set_cons_succ]
          refine anyHT_take (fun _ => trivial) (by kernel_rfl) [10, 11] (i := 7) (oi := { dst := some 35, op := Op.load 3 (Operand.tmp 34), type := 3, pos := "stream.go:84", after := #[{ on := 6, ground := Ground.data }, { on := 3, ground := Ground.guard }], guard := some (3, true) }) (v := ?_) rfl (by kernel_rfl) (by kernel_rfl) (by kernel_rfl) (by kernel_rfl) (by kernel_rfl) (by decide) (fun _ _ _ h => h) (Or.inl ⟨by rfl, ?_⟩) hHeld ?_
          rotate_left
          · (intro w hSw; (try dsimp only at hSw); go_simp <;> with_reducible rfl)
          try simp only [Act.put, List.setIfInBounds_toArray, List.set_cons_zero, List.set_cons_succ]
          refine anyHT_pure (fun _ => trivial) (by kernel_rfl) (i := 8) (oi := { dst := some 36, op := Op.fieldAddr 139 (Operand.tmp 7) 1, type := 0, pos := "stream.go:84", after := #[{ on := 3, ground := Ground.guard }], guard := some (3, true) }) (v := ?_) rfl (by kernel_rfl) (by kernel_rfl) (by kernel_rfl) (fun _ _ _ h => h) (Or.inl ⟨by rfl, ?_⟩) ?_
          rotate_left
          · (intro w _; go_simp <;> with_reducible rfl)
          try simp only [Act.put, List.setIfInBounds_toArray, List.set_cons_zero, List.set_cons_succ]
          refine anyHT_take (fun _ => trivial) (by kernel_rfl) [10, 11] (i := 9) (oi := { dst := some 37, op := Op.load 3 (Operand.tmp 36), type := 3, pos := "stream.go:84", after := #[{ on := 8, ground := Ground.data }, { on := 3, ground := Ground.guard }], guard := some (3, true) }) (v := ?_) rfl (by kernel_rfl) (by kernel_rfl) (by kernel_rfl) (by kernel_rfl) (by kernel_rfl) (by decide) (fun _ _ _ h => h) (Or.inl ⟨by rfl, ?_⟩) hHeld ?_
          rotate_left
          · (intro w hSw; (try dsimp only at hSw); go_simp <;> with_reducible rfl)
          try simp only [Act.put, List.setIfInBounds_toArray, List.set_cons_zero, List.set_cons_succ]
          refine anyHT_pure (fun _ => trivial) (by kernel_rfl) (i := 10) (oi := { dst := some 38, op := Op.binOp BinOp.lss 3 (Operand.tmp 35) (Operand.tmp 37) 3, type := 4, pos := "stream.go:84", after := #[{ on := 7, ground := Ground.data }, { on := 9, ground := Ground.data }, { on := 3, ground := Ground.guard }], guard := some (3, true) }) (v := ?_) rfl (by kernel_rfl) (by kernel_rfl) (by kernel_rfl) (fun _ _ _ h => h) (Or.inl ⟨by rfl, ?_⟩) ?_
          rotate_left
          · (intro w _; go_simp <;> with_reducible rfl)
          try simp only [Act.put, List.setIfInBounds_toArray, List.set_cons_zero, List.set_cons_succ]
          refine anyHT_pure (fun _ => trivial) (by kernel_rfl) (i := 11) (oi := { dst := some 39, op := Op.pick (Operand.tmp 31) (Operand.tmp 38) (Operand.const (Value.bool false)), type := 4, pos := "stream.go:84", after := #[{ on := 3, ground := Ground.data }, { on := 10, ground := Ground.data }], guard := none }) (v := ?_) rfl (by kernel_rfl) (by kernel_rfl) (by kernel_rfl) (fun _ _ _ h => h) (Or.inl ⟨by rfl, ?_⟩) ?_
          rotate_left
          · (intro w _; go_simp <;> with_reducible rfl)
          try simp only [Act.put, List.setIfInBounds_toArray, List.set_cons_zero, List.set_cons_succ]
          refine anyHT_done (by kernel_rfl) ?_ _
          have HP2 : PInv w w.heap.size (w.heap.size + 1 + 1 + 1) (w.heap.size + 1 + 1 + 1 + 1) (w.heap.size + 1 + 1) f0 f1 f5 #[.int .i64 f0, .int .i64 f1, .slice A2 xs.length c2, .slice A3 ps.length c3, .slice A4 ss.length c4, .int .i64 f5] #[.int .i64 0, .int .i64 0, .slice none 0 0, .slice none 0 0, .slice none 0 0, .int .i64 0] ⟨st.out, st.signs ++ ((st.left.takeWhile (fun s => decide (s.f0 < to_))).take j).map (place st.out.length (from_, to_, said)), s0 :: rest⟩ wr.drew := by have := HI.out; rw [hld] at this; exact this.drew
          have HTM := Aside0.mk (tw_more HJ.out hld hd3)
          have HXd := Aside0.mk (blk_drew HX.out)
          have HKd := Aside0.mk (HK.out.trans (Keeps.of_below (below_drew (Below.refl wr.heap.size wr))))
          have HFd := Aside0.mk (HF.out.trans ((KeepsFrom.of_grownBy (B := W0.heap.size) (grownBy_drew wr) (fun j e => by cases e))))
          have hX2 : wr.drew.cell? ⟨Bx, 2, none⟩ = some (.bool said) := blk_cell HXd.out 2
          replace hS0 : wr.drew.cell? ad = some (.int .i64 s0.f0) := hS0
          replace hS1 : wr.drew.cell? ⟨ad.block, ad.off + 1, none⟩ = some (.string s0.f1) := hS1
          replace hG0 : wr.drew.cell? ⟨w.heap.size + 1 + 1 + 1 + 1, 0, none⟩ = some (.slice (some ad) L cg) := hG0
          have HLL : Aside0 (leftLen wr (w.heap.size + 1 + 1 + 1 + 1) = L) := ⟨by rw [← hL]; exact HI.out.left.trans (by rw [hld])⟩
          have HMEM : Aside0 (s0 ∈ st.left) := ⟨List.mem_of_mem_drop (i := j) (by rw [hld]; simp)⟩
          clear HI HX HK HF hX1 hld HJ HG2 HC HLG
          generalize hw2 : wr.drew = wr2 at *
          clear hw2
          have HPP := Aside0.mk HP2
          clear HP2
          obtain ⟨hb3, hsz3, hs3, hr3, h53, h63, vs3, vg3, Ag3, cg3, ho3, hg3, hlg3, hC3, hos3, hog3⟩ := HPP.out
          try dsimp only at hg3 hlg3 hC3 hos3 hog3
          rw [hL] at hg3 hlg3 hC3
          obtain ⟨rfl, rfl⟩ : Ag3 = some ad ∧ cg3 = cg := by have := blk_cell hg3 0; rw [hG0] at this; simpa using this.symm
          generalize hG : st.signs ++ ((st.left.takeWhile (fun s => decide (s.f0 < to_))).take j).map (place st.out.length (from_, to_, said)) = G at *
          have hO4 : wr2.cell? ⟨w.heap.size + 1 + 1 + 1, 4, none⟩ = some vg3 := blk_cell ho3 4
          have hX0 : wr2.cell? ⟨Bx, 0, none⟩ = some (.int .i64 from_) := blk_cell HXd.out 0
          have HOG := Aside0.mk hog3
          have HO3 := Aside0.mk ho3
          have HG3 := Aside0.mk hg3
          have HSZ := Aside0.mk hsz3
          have HLG : Aside0 (G.length ≤ 1000000) := ⟨by
            rw [← hG, List.length_append, List.length_map]
            have h1 := HSG.out
            have h2 : ((st.left.takeWhile (fun s => decide (s.f0 < to_))).take j).length ≤ (st.left.takeWhile (fun s => decide (s.f0 < to_))).length := by rw [List.length_take]; omega
            have h3 := (List.takeWhile_prefix (fun s : S32 => decide (s.f0 < to_)) (l := st.left)).length_le
            have h4 := V7.out.1
            omega⟩
          have hs0b : 0 ≤ s0.f0 ∧ s0.f0 ≤ 40000 := by
            obtain ⟨i, hi, hgi⟩ := List.getElem_of_mem (HSUF.out.subset HMEM.out)
            have h1 := V7.out.2 i hi
            have h2 : rd_T32 ss i = s0 := by simp [rd_T32, List.getD_eq_getElem?_getD, List.getElem?_eq_getElem hi, hgi]
            rw [h2] at h1
            have := V4.out
            omega
          have HYS : Aside0 (0 ≤ wr2.heap.size) := ⟨Nat.zero_le _⟩
          obtain ⟨Aq, hAq⟩ : ∃ Aq, (if cg3 = (1 : Int).toNat then some ad else (some ad).map (·.add ((1 : Int).toNat * 2))) = Aq := ⟨_, rfl⟩
          obtain ⟨cq, hcq⟩ : ∃ cq, cg3 - 1 = cq := ⟨_, rfl⟩
          have hcutL : ∀ W : World, (Instr.slice 28 (.slice (some ad) L cg3) (some (.int .i64 1)) none none).run Try.prog W = .ok (.slice Aq rest.length cq) W := by
            intro W'
            obtain ⟨i, hi, hz⟩ := Option.map_eq_some_iff.1 info32
            simp only [Prod.mk.injEq] at hz
            rw [cut_from 28 32 .i64 Try.underlying28 hi 2 hz.2.1 (some ad) L cg3 1 (by omega) (by have := HL.out; omega) W', hAq, ← hcq]
            have := HL.out
            rw [show L - (1 : Int).toNat = rest.length from by simp; omega, show cg3 - (1 : Int).toNat = cg3 - 1 from rfl]
          have hCq : Kd.C k32 w Aq rest.length rest := by
            have := Kd.C_drop (m := 1) (c := cg3) (hL ▸ hC3) (by simp) (by rw [hL]; exact hlg3)
            rw [← hAq]
            exact this
          have HSTEP := Aside0.mk (fun (Z : World) (hb : Below wr2.heap.size wr2 Z) (m : S32) (w1 : World) (A1 : Option Addr) (cap1 : Nat) hA => PInv.signed (kp := kp) (B := W0.heap.size) (X := Z) (w1 := w1) (o := st.out) (g := G) (l := rest) (m := m) (u := .slice A1 (G.length + 1) cap1) (k := G.length + 1) (Br := w.heap.size + 1 + 1) (Ag := Aq) (cg := cq) hkpn (below_trans' hb3 hb) (Nat.le_trans hsz3 hb.size) (pw_blk_below hs3 hb) (pw_blk_below hr3 hb) (h53.imp fun _ h => pw_blk_below h hb) (h63.imp fun _ h => pw_blk_below h hb) (pw_blk_below ho3 hb) (pw_blk_below hg3 hb) (fun _ => rfl) (pw_own_below hos3 hb) (pw_own_below HOG.out hb) hA (by simp) (by have := HL.out; omega) hCq (by omega) (by omega) (by omega) (by omega) (by omega) (by omega) (by omega) (fun h => by have := hkpn _ h; omega) (fun h => by have := hkpn _ h; omega) (by omega) (by omega))
          clear hAq hcq hCq
          clear hog3 ho3 hb3 hs3 hr3 h53 h63 hg3 hlg3 hC3 hos3 hsz3
          have hb7 : Below wr2.heap.size wr2 (wr2.alloc (.cells #[.int .i64 st.out.length, .string s0.f1] 32)) := below_alloc (Below.refl _ _) _
          have hX2a := pw_cell_below hb7 hX2
          have hX0a := pw_cell_below hb7 hX0
          have hO4a := pw_cell_below hb7 hO4
          have hG0a := pw_cell_below hb7 hG0
          have hS0a := pw_cell_below hb7 hS0
          clear hb7
          cases said with
          | false =>
            gi_wp2_with (gi_at_builtin; refine append_listIn (fun _ => trivial) rfl (.tmp 60) (.tmp 62) 28 32 (.agg #[.int .i64 0, .string ⟨#[]⟩]) 2 24 rfl Try.underlying28 info32 rfl (by decide) (by decide) w.heap.size vg3 G.length (Flat e32 G) (some ⟨_, 0, none⟩) 1 1 (e32 ⟨st.out.length, s0.f1⟩) rfl rfl (pw_own_below HOG.out ?ownb) rfl (Cells.new' ?newb _ #[.int .i64 (st.out.length), .string s0.f1] 32 1) (e32_one _) ?bytes ?base ?_)
            case newb => first | exact rfl | (simp; done)
            case ownb => exact below_alloc (below_alloc (Below.refl _ _) _) _
            case bytes => have := HLG.out; omega
            case base => have := HSZ.out; have := HYS.out; (try simp); omega
            intro v1 w1 hA
            obtain ⟨A1, cap1, rfl⟩ := own_slice hA.own
            have hO5 := blk_grown (pw_blk_below HO3.out (below_alloc (below_alloc (Below.refl _ _) _) _)) hA.grown (own_ne HOG.out HO3.out (by decide))
            have hG5 := blk_grown (pw_blk_below HG3.out (below_alloc (below_alloc (Below.refl _ _) _) _)) hA.grown (own_ne HOG.out HG3.out (by decide))
            have hX5 := blk_grown (pw_blk_below HXd.out (below_alloc (below_alloc (Below.refl _ _) _) _)) hA.grown (own_ne HOG.out HXd.out (by decide))
            have hfz5 : w1.frozen? ⟨w.heap.size + 1 + 1 + 1, 4, none⟩ = false := blk_frozen hO5 4
            have hcl5 : w1.cell? ⟨w.heap.size + 1 + 1 + 1, 4, none⟩ = some vg3 := blk_cell hO5 4
            have hG6 := blk_far hG5 (p := ⟨w.heap.size + 1 + 1 + 1, 4, none⟩) (by dsimp only; omega) (.slice A1 (G.length + 1) cap1)
            have hfz6 : (w1.setCell ⟨w.heap.size + 1 + 1 + 1, 4, none⟩ (.slice A1 (G.length + 1) cap1)).frozen? ⟨w.heap.size + 1 + 1 + 1 + 1, 0, none⟩ = false := blk_frozen hG6 0
            have hcl6 : (w1.setCell ⟨w.heap.size + 1 + 1 + 1, 4, none⟩ (.slice A1 (G.length + 1) cap1)).cell? ⟨w.heap.size + 1 + 1 + 1 + 1, 0, none⟩ = some (.slice (some ad) L cg3) := blk_cell hG6 0
            have HA := Aside0.mk (HSTEP.out _ (below_alloc (below_alloc (Below.refl _ _) _) _) ⟨st.out.length, s0.f1⟩ w1 A1 cap1 hA)
            have HXZ := Aside0.mk (blk_far (blk_far hX5 (p := ⟨w.heap.size + 1 + 1 + 1, 4, none⟩) (by dsimp only; omega) (.slice A1 (G.length + 1) cap1)) (p := ⟨w.heap.size + 1 + 1 + 1 + 1, 0, none⟩) (by dsimp only; omega) (.slice Aq rest.length cq))
            have HKZ : Aside0 (Keeps kp W _) := ⟨(HKd.out.trans (Keeps.of_below (below_alloc (below_alloc (Below.refl _ _) _) _))).trans HA.out.keep⟩
            have HFZ : Aside0 (KeepsFrom W0.heap.size W _) := ⟨(HFd.out.trans (((KeepsOthers.alloc _ _).trans (KeepsOthers.alloc _ _)).from _)).trans HA.out.frm⟩
            clear hO5 hG5 hX5 hG6 hA HKd HFd HXd
            gi_wp2
            go_roundw
            case rel =>
              refine ⟨j + 1, ⟨HTM.out.1⟩, ⟨?_⟩, HXZ, HKZ, HFZ⟩
              rw [HTM.out.2.1, HTM.out.2.2, List.map_append, ← List.append_assoc, hG]
              simpa [place] using HA.out.inv
            case measure =>
              rw [HA.out.inv.left, HLL.out]
              have := HL.out
              dsimp only
              omega
          | true =>
            have hwa : IntKind.i64.wrap (s0.f0 - from_) = s0.f0 - from_ := IntWalk.i64_in _ (by have := V4.out; have := HX0.out; have := HX1.out; have := HX2.out; omega)
            have hwb : IntKind.i64.wrap ((st.out.length : Int) + (s0.f0 - from_)) = (st.out.length : Int) + (s0.f0 - from_) := IntWalk.i64_in _ (by have := V4.out; have := HX0.out; have := HX1.out; have := HX2.out; have := HLO0.out; omega)
            gi_wp2
            refine region_anyHT (fun W' => W'.cell? ⟨wr2.heap.size, 0, none⟩ = some (.int .i64 st.out.length) ∧ W'.cell? ⟨w.heap.size + 1 + 1 + 1 + 1, 0, none⟩ = some (.slice (some ad) L cg3) ∧ W'.cell? ad = some (.int .i64 s0.f0) ∧ W'.cell? ⟨Bx, 0, none⟩ = some (.int .i64 from_)) [11] (by kernel_rfl) (⟨blk_cell (blk_drew (blk_new' rfl _)) 0, hG0a, hS0a, hX0a⟩) (fun hHeld => ?_)
            refine anyHT_pure (fun _ => trivial) (by kernel_rfl) (i := 0) (oi := { dst := some 48, op := Op.fieldAddr 32 (Operand.tmp 9) 0, type := 0, pos := "stream.go:87", after := #[], guard := none }) (v := ?_) rfl (by kernel_rfl) (by kernel_rfl) (by kernel_rfl) (fun _ _ _ h => h) (Or.inl ⟨by rfl, ?_⟩) ?_
            rotate_left
            · (intro w _; go_simp <;> with_reducible rfl)
            try simp only [Act.put, List.setIfInBounds_toArray, List.set_cons_zero, List.set_cons_succ]
            refine anyHT_take (fun _ => trivial) (by kernel_rfl) [9, 10, 11] (i := 1) (oi := { dst := some 49, op := Op.load 3 (Operand.tmp 48), type := 3, pos := "stream.go:87", after := #[{ on := 0, ground := Ground.data }], guard := none }) (v := ?_) rfl (by kernel_rfl) (by kernel_rfl) (by kernel_rfl) (by kernel_rfl) (by kernel_rfl) (by decide) (fun _ _ _ h => h) (Or.inl ⟨by rfl, ?_⟩) hHeld ?_
            rotate_left
            · (intro w hSw; (try dsimp only at hSw); go_simp <;> with_reducible rfl)
            try simp only [Act.put, List.setIfInBounds_toArray, List.set_cons_zero, List.set_cons_succ]
            refine anyHT_take (fun _ => trivial) (by kernel_rfl) [3, 4, 5, 8, 9, 10, 11] (i := 2) (oi := { dst := some 50, op := Op.load 28 (Operand.tmp 6), type := 28, pos := "stream.go:87", after := #[], guard := none }) (v := ?_) rfl (by kernel_rfl) (by kernel_rfl) (by kernel_rfl) (by kernel_rfl) (by kernel_rfl) (by decide) (fun _ _ _ h => h) (Or.inl ⟨by rfl, ?_⟩) hHeld ?_
            rotate_left
            · (intro w hSw; (try dsimp only at hSw); go_simp <;> with_reducible rfl)
            try simp only [Act.put, List.setIfInBounds_toArray, List.set_cons_zero, List.set_cons_succ]
            refine anyHT_pure (fun _ => trivial) (by kernel_rfl) (i := 3) (oi := { dst := some 51, op := Op.indexAddr 28 (Operand.tmp 50) (Operand.const (Value.int IntKind.i64 0)), type := 0, pos := "stream.go:87", after := #[{ on := 2, ground := Ground.data }], guard := none }) (v := ?_) rfl (by kernel_rfl) (by kernel_rfl) (by kernel_rfl) (fun _ _ _ h => h) (Or.inl ⟨by rfl, ?_⟩) ?_
            rotate_left
            · (intro w _; go_simp <;> with_reducible rfl)
            try simp only [Act.put, List.setIfInBounds_toArray, List.set_cons_zero, List.set_cons_succ]
            refine anyHT_pure (fun _ => trivial) (by kernel_rfl) (i := 4) (oi := { dst := some 52, op := Op.fieldAddr 32 (Operand.tmp 51) 0, type := 0, pos := "stream.go:87", after := #[{ on := 3, ground := Ground.data }], guard := none }) (v := ?_) rfl (by kernel_rfl) (by kernel_rfl) (by kernel_rfl) (fun _ _ _ h => h) (Or.inl ⟨by rfl, ?_⟩) ?_
            rotate_left
            · (intro w _; go_simp <;> with_reducible rfl)
            try simp only [Act.put, List.setIfInBounds_toArray, List.set_cons_zero, List.set_cons_succ]
            refine anyHT_take (fun _ => trivial) (by kernel_rfl) [8, 9, 10, 11] (i := 5) (oi := { dst := some 53, op := Op.load 3 (Operand.tmp 52), type := 3, pos := "stream.go:87", after := #[{ on := 4, ground := Ground.data }], guard := none }) (v := ?_) rfl (by kernel_rfl) (by kernel_rfl) (by kernel_rfl) (by kernel_rfl) (by kernel_rfl) (by decide) (fun _ _ _ h => h) (Or.inl ⟨by rfl, ?_⟩) hHeld ?_
            rotate_left
            · (intro w hSw; (try dsimp only at hSw); go_simp <;> with_reducible rfl)
            try simp only [Act.put, List.setIfInBounds_toArray, List.set_cons_zero, List.set_cons_succ]
            refine anyHT_pure (fun _ => trivial) (by kernel_rfl) (i := 6) (oi := { dst := some 54, op := Op.fieldAddr 139 (Operand.tmp 7) 0, type := 0, pos := "stream.go:87", after := #[], guard := none }) (v := ?_) rfl (by kernel_rfl) (by kernel_rfl) (by kernel_rfl) (fun _ _ _ h => h) (Or.inl ⟨by rfl, ?_⟩) ?_
            rotate_left
            · (intro w _; go_simp <;> with_reducible rfl)
            try simp only [Act.put, List.setIfInBounds_toArray, List.set_cons_zero, List.set_cons_succ]
            refine anyHT_take (fun _ => trivial) (by kernel_rfl) [8, 9, 10, 11] (i := 7) (oi := { dst := some 55, op := Op.load 3 (Operand.tmp 54), type := 3, pos := "stream.go:87", after := #[{ on := 6, ground := Ground.data }], guard := none }) (v := ?_) rfl (by kernel_rfl) (by kernel_rfl) (by kernel_rfl) (by kernel_rfl) (by kernel_rfl) (by decide) (fun _ _ _ h => h) (Or.inl ⟨by rfl, ?_⟩) hHeld ?_
            rotate_left
            · (intro w hSw; (try dsimp only at hSw); go_simp <;> with_reducible rfl)
            try simp only [Act.put, List.setIfInBounds_toArray, List.set_cons_zero, List.set_cons_succ]
            refine anyHT_pure (fun _ => trivial) (by kernel_rfl) (i := 8) (oi := { dst := some 56, op := Op.binOp BinOp.sub 3 (Operand.tmp 53) (Operand.tmp 55) 3, type := 3, pos := "stream.go:87", after := #[{ on := 5, ground := Ground.data }, { on := 7, ground := Ground.data }], guard := none }) (v := ?_) rfl (by kernel_rfl) (by kernel_rfl) (by kernel_rfl) (fun _ _ _ h => h) (Or.inl ⟨by rfl, ?_⟩) ?_
            rotate_left
            · (intro w _; go_simp <;> with_reducible rfl)
            try simp only [Act.put, List.setIfInBounds_toArray, List.set_cons_zero, List.set_cons_succ]
            refine anyHT_pure (fun _ => trivial) (by kernel_rfl) (i := 9) (oi := { dst := some 57, op := Op.binOp BinOp.add 3 (Operand.tmp 49) (Operand.tmp 56) 3, type := 3, pos := "stream.go:87", after := #[{ on := 1, ground := Ground.data }, { on := 8, ground := Ground.data }], guard := none }) (v := ?_) rfl (by kernel_rfl) (by kernel_rfl) (by kernel_rfl) (fun _ _ _ h => h) (Or.inl ⟨by rfl, ?_⟩) ?_
            rotate_left
            · (intro w _; go_simp <;> with_reducible rfl)
            try simp only [Act.put, List.setIfInBounds_toArray, List.set_cons_zero, List.set_cons_succ]
            refine anyHT_pure (fun _ => trivial) (by kernel_rfl) (i := 10) (oi := { dst := some 58, op := Op.fieldAddr 32 (Operand.tmp 9) 0, type := 0, pos := "stream.go:87", after := #[{ on := 0, ground := Ground.phase }, { on := 1, ground := Ground.phase }, { on := 2, ground := Ground.phase }, { on := 3, ground := Ground.phase }, { on := 4, ground := Ground.phase }, { on := 5, ground := Ground.phase }, { on := 6, ground := Ground.phase }, { on := 7, ground := Ground.phase }, { on := 8, ground := Ground.phase }, { on := 9, ground := Ground.phase }], guard := none }) (v := ?_) rfl (by kernel_rfl) (by kernel_rfl) (by kernel_rfl) (fun _ _ _ h => h) (Or.inl ⟨by rfl, ?_⟩) ?_
            rotate_left
            · (intro w _; go_simp <;> with_reducible rfl)
            try simp only [Act.put, List.setIfInBounds_toArray, List.set_cons_zero, List.set_cons_succ]
            refine anyHT_one (i := 11) (o := { dst := none, op := Op.store 3 (Operand.tmp 58) (Operand.tmp 57), type := 0, pos := "stream.go:87", after := #[{ on := 10, ground := Ground.data }, { on := 9, ground := Ground.data }, { on := 0, ground := Ground.phase }, { on := 1, ground := Ground.phase }, { on := 2, ground := Ground.phase }, { on := 3, ground := Ground.phase }, { on := 4, ground := Ground.phase }, { on := 5, ground := Ground.phase }, { on := 6, ground := Ground.phase }, { on := 7, ground := Ground.phase }, { on := 8, ground := Ground.phase }, { on := 9, ground := Ground.phase }], guard := none }) (by kernel_rfl) rfl (by rfl) (fun K hK => ?_)
            have hfz : (wr2.alloc (.cells #[.int .i64 st.out.length, .string s0.f1] 32)).drew.frozen? ⟨wr2.heap.size, 0, none⟩ = false := blk_frozen (blk_drew (blk_new' rfl _)) 0
            have hcl : (wr2.alloc (.cells #[.int .i64 st.out.length, .string s0.f1] 32)).drew.cell? ⟨wr2.heap.size, 0, none⟩ = some (.int .i64 st.out.length) := blk_cell (blk_drew (blk_new' rfl _)) 0
            go_simp
            refine hK.out _ _ (fun h => absurd (by decide) h) ?_
            clear hK K
            try simp only [Act.put, List.setIfInBounds_toArray, List.set_cons_zero, List.set_cons_succ]
            refine anyHT_done (by kernel_rfl) ?_ _
            have hM : ((wr2.alloc (.cells #[.int .i64 ((st.out.length : Int) + (s0.f0 - from_)), .string s0.f1] 32)).drew).heap[wr2.heap.size]? = some (.cells #[.int .i64 ((st.out.length : Int) + (s0.f0 - from_)), .string s0.f1] 32) := blk_drew (blk_new' rfl _)
            have hbY : Below wr2.heap.size wr2 ((wr2.alloc (.cells #[.int .i64 ((st.out.length : Int) + (s0.f0 - from_)), .string s0.f1] 32)).drew) := below_trans' (below_alloc (Below.refl _ _) _) (below_drew (Below.refl _ _))
            have HKY : Aside0 (KeepsFrom W0.heap.size wr2 ((wr2.alloc (.cells #[.int .i64 ((st.out.length : Int) + (s0.f0 - from_)), .string s0.f1] 32)).drew)) := ⟨((KeepsOthers.alloc _ _).trans (KeepsOthers.drew _)).from _⟩
            clear hHeld hX2a hX0a hO4a hG0a hS0a
            generalize hY : ((wr2.alloc (.cells #[.int .i64 ((st.out.length : Int) + (s0.f0 - from_)), .string s0.f1] 32)).drew) = Y at *
            clear hY hwa hwb
            have HBY := Aside0.mk hbY
            have HYS : Aside0 (wr2.heap.size ≤ Y.heap.size) := ⟨hbY.size⟩
            have hO4y := pw_cell_below hbY hO4
            have hG0y := pw_cell_below hbY hG0
            have hM0 : Y.cell? ⟨wr2.heap.size, 0, none⟩ = some (.int .i64 ((st.out.length : Int) + (s0.f0 - from_))) := blk_cell hM 0
            have hM1 : Y.cell? ⟨wr2.heap.size, 1, none⟩ = some (.string s0.f1) := blk_cell hM 1
            clear hbY hM
            gi_wp2_with (gi_at_builtin; refine append_listIn (fun _ => trivial) rfl (.tmp 60) (.tmp 62) 28 32 (.agg #[.int .i64 0, .string ⟨#[]⟩]) 2 24 rfl Try.underlying28 info32 rfl (by decide) (by decide) w.heap.size vg3 G.length (Flat e32 G) (some ⟨_, 0, none⟩) 1 1 (e32 ⟨((st.out.length : Int) + (s0.f0 - from_)), s0.f1⟩) rfl rfl (pw_own_below HOG.out ?ownb) rfl (Cells.new' ?newb _ #[.int .i64 (((st.out.length : Int) + (s0.f0 - from_))), .string s0.f1] 32 1) (e32_one _) ?bytes ?base ?_)
            case newb => first | exact rfl | (simp; done)
            case ownb => exact below_alloc HBY.out _
            case bytes => have := HLG.out; omega
            case base => have := HSZ.out; have := HYS.out; (try simp); omega
            intro v1 w1 hA
            obtain ⟨A1, cap1, rfl⟩ := own_slice hA.own
            have hO5 := blk_grown (pw_blk_below HO3.out (below_alloc HBY.out _)) hA.grown (own_ne HOG.out HO3.out (by decide))
            have hG5 := blk_grown (pw_blk_below HG3.out (below_alloc HBY.out _)) hA.grown (own_ne HOG.out HG3.out (by decide))
            have hX5 := blk_grown (pw_blk_below HXd.out (below_alloc HBY.out _)) hA.grown (own_ne HOG.out HXd.out (by decide))
            have hfz5 : w1.frozen? ⟨w.heap.size + 1 + 1 + 1, 4, none⟩ = false := blk_frozen hO5 4
            have hcl5 : w1.cell? ⟨w.heap.size + 1 + 1 + 1, 4, none⟩ = some vg3 := blk_cell hO5 4
            have hG6 := blk_far hG5 (p := ⟨w.heap.size + 1 + 1 + 1, 4, none⟩) (by dsimp only; omega) (.slice A1 (G.length + 1) cap1)
            have hfz6 : (w1.setCell ⟨w.heap.size + 1 + 1 + 1, 4, none⟩ (.slice A1 (G.length + 1) cap1)).frozen? ⟨w.heap.size + 1 + 1 + 1 + 1, 0, none⟩ = false := blk_frozen hG6 0
            have hcl6 : (w1.setCell ⟨w.heap.size + 1 + 1 + 1, 4, none⟩ (.slice A1 (G.length + 1) cap1)).cell? ⟨w.heap.size + 1 + 1 + 1 + 1, 0, none⟩ = some (.slice (some ad) L cg3) := blk_cell hG6 0
            have HA := Aside0.mk (HSTEP.out _ (below_alloc HBY.out _) ⟨((st.out.length : Int) + (s0.f0 - from_)), s0.f1⟩ w1 A1 cap1 hA)
            have HXZ := Aside0.mk (blk_far (blk_far hX5 (p := ⟨w.heap.size + 1 + 1 + 1, 4, none⟩) (by dsimp only; omega) (.slice A1 (G.length + 1) cap1)) (p := ⟨w.heap.size + 1 + 1 + 1 + 1, 0, none⟩) (by dsimp only; omega) (.slice Aq rest.length cq))
            have HKZ : Aside0 (Keeps kp W _) := ⟨(HKd.out.trans (Keeps.of_below (below_alloc HBY.out _))).trans HA.out.keep⟩
            have HFZ : Aside0 (KeepsFrom W0.heap.size W _) := ⟨(HFd.out.trans (HKY.out.trans ((KeepsOthers.alloc _ _).from _))).trans HA.out.frm⟩
            clear hO5 hG5 hX5 hG6 hA HKd HFd HXd
            gi_wp2
            go_roundw
            case rel =>
              refine ⟨j + 1, ⟨HTM.out.1⟩, ⟨?_⟩, HXZ, HKZ, HFZ⟩
              rw [HTM.out.2.1, HTM.out.2.2, List.map_append, ← List.append_assoc, hG]
              simpa [place] using HA.out.inv
            case measure =>
              rw [HA.out.inv.left, HLL.out]
              have := HL.out
              dsimp only
              omega
        · have hd3 : decide (s0.f0 < to_) = false := decide_eq_false hlt'
          have HTW := Aside0.mk (tw_done HJ.out (fun s1 rest1 e => by rw [hld] at e; cases e; exact hd3))
          gi_wp2
          refine region_anyHT (fun W' => W'.cell? ⟨w.heap.size + 1 + 1 + 1 + 1, 0, none⟩ = some (.slice (some ad) L cg) ∧ W'.cell? ad = some (.int .i64 s0.f0) ∧ W'.cell? ⟨Bx, 1, none⟩ = some (.int .i64 to_)) [] (by kernel_rfl) (⟨hG0, hS0, hX1⟩) (fun hHeld => ?_)
          refine anyHT_take (fun _ => trivial) (by kernel_rfl) [1, 2, 3, 4, 5, 6, 7, 8, 9, 10, 11] (i := 0) (oi := { dst := some 28, op := Op.load 28 (Operand.tmp 6), type := 28, pos := "stream.go:84", after := #[], guard := none }) (v := ?_) rfl (by kernel_rfl) (by kernel_rfl) (by kernel_rfl) (by kernel_rfl) (by kernel_rfl) (by decide) (fun _ _ _ h => h) (Or.inl ⟨by rfl, ?_⟩) hHeld ?_
          rotate_left
          · (intro w hSw; (try dsimp only at hSw); go_simp <;> with_reducible rfl)
          try simp only [Act.put, List.setIfInBounds_toArray, List.set_cons_zero, List.set_cons_succ]
          refine anyHT_pure (fun _ => trivial) (by kernel_rfl) (i := 1) (oi := { dst := some 29, op := Op.call { callee := Callee.builtin Builtin.len, args := #[Operand.tmp 28], argTypes := #[28] }, type := 3, pos := "stream.go:84", after := #[{ on := 0, ground := Ground.data }], guard := none }) (v := ?_) rfl (by kernel_rfl) (by kernel_rfl) (by kernel_rfl) (fun _ _ _ h => h) (Or.inl ⟨by rfl, ?_⟩) ?_
          rotate_left
          · (intro w _; go_simp <;> with_reducible rfl)
          try simp only [Act.put, List.setIfInBounds_toArray, List.set_cons_zero, List.set_cons_succ]
          refine anyHT_pure (fun _ => trivial) (by kernel_rfl) (i := 2) (oi := { dst := some 30, op := Op.binOp BinOp.gtr 3 (Operand.tmp 29) (Operand.const (Value.int IntKind.i64 0)) 3, type := 4, pos := "stream.go:84", after := #[{ on := 1, ground := Ground.data }], guard := none }) (v := ?_) rfl (by kernel_rfl) (by kernel_rfl) (by kernel_rfl) (fun _ _ _ h => h) (Or.inl ⟨by rfl, ?_⟩) ?_
          rotate_left
          · (intro w _; go_simp <;> with_reducible rfl)
          try simp only [Act.put, List.setIfInBounds_toArray, List.set_cons_zero, List.set_cons_succ]
          refine anyHT_pure (fun _ => trivial) (by kernel_rfl) (i := 3) (oi := { dst := some 31, op := Op.move (Operand.tmp 30), type := 4, pos := "stream.go:84", after := #[{ on := 2, ground := Ground.data }], guard := none }) (v := ?_) rfl (by kernel_rfl) (by kernel_rfl) (by kernel_rfl) (fun _ _ _ h => h) (Or.inl ⟨by rfl, ?_⟩) ?_
          rotate_left
          · (intro w _; go_simp <;> with_reducible rfl)
          try simp only [Act.put, List.setIfInBounds_toArray, List.set_cons_zero, List.set_cons_succ]
          refine anyHT_take (fun _ => trivial) (by kernel_rfl) [5, 6, 7, 10, 11] (i := 4) (oi := { dst := some 32, op := Op.load 28 (Operand.tmp 6), type := 28, pos := "stream.go:84", after := #[{ on := 3, ground := Ground.guard }], guard := some (3, true) }) (v := ?_) rfl (by kernel_rfl) (by kernel_rfl) (by kernel_rfl) (by kernel_rfl) (by kernel_rfl) (by decide) (fun _ _ _ h => h) (Or.inl ⟨by rfl, ?_⟩) hHeld ?_
          rotate_left
          · (intro w hSw; (try dsimp only at hSw); go_simp <;> with_reducible rfl)
          try simp only [Act.put, List.setIfInBounds_toArray, List.set_cons_zero, List.set_cons_succ]
          refine anyHT_pure (fun _ => trivial) (by kernel_rfl) (i := 5) (oi := { dst := some 33, op := Op.indexAddr 28 (Operand.tmp 32) (Operand.const (Value.int IntKind.i64 0)), type := 0, pos := "stream.go:84", after := #[{ on := 4, ground := Ground.data }, { on := 3, ground := Ground.guard }], guard := some (3, true) }) (v := ?_) rfl (by kernel_rfl) (by kernel_rfl) (by kernel_rfl) (fun _ _ _ h => h) (Or.inl ⟨by rfl, ?_⟩) ?_
          rotate_left
          · (intro w _; go_simp <;> with_reducible rfl)
          try simp only [Act.put, List.setIfInBounds_toArray, List.set_cons_zero, List.set_cons_succ]
          refine anyHT_pure (fun _ => trivial) (by kernel_rfl) (i := 6) (oi := { dst := some 34, op := Op.fieldAddr 32 (Operand.tmp 33) 0, type := 0, pos := "stream.go:84", after := #[{ on := 5, ground := Ground.data }, { on := 3, ground := Ground.guard }], guard := some (3, true) }) (v := ?_) rfl (by kernel_rfl) (by kernel_rfl) (by kernel_rfl) (fun _ _ _ h => h) (Or.inl ⟨by rfl, ?_⟩) ?_
          rotate_left
          · (intro w _; go_simp <;> with_reducible rfl)
          try simp only [Act.put, List.setIfInBounds_toArray, List.set_cons_zero, List.set_cons_succ]
          refine anyHT_take (fun _ => trivial) (by kernel_rfl) [10, 11] (i := 7) (oi := { dst := some 35, op := Op.load 3 (Operand.tmp 34), type := 3, pos := "stream.go:84", after := #[{ on := 6, ground := Ground.data }, { on := 3, ground := Ground.guard }], guard := some (3, true) }) (v := ?_) rfl (by kernel_rfl) (by kernel_rfl) (by kernel_rfl) (by kernel_rfl) (by kernel_rfl) (by decide) (fun _ _ _ h => h) (Or.inl ⟨by rfl, ?_⟩) hHeld ?_
          rotate_left
          · (intro w hSw; (try dsimp only at hSw); go_simp <;> with_reducible rfl)
          try simp only [Act.put, List.setIfInBounds_toArray, List.set_cons_zero, List.set_cons_succ]
          refine anyHT_pure (fun _ => trivial) (by kernel_rfl) (i := 8) (oi := { dst := some 36, op := Op.fieldAddr 139 (Operand.tmp 7) 1, type := 0, pos := "stream.go:84", after := #[{ on := 3, ground := Ground.guard }], guard := some (3, true) }) (v := ?_) rfl (by kernel_rfl) (by kernel_rfl) (by kernel_rfl) (fun _ _ _ h => h) (Or.inl ⟨by rfl, ?_⟩) ?_
          rotate_left
          · (intro w _; go_simp <;> with_reducible rfl)
          try simp only [Act.put, List.setIfInBounds_toArray, List.set_cons_zero, List.set_cons_succ]
          refine anyHT_take (fun _ => trivial) (by kernel_rfl) [10, 11] (i := 9) (oi := { dst := some 37, op := Op.load 3 (Operand.tmp 36), type := 3, pos := "stream.go:84", after := #[{ on := 8, ground := Ground.data }, { on := 3, ground := Ground.guard }], guard := some (3, true) }) (v := ?_) rfl (by kernel_rfl) (by kernel_rfl) (by kernel_rfl) (by kernel_rfl) (by kernel_rfl) (by decide) (fun _ _ _ h => h) (Or.inl ⟨by rfl, ?_⟩) hHeld ?_
          rotate_left
          · (intro w hSw; (try dsimp only at hSw); go_simp <;> with_reducible rfl)
          try simp only [Act.put, List.setIfInBounds_toArray, List.set_cons_zero, List.set_cons_succ]
          refine anyHT_pure (fun _ => trivial) (by kernel_rfl) (i := 10) (oi := { dst := some 38, op := Op.binOp BinOp.lss 3 (Operand.tmp 35) (Operand.tmp 37) 3, type := 4, pos := "stream.go:84", after := #[{ on := 7, ground := Ground.data }, { on := 9, ground := Ground.data }, { on := 3, ground := Ground.guard }], guard := some (3, true) }) (v := ?_) rfl (by kernel_rfl) (by kernel_rfl) (by kernel_rfl) (fun _ _ _ h => h) (Or.inl ⟨by rfl, ?_⟩) ?_
          rotate_left
          · (intro w _; go_simp <;> with_reducible rfl)
          try simp only [Act.put, List.setIfInBounds_toArray, List.set_cons_zero, List.set_cons_succ]
          refine anyHT_pure (fun _ => trivial) (by kernel_rfl) (i := 11) (oi := { dst := some 39, op := Op.pick (Operand.tmp 31) (Operand.tmp 38) (Operand.const (Value.bool false)), type := 4, pos := "stream.go:84", after := #[{ on := 3, ground := Ground.data }, { on := 10, ground := Ground.data }], guard := none }) (v := ?_) rfl (by kernel_rfl) (by kernel_rfl) (by kernel_rfl) (fun _ _ _ h => h) (Or.inl ⟨by rfl, ?_⟩) ?_
          rotate_left
          · (intro w _; go_simp <;> with_reducible rfl)
          try simp only [Act.put, List.setIfInBounds_toArray, List.set_cons_zero, List.set_cons_succ]
          refine anyHT_done (by kernel_rfl) ?_ _
          obtain ⟨hP1, hP2⟩ := HTW.out
          have HP := HI.out
          rw [hP1, hP2] at HP
          have HP2 := HP.drew
          have HXd := Aside0.mk (blk_drew HX.out)
          have HKd := Aside0.mk (HK.out.trans (Keeps.of_below (below_drew (Below.refl wr.heap.size wr))))
          have HFd := Aside0.mk (HF.out.trans ((KeepsFrom.of_grownBy (B := W0.heap.size) (grownBy_drew wr) (fun j e => by cases e))))
          have hX2 : wr.drew.cell? ⟨Bx, 2, none⟩ = some (.bool said) := blk_cell HXd.out 2
          clear hP1 hP2 HP HTW HI HX HK HF hX1 hG0
          generalize hw2 : wr.drew = wr2 at *
          clear hw2
          have HPP := Aside0.mk HP2
          clear HP2
          cases said with
          | false =>
            gi_wp2
            refine ⟨HFd.out, HKd.out, ?_, by simp; omega⟩
            rw [HST.out]
            simpa [paceStep] using HPP.out
          | true =>
            obtain ⟨hb3, hsz3, hs3, hr3, h53, h63, vs3, vg3, Ag3, cg3, ho3, hg3, hlg3, hC3, hos3, hog3⟩ := HPP.out
            try dsimp only at hg3 hlg3 hC3 hos3 hog3
            obtain ⟨As, cs2, rfl, hcs2, _⟩ := own_flat (Kd.int .i64) eI_len eI_K hos3
            obtain ⟨A', c', hcut, hCm⟩ := cut_ints H2.out HC2.out HX0.out HX1.out HX2.out
            try dsimp only at hcut hCm
            have hO2 : wr2.cell? ⟨w.heap.size + 1 + 1 + 1, 2, none⟩ = some (.slice As st.out.length cs2) := blk_cell ho3 2
            have hS2 : wr2.cell? ⟨w.heap.size, 2, none⟩ = some (.slice A2 xs.length c2) := blk_cell hs3 2
            have hX0 : wr2.cell? ⟨Bx, 0, none⟩ = some (.int .i64 from_) := blk_cell HXd.out 0
            have hX1 : wr2.cell? ⟨Bx, 1, none⟩ = some (.int .i64 to_) := blk_cell HXd.out 1
            have HOS := Aside0.mk hos3
            have HO3 := Aside0.mk ho3
            have HCm := Aside0.mk hCm
            have HB3 := Aside0.mk hb3
            have HLO : Aside0 (st.out.length ≤ 400000000) := ⟨HLO0.out⟩
            have HLM : Aside0 ((mid xs from_ to_).length ≤ 40000) := ⟨Nat.le_trans (mid_le _ _ _) V4.out⟩
            have HSTEP := Aside0.mk (fun (Z : World) (hb : Below wr2.heap.size wr2 Z) (w1 : World) (A1 : Option Addr) (cap1 : Nat) hA => PInv.samples (kp := kp) (B := W0.heap.size) (st := ⟨st.out, st.signs ++ (st.left.takeWhile (fun s => decide (s.f0 < to_))).map (place st.out.length (from_, to_, true)), st.left.dropWhile (fun s => decide (s.f0 < to_))⟩) (X := Z) (w1 := w1) (m := mid xs from_ to_) (u := .slice A1 (st.out.length + (mid xs from_ to_).length) cap1) (k := st.out.length + (mid xs from_ to_).length) (Br := w.heap.size + 1 + 1) hkpn (below_trans' hb3 hb) (Nat.le_trans hsz3 hb.size) (pw_blk_below hs3 hb) (pw_blk_below hr3 hb) (h53.imp fun _ h => pw_blk_below h hb) (h63.imp fun _ h => pw_blk_below h hb) (pw_blk_below ho3 hb) (pw_blk_below hg3 hb) hlg3 hC3 (pw_own_below hos3 hb) (pw_own_below hog3 hb) hA (by simp) (by omega) (by omega) (by omega) (by omega) (fun h => by have := hkpn _ h; omega) (by omega))
            clear hos3 ho3 hCm hb3 hcs2 hs3 hr3 h53 h63 hg3 hlg3 hC3 hog3
            gi_wp2
            refine region_anyHT (fun W' => W'.cell? ⟨w.heap.size + 1 + 1 + 1, 2, none⟩ = some (.slice As st.out.length cs2) ∧ W'.cell? ⟨w.heap.size, 2, none⟩ = some (.slice A2 xs.length c2) ∧ W'.cell? ⟨Bx, 0, none⟩ = some (.int .i64 from_) ∧ W'.cell? ⟨Bx, 1, none⟩ = some (.int .i64 to_)) [9, 11] (by kernel_rfl) (⟨hO2, hS2, hX0, hX1⟩) (fun hHeld => ?_)
            refine anyHT_pure (fun _ => trivial) (by kernel_rfl) (i := 0) (oi := { dst := some 69, op := Op.fieldAddr 30 (Operand.tmp 5) 2, type := 0, pos := "stream.go:93", after := #[], guard := none }) (v := ?_) rfl (by kernel_rfl) (by kernel_rfl) (by kernel_rfl) (fun _ _ _ h => h) (Or.inl ⟨by rfl, ?_⟩) ?_
            rotate_left
            · (intro w _; go_simp <;> with_reducible rfl)
            try simp only [Act.put, List.setIfInBounds_toArray, List.set_cons_zero, List.set_cons_succ]
            refine anyHT_take (fun _ => trivial) (by kernel_rfl) [9, 10, 11] (i := 1) (oi := { dst := some 70, op := Op.load 22 (Operand.tmp 69), type := 22, pos := "stream.go:93", after := #[{ on := 0, ground := Ground.data }], guard := none }) (v := ?_) rfl (by kernel_rfl) (by kernel_rfl) (by kernel_rfl) (by kernel_rfl) (by kernel_rfl) (by decide) (fun _ _ _ h => h) (Or.inl ⟨by rfl, ?_⟩) hHeld ?_
            rotate_left
            · (intro w hSw; (try dsimp only at hSw); go_simp <;> with_reducible rfl)
            try simp only [Act.put, List.setIfInBounds_toArray, List.set_cons_zero, List.set_cons_succ]
            refine anyHT_pure (fun _ => trivial) (by kernel_rfl) (i := 2) (oi := { dst := some 71, op := Op.fieldAddr 30 (Operand.tmp 2) 2, type := 0, pos := "stream.go:93", after := #[], guard := none }) (v := ?_) rfl (by kernel_rfl) (by kernel_rfl) (by kernel_rfl) (fun _ _ _ h => h) (Or.inl ⟨by rfl, ?_⟩) ?_
            rotate_left
            · (intro w _; go_simp <;> with_reducible rfl)
            try simp only [Act.put, List.setIfInBounds_toArray, List.set_cons_zero, List.set_cons_succ]
            refine anyHT_take (fun _ => trivial) (by kernel_rfl) [8, 9, 10, 11] (i := 3) (oi := { dst := some 72, op := Op.load 22 (Operand.tmp 71), type := 22, pos := "stream.go:93", after := #[{ on := 2, ground := Ground.data }], guard := none }) (v := ?_) rfl (by kernel_rfl) (by kernel_rfl) (by kernel_rfl) (by kernel_rfl) (by kernel_rfl) (by decide) (fun _ _ _ h => h) (Or.inl ⟨by rfl, ?_⟩) hHeld ?_
            rotate_left
            · (intro w hSw; (try dsimp only at hSw); go_simp <;> with_reducible rfl)
            try simp only [Act.put, List.setIfInBounds_toArray, List.set_cons_zero, List.set_cons_succ]
            refine anyHT_pure (fun _ => trivial) (by kernel_rfl) (i := 4) (oi := { dst := some 73, op := Op.fieldAddr 139 (Operand.tmp 7) 0, type := 0, pos := "stream.go:93", after := #[], guard := none }) (v := ?_) rfl (by kernel_rfl) (by kernel_rfl) (by kernel_rfl) (fun _ _ _ h => h) (Or.inl ⟨by rfl, ?_⟩) ?_
            rotate_left
            · (intro w _; go_simp <;> with_reducible rfl)
            try simp only [Act.put, List.setIfInBounds_toArray, List.set_cons_zero, List.set_cons_succ]
            refine anyHT_take (fun _ => trivial) (by kernel_rfl) [8, 9, 10, 11] (i := 5) (oi := { dst := some 74, op := Op.load 3 (Operand.tmp 73), type := 3, pos := "stream.go:93", after := #[{ on := 4, ground := Ground.data }], guard := none }) (v := ?_) rfl (by kernel_rfl) (by kernel_rfl) (by kernel_rfl) (by kernel_rfl) (by kernel_rfl) (by decide) (fun _ _ _ h => h) (Or.inl ⟨by rfl, ?_⟩) hHeld ?_
            rotate_left
            · (intro w hSw; (try dsimp only at hSw); go_simp <;> with_reducible rfl)
            try simp only [Act.put, List.setIfInBounds_toArray, List.set_cons_zero, List.set_cons_succ]
            refine anyHT_pure (fun _ => trivial) (by kernel_rfl) (i := 6) (oi := { dst := some 75, op := Op.fieldAddr 139 (Operand.tmp 7) 1, type := 0, pos := "stream.go:93", after := #[], guard := none }) (v := ?_) rfl (by kernel_rfl) (by kernel_rfl) (by kernel_rfl) (fun _ _ _ h => h) (Or.inl ⟨by rfl, ?_⟩) ?_
            rotate_left
            · (intro w _; go_simp <;> with_reducible rfl)
            try simp only [Act.put, List.setIfInBounds_toArray, List.set_cons_zero, List.set_cons_succ]
            refine anyHT_take (fun _ => trivial) (by kernel_rfl) [8, 9, 10, 11] (i := 7) (oi := { dst := some 76, op := Op.load 3 (Operand.tmp 75), type := 3, pos := "stream.go:93", after := #[{ on := 6, ground := Ground.data }], guard := none }) (v := ?_) rfl (by kernel_rfl) (by kernel_rfl) (by kernel_rfl) (by kernel_rfl) (by kernel_rfl) (by decide) (fun _ _ _ h => h) (Or.inl ⟨by rfl, ?_⟩) hHeld ?_
            rotate_left
            · (intro w hSw; (try dsimp only at hSw); go_simp <;> with_reducible rfl)
            try simp only [Act.put, List.setIfInBounds_toArray, List.set_cons_zero, List.set_cons_succ]
            refine anyHT_pure (fun _ => trivial) (by kernel_rfl) (i := 8) (oi := { dst := some 77, op := Op.slice 22 (Operand.tmp 72) (some (Operand.tmp 74)) (some (Operand.tmp 76)) none, type := 22, pos := "stream.go:93", after := #[{ on := 3, ground := Ground.data }, { on := 5, ground := Ground.data }, { on := 7, ground := Ground.data }], guard := none }) (v := ?_) rfl (by kernel_rfl) (by kernel_rfl) (by kernel_rfl) (fun _ _ _ h => h) (Or.inl ⟨by rfl, ?_⟩) ?_
            rotate_left
            · (intro w _; go_simp <;> with_reducible rfl)
            try simp only [Act.put, List.setIfInBounds_toArray, List.set_cons_zero, List.set_cons_succ]
            refine anyHT_one (i := 9) (o := { dst := some 78, op := Op.call { callee := Callee.builtin Builtin.append, args := #[Operand.tmp 70, Operand.tmp 77], argTypes := #[22, 22] }, type := 22, pos := "stream.go:93", after := #[{ on := 1, ground := Ground.data }, { on := 8, ground := Ground.data }], guard := none }) (by kernel_rfl) rfl (by rfl) (fun K hK => ?_)
            refine append_wpIn (fun _ => trivial) (.tmp 70) (.tmp 77) 22 3 (.int .i64 0) 1 8 rfl Try.underlying22 info3 rfl (by decide) (by decide) w.heap.size (.slice As st.out.length cs2) st.out.length (Flat eI st.out) A' (mid xs from_ to_).length c' (Flat eI (mid xs from_ to_)) rfl rfl (pw_own_below HOS.out (below_drew (Below.refl _ _))) (by rw [Flat_length eI_len]; rfl) ((Cells.of_C (Kd.int .i64) eI_len eI_inv (by decide) (Kd.C_below HCm.out (below_drew HB3.out)))) (Flat_mem eI_one) ?_ (Nat.le_trans (by have := HB3.out.size; omega) (below_drew (Below.refl wr2.heap.size wr2)).size) ?_
            · have := HLO.out; have := HLM.out; omega
            intro v1 w1 hA
            obtain ⟨A1, cap1, rfl⟩ := own_slice hA.own
            refine hK.out _ _ (fun h => absurd (by decide) h) ?_
            clear hK K
            try simp only [Act.put, List.setIfInBounds_toArray, List.set_cons_zero, List.set_cons_succ]
            refine anyHT_pure (fun _ => trivial) (by kernel_rfl) (i := 10) (oi := { dst := some 79, op := Op.fieldAddr 30 (Operand.tmp 5) 2, type := 0, pos := "stream.go:93", after := #[{ on := 0, ground := Ground.phase }, { on := 1, ground := Ground.phase }, { on := 2, ground := Ground.phase }, { on := 3, ground := Ground.phase }, { on := 4, ground := Ground.phase }, { on := 5, ground := Ground.phase }, { on := 6, ground := Ground.phase }, { on := 7, ground := Ground.phase }, { on := 8, ground := Ground.phase }, { on := 9, ground := Ground.phase }], guard := none }) (v := ?_) rfl (by kernel_rfl) (by kernel_rfl) (by kernel_rfl) (fun _ _ _ h => h) (Or.inl ⟨by rfl, ?_⟩) ?_
            rotate_left
            · (intro w _; go_simp <;> with_reducible rfl)
            try simp only [Act.put, List.setIfInBounds_toArray, List.set_cons_zero, List.set_cons_succ]
            refine anyHT_one (i := 11) (o := { dst := none, op := Op.store 22 (Operand.tmp 79) (Operand.tmp 78), type := 0, pos := "stream.go:93", after := #[{ on := 10, ground := Ground.data }, { on := 9, ground := Ground.data }, { on := 9, ground := Ground.chain }, { on := 0, ground := Ground.phase }, { on := 1, ground := Ground.phase }, { on := 2, ground := Ground.phase }, { on := 3, ground := Ground.phase }, { on := 4, ground := Ground.phase }, { on := 5, ground := Ground.phase }, { on := 6, ground := Ground.phase }, { on := 7, ground := Ground.phase }, { on := 8, ground := Ground.phase }, { on := 9, ground := Ground.phase }], guard := none }) (by kernel_rfl) rfl (by rfl) (fun K hK => ?_)
            have hfz : w1.frozen? ⟨w.heap.size + 1 + 1 + 1, 2, none⟩ = false := blk_frozen (blk_grown (blk_drew HO3.out) hA.grown (own_ne HOS.out HO3.out (by decide))) 2
            have hcl : w1.cell? ⟨w.heap.size + 1 + 1 + 1, 2, none⟩ = some (.slice As st.out.length cs2) := (blk_cell (blk_grown (blk_drew HO3.out) hA.grown (own_ne HOS.out HO3.out (by decide))) 2).trans rfl
            go_simp
            refine hK.out _ _ (fun h => absurd (by decide) h) ?_
            clear hK K
            try simp only [Act.put, List.setIfInBounds_toArray, List.set_cons_zero, List.set_cons_succ]
            refine anyHT_done (by kernel_rfl) ?_ _
            have HZ := HSTEP.out wr2.drew (below_drew (Below.refl _ _)) w1 A1 cap1 hA
            refine ⟨(HFd.out.trans (KeepsFrom.of_grownBy (grownBy_drew wr2) (fun j e => by cases e))).trans HZ.frm, (HKd.out.trans (Keeps.of_below (below_drew (Below.refl wr2.heap.size wr2)))).trans HZ.keep, ?_, by simp; omega⟩
            rw [HST.out]
            simpa [paceStep] using HZ.inv
  case done =>
    rintro D pre W hD hS ⟨hI, _⟩ hdef
    have hfin : pacedF ⟨f0, f1, xs, ps, ss, f5⟩ num den = ⟨f0, f1, (paceSt xs ss (vals pre)).out, [], (paceSt xs ss (vals pre)).signs ++ (paceSt xs ss (vals pre)).left.map (fun s => ⟨((paceSt xs ss (vals pre)).out.length : Int), s.f1⟩), f5⟩ := by
      unfold pacedF
      dsimp only
      rw [← hS]
      rfl
    have HSG : Aside0 ((paceSt xs ss (vals pre)).signs.length + (paceSt xs ss (vals pre)).left.length = ss.length) := ⟨by have := paceSt_signs xs (vals pre) ⟨[], [], ss⟩; simpa [paceSt] using this⟩
    have HFIN := Aside0.mk hfin
    clear hfin hseq hs ho hg hr hB0 h30 h38
    generalize paceSt xs ss (vals pre) = st at *
    clear hS
    obtain ⟨hb1, hsz1, hs1, hr1, h51, h61, vs, vg, Ag, cg, ho1, hg1, hlg, hC, hos, hog⟩ := hI
    obtain ⟨As, cs, rfl, hcs, hCs⟩ := own_flat (Kd.int .i64) eI_len eI_K hos
    have hcG : W.cell? ⟨w.heap.size + 1 + 1 + 1 + 1, 0, none⟩ = some (.slice Ag st.left.length cg) := blk_cell hg1 0
    have HI := Aside0.mk (show PInv w w.heap.size (w.heap.size + 1 + 1 + 1) (w.heap.size + 1 + 1 + 1 + 1) (w.heap.size + 1 + 1) f0 f1 f5 #[.int .i64 f0, .int .i64 f1, .slice A2 xs.length c2, .slice A3 ps.length c3, .slice A4 ss.length c4, .int .i64 f5] #[.int .i64 0, .int .i64 0, .slice none 0 0, .slice none 0 0, .slice none 0 0, .int .i64 0] ⟨st.out, st.signs, st.left⟩ W from ⟨hb1, hsz1, hs1, hr1, h51, h61, _, vg, Ag, cg, ho1, hg1, hlg, hC, hos, hog⟩)
    have HC := Aside0.mk hC
    have HD := Aside0.mk hdef
    clear ho1 hg1 hlg hC hos hog hCs hs1 hr1 h51 h61 hcs hb1 hsz1 hdef
    dsimp only
    gi_wp2
    gi_loopw [82] (fun i wr => ∃ kk : Nat, kk ≤ st.left.length ∧ i = .int .i64 kk ∧ Aside0 (PInv w w.heap.size (w.heap.size + 1 + 1 + 1) (w.heap.size + 1 + 1 + 1 + 1) (w.heap.size + 1 + 1) f0 f1 f5 #[.int .i64 f0, .int .i64 f1, .slice A2 xs.length c2, .slice A3 ps.length c3, .slice A4 ss.length c4, .int .i64 f5] #[.int .i64 0, .int .i64 0, .slice none 0 0, .slice none 0 0, .slice none 0 0, .int .i64 0] ⟨st.out, st.signs ++ (st.left.take kk).map (fun s => ⟨(st.out.length : Int), s.f1⟩), st.left⟩ wr) ∧ Aside0 (wr.heap[D]? = some (.deferred (some [])))) (fun i _ => st.left.length - (intOf i).toNat)
    case atStart => exact ⟨0, Nat.zero_le _, rfl, ⟨by simpa using HI.out⟩, HD⟩
    case round =>
      clear HI HD hcG
      obtain ⟨kk, hkk, rfl, HI, HD⟩ := hrel
      by_cases hlt : kk < st.left.length
      · have hk50 : kk < 50 := by have := HSG.out; have := V7.out.1; omega
        have hltz : (kk : Int) < (st.left.length : Int) := by omega
        obtain ⟨ad, rfl, hS0, hS1⟩ := at_T32 HC.out kk (by omega) (by omega)
        rw [Int.toNat_natCast] at hS0 hS1
        replace hS0 := pw_cell_below HI.out.below hS0
        replace hS1 := pw_cell_below HI.out.below hS1
        generalize hsk : rd_T32 st.left (kk : Int) = sk at *
        obtain ⟨hb3, hsz3, hs3, hr3, h53, h63, vs3, vg3, Ag3, cg3, ho3, hg3, hlg3, hC3, hos3, hog3⟩ := HI.out
        generalize hG : st.signs ++ (st.left.take kk).map (fun s => (⟨(st.out.length : Int), s.f1⟩ : S32)) = G at *
        obtain ⟨As3, cs3, rfl, hcs3, _⟩ := own_flat (Kd.int .i64) eI_len eI_K hos3
        have hO2 : wr.cell? ⟨w.heap.size + 1 + 1 + 1, 2, none⟩ = some (.slice As3 st.out.length cs3) := blk_cell ho3 2
        have hO4 : wr.cell? ⟨w.heap.size + 1 + 1 + 1, 4, none⟩ = some vg3 := blk_cell ho3 4
        have hb7 : Below wr.heap.size wr (wr.alloc (.cells #[.int .i64 sk.f0, .string sk.f1] 32)) := below_alloc (Below.refl _ _) _
        have hO2a := pw_cell_below hb7 hO2
        have hO4a := pw_cell_below hb7 hO4
        have HOG := Aside0.mk hog3
        have HO3 := Aside0.mk ho3
        have HSZ := Aside0.mk hsz3
        have HLG : Aside0 (G.length ≤ 1000000) := ⟨by
          rw [← hG, List.length_append, List.length_map]
          have h1 := HSG.out
          have h2 : (st.left.take kk).length ≤ st.left.length := by rw [List.length_take]; omega
          have h4 := V7.out.1
          omega⟩
        have HSTEP := Aside0.mk (fun (Z : World) (hb : Below wr.heap.size wr Z) (m : S32) (w1 : World) (A1 : Option Addr) (cap1 : Nat) hA => PInv.ended (kp := kp) (B := w.heap.size) (X := Z) (w1 := w1) (o := st.out) (g := G) (l := st.left) (m := m) (u := .slice A1 (G.length + 1) cap1) (k := G.length + 1) (Br := w.heap.size + 1 + 1) (Ag := Ag3) (cg := cg3) hkpn (below_trans' hb3 hb) (Nat.le_trans hsz3 hb.size) (pw_blk_below hs3 hb) (pw_blk_below hr3 hb) (h53.imp fun _ h => pw_blk_below h hb) (h63.imp fun _ h => pw_blk_below h hb) (pw_blk_below ho3 hb) (pw_blk_below hg3 hb) (pw_own_below hos3 hb) (pw_own_below HOG.out hb) hA (by simp) hlg3 hC3 (by omega) (by omega) (by omega) (by omega) (fun h => by have := hkpn _ h; omega) (by omega))
        clear hog3 ho3 hb3 hs3 hr3 h53 h63 hg3 hlg3 hC3 hos3 hsz3 hcs3 hb7
        gi_wp2_with (gi_at_builtin; refine append_listIn (fun _ => trivial) rfl (.tmp 87) (.tmp 94) 28 32 (.agg #[.int .i64 0, .string ⟨#[]⟩]) 2 24 rfl Try.underlying28 info32 rfl (by decide) (by decide) w.heap.size vg3 G.length (Flat e32 G) (some ⟨_, 0, none⟩) 1 1 (e32 ⟨st.out.length, sk.f1⟩) rfl rfl (pw_own_below HOG.out ?ownb) rfl (Cells.new' ?newb _ #[.int .i64 st.out.length, .string sk.f1] 32 1) (e32_one _) ?bytes ?base ?_)
        try (case newb => first | exact rfl | (simp; done))
        case ownb => exact below_alloc (below_alloc (Below.refl _ _) _) _
        case bytes => have := HLG.out; omega
        case base => have := HSZ.out; (try simp); omega
        intro v1 w1 hA
        obtain ⟨A1, cap1, rfl⟩ := own_slice hA.own
        have hO5 := blk_grown (pw_blk_below HO3.out (below_alloc (below_alloc (Below.refl _ _) _) _)) hA.grown (own_ne HOG.out HO3.out (by decide))
        have hfz5 : w1.frozen? ⟨w.heap.size + 1 + 1 + 1, 4, none⟩ = false := blk_frozen hO5 4
        have hcl5 : w1.cell? ⟨w.heap.size + 1 + 1 + 1, 4, none⟩ = some vg3 := blk_cell hO5 4
        have HA := Aside0.mk (HSTEP.out _ (below_alloc (below_alloc (Below.refl _ _) _) _) ⟨st.out.length, sk.f1⟩ w1 A1 cap1 hA)
        have HDZ := Aside0.mk (HA.out.frm.same D _ (by omega) (pw_blk_below HD.out (below_alloc (below_alloc (Below.refl _ _) _) _)) rfl)
        clear hO5 hA
        gi_wp2
        go_roundw
        case rel =>
          refine ⟨kk + 1, by omega, by go_num, ⟨?_⟩, HDZ⟩
          have := HA.out.inv
          rw [List.take_add_one, List.getElem?_eq_getElem hlt, Option.toList_some, List.map_append, ← List.append_assoc, hG]
          have hsk' : st.left[kk] = sk := by rw [← hsk]; simp [rd_T32, List.getD_eq_getElem?_getD, List.getElem?_eq_getElem hlt]
          rw [hsk']
          exact this
        case measure => simp [intOf]; omega
      · obtain rfl : kk = st.left.length := by omega
        obtain ⟨hb3, hsz3, hs3, hr3, h53, h63, vs3, vg3, Ag3, cg3, ho3, hg3, hlg3, hC3, hos3, hog3⟩ := HI.out
        rw [List.take_length] at hog3
        generalize hG : st.signs ++ st.left.map (fun s => (⟨(st.out.length : Int), s.f1⟩ : S32)) = G at *
        have hO0 : wr.cell? ⟨w.heap.size + 1 + 1 + 1, 0, none⟩ = some (.int .i64 f0) := blk_cell ho3 0
        have hO1 : wr.cell? ⟨w.heap.size + 1 + 1 + 1, 1, none⟩ = some (.int .i64 f1) := blk_cell ho3 1
        have hO2 : wr.cell? ⟨w.heap.size + 1 + 1 + 1, 2, none⟩ = some vs3 := blk_cell ho3 2
        have hO3 : wr.cell? ⟨w.heap.size + 1 + 1 + 1, 3, none⟩ = some (.slice none 0 0) := blk_cell ho3 3
        have hO4 : wr.cell? ⟨w.heap.size + 1 + 1 + 1, 4, none⟩ = some vg3 := blk_cell ho3 4
        have hO5 : wr.cell? ⟨w.heap.size + 1 + 1 + 1, 5, none⟩ = some (.int .i64 f5) := blk_cell ho3 5
        obtain ⟨As3, cs3, rfl⟩ := own_slice hos3
        obtain ⟨Ag4, cg4, rfl⟩ := own_slice hog3
        have hq0 := hr3
        have hfz0 : wr.frozen? ⟨w.heap.size + 1 + 1, 0, none⟩ = false := blk_frozen hq0 0
        have hcl0 : wr.cell? ⟨w.heap.size + 1 + 1, 0, none⟩ = some (.int .i64 0) := blk_cell hq0 0
        have hq1 := blk_put hq0 0 (.int .i64 f0) rfl
        have hop1 := own_far hos3 (a := ⟨w.heap.size + 1 + 1, 0, none⟩) (own_ne hos3 hq0 (by decide)) (.int .i64 f0)
        have hgp1 := own_far hog3 (a := ⟨w.heap.size + 1 + 1, 0, none⟩) (own_ne hog3 hq0 (by decide)) (.int .i64 f0)
        have hbp1 := Below.setCell hb3 (p := ⟨w.heap.size + 1 + 1, 0, none⟩) (by dsimp only; omega) (.int .i64 f0)
        have hfz1 : (wr.setCell ⟨w.heap.size + 1 + 1, 0, none⟩ (.int .i64 f0)).frozen? ⟨w.heap.size + 1 + 1, 1, none⟩ = false := blk_frozen hq1 1
        have hcl1 : (wr.setCell ⟨w.heap.size + 1 + 1, 0, none⟩ (.int .i64 f0)).cell? ⟨w.heap.size + 1 + 1, 1, none⟩ = some (.int .i64 0) := blk_cell hq1 1
        have hq2 := blk_put hq1 1 (.int .i64 f1) rfl
        have hop2 := own_far hop1 (a := ⟨w.heap.size + 1 + 1, 1, none⟩) (own_ne hop1 hq1 (by decide)) (.int .i64 f1)
        have hgp2 := own_far hgp1 (a := ⟨w.heap.size + 1 + 1, 1, none⟩) (own_ne hgp1 hq1 (by decide)) (.int .i64 f1)
        have hbp2 := Below.setCell hbp1 (p := ⟨w.heap.size + 1 + 1, 1, none⟩) (by dsimp only; omega) (.int .i64 f1)
        have hfz2 : ((wr.setCell ⟨w.heap.size + 1 + 1, 0, none⟩ (.int .i64 f0)).setCell ⟨w.heap.size + 1 + 1, 1, none⟩ (.int .i64 f1)).frozen? ⟨w.heap.size + 1 + 1, 2, none⟩ = false := blk_frozen hq2 2
        have hcl2 : ((wr.setCell ⟨w.heap.size + 1 + 1, 0, none⟩ (.int .i64 f0)).setCell ⟨w.heap.size + 1 + 1, 1, none⟩ (.int .i64 f1)).cell? ⟨w.heap.size + 1 + 1, 2, none⟩ = some (.slice none 0 0) := blk_cell hq2 2
        have hq3 := blk_put hq2 2 (.slice As3 st.out.length cs3) rfl
        have hop3 := own_far hop2 (a := ⟨w.heap.size + 1 + 1, 2, none⟩) (own_ne hop2 hq2 (by decide)) (.slice As3 st.out.length cs3)
        have hgp3 := own_far hgp2 (a := ⟨w.heap.size + 1 + 1, 2, none⟩) (own_ne hgp2 hq2 (by decide)) (.slice As3 st.out.length cs3)
        have hbp3 := Below.setCell hbp2 (p := ⟨w.heap.size + 1 + 1, 2, none⟩) (by dsimp only; omega) (.slice As3 st.out.length cs3)
        have hfz3 : (((wr.setCell ⟨w.heap.size + 1 + 1, 0, none⟩ (.int .i64 f0)).setCell ⟨w.heap.size + 1 + 1, 1, none⟩ (.int .i64 f1)).setCell ⟨w.heap.size + 1 + 1, 2, none⟩ (.slice As3 st.out.length cs3)).frozen? ⟨w.heap.size + 1 + 1, 3, none⟩ = false := blk_frozen hq3 3
        have hcl3 : (((wr.setCell ⟨w.heap.size + 1 + 1, 0, none⟩ (.int .i64 f0)).setCell ⟨w.heap.size + 1 + 1, 1, none⟩ (.int .i64 f1)).setCell ⟨w.heap.size + 1 + 1, 2, none⟩ (.slice As3 st.out.length cs3)).cell? ⟨w.heap.size + 1 + 1, 3, none⟩ = some (.slice none 0 0) := blk_cell hq3 3
        have hq4 := blk_put hq3 3 (.slice none 0 0) rfl
        have hop4 := own_far hop3 (a := ⟨w.heap.size + 1 + 1, 3, none⟩) (own_ne hop3 hq3 (by decide)) (.slice none 0 0)
        have hgp4 := own_far hgp3 (a := ⟨w.heap.size + 1 + 1, 3, none⟩) (own_ne hgp3 hq3 (by decide)) (.slice none 0 0)
        have hbp4 := Below.setCell hbp3 (p := ⟨w.heap.size + 1 + 1, 3, none⟩) (by dsimp only; omega) (.slice none 0 0)
        have hfz4 : ((((wr.setCell ⟨w.heap.size + 1 + 1, 0, none⟩ (.int .i64 f0)).setCell ⟨w.heap.size + 1 + 1, 1, none⟩ (.int .i64 f1)).setCell ⟨w.heap.size + 1 + 1, 2, none⟩ (.slice As3 st.out.length cs3)).setCell ⟨w.heap.size + 1 + 1, 3, none⟩ (.slice none 0 0)).frozen? ⟨w.heap.size + 1 + 1, 4, none⟩ = false := blk_frozen hq4 4
        have hcl4 : ((((wr.setCell ⟨w.heap.size + 1 + 1, 0, none⟩ (.int .i64 f0)).setCell ⟨w.heap.size + 1 + 1, 1, none⟩ (.int .i64 f1)).setCell ⟨w.heap.size + 1 + 1, 2, none⟩ (.slice As3 st.out.length cs3)).setCell ⟨w.heap.size + 1 + 1, 3, none⟩ (.slice none 0 0)).cell? ⟨w.heap.size + 1 + 1, 4, none⟩ = some (.slice none 0 0) := blk_cell hq4 4
        have hq5 := blk_put hq4 4 (.slice Ag4 G.length cg4) rfl
        have hop5 := own_far hop4 (a := ⟨w.heap.size + 1 + 1, 4, none⟩) (own_ne hop4 hq4 (by decide)) (.slice Ag4 G.length cg4)
        have hgp5 := own_far hgp4 (a := ⟨w.heap.size + 1 + 1, 4, none⟩) (own_ne hgp4 hq4 (by decide)) (.slice Ag4 G.length cg4)
        have hbp5 := Below.setCell hbp4 (p := ⟨w.heap.size + 1 + 1, 4, none⟩) (by dsimp only; omega) (.slice Ag4 G.length cg4)
        have hfz5 : (((((wr.setCell ⟨w.heap.size + 1 + 1, 0, none⟩ (.int .i64 f0)).setCell ⟨w.heap.size + 1 + 1, 1, none⟩ (.int .i64 f1)).setCell ⟨w.heap.size + 1 + 1, 2, none⟩ (.slice As3 st.out.length cs3)).setCell ⟨w.heap.size + 1 + 1, 3, none⟩ (.slice none 0 0)).setCell ⟨w.heap.size + 1 + 1, 4, none⟩ (.slice Ag4 G.length cg4)).frozen? ⟨w.heap.size + 1 + 1, 5, none⟩ = false := blk_frozen hq5 5
        have hcl5 : (((((wr.setCell ⟨w.heap.size + 1 + 1, 0, none⟩ (.int .i64 f0)).setCell ⟨w.heap.size + 1 + 1, 1, none⟩ (.int .i64 f1)).setCell ⟨w.heap.size + 1 + 1, 2, none⟩ (.slice As3 st.out.length cs3)).setCell ⟨w.heap.size + 1 + 1, 3, none⟩ (.slice none 0 0)).setCell ⟨w.heap.size + 1 + 1, 4, none⟩ (.slice Ag4 G.length cg4)).cell? ⟨w.heap.size + 1 + 1, 5, none⟩ = some (.int .i64 0) := blk_cell hq5 5
        have hq6 := blk_put hq5 5 (.int .i64 f5) rfl
        have hop6 := own_far hop5 (a := ⟨w.heap.size + 1 + 1, 5, none⟩) (own_ne hop5 hq5 (by decide)) (.int .i64 f5)
        have hgp6 := own_far hgp5 (a := ⟨w.heap.size + 1 + 1, 5, none⟩) (own_ne hgp5 hq5 (by decide)) (.int .i64 f5)
        have hbp6 := Below.setCell hbp5 (p := ⟨w.heap.size + 1 + 1, 5, none⟩) (by dsimp only; omega) (.int .i64 f5)
        have hD6 := blk_far'' (blk_far'' (blk_far'' (blk_far'' (blk_far'' (blk_far'' HD.out (p := ⟨w.heap.size + 1 + 1, 0, none⟩) (by dsimp only; omega) (.int .i64 f0)) (p := ⟨w.heap.size + 1 + 1, 1, none⟩) (by dsimp only; omega) (.int .i64 f1)) (p := ⟨w.heap.size + 1 + 1, 2, none⟩) (by dsimp only; omega) (.slice As3 st.out.length cs3)) (p := ⟨w.heap.size + 1 + 1, 3, none⟩) (by dsimp only; omega) (.slice none 0 0)) (p := ⟨w.heap.size + 1 + 1, 4, none⟩) (by dsimp only; omega) (.slice Ag4 G.length cg4)) (p := ⟨w.heap.size + 1 + 1, 5, none⟩) (by dsimp only; omega) (.int .i64 f5)
        have HD6 := Aside0.mk hD6
        have HQ6 := Aside0.mk hq6
        have HOS := Aside0.mk hop6
        have HOG := Aside0.mk hgp6
        have HB6 := Aside0.mk hbp6
        clear hq0 hq1 hq2 hq3 hq4 hq5 hq6 hos3 hog3 hb3 hs3 hr3 h53 h63 hg3 hlg3 hC3 hop1 hop2 hop3 hop4 hop5 hop6 hgp1 hgp2 hgp3 hgp4 hgp5 hgp6 hbp1 hbp2 hbp3 hbp4 hbp5 hbp6 hD6
        gi_wp2
        refine ⟨by simp, .inl ⟨_, _, rfl, run_takeDeferred HD6.out, ?_⟩⟩
        have hneo : ∀ {Z : World} {k : Nat} {o : Obj} {base : Nat} {e : TypeId} {size n : Nat} {v : Value} {xs : List Value}, Z.heap[k]? = some o → o.isCells = false → Z.ownsRow base e size v n xs → v.ownBlock = none ∨ v.ownBlock ≠ some k := by
          intro Z k o base e size n v xs hk hc hv
          refine .inr fun e' => ?_
          obtain ⟨cells, h⟩ := own_typed hv k e'
          rw [hk] at h; cases h; cases hc
        have hos7 := HOS.out.kept (grownBy_putObj' _ D (.deferred none)) (hneo HD6.out rfl HOS.out)
        have hog7 := HOG.out.kept (grownBy_putObj' _ D (.deferred none)) (hneo HD6.out rfl HOG.out)
        have hq7 := blk_grown HQ6.out (grownBy_putObj' _ D (.deferred none)) (fun e => by cases e; omega)
        have hb7 := HB6.out.grown (grownBy_putObj' _ D (.deferred none)) HB6.out.size (fun k e => by cases e; omega)
        refine ⟨_, results_cell_row (p := 4) (ty := 30) rfl _ _ (w.heap.size + 1 + 1) 30 _ (0, 0) _ rfl hq7 Try.underlying30 rfl (by kernel_rfl), ⟨_, _, rfl, ?_, ?_⟩, hb7⟩
        · rw [HFIN.out]; exact hos7
        · rw [HFIN.out]; exact hog7
  case stop =>
    rintro D c pre W _ _ h _
    exact h.elim
end Go.Proofs.Ytoodagohkepcpaa
